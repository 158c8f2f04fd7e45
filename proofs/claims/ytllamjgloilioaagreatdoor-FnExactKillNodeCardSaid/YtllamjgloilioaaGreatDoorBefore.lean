/- impl.collate, impl.Before and spec.l02Before. -/
import Derived.Test.YtllamjgloilioaaGreatDoorCanon
namespace Go.Proofs.YtllamjgloilioaaGreatDoor
open Go.RowKit
set_option linter.unusedVariables false

theorem isNaNS_any (a : ByteArray) (w : World) : Calls Tryz.prog 67 #[.string a] w fun e w' => e = .returned (.bool false) ∧ w = w' := by
  go_enter Tryz.func67, Tryz.ntmps67
  go_wp2
  go_ret
  exact ⟨rfl, rfl⟩

theorem isNaNI_any (a : Int) (w : World) : Calls Tryz.prog 80 #[.int .i64 a] w fun e w' => e = .returned (.bool false) ∧ w = w' := by
  go_enter Tryz.func80, Tryz.ntmps80
  go_wp2
  go_ret
  exact ⟨ret_bool (by simp), rfl⟩

theorem bytesLess_irrefl : ∀ l, Op.bytesLess l l = false
  | [] => rfl
  | a :: r => by simp [Op.bytesLess, bytesLess_irrefl r, UInt8.lt_irrefl]

theorem CompareI_any (a b : Int) (w : World) : Calls Tryz.prog 75 #[.int .i64 a, .int .i64 b] w fun e w' => ∃ c : Int, e = .returned (.int .i64 c) ∧ Hid (decide (c < 0) = decide (a < b)) ∧ Hid ((c == 0) = decide (a = b)) ∧ w = w' := by
  go_enter Tryz.func75, Tryz.ntmps75
  go_wp2_with (go_at_call 80; refine (isNaNI_any _ _).mono ?_; rintro e w' ⟨rfl, rfl⟩)
  all_goals
    go_ret
    refine ⟨_, rfl, ?_, ?_, rfl⟩
    · show decide _ = decide _
      rw [decide_eq_decide]; omega
    · show (decide _) = decide _
      rw [decide_eq_decide]; omega

theorem CompareS_any (a b : ByteArray) (w : World) : Calls Tryz.prog 52 #[.string a, .string b] w fun e w' => ∃ c : Int, e = .returned (.int .i64 c) ∧ Hid (decide (c < 0) = Op.bytesLess a.toList b.toList) ∧ Hid ((c == 0) = decide (a = b)) ∧ w = w' := by
  by_cases hab : a = b
  · subst hab
    have hlt := bytesLess_irrefl a.toList
    have he : (a.toList == a.toList) = true := by simp
    go_enter Tryz.func52, Tryz.ntmps52
    go_wp2_with (go_at_call 67; refine (isNaNS_any _ _).mono ?_; rintro e w' ⟨rfl, rfl⟩)
    go_ret
    exact ⟨_, rfl, by show decide _ = _; rw [hlt]; decide, by show decide _ = decide _; rw [decide_eq_decide]; simp, rfl⟩
  · have he : (a.toList == b.toList) = false := by
      rw [ba_toList, ba_toList]; exact beq_eq_false_iff_ne.2 (fun h => hab (ba_ext h))
    have HA : Hid (decide (a = b) = false) := decide_eq_false hab
    cases hlt : Op.bytesLess a.toList b.toList
    all_goals
      go_enter Tryz.func52, Tryz.ntmps52
      go_wp2_with (go_at_call 67; refine (isNaNS_any _ _).mono ?_; rintro e w' ⟨rfl, rfl⟩)
      go_ret
      exact ⟨_, rfl, by show decide _ = _; decide, by show decide _ = decide _; rw [HA.out]; decide, rfl⟩

def bef (a b : ByteArray) : Bool := if canon a && canon b then decide (NM.numOf a.data.toList < NM.numOf b.data.toList) else if canon a != canon b then canon a else Op.bytesLess a.toList b.toList

set_option maxRecDepth 8000 in
theorem collate_any (a b : ByteArray) (w : World) (hT : T10 w) (ha : a.size ≤ 1048576) (hb : b.size ≤ 1048576) : Calls Tryz.prog 69 #[.string a, .string b] w fun e w' => ∃ c : Int, e = .returned (.int .i64 c) ∧ Hid (decide (c < 0) = bef a b) ∧ Hid ((c == 0) = decide (a = b)) ∧ Below w.heap.size w w' := by
  have HE : Hid (canon a = true → canon b = true → NM.numOf a.data.toList = NM.numOf b.data.toList → a = b) := fun h1 h2 h3 => by
    unfold canon at h1 h2
    have h1 := of_decide_eq_true h1
    have h2 := of_decide_eq_true h2
    exact ba_ext (by rw [← h1, ← h2, h3])
  have HF : Hid (canon a ≠ canon b → ¬ a = b) := fun h e => h (by rw [e])
  have HT := Lib.hid hT; clear hT
  obtain ⟨x, hx⟩ : ∃ x, canon a = x := ⟨_, rfl⟩
  obtain ⟨y, hy⟩ : ∃ y, canon b = y := ⟨_, rfl⟩
  have hbf : bef a b = if x && y then decide (NM.numOf a.data.toList < NM.numOf b.data.toList) else if x != y then x else Op.bytesLess a.toList b.toList := by
    unfold bef; rw [hx, hy]
  have HB := Lib.hid hbf; clear hbf
  go_enter Tryz.func69, Tryz.ntmps69
  go_wp2_with fail
  refine (IsCanon_any a _ HT.out ha).mono ?_
  rintro e w1 ⟨rfl, hb1⟩
  rw [hx]
  go_wp2_with fail
  refine (IsCanon_any b _ (HT.out.below hb1) hb).mono ?_
  rintro e w2 ⟨rfl, hb2⟩
  rw [hy]
  rw [hx, hy] at HE HF
  clear hx hy
  cases x <;> cases y
  · go_wp2_with fail
    refine (CompareS_any a b _).mono ?_
    rintro e w3 ⟨c, rfl, HC, HC0, rfl⟩
    go_wp2_with fail
    go_ret
    exact ⟨c, rfl, by show _ = _; rw [HB.out, HC.out]; rfl, HC0, below_trans hb1 hb2⟩
  · go_wp2_with fail
    go_ret
    exact ⟨_, rfl, by show _ = _; rw [HB.out]; rfl, by show _ = decide _; rw [decide_eq_false (HF.out (by decide))]; rfl, below_trans hb1 hb2⟩
  · go_wp2_with fail
    go_ret
    exact ⟨_, rfl, by show _ = _; rw [HB.out]; rfl, by show _ = decide _; rw [decide_eq_false (HF.out (by decide))]; rfl, below_trans hb1 hb2⟩
  · go_wp2_with fail
    refine (NumOf_any a _ ha).mono ?_
    rintro e w3 ⟨n, rfl, HN, hb3⟩
    go_wp2_with fail
    refine (NumOf_any b _ hb).mono ?_
    rintro e w4 ⟨m, rfl, HM, hb4⟩
    go_wp2_with fail
    refine (CompareI_any n m _).mono ?_
    rintro e w5 ⟨c, rfl, HC, HC0, rfl⟩
    go_wp2_with fail
    go_ret
    exact ⟨c, rfl, by show _ = _; rw [HB.out, HC.out, HN.out, HM.out]; rfl, by show _ = decide _; rw [HC0.out, decide_eq_decide, HN.out, HM.out]; exact ⟨HE.out (by simp) (by simp), fun e => by rw [e]⟩, below_trans (below_trans (below_trans hb1 hb2) hb3) hb4⟩

set_option maxRecDepth 8000 in
theorem l02Before_any (a b : ByteArray) (w : World) (ha : a.size ≤ 1048576) (hb : b.size ≤ 1048576) : Calls Tryz.prog 72 #[.string a, .string b] w fun e w' => e = .returned (.bool (bef a b)) ∧ Below w.heap.size w w' := by
  obtain ⟨x, hx⟩ : ∃ x, canon a = x := ⟨_, rfl⟩
  obtain ⟨y, hy⟩ : ∃ y, canon b = y := ⟨_, rfl⟩
  have hbf : bef a b = if x && y then decide (NM.numOf a.data.toList < NM.numOf b.data.toList) else if x != y then x else Op.bytesLess a.toList b.toList := by
    unfold bef; rw [hx, hy]
  have HB := Lib.hid hbf; clear hbf
  go_enter Tryz.func72, Tryz.ntmps72
  go_wp2_with fail
  refine (l01Canon_any a _ ha).mono ?_
  rintro e w1 ⟨rfl, hb1⟩
  rw [hx]
  go_wp2_with fail
  refine (l01Canon_any b _ hb).mono ?_
  rintro e w2 ⟨rfl, hb2⟩
  rw [hy]
  clear hx hy
  cases x <;> cases y
  · go_wp2_with fail
    go_ret
    exact ⟨ret_bool (by rw [HB.out]; rfl), below_trans hb1 hb2⟩
  · go_wp2_with fail
    go_ret
    exact ⟨ret_bool (by rw [HB.out]; rfl), below_trans hb1 hb2⟩
  · go_wp2_with fail
    go_ret
    exact ⟨ret_bool (by rw [HB.out]; rfl), below_trans hb1 hb2⟩
  · go_wp2_with fail
    refine (l01Of_any a _ ha).mono ?_
    rintro e w3 ⟨n, rfl, HN, rfl⟩
    go_wp2_with fail
    refine (l01Of_any b _ hb).mono ?_
    rintro e w4 ⟨m, rfl, HM, rfl⟩
    go_wp2_with fail
    go_ret
    exact ⟨ret_bool (by rw [HB.out, HN.out, HM.out]; rfl), below_trans hb1 hb2⟩

end Go.Proofs.YtllamjgloilioaaGreatDoor
