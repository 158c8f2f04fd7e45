/- impl.collate, impl.Before and spec.l02Before. -/
import Derived.Test.YtablomklpmdboaaDoorCanon
namespace Go.Proofs.YtablomklpmdboaaDoor
open Go.RowKit
set_option linter.unusedVariables false

theorem isNaNS_any (a : ByteArray) (w : World) : Calls Tryd.prog 128 #[.string a] w fun e w' => e = .returned (.bool false) ∧ w = w' := by
  go_enter Tryd.func128, Tryd.ntmps128
  go_wp2
  go_ret
  exact ⟨rfl, rfl⟩

theorem isNaNI_any (a : Int) (w : World) : Calls Tryd.prog 127 #[.int .i64 a] w fun e w' => e = .returned (.bool false) ∧ w = w' := by
  go_enter Tryd.func127, Tryd.ntmps127
  go_wp2
  go_ret
  exact ⟨ret_bool (by simp), rfl⟩

theorem CompareI_any (a b : Int) (w : World) : Calls Tryd.prog 106 #[.int .i64 a, .int .i64 b] w fun e w' => ∃ c : Int, e = .returned (.int .i64 c) ∧ Hid (decide (c < 0) = decide (a < b)) ∧ w = w' := by
  go_enter Tryd.func106, Tryd.ntmps106
  go_wp2_with (go_at_call 127; refine (isNaNI_any _ _).mono ?_; rintro e w' ⟨rfl, rfl⟩)
  all_goals
    go_ret
    refine ⟨_, rfl, ?_, rfl⟩
    show decide _ = decide _
    rw [decide_eq_decide]; omega

theorem CompareS_any (a b : ByteArray) (w : World) : Calls Tryd.prog 107 #[.string a, .string b] w fun e w' => ∃ c : Int, e = .returned (.int .i64 c) ∧ Hid (decide (c < 0) = Op.bytesLess a.toList b.toList) ∧ w = w' := by
  cases hlt : Op.bytesLess a.toList b.toList
  all_goals
    go_enter Tryd.func107, Tryd.ntmps107
    go_wp2_with (go_at_call 128; refine (isNaNS_any _ _).mono ?_; rintro e w' ⟨rfl, rfl⟩)
    all_goals
      go_ret
      refine ⟨_, rfl, ?_, rfl⟩
      show decide _ = _
      decide

def bef (a b : ByteArray) : Bool := if canon a && canon b then decide (NM.numOf a.data.toList < NM.numOf b.data.toList) else if canon a != canon b then canon a else Op.bytesLess a.toList b.toList

set_option maxRecDepth 8000 in
theorem collate_any (a b : ByteArray) (w : World) (hT : T10 w) (ha : a.size ≤ 1048576) (hb : b.size ≤ 1048576) : Calls Tryd.prog 66 #[.string a, .string b] w fun e w' => ∃ c : Int, e = .returned (.int .i64 c) ∧ Hid (decide (c < 0) = bef a b) ∧ Below w.heap.size w w' := by
  have HT := Lib.hid hT; clear hT
  obtain ⟨x, hx⟩ : ∃ x, canon a = x := ⟨_, rfl⟩
  obtain ⟨y, hy⟩ : ∃ y, canon b = y := ⟨_, rfl⟩
  have hbf : bef a b = if x && y then decide (NM.numOf a.data.toList < NM.numOf b.data.toList) else if x != y then x else Op.bytesLess a.toList b.toList := by
    unfold bef; rw [hx, hy]
  have HB := Lib.hid hbf; clear hbf
  go_enter Tryd.func66, Tryd.ntmps66
  go_wp2_with fail
  refine (IsCanon_any a _ HT.out ha).mono ?_
  rintro e w1 ⟨rfl, hb1⟩
  rw [hx]
  go_wp2_with fail
  refine (IsCanon_any b _ (HT.out.below hb1) hb).mono ?_
  rintro e w2 ⟨rfl, hb2⟩
  rw [hy]
  clear hx hy
  cases x <;> cases y
  · go_wp2_with fail
    refine (CompareS_any a b _).mono ?_
    rintro e w3 ⟨c, rfl, HC, rfl⟩
    go_wp2_with fail
    go_ret
    exact ⟨c, rfl, by show _ = _; rw [HB.out, HC.out]; rfl, below_trans hb1 hb2⟩
  · go_wp2_with fail
    go_ret
    exact ⟨_, rfl, by show _ = _; rw [HB.out]; rfl, below_trans hb1 hb2⟩
  · go_wp2_with fail
    go_ret
    exact ⟨_, rfl, by show _ = _; rw [HB.out]; rfl, below_trans hb1 hb2⟩
  · go_wp2_with fail
    refine (NumOf_any a _ ha).mono ?_
    rintro e w3 ⟨n, rfl, HN, hb3⟩
    go_wp2_with fail
    refine (NumOf_any b _ hb).mono ?_
    rintro e w4 ⟨m, rfl, HM, hb4⟩
    go_wp2_with fail
    refine (CompareI_any n m _).mono ?_
    rintro e w5 ⟨c, rfl, HC, rfl⟩
    go_wp2_with fail
    go_ret
    exact ⟨c, rfl, by show _ = _; rw [HB.out, HC.out, HN.out, HM.out]; rfl, below_trans (below_trans (below_trans hb1 hb2) hb3) hb4⟩

theorem Before_any (a b : ByteArray) (w : World) (hT : T10 w) (ha : a.size ≤ 1048576) (hb : b.size ≤ 1048576) : Calls Tryd.prog 38 #[.string a, .string b] w fun e w' => e = .returned (.bool (bef a b)) ∧ Below w.heap.size w w' := by
  have HT := Lib.hid hT; clear hT
  go_enter Tryd.func38, Tryd.ntmps38
  go_wp2_with fail
  refine (collate_any a b _ HT.out ha hb).mono ?_
  rintro e w1 ⟨c, rfl, HC, hb1⟩
  go_wp2_with fail
  go_ret
  exact ⟨ret_bool HC.out, hb1⟩

set_option maxRecDepth 8000 in
theorem l02Before_any (a b : ByteArray) (w : World) (ha : a.size ≤ 1048576) (hb : b.size ≤ 1048576) : Calls Tryd.prog 65 #[.string a, .string b] w fun e w' => e = .returned (.bool (bef a b)) ∧ Below w.heap.size w w' := by
  obtain ⟨x, hx⟩ : ∃ x, canon a = x := ⟨_, rfl⟩
  obtain ⟨y, hy⟩ : ∃ y, canon b = y := ⟨_, rfl⟩
  have hbf : bef a b = if x && y then decide (NM.numOf a.data.toList < NM.numOf b.data.toList) else if x != y then x else Op.bytesLess a.toList b.toList := by
    unfold bef; rw [hx, hy]
  have HB := Lib.hid hbf; clear hbf
  go_enter Tryd.func65, Tryd.ntmps65
  go_wp2_with fail
  refine (l01Canon_any a _ ha).mono ?_
  rintro e w1 ⟨rfl, hb1⟩
  rw [hx]
  go_wp2_with fail
  refine (l01Canon_any b _ hb).mono ?_
  rintro e w2 ⟨rfl, hb2⟩
  rw [hy]
  clear hx hy
  cases x <;> cases y
  · go_wp2_with fail
    go_ret
    exact ⟨ret_bool (by rw [HB.out]; rfl), below_trans hb1 hb2⟩
  · go_wp2_with fail
    go_ret
    exact ⟨ret_bool (by rw [HB.out]; rfl), below_trans hb1 hb2⟩
  · go_wp2_with fail
    go_ret
    exact ⟨ret_bool (by rw [HB.out]; rfl), below_trans hb1 hb2⟩
  · go_wp2_with fail
    refine (l01Of_any a _ ha).mono ?_
    rintro e w3 ⟨n, rfl, HN, rfl⟩
    go_wp2_with fail
    refine (l01Of_any b _ hb).mono ?_
    rintro e w4 ⟨m, rfl, HM, rfl⟩
    go_wp2_with fail
    go_ret
    exact ⟨ret_bool (by rw [HB.out, HN.out, HM.out]; rfl), below_trans hb1 hb2⟩

theorem Before_walk (a : ByteArray) (ha : a.size ≤ maxLen) (b : ByteArray) (hb : b.size ≤ maxLen) (w : World) (hL : laidMetH Tryd.prog Rows.fnExactNumTextRow.laid w) (hsh : w.ShapedOpen Tryd.prog) : Calls Tryd.prog 12 #[.string a, .string b] w fun e w' => e = .returned (.bool true) ∧ Below w.heap.size w w' := by
  have HT := Lib.hid (T10.of_laid hL); clear hL
  unfold maxLen at ha hb
  by_cases h1 : a.size ≤ 1048576
  · by_cases h2 : b.size ≤ 1048576
    · go_enter Tryd.func12, Tryd.ntmps12
      go_wp2_with (first | (go_at_call 37; go_in) | (go_at_call 65; refine (l02Before_any a b _ h1 h2).mono ?_; rintro e w1 ⟨rfl, hb1⟩) | (go_at_call 38; refine (Before_any a b _ (HT.out.below hb1) h1 h2).mono ?_; rintro e w2 ⟨rfl, hb2⟩))
      go_ret
      exact ⟨rfl, below_trans hb1 hb2⟩
    · go_enter Tryd.func12, Tryd.ntmps12
      go_wp2_with fail
      go_ret
      exact ⟨rfl, below_refl _⟩
  · go_enter Tryd.func12, Tryd.ntmps12
    go_wp2_with fail
    go_ret
    exact ⟨rfl, below_refl _⟩

end Go.Proofs.YtablomklpmdboaaDoor
