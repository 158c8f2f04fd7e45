/- impl.UnOp and spec.UnOp. -/
import Derived.Test.YtablomklpmdboaaDoorCanon
import Derived.Test.YtablomklpmdboaaDoorSubsL
namespace Go.Proofs.YtablomklpmdboaaDoor
open Go.RowKit
set_option linter.unusedVariables false

def long64 (s : ByteArray) : Bool := decide (64 < s.size)

theorem long1_any (s : ByteArray) (w : World) (hs : s.size ≤ 1048576) : Calls Tryd.prog 110 #[.string s] w fun e w' => e = .returned (.bool (long64 s)) ∧ w = w' := by
  go_enter Tryd.func110, Tryd.ntmps110
  go_wp2
  go_ret
  exact ⟨ret_bool (by unfold long64; rw [decide_eq_decide]; omega), rfl⟩

theorem long_any (v : Value) (xs : List ByteArray) (w : World) (B : Nat) (h : StrsAt w B v xs) (hl : xs.length ≤ 1048576) (hz : ∀ x ∈ xs, x.size ≤ 1048576) :
    Calls Tryd.prog 68 #[v] w fun e w' => e = .returned (.bool (xs.any long64)) ∧ w = w' := by
  have HC := Lib.hid (ContainsFunc_long1 long64 v xs w B h hl (fun x hx => long1_any x w (hz x hx)))
  clear hz
  go_enter Tryd.func68, Tryd.ntmps68
  go_wp2_with fail
  refine HC.out.mono ?_
  rintro e w' ⟨rfl, rfl⟩
  go_wp2_with fail
  go_ret
  exact ⟨rfl, rfl⟩

theorem long_one (a : ByteArray) (w : World) (ha : a.size ≤ 1048576) : Calls Tryd.prog 68 #[.slice (some ⟨w.heap.size, 0, none⟩) 1 1] (w.alloc (.cells #[.string a] 9)) fun e w' => e = .returned (.bool (long64 a)) ∧ (w.alloc (.cells #[.string a] 9)) = w' := by
  have h : Strs (w.alloc (.cells #[.string a] 9)) w.heap.size (.slice (some ⟨w.heap.size, 0, none⟩) 1 1) [a] := World.ownsRow_lit w #[.string a] 1 (Nat.le_refl _) (by unfold maxLen; omega) rfl
  refine (long_any _ [a] _ _ h.at_ (by simp) (by simpa using ha)).mono ?_
  rintro e w' ⟨rfl, hw⟩
  exact ⟨by simp, hw⟩

def unop (op a : ByteArray) : List UInt8 × Int :=
  if long64 a then ([], 1)
  else if op.data.toList = [43] then (numTextB (NM.numOf a.data.toList), 0)
  else if op.data.toList = [45] then (numTextB (-(NM.numOf a.data.toList)), 0)
  else if op.data.toList = [39] then (if NM.numOf a.data.toList = 0 then [49] else [48], 0)
  else ([], 2)

set_option maxRecDepth 8000 in
theorem UnOp_any (op a : ByteArray) (w : World) (hT : T10 w) (ha : a.size ≤ 1048576) : Calls Tryd.prog 40 #[.string op, .string a] w fun e w' => ∃ (r : ByteArray) (c : Int), e = .returned (.tuple #[.string r, .int .i64 c]) ∧ Hid ((r.data.toList, c) = unop op a) ∧ Below w.heap.size w w' := by
  have HT := Lib.hid hT; clear hT
  have hba : Below w.heap.size w (w.alloc (.cells #[.string a] 9)) := (Below.refl _ _).alloc (Nat.le_refl _) _
  have HTa := Lib.hid (HT.out.below hba)
  cases hl : long64 a
  · have HL := Lib.hid (show ∀ x y, unop x a = y ↔ (if x.data.toList = [43] then (numTextB (NM.numOf a.data.toList), 0) else if x.data.toList = [45] then (numTextB (-(NM.numOf a.data.toList)), 0) else if x.data.toList = [39] then (if NM.numOf a.data.toList = 0 then [49] else [48], 0) else ([], 2)) = y by intro x y; unfold unop; rw [hl]; exact Iff.rfl)
    rcases strCase op [43] with rfl | ⟨h0, H0⟩
    · go_enter Tryd.func40, Tryd.ntmps40
      go_wp2_with fail
      refine (long_one a w ha).mono ?_
      rintro e w' ⟨rfl, rfl⟩
      rw [hl]
      go_wp2_with fail
      refine (NumOf_any a _ ha).mono ?_
      rintro e w1 ⟨n, rfl, HN, hb1⟩
      go_wp2_with fail
      refine (NumText_any n _ (HTa.out.below hb1)).mono ?_
      rintro e w2 ⟨r, rfl, hr, HR, hb2⟩
      go_wp2_with fail
      go_ret2
      exact ⟨r, _, rfl, by show _ = _; rw [eq_comm, HL.out]; simp [HR.out, HN.out], below_trans (below_trans hba hb1) hb2⟩
    rcases strCase op [45] with rfl | ⟨h1, H1⟩
    · go_enter Tryd.func40, Tryd.ntmps40
      go_wp2_with fail
      refine (long_one a w ha).mono ?_
      rintro e w' ⟨rfl, rfl⟩
      rw [hl]
      go_wp2_with fail
      refine (NumOf_any a _ ha).mono ?_
      rintro e w1 ⟨n, rfl, HN, hb1⟩
      have hbd := NM.numOf_bd a.data.toList
      rw [← HN.out] at hbd
      go_wp2_with fail
      refine (NumText_any (-n) _ (HTa.out.below hb1)).mono ?_
      rintro e w2 ⟨r, rfl, hr, HR, hb2⟩
      go_wp2_with fail
      go_ret2
      exact ⟨r, _, rfl, by show _ = _; rw [eq_comm, HL.out]; simp [HR.out, HN.out], below_trans (below_trans hba hb1) hb2⟩
    rcases strCase op [39] with rfl | ⟨h2, H2⟩
    · go_enter Tryd.func40, Tryd.ntmps40
      go_wp2_with fail
      refine (long_one a w ha).mono ?_
      rintro e w' ⟨rfl, rfl⟩
      rw [hl]
      go_wp2_with (go_at_call 27; go_in)
      refine (NumOf_any a _ ha).mono ?_
      rintro e w1 ⟨n, rfl, HN, hb1⟩
      rcases eqForms n 0 with ⟨e1, e2, e3⟩ | ⟨e1, e2, e3⟩
      · go_wp2_with (go_at_call 69; go_in)
        go_ret2
        exact ⟨_, _, rfl, by show _ = _; rw [eq_comm, HL.out, ← HN.out]; have : n = 0 := (by simpa using e1); simp [this], below_trans hba hb1⟩
      · go_wp2_with (go_at_call 69; go_in)
        go_ret2
        exact ⟨_, _, rfl, by show _ = _; rw [eq_comm, HL.out, ← HN.out]; have : n ≠ 0 := (by simpa using e1); simp [this], below_trans hba hb1⟩
    · go_enter Tryd.func40, Tryd.ntmps40
      go_wp2_with fail
      refine (long_one a w ha).mono ?_
      rintro e w' ⟨rfl, rfl⟩
      rw [hl]
      go_wp2_with fail
      go_ret2
      exact ⟨_, _, rfl, by show _ = _; rw [eq_comm, HL.out, if_neg H0.out, if_neg H1.out, if_neg H2.out], hba⟩
  · go_enter Tryd.func40, Tryd.ntmps40
    go_wp2_with fail
    refine (long_one a w ha).mono ?_
    rintro e w' ⟨rfl, rfl⟩
    rw [hl]
    go_wp2_with fail
    go_ret2
    exact ⟨_, _, rfl, by show _ = _; unfold unop; rw [hl]; rfl, hba⟩

set_option maxRecDepth 8000 in
theorem sUnOp_any (op a : ByteArray) (w : World) (ha : a.size ≤ 1048576) : Calls Tryd.prog 39 #[.string op, .string a] w fun e w' => ∃ (r : ByteArray) (c : Int), e = .returned (.tuple #[.string r, .int .i64 c]) ∧ Hid ((r.data.toList, c) = unop op a) ∧ Below w.heap.size w w' := by
  have hbd := NM.numOf_bd a.data.toList
  have HB := Lib.hid hbd; clear hbd
  by_cases h64 : 64 < a.size
  · have hl : long64 a = true := by unfold long64; simpa using h64
    go_enter Tryd.func39, Tryd.ntmps39
    go_wp2_with fail
    go_ret2
    exact ⟨_, _, rfl, by show _ = _; unfold unop; rw [hl]; rfl, below_refl _⟩
  have hl : long64 a = false := by unfold long64; simpa using h64
  have HL := Lib.hid (show ∀ x y, unop x a = y ↔ (if x.data.toList = [43] then (numTextB (NM.numOf a.data.toList), 0) else if x.data.toList = [45] then (numTextB (-(NM.numOf a.data.toList)), 0) else if x.data.toList = [39] then (if NM.numOf a.data.toList = 0 then [49] else [48], 0) else ([], 2)) = y by intro x y; unfold unop; rw [hl]; exact Iff.rfl)
  clear hl
  rcases strCase op [43] with rfl | ⟨h0, H0⟩
  · go_enter Tryd.func39, Tryd.ntmps39
    go_wp2_with (go_at_call 67; go_in)
    refine (l01Of_any a _ ha).mono ?_
    rintro e w1 ⟨n, rfl, HN, rfl⟩
    go_wp2_with fail
    refine (l01Text_any n (by rw [HN.out]; exact HB.out.1) (by rw [HN.out]; exact HB.out.2) _).mono ?_
    rintro e w2 ⟨r, rfl, hr, HR, hb2⟩
    go_wp2_with fail
    go_ret2
    exact ⟨r, _, rfl, by show _ = _; rw [eq_comm, HL.out]; simp [HR.out, HN.out], hb2⟩
  rcases strCase op [45] with rfl | ⟨h1, H1⟩
  · go_enter Tryd.func39, Tryd.ntmps39
    go_wp2_with (go_at_call 67; go_in)
    refine (l01Of_any a _ ha).mono ?_
    rintro e w1 ⟨n, rfl, HN, rfl⟩
    have hbd := HB.out
    rw [← HN.out] at hbd
    go_wp2_with fail
    refine (l01Text_any (-n) (by omega) (by omega) _).mono ?_
    rintro e w2 ⟨r, rfl, hr, HR, hb2⟩
    go_wp2_with fail
    go_ret2
    exact ⟨r, _, rfl, by show _ = _; rw [eq_comm, HL.out]; simp [HR.out, HN.out], hb2⟩
  rcases strCase op [39] with rfl | ⟨h2, H2⟩
  · go_enter Tryd.func39, Tryd.ntmps39
    go_wp2_with (first | (go_at_call 67; go_in) | (go_at_call 54; go_in))
    refine (l01Of_any a _ ha).mono ?_
    rintro e w1 ⟨n, rfl, HN, rfl⟩
    rcases eqForms n 0 with ⟨e1, e2, e3⟩ | ⟨e1, e2, e3⟩
    · go_wp2_with (go_at_call 108; go_in)
      go_ret2
      exact ⟨_, _, rfl, by show _ = _; rw [eq_comm, HL.out, ← HN.out]; have : n = 0 := (by simpa using e1); simp [this], below_refl _⟩
    · go_wp2_with (go_at_call 108; go_in)
      go_ret2
      exact ⟨_, _, rfl, by show _ = _; rw [eq_comm, HL.out, ← HN.out]; have : n ≠ 0 := (by simpa using e1); simp [this], below_refl _⟩
  · go_enter Tryd.func39, Tryd.ntmps39
    go_wp2_with (go_at_call 67; go_in)
    go_ret2
    exact ⟨_, _, rfl, by show _ = _; rw [eq_comm, HL.out, if_neg H0.out, if_neg H1.out, if_neg H2.out], below_refl _⟩

theorem UnOp_walk (op : ByteArray) (ho : op.size ≤ maxLen) (a : ByteArray) (ha : a.size ≤ maxLen) (w : World) (hL : laidMetH Tryd.prog Rows.fnExactNumTextRow.laid w) (hsh : w.ShapedOpen Tryd.prog) : Calls Tryd.prog 13 #[.string op, .string a] w fun e w' => e = .returned (.bool true) ∧ Below w.heap.size w w' := by
  have HT := Lib.hid (T10.of_laid hL); clear hL
  unfold maxLen at ho ha
  by_cases h1 : op.size ≤ 1048576
  · by_cases h2 : a.size ≤ 1048576
    · go_enter Tryd.func13, Tryd.ntmps13
      go_wp2_with fail
      refine (sUnOp_any op a _ h2).mono ?_
      rintro e w1 ⟨r1, c1, rfl, H1, hb1⟩
      go_wp2_with fail
      refine (UnOp_any op a _ (HT.out.below hb1) h2).mono ?_
      rintro e w2 ⟨r2, c2, rfl, H2, hb2⟩
      have he := H1.out.trans H2.out.symm
      obtain rfl : r1 = r2 := ba_ext (congrArg Prod.fst he)
      obtain rfl : c1 = c2 := congrArg Prod.snd he
      clear he H1 H2
      go_wp2_with fail
      go_ret
      exact ⟨rfl, below_trans hb1 hb2⟩
    · go_enter Tryd.func13, Tryd.ntmps13
      go_wp2_with fail
      go_ret
      exact ⟨rfl, below_refl _⟩
  · go_enter Tryd.func13, Tryd.ntmps13
    go_wp2_with fail
    go_ret
    exact ⟨rfl, below_refl _⟩

end Go.Proofs.YtablomklpmdboaaDoor
