/- PatternText: both sides and the law's walk. -/
import Derived.Test.YtcjlokojppicnaaDoorPtSpec
import Derived.Test.YtcjlokojppicnaaDoorPtImpl
import Derived.Test.YtcjlokojppicnaaDoorPatLaw
import Derived.Test.YtcjlokojppicnaaDoorNumText3
namespace Go.Proofs.YtcjlokojppicnaaDoor
open Go.RowKit
set_option linter.unusedVariables false

theorem patternText_all : ∀ n, ImT n
  | 0 => patternText_zero
  | n + 1 => patternText_succ (patternText_all n)

theorem l04Text_all : ∀ n, SpT n
  | 0 => l04Text_zero
  | n + 1 => l04Text_succ (l04Text_all n)

/-- What both return. -/
def ptT (n : Nat) (xs : List (Pat n)) : List UInt8 := if patsB n 3 xs then textP n xs else []

theorem PatternText_any {n : Nat} (v : Value) (xs : List (Pat n)) (w : World) (h : Pats n w v xs) (hok : PatsOk n 1048576 xs) (hT : T10 w) (hM : ML w) :
    Calls Tryd.prog 7 #[v] w fun e w' => ∃ r : ByteArray, e = .returned (.string r) ∧ Hid (r.data.toList = ptT n xs) ∧ Below w.heap.size w w' := by
  have HC := Lib.hid (PatternOk_any v xs w h hok)
  have HD : Hid (patsB n 3 xs = true → ∀ W, Below w.heap.size w W → Calls Tryd.prog 14 #[v] W fun e w' => ∃ r : ByteArray, e = .returned (.string r) ∧ Hid (r.data.toList = textP n xs) ∧ Below W.heap.size W w') := fun hb W hW => patternText_all n 3 v xs W (Pats.on h hW) hok hb (Nat.le_refl _) (hT.below hW) (hM.below hW)
  have HV : Hid (ptT n xs = if patsB n 3 xs then textP n xs else []) := rfl
  obtain ⟨A, c, rfl⟩ := h.form; clear h hok hT hM
  generalize textP n xs = X at *
  generalize ptT n xs = Y at *
  generalize patsB n 3 xs = R at *
  cases R
  · go_enter Tryd.func7, Tryd.ntmps7
    go_wp2_with fail
    refine HC.out.mono ?_
    rintro e w1 ⟨rfl, b1⟩
    go_wp2_with fail
    go_ret
    exact ⟨_, rfl, by show _ = _; rw [HV.out]; rfl, b1⟩
  · have HD2 := Lib.hid (HD.out rfl)
    clear HD
    go_enter Tryd.func7, Tryd.ntmps7
    go_wp2_with fail
    refine HC.out.mono ?_
    rintro e w1 ⟨rfl, b1⟩
    go_wp2_with fail
    refine (HD2.out _ b1).mono ?_
    rintro e w2 ⟨r, rfl, HR, b2⟩
    go_wp2_with fail
    go_ret
    exact ⟨r, rfl, by show _ = _; rw [HV.out]; exact HR.out, below_trans b1 b2⟩

theorem sPatternText_any {n : Nat} (v : Value) (xs : List (Pat n)) (w : World) (h : Pats n w v xs) (hok : PatsOk n 1048576 xs) :
    Calls Tryd.prog 5 #[v] w fun e w' => ∃ r : ByteArray, e = .returned (.string r) ∧ Hid (r.data.toList = ptT n xs) ∧ Below w.heap.size w w' := by
  have HC := Lib.hid (l04Right_any v xs w h hok)
  have HD : Hid (patsB n 3 xs = true → ∀ W, Below w.heap.size w W → Calls Tryd.prog 11 #[v] W fun e w' => ∃ r : ByteArray, e = .returned (.string r) ∧ Hid (r.data.toList = textP n xs) ∧ Below W.heap.size W w') := fun hb W hW => l04Text_all n 3 v xs W (Pats.on h hW) hok hb (Nat.le_refl _)
  have HV : Hid (ptT n xs = if patsB n 3 xs then textP n xs else []) := rfl
  obtain ⟨A, c, rfl⟩ := h.form; clear h hok
  generalize textP n xs = X at *
  generalize ptT n xs = Y at *
  generalize patsB n 3 xs = R at *
  cases R
  · go_enter Tryd.func5, Tryd.ntmps5
    go_wp2_with fail
    refine HC.out.mono ?_
    rintro e w1 ⟨rfl, b1⟩
    go_wp2_with fail
    go_ret
    exact ⟨_, rfl, by show _ = _; rw [HV.out]; rfl, b1⟩
  · have HD2 := Lib.hid (HD.out rfl)
    clear HD
    go_enter Tryd.func5, Tryd.ntmps5
    go_wp2_with fail
    refine HC.out.mono ?_
    rintro e w1 ⟨rfl, b1⟩
    go_wp2_with fail
    refine (HD2.out _ b1).mono ?_
    rintro e w2 ⟨r, rfl, HR, b2⟩
    go_wp2_with fail
    go_ret
    exact ⟨r, rfl, by show _ = _; rw [HV.out]; exact HR.out, below_trans b1 b2⟩

set_option maxRecDepth 8000 in
theorem PatternText_walk (v0 : Value) (x0 : Nat) (w : World) (h0 : ∀ N, x0 ≤ N → ∃ xs : List (Pat N), Pats N w v0 xs ∧ PatsOk N maxLen xs) (hL : laidMetH Tryd.prog Rows.fnExactPatternTextRow.laid w) (hsh : w.ShapedOpen Tryd.prog) :
    Calls Tryd.prog 3 #[v0] w fun e w' => e = .returned (.bool true) ∧ Below w.heap.size w w' := by
  have HT := Lib.hid (T10.of_laid hL); have HM := Lib.hid (ML.of_shaped hsh); clear hL hsh
  obtain ⟨xs, h, hok⟩ := h0 x0 (Nat.le_refl _)
  clear h0
  have H := Lib.hid h
  have HSZ := Lib.hid (szPats_any x0 v0 xs 1048576 w h (by omega) (by omega) hok)
  obtain ⟨A, c, rfl⟩ := h.form; clear h hok
  go_enter Tryd.func3, Tryd.ntmps3
  go_wp2_with fail
  refine HSZ.out.mono ?_
  rintro e w1 ⟨⟨q, rfl, q1, q2, hq⟩, b1⟩
  have HQ := Lib.hid hq; clear hq
  have B1 := Lib.hid b1; clear b1
  by_cases q0 : q < 0
  · go_wp2_with fail
    go_ret
    exact ⟨rfl, B1.out⟩
  have HOK := Lib.hid (HQ.out (by omega))
  clear HQ
  go_wp2_with fail
  refine (toPats_any x0 _ xs _ (Pats.on H.out B1.out) HOK.out).mono ?_
  rintro e w2 ⟨v2, rfl, p2, b2⟩
  have B2 := Lib.hid (below_trans B1.out b2)
  have P2 : Hid (Pats x0 w2 v2 xs) := PatsAt.imp x0 p2 (fun _ _ _ => rfl) (Nat.zero_le _) (Nat.le_refl _)
  obtain ⟨A2, c2, rfl⟩ := p2.form
  clear p2 b2 B1
  go_wp2_with fail
  refine (sPatternText_any _ xs _ P2.out HOK.out).mono ?_
  rintro e w3 ⟨r1, rfl, HR1, b3⟩
  have B3 := Lib.hid (below_trans B2.out b3)
  clear P2 b3 B2
  go_wp2_with fail
  refine (toPats_any x0 _ xs _ (Pats.on H.out B3.out) HOK.out).mono ?_
  rintro e w4 ⟨v4, rfl, p4, b4⟩
  have B4 := Lib.hid (below_trans B3.out b4)
  have P4 : Hid (Pats x0 w4 v4 xs) := PatsAt.imp x0 p4 (fun _ _ _ => rfl) (Nat.zero_le _) (Nat.le_refl _)
  obtain ⟨A4, c4, rfl⟩ := p4.form
  clear p4 b4 B3
  go_wp2_with fail
  refine (PatternText_any _ xs _ P4.out HOK.out (HT.out.below B4.out) (HM.out.below B4.out)).mono ?_
  rintro e w5 ⟨r2, rfl, HR2, b5⟩
  obtain rfl : r1 = r2 := ba_ext (HR1.out.trans HR2.out.symm)
  have B5 := Lib.hid (below_trans B4.out b5)
  have P5 := Lib.hid (Pats.on P4.out b5)
  clear P4 b5 B4 HR2
  go_wp2_with fail
  refine (toPats_any x0 _ xs _ (Pats.on H.out B5.out) HOK.out).mono ?_
  rintro e w6 ⟨v6, rfl, p6, b6⟩
  have B6 := Lib.hid (below_trans B5.out b6)
  have P6 : Hid (Pats x0 w6 v6 xs) := PatsAt.imp x0 p6 (fun _ _ _ => rfl) (Nat.zero_le _) (Nat.le_refl _)
  have P5b := Lib.hid (Pats.on P5.out b6)
  obtain ⟨A6, c6, rfl⟩ := p6.form
  clear p6 b6 B5 P5
  go_wp2_with fail
  refine (eqPats_any x0 _ _ xs _ P5b.out P6.out HOK.out).mono ?_
  rintro e w7 ⟨rfl, b7⟩
  have B7 := Lib.hid (below_trans B6.out b7)
  go_wp2_with fail
  go_ret
  exact ⟨rfl, B7.out⟩

end Go.Proofs.YtcjlokojppicnaaDoor
