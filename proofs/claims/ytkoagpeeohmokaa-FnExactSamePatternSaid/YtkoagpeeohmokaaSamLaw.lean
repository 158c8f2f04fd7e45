/- The law of SamePattern. -/
import Derived.Test.YtkoagpeeohmokaaPatLaw
import Derived.Test.YtkoagpeeohmokaaPatSame2
namespace Go.Proofs.Ytkoagpeeohmokaa
open Go.RowKit
set_option linter.unusedVariables false

set_option maxRecDepth 8000 in
theorem SamePattern_walk (v0 : Value) (x0 : Nat) (v1 : Value) (x1 : Nat) (w : World) (h0 : ∀ N, x0 ≤ N → ∃ xs : List (Pat N), Pats N w v0 xs ∧ PatsOk N maxLen xs) (h1 : ∀ N, x1 ≤ N → ∃ xs : List (Pat N), Pats N w v1 xs ∧ PatsOk N maxLen xs) :
    Calls Try.prog 4 #[v0, v1] w fun e w' => e = .returned (.bool true) ∧ Below w.heap.size w w' := by
  obtain ⟨N, hN⟩ : ∃ N, N = max x0 x1 := ⟨_, rfl⟩
  obtain ⟨xs, h, hok⟩ := h0 N (by omega)
  obtain ⟨ys, g, gok⟩ := h1 N (by omega)
  clear h0 h1 hN
  have H := Lib.hid h
  have G := Lib.hid g
  have HSZ := Lib.hid (szPats_any N v0 xs 1048576 w h (by omega) (by omega) hok)
  have GSZ := Lib.hid (fun (left : Int) (W : World) (hb : Below w.heap.size w W) (k0 : 0 ≤ left) (k1 : left ≤ 1048576) => szPats_any N v1 ys left W (Pats.on g hb) k0 k1 gok)
  obtain ⟨A, c, rfl⟩ := h.form; clear h hok
  obtain ⟨D, d, rfl⟩ := g.form; clear g gok
  go_enter Try.func4, Try.ntmps4
  go_wp2_with fail
  refine HSZ.out.mono ?_
  rintro e w1 ⟨⟨q, rfl, q1, q2, hq⟩, b1⟩
  have HQ := Lib.hid hq; clear hq
  have B1 := Lib.hid b1; clear b1
  by_cases q0 : q < 0
  · go_wp2_with fail
    go_ret
    exact ⟨rfl, B1.out⟩
  have HOK := Lib.hid (HQ.out (by omega))
  clear HQ HSZ
  go_wp2_with fail
  refine (GSZ.out q _ B1.out (by omega) (by omega)).mono ?_
  rintro e w2 ⟨⟨r, rfl, r1, r2, hr⟩, b2⟩
  have HQ := Lib.hid hr; clear hr
  have B2 := Lib.hid (below_trans B1.out b2); clear b2 B1
  by_cases r0 : r < 0
  · go_wp2_with fail
    go_ret
    exact ⟨rfl, B2.out⟩
  have GOK := Lib.hid (HQ.out (by omega))
  clear HQ GSZ
  clear q1 q2 q0
  go_wp2_with fail
  refine (toPats_any N _ xs _ (Pats.on H.out B2.out) HOK.out).mono ?_
  rintro e w3 ⟨v3, rfl, p3, b3⟩
  have B3 := Lib.hid (below_trans B2.out b3)
  have P3 : Hid (Pats N w3 v3 xs) := PatsAt.imp N p3 (fun _ _ _ => rfl) (Nat.zero_le _) (Nat.le_refl _)
  obtain ⟨A3, c3, rfl⟩ := p3.form
  clear p3 b3 B2
  go_wp2_with fail
  refine (toPats_any N _ ys _ (Pats.on G.out B3.out) GOK.out).mono ?_
  rintro e w4 ⟨v4, rfl, p4, b4⟩
  have B4 := Lib.hid (below_trans B3.out b4)
  have P4 : Hid (Pats N w4 v4 ys) := PatsAt.imp N p4 (fun _ _ _ => rfl) (Nat.zero_le _) (Nat.le_refl _)
  have P3b := Lib.hid (Pats.on P3.out b4)
  obtain ⟨A4, c4, rfl⟩ := p4.form
  clear p4 b4 B3 P3
  go_wp2_with fail
  refine (sSamePattern_any _ _ xs ys _ P3b.out P4.out HOK.out GOK.out).mono ?_
  rintro e w5 ⟨rfl, b5⟩
  have B5 := Lib.hid (below_trans B4.out b5)
  clear P3b P4 b5 B4
  generalize hR : samePat xs ys = R at *
  have HR := Lib.hid hR; clear hR
  go_wp2_with fail
  refine (toPats_any N _ xs _ (Pats.on H.out B5.out) HOK.out).mono ?_
  rintro e w6 ⟨v6, rfl, p6, b6⟩
  have B6 := Lib.hid (below_trans B5.out b6)
  have P6 : Hid (Pats N w6 v6 xs) := PatsAt.imp N p6 (fun _ _ _ => rfl) (Nat.zero_le _) (Nat.le_refl _)
  obtain ⟨A6, c6, rfl⟩ := p6.form
  clear p6 b6 B5
  go_wp2_with fail
  refine (toPats_any N _ ys _ (Pats.on G.out B6.out) GOK.out).mono ?_
  rintro e w7 ⟨v7, rfl, p7, b7⟩
  have B7 := Lib.hid (below_trans B6.out b7)
  have P7 : Hid (Pats N w7 v7 ys) := PatsAt.imp N p7 (fun _ _ _ => rfl) (Nat.zero_le _) (Nat.le_refl _)
  have P6b := Lib.hid (Pats.on P6.out b7)
  obtain ⟨A7, c7, rfl⟩ := p7.form
  clear p7 b7 B6 P6
  have HPO := Lib.hid (SamePattern_any _ _ xs ys _ P6b.out P7.out HOK.out GOK.out)
  rw [HR.out] at HPO
  go_wp2_with fail
  refine HPO.out.mono ?_
  rintro e w8 ⟨rfl, b8⟩
  have B8 := Lib.hid (below_trans B7.out b8)
  have P6 := Lib.hid (Pats.on P6b.out b8)
  have P7b := Lib.hid (Pats.on P7.out b8)
  clear P6b P7 b8 B7 HPO
  go_wp2_with fail
  refine (toPats_any N _ xs _ (Pats.on H.out B8.out) HOK.out).mono ?_
  rintro e w9 ⟨v9, rfl, p9, b9⟩
  have B9 := Lib.hid (below_trans B8.out b9)
  have P9 : Hid (Pats N w9 v9 xs) := PatsAt.imp N p9 (fun _ _ _ => rfl) (Nat.zero_le _) (Nat.le_refl _)
  have P6b := Lib.hid (Pats.on P6.out b9)
  have P7 := Lib.hid (Pats.on P7b.out b9)
  obtain ⟨A9, c9, rfl⟩ := p9.form
  clear p9 b9 B8 P6 P7b
  go_wp2_with fail
  refine (eqPats_any N _ _ xs _ P6b.out P9.out HOK.out).mono ?_
  rintro e w10 ⟨rfl, b10⟩
  have B10 := Lib.hid (below_trans B9.out b10)
  have P7b := Lib.hid (Pats.on P7.out b10)
  clear P7 b10 B9 P9 P6b
  go_wp2_with fail
  refine (toPats_any N _ ys _ (Pats.on G.out B10.out) GOK.out).mono ?_
  rintro e w11 ⟨v11, rfl, p11, b11⟩
  have B11 := Lib.hid (below_trans B10.out b11)
  have P11 : Hid (Pats N w11 v11 ys) := PatsAt.imp N p11 (fun _ _ _ => rfl) (Nat.zero_le _) (Nat.le_refl _)
  have P7 := Lib.hid (Pats.on P7b.out b11)
  obtain ⟨A11, c11, rfl⟩ := p11.form
  clear p11 b11 B10 P7b
  go_wp2_with fail
  refine (eqPats_any N _ _ ys _ P7.out P11.out GOK.out).mono ?_
  rintro e w12 ⟨rfl, b12⟩
  have B12 := Lib.hid (below_trans B11.out b12)
  go_wp2_with fail
  go_ret
  exact ⟨rfl, B12.out⟩

end Go.Proofs.Ytkoagpeeohmokaa
