/- The law of OutputOf. -/
import Derived.Test.YtjfdlbbfodomeaaGreatDoorOutput
namespace Go.Proofs.YtjfdlbbfodomeaaGreatDoor
open Go.RowKit Go.ChangeShapes Go.WideShapes Go.ChangeAt Go.Deep
set_option linter.unusedVariables false

set_option maxHeartbeats 1000000 in
set_option maxRecDepth 8000 in
theorem OutputOf_walk (v0 : Value) (ns : List EventV) (w : World) (h0 : EventsAt w v0 ns) (k0 : ns.length ≤ maxLen ∧ ∀ n ∈ ns, n.Ok maxLen) (hL : laidMetH Tryz.prog Rows.fnExactTreeOkRow.laid w) (hsh : w.ShapedOpen Tryz.prog) :
    Calls Tryz.prog 13 #[v0] w fun e w' => e = .returned (.bool true) ∧ Below w.heap.size w w' := by
  have HT := Lib.hid (T10.of_laid hL); have HM := Lib.hid (ML.of_shaped hsh); clear hL hsh
  obtain ⟨la, oa⟩ := k0
  unfold maxLen at la
  have OA := Lib.hid oa; clear oa
  obtain ⟨D, hD⟩ : ∃ D, outB ns = D := ⟨_, rfl⟩
  have HDD := Lib.hid hD; clear hD
  have A0 := Lib.hid h0; clear h0
  go_enter Tryz.func13, Tryz.ntmps13
  go_wp2_with fail
  refine (szEventS_ex v0 ns 1048576 _ A0.out (by omega) (by omega) la OA.out).mono ?_
  rintro e w1 ⟨⟨q, rfl, q1, q2, hq⟩, b1⟩
  have HQ := Lib.hid hq; clear hq
  have A1 := Lib.hid (A0.out.on b1); have T1 := Lib.hid b1
  clear A0 b1
  by_cases q0 : q < 0
  · go_wp2_with fail
    go_ret
    exact ⟨rfl, T1.out⟩
  have KA := Lib.hid (HQ.out (by omega)).2
  have sa := (HQ.out (by omega)).1
  clear HQ OA
  go_wp2_with fail
  refine (toEvents_at v0 ns _ A1.out sa KA.out).mono ?_
  rintro e w3 ⟨va, xs, rfl, HX, hx, b3⟩
  have A3 := Lib.hid (A1.out.on b3); have T3 := Lib.hid (below_trans T1.out b3)
  have HSP := Lib.hid (sOutputOf_any va xs _ hx (by rw [dat_len HX.out]; exact sa) (oks_dat HX.out _ KA.out))
  rw [outB_dat HX.out, HDD.out] at HSP
  clear A1 T1 b3 hx HX
  go_wp2_with fail
  refine HSP.out.mono ?_
  rintro e w5 ⟨⟨r1, hr1, rfl⟩, b5⟩
  have HR1 := Lib.hid hr1
  have A5 := Lib.hid (A3.out.on b5); have T5 := Lib.hid (below_trans T3.out b5)
  clear A3 T3 b5 HSP hr1
  obtain ⟨cd, hcd⟩ : ∃ cd : Int, (if D.isSome = true then (0 : Int) else 1) = cd := ⟨_, rfl⟩
  rw [hcd]
  have HCD := Lib.hid hcd; clear hcd
  go_wp2_with fail
  refine (toEvents_at v0 ns _ A5.out sa KA.out).mono ?_
  rintro e w6 ⟨x0, us, rfl, HU, hu, b6⟩
  have A6 := Lib.hid (A5.out.on b6); have T6 := Lib.hid (below_trans T5.out b6)
  have U6 := Lib.hid hu
  clear A5 T5 b6 hu
  have HSM := Lib.hid (OutputOf_any x0 us _ (HT.out.below T6.out) (HM.out.below T6.out) U6.out (by rw [dat_len HU.out]; exact sa) (oks_dat HU.out _ KA.out))
  rw [outB_dat HU.out, HDD.out] at HSM
  go_wp2_with fail
  refine HSM.out.mono ?_
  rintro e w8 ⟨⟨r2, hr2, rfl⟩, b8⟩
  obtain rfl : r1 = r2 := ba_ext (HR1.out.trans hr2.symm)
  rw [HCD.out]
  have A8 := Lib.hid (A6.out.on b8); have T8 := Lib.hid (below_trans T6.out b8)
  have U8 := Lib.hid (U6.out.on b8)
  clear A6 T6 U6 b8 HSM hr2
  have q1' := str_eq r1
  have c1 : (cd == cd) = true := by simp
  have c2 : (cd != cd) = false := by simp
  go_wp2_with fail
  refine (toEvents_at v0 ns _ A8.out sa KA.out).mono ?_
  rintro e w9 ⟨y0, ts, rfl, HTS, ht, b9⟩
  have T9 := Lib.hid (below_trans T8.out b9)
  have U9 := Lib.hid (U8.out.on b9); have R9 := Lib.hid ht
  clear A8 T8 U8 b9 ht
  go_wp2_with fail
  refine (eqEventS_any x0 y0 us ts _ U9.out R9.out (by rw [dat_len HU.out]; exact sa) (oks_dat HU.out _ KA.out)).mono ?_
  rintro e wa ⟨rfl, ba⟩
  rw [decide_eq_true (HU.out.trans HTS.out.symm)]
  have Ta := Lib.hid (below_trans T9.out ba)
  clear T9 U9 R9 ba
  go_wp2_with fail
  go_ret
  exact ⟨rfl, Ta.out⟩

end Go.Proofs.YtjfdlbbfodomeaaGreatDoor
