/- The law of OrderOf. -/
import Derived.Test.YtjfdlbbfodomeaaGreatDoorOrder4
namespace Go.Proofs.YtjfdlbbfodomeaaGreatDoor
open Go.RowKit Go.ChangeShapes Go.WideShapes Go.ChangeAt Go.Deep
set_option linter.unusedVariables false

set_option maxHeartbeats 1000000 in
set_option maxRecDepth 8000 in
theorem OrderOf_walk (v0 : Value) (x0 : Value × List NodeV) (name : ByteArray) (hn : name.size ≤ maxLen) (v2 : Value) (ys : List ByteArray) (back : Bool) (w : World) (e0 : v0 = .agg #[x0.1]) (h0 : NodesAt w x0.1 x0.2) (k0 : x0.2.length ≤ maxLen ∧ ∀ n ∈ x0.2, n.Ok maxLen) (h2 : StrsAt w w.heap.size v2 ys) (l2 : ys.length ≤ maxLen) (z2 : ∀ x ∈ ys, x.size ≤ maxLen) (hL : laidMetH Tryz.prog Rows.fnExactTreeOkRow.laid w) (hsh : w.ShapedOpen Tryz.prog) :
    Calls Tryz.prog 5 #[v0, .string name, v2, .bool back] w fun e w' => e = .returned (.bool true) ∧ Below w.heap.size w w' := by
  have HT := Lib.hid (T10.of_laid hL); clear hL hsh
  obtain ⟨va, ns⟩ := x0
  simp only at *
  subst e0
  obtain ⟨la, oa⟩ := k0
  have OA := Lib.hid oa; clear oa
  have Z2 := Lib.hid z2; clear z2
  unfold maxLen at hn
  have T0 := Lib.hid (T1.new 24 h0)
  have S0 := Lib.hid (h2.on (Joins.below_alloc1 w (.cells #[va] 24)))
  obtain ⟨A, c, rfl, _, _⟩ := h0
  obtain ⟨A2, c2, rfl, _, _⟩ := h2
  by_cases hn1 : name.size ≤ 1048576
  rotate_left
  · go_enter Tryz.func5, Tryz.ntmps5
    go_wp2_with fail
    go_ret
    exact ⟨rfl, T0.out.1⟩
  go_enter Tryz.func5, Tryz.ntmps5
  go_wp2_with fail
  refine (szTree_ex _ ns 1048576 _ T0.out.2.2 (by omega) (by omega) la OA.out).mono ?_
  rintro e w1 ⟨⟨q, rfl, q1, q2, hq⟩, b1⟩
  have HQ := Lib.hid hq; clear hq
  have TT1 := Lib.hid (T0.out.on b1)
  have S1 := Lib.hid (S0.out.on b1)
  clear T0 S0 b1
  by_cases q0 : q < 0
  · go_wp2_with fail
    go_ret
    exact ⟨rfl, TT1.out.1⟩
  have KA := Lib.hid (HQ.out (by omega)).2
  have sa := (HQ.out (by omega)).1
  clear HQ OA
  go_wp2_with fail
  refine (szStringS_ex _ ys q _ _ S1.out (by omega) (by omega) l2 Z2.out).mono ?_
  rintro e w' ⟨p, rfl, rfl, p1, p2, hp⟩
  have Q := Lib.hid hp; clear hp
  by_cases p0 : p < 0
  · go_wp2_with fail
    go_ret
    exact ⟨rfl, TT1.out.1⟩
  have s2 : ys.length ≤ 1048576 := by have := Q.out (by omega); omega
  have ZZ : Hid (∀ x ∈ ys, x.size ≤ 1048576) := fun x hx => by have := Q.out (by omega); have := size_le_total hx; omega
  clear Z2 Q
  obtain ⟨D, hD⟩ : ∃ D : ByteArray, ordA ns name ys back = D := ⟨_, rfl⟩
  have HDD := Lib.hid hD; clear hD
  have ca := TT1.out.a
  go_wp2_with fail
  refine (toTree_any _ ns _ TT1.out.2.2 sa KA.out).mono ?_
  rintro e w2 ⟨vs, ss, rfl, HSs, hns, b2⟩
  have T2 := Lib.hid (TT1.out.on b2)
  have S2 := Lib.hid (S1.out.on b2)
  have NS := Lib.hid hns
  clear TT1 S1 b2 ca hns
  go_wp2_with fail
  refine (toStringS_any _ ys _ _ S2.out (Nat.le_refl _) s2).mono ?_
  rintro e w3 ⟨vt, rfl, ht, b3⟩
  have T3 := Lib.hid (T2.out.on b3)
  have S3 := Lib.hid (S2.out.on b3)
  have HSP := Lib.hid (sOrderOf_any vs ss name vt ys back _ (HT.out.below T3.out.1) (NS.out.on b3) (by rw [dat_len HSs.out]; exact sa) (oks_dat HSs.out _ KA.out) hn1 ht.at_ s2 ZZ.out)
  rw [ordA_dat HSs.out, HDD.out] at HSP
  clear T2 S2 NS b3 ht
  go_wp2_with fail
  refine HSP.out.mono ?_
  rintro e w4 ⟨rfl, b4⟩
  have T4 := Lib.hid (T3.out.on b4)
  have S4 := Lib.hid (S3.out.on b4)
  clear T3 S3 HSP b4
  have ca := T4.out.a
  go_wp2_with fail
  refine (toTree_any _ ns _ T4.out.2.2 sa KA.out).mono ?_
  rintro e w7 ⟨xa, us, rfl, HU, hnu, b7⟩
  have U7 := Lib.hid (T1.new 29 hnu)
  obtain ⟨Au, cu, rfl, _, _⟩ := id hnu
  have T7 := Lib.hid ((T4.out.on b7).on (Joins.below_alloc1 w7 (.cells #[.slice Au us.length cu] 29)))
  have S7 := Lib.hid ((S4.out.on b7).on (Joins.below_alloc1 w7 (.cells #[.slice Au us.length cu] 29)))
  clear T4 S4 b7 hnu ca
  go_wp2_with fail
  refine (toStringS_any _ ys _ _ S7.out (Nat.le_refl _) s2).mono ?_
  rintro e w8 ⟨vx, rfl, hx, b8⟩
  have T8 := Lib.hid (T7.out.on b8)
  have U8 := Lib.hid (U7.out.on b8)
  have S8 := Lib.hid (S7.out.on b8)
  have X8 := Lib.hid hx.at_
  clear T7 U7 S7 b8 hx
  obtain ⟨Ax, cx, rfl, _, _⟩ := X8.out
  have ca := T8.out.a
  have cu0 := U8.out.a
  have HSM := Lib.hid (OrderOf_any _ us name _ ys back _ (HT.out.below T8.out.1) U8.out.2.2 (by rw [dat_len HU.out]; exact sa) (oks_dat HU.out _ KA.out) hn1 X8.out s2 ZZ.out)
  rw [ordA_dat HU.out, HDD.out] at HSM
  go_wp2_with fail
  refine HSM.out.mono ?_
  rintro e w9 ⟨rfl, b9⟩
  have T9 := Lib.hid (T8.out.on b9).drew
  have U9 := Lib.hid (U8.out.on b9).drew
  have S9 : Hid (StrsAt w9.drew w9.drew.heap.size (.slice A2 ys.length c2) ys) := S8.out.on b9.drew
  have X9 : Hid (StrsAt w9.drew w9.drew.heap.size (.slice Ax ys.length cx) ys) := X8.out.on b9.drew
  clear T8 U8 S8 X8 HSM b9 ca cu0
  have ca : w9.cell? ⟨w.heap.size, 0, none⟩ = some (.slice A ns.length c) := T9.out.a
  have cu0 : w9.cell? ⟨w7.heap.size, 0, none⟩ = some (.slice Au us.length cu) := U9.out.a
  go_wp2_with fail
  have HS0 : w9.drew.cell? ⟨w.heap.size, 0, none⟩ = some (.slice A ns.length c) ∧ w9.drew.cell? ⟨w7.heap.size, 0, none⟩ = some (.slice Au us.length cu) := ⟨T9.out.a, U9.out.a⟩
  go_region_held3 (fun W => W.cell? ⟨w.heap.size, 0, none⟩ = some (.slice A ns.length c) ∧ W.cell? ⟨w7.heap.size, 0, none⟩ = some (.slice Au us.length cu)) (first | exact HS0 | exact HS5 | exact HS6)
    (first | (go_at_call 16; refine (toTree_any _ ns _ T9.out.2.2 sa KA.out).mono ?_; rintro e wa ⟨xc, ts, rfl, HTS, hnt, ba⟩; have TA := Lib.hid (T9.out.on ba); have UA := Lib.hid (U9.out.on ba); have SA := Lib.hid (S9.out.on ba); have XA := Lib.hid (X9.out.on ba); have HS5 := And.intro TA.out.a UA.out.a; have HE := Lib.hid (eqTree_any _ _ us ts _ UA.out.2.2 hnt (by rw [dat_len HU.out]; exact sa) (oks_dat HU.out _ KA.out)); rw [show decide (us.map NodeV.dat = ts.map NodeV.dat) = true from decide_eq_true (HU.out.trans HTS.out.symm)] at HE; clear hnt ba) | (go_at_call 18; refine HE.out.mono ?_; rintro e wb ⟨rfl, bb⟩; have TB := Lib.hid (TA.out.on bb); have UB := Lib.hid (UA.out.on bb); have SB := Lib.hid (SA.out.on bb); have XB := Lib.hid (XA.out.on bb); have HS6 := And.intro TB.out.a UB.out.a; clear bb))
  clear T9 U9 S9 X9 TA UA SA XA HE ca cu0
  go_wp2_with fail
  refine (toStringS_any _ ys _ _ SB.out (Nat.le_refl _) s2).mono ?_
  rintro e wc ⟨vz, rfl, hz, bc⟩
  have TC := Lib.hid (TB.out.on bc)
  have XC := Lib.hid (XB.out.on bc)
  have HE := Lib.hid (eqStringS_any _ vz ys ys _ _ XC.out hz.at_ s2)
  rw [show decide (ys = ys) = true from decide_eq_true rfl] at HE
  clear TB UB SB XB bc hz
  go_wp2_with fail
  refine HE.out.mono ?_
  rintro e wd ⟨rfl, n, rfl⟩
  go_wp2_with fail
  go_ret
  exact ⟨rfl, below_trans TC.out.1 (below_drewN _ n)⟩

end Go.Proofs.YtjfdlbbfodomeaaGreatDoor
