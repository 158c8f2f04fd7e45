/- The law of QueryOf. -/
import Derived.Test.YtjedmpkjopgklaaGreatDoorQueryA
import Derived.Test.YtjedmpkjopgklaaGreatDoorNamesLaw
namespace Go.Proofs.YtjedmpkjopgklaaGreatDoor
open Go.RowKit Go.ChangeShapes Go.WideShapes Go.ChangeAt Go.Deep
set_option linter.unusedVariables false

theorem Touch.strsB {g h B : Nat} {w w' : World} (ht : Touch g h w w') (hB : h ≤ B) {v : Value} {xs : List ByteArray} (hs : Strs w B v xs) : Strs w' B v xs := by
  refine ⟨hs.1, ?_⟩
  rcases hs.2 with hn | ⟨k, cap, cur, hv, hk, hh, rest⟩
  · exact .inl hn
  · exact .inr ⟨k, cap, cur, hv, hk, by rw [ht.2 k (by omega) (Array.getElem?_eq_some_iff.1 hh).1]; exact hh, rest⟩

set_option maxHeartbeats 4000000 in
set_option maxRecDepth 8000 in
theorem QueryOf_walk (v0 : Value) (x0 : Value × List NodeV) (name : ByteArray) (hn : name.size ≤ maxLen) (v2 : Value) (ys : List ByteArray) (w : World) (e0 : v0 = .agg #[x0.1]) (h0 : NodesAt w x0.1 x0.2) (k0 : x0.2.length ≤ maxLen ∧ ∀ n ∈ x0.2, n.Ok maxLen) (h2 : StrsAt w w.heap.size v2 ys) (l2 : ys.length ≤ maxLen) (z2 : ∀ x ∈ ys, x.size ≤ maxLen) (hL : laidMetH Tryz.prog Rows.fnExactFindKeyRow.laid w) (hsh : w.ShapedOpen Tryz.prog) :
    Calls Tryz.prog 4 #[v0, .string name, v2] w fun e w' => e = .returned (.bool true) ∧ Below w.heap.size w w' := by
  have HT := Lib.hid (T10.of_laid hL); clear hL hsh
  obtain ⟨va, ns⟩ := x0
  simp only at *
  subst e0
  obtain ⟨la, oa⟩ := k0
  have OA := Lib.hid oa; clear oa
  have Z2 := Lib.hid z2; clear z2
  unfold maxLen at hn
  have T0 := Lib.hid (T1.new 35 h0)
  have S0 := Lib.hid (h2.on (Joins.below_alloc1 w (.cells #[va] 35)))
  obtain ⟨A, c, rfl, _, _⟩ := h0
  obtain ⟨A2, c2, rfl, _, _⟩ := h2
  by_cases hn1 : name.size ≤ 1048576
  rotate_left
  · go_enter Tryz.func4, Tryz.ntmps4
    go_wp2_with fail
    go_ret
    exact ⟨rfl, T0.out.1⟩
  go_enter Tryz.func4, Tryz.ntmps4
  go_wp2_with fail
  refine (szTree_sum _ ns 1048576 _ T0.out.2.2 (by omega) (by omega) la OA.out).mono ?_
  rintro e w1 ⟨⟨q, rfl, q1, q2, hq⟩, b1⟩
  have HQ := Lib.hid hq; clear hq
  have TT1 := Lib.hid (T0.out.on b1)
  have S1 := Lib.hid (S0.out.on b1)
  clear T0 S0 b1
  by_cases q0 : q < 0
  · go_wp2_with fail
    go_ret
    exact ⟨rfl, TT1.out.1⟩
  have KA := Lib.hid (HQ.out (by omega)).2.1
  have sa := (HQ.out (by omega)).1
  have HCN := Lib.hid (HQ.out (by omega)).2.2
  clear HQ OA
  go_wp2_with fail
  refine (szStringS_ex _ ys q _ _ S1.out (by omega) (by omega) l2 Z2.out).mono ?_
  rintro e w' ⟨p, rfl, rfl, p1, p2, hp⟩
  have Q := Lib.hid hp; clear hp
  by_cases p0 : p < 0
  · go_wp2_with fail
    go_ret
    exact ⟨rfl, TT1.out.1⟩
  have s2 : ys.length ≤ 1048576 := by have := Q.out (by omega); omega
  have ZZ : Hid (∀ x ∈ ys, x.size ≤ 1048576) := fun x hx => by have := Q.out (by omega); have := size_le_total hx; omega
  clear Z2 Q
  obtain ⟨D, hD⟩ : ∃ D, qryA ns name ys = D := ⟨_, rfl⟩
  have HDD := Lib.hid hD
  have hdl : (D.getD []).length ≤ 1048576 := by rw [← hD]; exact qryA_len KA.out
  have HDL := Lib.hid hdl
  clear hD hdl
  have ca := TT1.out.a
  go_wp2_with fail
  refine (toTree_any _ ns _ TT1.out.2.2 sa KA.out).mono ?_
  rintro e w2 ⟨vs, ss, rfl, HSs, hns, b2⟩
  have T2 := Lib.hid (TT1.out.on b2)
  have S2 := Lib.hid (S1.out.on b2)
  have NS := Lib.hid hns
  clear TT1 S1 b2 ca hns
  go_wp2_with fail
  refine (toStringS_any _ ys _ _ S2.out (Nat.le_refl _) s2).mono ?_
  rintro e w3 ⟨vt, rfl, ht, b3⟩
  have T3 := Lib.hid (T2.out.on b3)
  have S3 := Lib.hid (S2.out.on b3)
  have HSP := Lib.hid (sQueryOf_any vs ss name vt ys _ (NS.out.on b3) (by rw [dat_len HSs.out]; exact sa) (oks_dat HSs.out _ KA.out) hn1 ht.at_ s2 ZZ.out)
  rw [qryA_dat HSs.out, HDD.out] at HSP
  clear T2 S2 NS b3 ht
  go_wp2_with fail
  refine HSP.out.mono ?_
  rintro e w4 ⟨⟨vw, rfl, hsw⟩, b4⟩
  obtain ⟨OK, hOK⟩ : ∃ b : Bool, D.isSome = b := ⟨_, rfl⟩
  rw [hOK]
  have HOKK := Lib.hid hOK; clear hOK
  obtain ⟨R, hR⟩ : ∃ R, D.getD [] = R := ⟨_, rfl⟩
  rw [hR] at hsw HDL
  have HRR := Lib.hid hR; clear hR
  have T4 := Lib.hid (T3.out.on b4)
  have S4 := Lib.hid (S3.out.on b4)
  have SW4 := Lib.hid (Strs.at_ hsw)
  clear T3 S3 HSP b4 hsw
  have ca := T4.out.a
  go_wp2_with fail
  refine (toTree_apart _ ns _ T4.out.2.2 sa KA.out).mono ?_
  rintro e w5 ⟨g, us, rfl, HU, HAP, hg4, ho5, b5⟩
  have hul := dat_len HU.out
  have HO5R := Lib.hid ho5.rows
  have hg5 : g < w5.heap.size := ho5.lt
  have U5 := Lib.hid (T1.new 42 (ho5.at_ hul (Nat.le_refl _)))
  have HAL : Hid (Below w5.heap.size w5 (w5.alloc (.cells #[.slice (some ⟨g, 0, none⟩) ns.length ns.length] 42))) := Joins.below_alloc1 w5 _
  have B5 : Hid (Below w4.heap.size w4 (w5.alloc (.cells #[.slice (some ⟨g, 0, none⟩) ns.length ns.length] 42))) := below_trans b5 HAL.out
  have HO5 := Lib.hid (ho5.on HAL.out)
  have hz5 : w5.heap.size < (w5.alloc (.cells #[.slice (some ⟨g, 0, none⟩) ns.length ns.length] 42)).heap.size := by simp
  have HZ5 := Lib.hid hz5
  clear b5 ho5 ca hz5 HAL
  go_wp2_with fail
  refine (toStringS_any _ ys _ _ (S4.out.on B5.out) (Nat.le_refl _) s2).mono ?_
  rintro e w6 ⟨vx, rfl, hx, b6⟩
  have B6 := Lib.hid (below_trans B5.out b6)
  have U6 := Lib.hid (U5.out.on b6)
  have HO6 := Lib.hid (HO5.out.on b6)
  have X6 := Lib.hid (Joins.ownsRow_le hx (Nat.le_of_lt HZ5.out))
  have hs6 : w5.heap.size < w6.heap.size := Nat.lt_of_lt_of_le HZ5.out b6.size
  obtain ⟨Ax, cx, hvx, _, _⟩ := hx.at_
  subst hvx
  have hx5 : Hid (∀ k, (Value.slice Ax ys.length cx).ownBlock = some k → w5.heap.size < k ∧ k < w6.heap.size) := fun k hk => by
    have h1 := World.ownsRow.lt hx k hk
    have h2 := HZ5.out
    omega
  clear B5 U5 HO5 hx b6 HZ5
  have cu0 := U6.out.a
  have HSM : Hid (Calls Tryz.prog 19 #[.agg #[.slice (some ⟨g, 0, none⟩) us.length ns.length], .string name, .slice Ax ys.length cx] w6 _) := QueryOf_any g ns.length us name _ ys _ (HT.out.below (T4.out.on B6.out).1) (by rw [hul]; exact HO6.out) (by rw [hul]; exact Nat.le_refl _) (by rw [hul]; exact sa) (oks_dat HU.out _ KA.out) hn1 (Strs.at_ X6.out) s2 ZZ.out
  rw [qryA_dat HU.out, HDD.out, hul] at HSM
  go_wp2_with fail
  refine HSM.out.mono ?_
  rintro e w7 ⟨⟨vg, rfl, hsg⟩, b7⟩
  rw [HOKK.out]
  rw [HRR.out] at hsg
  have B7 := Lib.hid (below_trans B6.out b7)
  have U7 := Lib.hid (U6.out.on b7)
  have HO7 := Lib.hid (HO6.out.on b7)
  have X7 := Lib.hid (Strs.below X6.out b7)
  have SG7 := Lib.hid hsg
  have hs7 : w6.heap.size ≤ w7.heap.size := b7.size
  have HE1 := Lib.hid (eqStringS_any vg vw R R w7 w7.heap.size (Strs.at_ SG7.out) (SW4.out.on B7.out) HDL.out)
  rw [show decide (R = R) = true from decide_eq_true rfl] at HE1
  clear HSM b7 hsg cu0 B6 U6 HO6 X6
  go_wp2_with fail
  refine HE1.out.mono ?_
  rintro e w8' ⟨rfl, n8, rfl⟩
  obtain ⟨w8, hw8⟩ : ∃ w8, w7.drewN n8 = w8 := ⟨_, rfl⟩
  have b8 : Below w7.heap.size w7 w8 := by rw [← hw8]; exact below_drewN _ _
  rw [hw8]
  clear hw8
  have b8d : Below w8.heap.size w8 w8.drew := (below_refl w8).drew
  have B8 := Lib.hid (below_trans (below_trans B7.out b8) b8d)
  have U8 := Lib.hid ((U7.out.on b8).on b8d)
  have HO8 := Lib.hid ((HO7.out.on b8).on b8d)
  have X8 := Lib.hid (Strs.below (Strs.below X7.out b8) b8d)
  have SG8 := Lib.hid (Strs.below (Strs.below SG7.out b8) b8d)
  have hs8 : w6.heap.size ≤ w8.heap.size := Nat.le_trans hs7 b8.size
  clear HE1 b8 b8d B7 U7 HO7 X7 SG7 hs7
  have T8 := Lib.hid (T4.out.on B8.out)
  have ca : w8.cell? ⟨w.heap.size, 0, none⟩ = some (.slice A ns.length c) := T8.out.a
  have cu0 : w8.cell? ⟨w5.heap.size, 0, none⟩ = some (.slice (some ⟨g, 0, none⟩) ns.length ns.length) := U8.out.a
  go_wp2_with fail
  have HS0 : w8.drew.cell? ⟨w.heap.size, 0, none⟩ = some (.slice A ns.length c) ∧ w8.drew.cell? ⟨w5.heap.size, 0, none⟩ = some (.slice (some ⟨g, 0, none⟩) ns.length ns.length) := ⟨T8.out.a, U8.out.a⟩
  go_region_held3 (fun W => W.cell? ⟨w.heap.size, 0, none⟩ = some (.slice A ns.length c) ∧ W.cell? ⟨w5.heap.size, 0, none⟩ = some (.slice (some ⟨g, 0, none⟩) ns.length ns.length)) (first | exact HS0 | exact HS5 | exact HS6)
    (first | (go_at_call 17; refine (toTree_any _ ns _ T8.out.2.2 sa KA.out).mono ?_; rintro e wa ⟨xc, ts, rfl, HTS, hnt, ba⟩; have HBA := Lib.hid ba; have TA := Lib.hid (T8.out.on ba); have UA := Lib.hid (U8.out.on ba); have HS5 := And.intro TA.out.a UA.out.a; have HE := Lib.hid (eqTree_any _ _ us ts _ UA.out.2.2 hnt (by rw [hul]; exact sa) (oks_dat HU.out _ KA.out)); rw [show decide (us.map NodeV.dat = ts.map NodeV.dat) = true from decide_eq_true (HU.out.trans HTS.out.symm)] at HE; clear hnt ba) | (go_at_call 21; refine HE.out.mono ?_; rintro e w9 ⟨rfl, bb⟩; have HBB := Lib.hid bb; have TB := Lib.hid (TA.out.on bb); have UB := Lib.hid (UA.out.on bb); have HS6 := And.intro TB.out.a UB.out.a; clear bb))
  have B9 := Lib.hid (below_trans (below_trans B8.out HBA.out) HBB.out)
  have HO9 := Lib.hid ((HO8.out.on HBA.out).on HBB.out)
  have X9 := Lib.hid (Strs.below (Strs.below X8.out HBA.out) HBB.out)
  have SG9 := Lib.hid (Strs.below (Strs.below SG8.out HBA.out) HBB.out)
  have hs9 : w6.heap.size ≤ w9.heap.size := by have h1 := HBA.out.size; have h2 := HBB.out.size; have h3 : w8.drew.heap.size = w8.heap.size := rfl; omega
  have U9 := Lib.hid UB.out
  have S9 := Lib.hid (S4.out.on B9.out)
  clear T8 U8 TA UA HE ca cu0 B8 HO8 X8 SG8 HBA HBB HS0 HS5 HS6 TB UB hs8
  go_wp2_with fail
  refine (toStringS_any _ ys _ _ S9.out (Nat.le_refl _) s2).mono ?_
  rintro e w10 ⟨vz, rfl, hz, b10⟩
  have B10 := Lib.hid (below_trans B9.out b10)
  have U10 := Lib.hid (U9.out.on b10)
  have HO10 := Lib.hid (HO9.out.on b10)
  have X10 := Lib.hid (Strs.below X9.out b10)
  have SG10 := Lib.hid (Strs.below SG9.out b10)
  have hs10 : w6.heap.size ≤ w10.heap.size := Nat.le_trans hs9 b10.size
  have HE2 := Lib.hid (eqStringS_any (.slice Ax ys.length cx) vz ys ys w10 w10.heap.size (Strs.at_ X10.out) hz.at_ s2)
  rw [show decide (ys = ys) = true from decide_eq_true rfl] at HE2
  clear B9 U9 HO9 X9 SG9 S9 b10 hz hs9
  go_wp2_with fail
  refine HE2.out.mono ?_
  rintro e w11' ⟨rfl, n11, rfl⟩
  obtain ⟨w11, hw11⟩ : ∃ w11, w10.drewN n11 = w11 := ⟨_, rfl⟩
  have b11 : Below w10.heap.size w10 w11 := by rw [← hw11]; exact below_drewN _ _
  rw [hw11]
  clear hw11
  have B11 := Lib.hid (below_trans B10.out b11)
  have U11 := Lib.hid (U10.out.on b11)
  have HO11 := Lib.hid (HO10.out.on b11)
  have X11 := Lib.hid (Strs.below X10.out b11)
  have SG11 := Lib.hid (Strs.below SG10.out b11)
  have hs11 : w6.heap.size ≤ w11.heap.size := Nat.le_trans hs10 b11.size
  clear HE2 b11 B10 U10 HO10 X10 SG10 hs10
  have cu0 := U11.out.a
  have HMK := Lib.hid (markTree_own g ns.length ns.length w5.heap.size us w11 HO11.out HAP.out (fun r hr b hb => (HO5R.out r hr b hb).2) hg5 (by rw [cnt_dat HU.out]; have := HCN.out; omega) (by rw [hul]; omega))
  rw [cnt_dat HU.out, hul] at HMK
  have HCN2 := HCN.out
  obtain ⟨CN, hCN⟩ : ∃ CN : Nat, 1 + cnt ns = CN := ⟨_, rfl⟩
  have hC1 : 1 + (cnt ns : Int) = (CN : Int) := by omega
  have hC2 : 1 ≤ CN := by omega
  have hC3 : (CN : Int) ≤ 3000001 := by omega
  rw [hC1] at HMK
  clear hCN hC1 HCN2
  go_wp2_with fail
  refine HMK.out.mono ?_
  rintro e w12 ⟨rfl, _, ht⟩
  have B12 := Lib.hid (B11.out.trans (ht.1.mono hg4))
  have SG12 := Lib.hid (ht.strsB (Nat.le_of_lt hs6) SG11.out)
  have X12 := Lib.hid (ht.strsB (Nat.le_refl _) X11.out)
  have hs12 : w6.heap.size ≤ w12.heap.size := Nat.le_trans hs11 ht.1.size
  clear HMK B11 SG11 HO11 U11 cu0 X11 ht hs11
  have HMX := Lib.hid (markStringS_own (.slice Ax ys.length cx) ys CN hC2 (by omega) w12 w5.heap.size X12.out (by omega))
  obtain ⟨C, hC⟩ : ∃ C : Int, (CN : Int) + (ys.length : Int) = C := ⟨_, rfl⟩
  rw [hC] at HMX
  have hC0 : ¬ C < 0 := by omega
  have HTX : Hid (∀ W, w12.grownBy W (Value.slice Ax ys.length cx).ownBlock → Touch w5.heap.size w6.heap.size w12 W) := fun W hg => Touch.grown hg (fun k hk => ⟨Nat.le_of_lt (hx5.out k hk).1, (hx5.out k hk).2⟩) (by omega)
  clear hC
  go_wp2_with fail
  refine HMX.out.mono ?_
  rintro e w13 ⟨rfl, _, hg13⟩
  have ht := HTX.out _ hg13
  have B13 := Lib.hid (B12.out.trans (ht.1.mono (show w4.heap.size ≤ w5.heap.size by omega)))
  have SG13 := Lib.hid (ht.strsB (Nat.le_refl _) SG12.out)
  have hs13 : w6.heap.size ≤ w13.heap.size := Nat.le_trans hs12 ht.1.size
  have HE3 := Lib.hid (eqStringS_any vg vw R R w13 w13.heap.size (Strs.at_ SG13.out) (SW4.out.on B13.out) HDL.out)
  rw [show decide (R = R) = true from decide_eq_true rfl] at HE3
  clear HMX HTX hg13 ht B12 SG12 X12 hs12 hx5
  go_wp2_with fail
  refine HE3.out.mono ?_
  rintro e w14' ⟨rfl, n14, rfl⟩
  obtain ⟨w14, hw14⟩ : ∃ w14, w13.drewN n14 = w14 := ⟨_, rfl⟩
  have b14 : Below w13.heap.size w13 w14 := by rw [← hw14]; exact below_drewN _ _
  rw [hw14]
  clear hw14
  have B14 := Lib.hid (below_trans B13.out b14)
  have SG14 := Lib.hid (Strs.below SG13.out b14)
  have hs14 : w6.heap.size ≤ w14.heap.size := Nat.le_trans hs13 b14.size
  clear HE3 b14 B13 SG13 hs13
  have hdl := HDL.out
  have HMS : Hid (Calls Tryz.prog 23 #[vg, .int .i64 1] w14 _) := markStringS_own vg R 1 (by omega) (by omega) w14 w6.heap.size SG14.out hs14
  obtain ⟨M, hM⟩ : ∃ M : Int, ((1 : Nat) : Int) + (R.length : Int) = M := ⟨_, rfl⟩
  rw [hM] at HMS
  have hM0 : ¬ M < 0 := by omega
  have HMM := Lib.hid hM; clear hM
  have hgr : ∀ W, w14.grownBy W vg.ownBlock → Below w6.heap.size w14 W := fun W hg => (Below.refl w6.heap.size w14).grown hg hs14 (fun k hk => (World.ownsRow.lt SG14.out k hk).1)
  have HGR := Lib.hid hgr; clear hgr
  go_wp2_with fail
  refine HMS.out.mono ?_
  rintro e w15 ⟨rfl, hs15, hg15⟩
  have hb15 := HGR.out _ hg15
  have B15 := Lib.hid (B14.out.trans (hb15.mono (show w4.heap.size ≤ w6.heap.size by omega)))
  have SM15 := Lib.hid hs15
  clear HMS HGR hg15 hs15 B14 SG14 hb15
  have HHE : Hid (Calls Tryz.prog 24 #[vg, .int .i64 1] w15 _) := heldStringS_own vg R.length 1 (by omega) (by omega) w15 w6.heap.size SM15.out
  rw [HMM.out] at HHE
  go_wp2_with fail
  refine HHE.out.mono ?_
  rintro e w16 ⟨rfl, b16⟩
  have B16 := Lib.hid (B15.out.trans (b16.mono (B15.out.size)))
  have SM16 := Lib.hid (Strs.below SM15.out b16)
  have T16 := Lib.hid (T4.out.on B16.out)
  clear HHE b16 B15 SM15
  have ca := T16.out.a
  go_wp2_with fail
  refine (toTree_apart _ ns _ T16.out.2.2 sa KA.out).mono ?_
  rintro e w17 ⟨g2, ts, rfl, HTS, _, hg17, ho17, b17⟩
  have htl := dat_len HTS.out
  have B17 := Lib.hid (below_trans B16.out b17)
  have SM17 := Lib.hid (Strs.below SM16.out b17)
  have HO17 := Lib.hid ho17
  clear B16 SM16 T16 b17 ca ho17
  go_wp2_with fail
  refine (toStringS_any _ ys _ _ (S4.out.on B17.out) (Nat.le_refl _) s2).mono ?_
  rintro e w18 ⟨vy, rfl, hy, b18⟩
  have B18 := Lib.hid (below_trans B17.out b18)
  have SM18 := Lib.hid (Strs.below SM17.out b18)
  have HO18 := Lib.hid (HO17.out.on b18)
  have HSM2 : Hid (Calls Tryz.prog 19 #[.agg #[.slice (some ⟨g2, 0, none⟩) ts.length ns.length], .string name, vy] w18 _) := QueryOf_any g2 ns.length ts name _ ys _ (HT.out.below (T4.out.on B18.out).1) (by rw [htl]; exact HO18.out) (by rw [htl]; exact Nat.le_refl _) (by rw [htl]; exact sa) (oks_dat HTS.out _ KA.out) hn1 hy.at_ s2 ZZ.out
  rw [qryA_dat HTS.out, HDD.out, htl] at HSM2
  clear B17 SM17 HO17 hy b18
  go_wp2_with fail
  refine HSM2.out.mono ?_
  rintro e w19 ⟨⟨vh, rfl, hsh⟩, b19⟩
  rw [HOKK.out]
  rw [HRR.out] at hsh
  have B19 := Lib.hid (below_trans B18.out b19)
  have SM19 := Lib.hid (Strs.below SM18.out b19)
  have HE4 := Lib.hid (eqStringS_any vh vw R R w19 w19.heap.size (Strs.at_ hsh) (SW4.out.on B19.out) HDL.out)
  rw [show decide (R = R) = true from decide_eq_true rfl] at HE4
  clear HSM2 B18 SM18 HO18 b19 hsh
  go_wp2_with fail
  refine HE4.out.mono ?_
  rintro e w20' ⟨rfl, n20, rfl⟩
  obtain ⟨w20, hw20⟩ : ∃ w20, w19.drewN n20 = w20 := ⟨_, rfl⟩
  have b20 : Below w19.heap.size w19 w20 := by rw [← hw20]; exact below_drewN _ _
  rw [hw20]
  clear hw20
  have B20 := Lib.hid (below_trans B19.out b20)
  have SM20 := Lib.hid (Strs.below SM19.out b20)
  have HHE : Hid (Calls Tryz.prog 24 #[vg, .int .i64 1] w20 _) := heldStringS_own vg R.length 1 (by omega) (by omega) w20 w6.heap.size SM20.out
  rw [HMM.out] at HHE
  clear HE4 B19 SM19 b20 SM20
  go_wp2_with fail
  refine HHE.out.mono ?_
  rintro e w21 ⟨rfl, b21⟩
  have B21 := Lib.hid (below_trans B20.out b21)
  clear HHE B20 b21
  go_wp2_with fail
  go_ret
  exact ⟨rfl, (T4.out.on B21.out).1⟩

end Go.Proofs.YtjedmpkjopgklaaGreatDoor
