/- The law of KillNode. -/
import Derived.Test.YtllamjgloilioaaGreatDoorKnHeld
import Derived.Deep.RegionHeld3
namespace Go.Proofs.YtllamjgloilioaaGreatDoor
open Go.RowKit Go.ChangeShapes Go.WideShapes Go.ChangeAt Go.Deep
set_option linter.unusedVariables false
set_option linter.unusedSimpArgs false

set_option maxHeartbeats 8000000 in
set_option maxRecDepth 8000 in
theorem KillNode_walk (v0 : Value) (x0 : Value × List NodeV) (name : ByteArray) (hn : name.size ≤ maxLen) (v2 : Value) (ys : List ByteArray) (w : World) (e0 : v0 = .agg #[x0.1]) (h0 : NodesAt w x0.1 x0.2) (k0 : x0.2.length ≤ maxLen ∧ ∀ n ∈ x0.2, n.Ok maxLen) (h2 : StrsAt w w.heap.size v2 ys) (l2 : ys.length ≤ maxLen) (z2 : ∀ x ∈ ys, x.size ≤ maxLen) (hL : laidMetH Tryz.prog Rows.fnExactKillNodeRow.laid w) (hsh : w.ShapedOpen Tryz.prog) :
    Calls Tryz.prog 3 #[v0, .string name, v2] w fun e w' => e = .returned (.bool true) ∧ Below w.heap.size w w' := by
  have HT := Lib.hid (T10.of_laid hL); clear hL hsh
  obtain ⟨va, ns⟩ := x0
  simp only at *
  subst e0
  obtain ⟨la, oa⟩ := k0
  have OA := Lib.hid oa; clear oa
  have Z2 := Lib.hid z2; clear z2
  unfold maxLen at hn
  have T0 := Lib.hid (T1.new 24 h0)
  have S0 := Lib.hid (h2.on (Joins.below_alloc1 w (.cells #[va] 24)))
  obtain ⟨A, c, rfl, _, _⟩ := h0
  obtain ⟨A2, c2, rfl, _, _⟩ := h2
  by_cases hn1 : name.size ≤ 1048576
  rotate_left
  · go_enter Tryz.func3, Tryz.ntmps3
    go_wp2_with fail
    go_ret
    exact ⟨rfl, T0.out.1⟩
  go_enter Tryz.func3, Tryz.ntmps3
  go_wp2_with fail
  refine (szTree_sum _ ns 1048576 _ T0.out.2.2 (by omega) (by omega) la OA.out).mono ?_
  rintro e w1 ⟨⟨q, rfl, q1, q2, hq⟩, b1⟩
  have HQ := Lib.hid hq; clear hq
  have TT1 := Lib.hid (T0.out.on b1)
  have S1 := Lib.hid (S0.out.on b1)
  clear T0 S0 b1
  by_cases q0 : q < 0
  · go_wp2_with fail
    go_ret
    exact ⟨rfl, TT1.out.1⟩
  have KA := Lib.hid (HQ.out (by omega)).2.1
  have sa := (HQ.out (by omega)).1
  have HCN := Lib.hid (HQ.out (by omega)).2.2
  clear HQ OA
  go_wp2_with fail
  refine (szStringS_ex _ ys q _ _ S1.out (by omega) (by omega) l2 Z2.out).mono ?_
  rintro e w' ⟨p, rfl, rfl, p1, p2, hp⟩
  have Q := Lib.hid hp; clear hp
  by_cases p0 : p < 0
  · go_wp2_with fail
    go_ret
    exact ⟨rfl, TT1.out.1⟩
  have s2 : ys.length ≤ 1048576 := by have := Q.out (by omega); omega
  have ZZ : Hid (∀ x ∈ ys, x.size ≤ 1048576) := fun x hx => by have := Q.out (by omega); have := size_le_total hx; omega
  clear Z2 Q
  obtain ⟨K, hK⟩ : ∃ K, killA ns name ys = K := ⟨_, rfl⟩
  have HKK := Lib.hid hK
  have HKS : Hid (K.Sublist ns) := by show List.Sublist _ _; rw [← hK]; exact killA_sub _ _ _
  have hkl : K.length ≤ 1048576 := Nat.le_trans HKS.out.length_le sa
  have HKO : Hid (∀ x ∈ K, x.Ok 1048576) := fun x hx => KA.out x (HKS.out.subset hx)
  have HKC : Hid (cnt K ≤ 3000000) := by show _ ≤ _; have := cnt_sub HKS.out; have := HCN.out; omega
  clear hK
  have ca := TT1.out.a
  go_wp2_with fail
  refine (toTree_any _ ns _ TT1.out.2.2 sa KA.out).mono ?_
  rintro e w2 ⟨vs, ss, rfl, HSs, hns, b2⟩
  have T2 := Lib.hid (TT1.out.on b2)
  have S2 := Lib.hid (S1.out.on b2)
  have NS := Lib.hid hns
  clear TT1 S1 b2 ca hns
  go_wp2_with fail
  refine (toStringS_any _ ys _ _ (S2.out) (Nat.le_refl _) s2).mono ?_
  rintro e w3 ⟨vt, rfl, ht, b3⟩
  have T3 := Lib.hid (T2.out.on b3)
  have S3 := Lib.hid (S2.out.on b3)
  have HSP := Lib.hid (sKillNode_any vs ss name vt ys _ (NS.out.on b3) (by rw [dat_len HSs.out]; exact sa) (oks_dat HSs.out _ KA.out) hn1 ht.at_ s2 ZZ.out)
  clear T2 S2 NS b3 ht
  go_wp2_with fail
  refine HSP.out.mono ?_
  rintro e w4 ⟨vw, ws, rfl, hdw, hnw, b4⟩
  have HWD : Hid (ws.map NodeV.dat = K.map NodeV.dat) := by show _ = _; rw [hdw.out, killA_dat HSs.out, HKK.out]
  obtain ⟨Aw, cw, rfl, _⟩ := hnw.form
  have hb4 : Below w4.heap.size w4 (w4.alloc (.cells #[.slice Aw ws.length cw] 30)) := Joins.below_alloc1 w4 _
  have T4 := Lib.hid ((T3.out.on b4).on hb4)
  have S4 := Lib.hid ((S3.out.on b4).on hb4)
  have TW4 := Lib.hid (T1.new 30 hnw)
  clear T3 S3 HSP b4 hb4 hnw hdw
  have ca := T4.out.a
  go_wp2_with fail
  generalize w4.alloc (.cells #[.slice Aw ws.length cw] 30) = W4 at *
  refine (toTree_apart _ ns _ T4.out.2.2 sa KA.out).mono ?_
  rintro e w5 ⟨g, us, rfl, HU, HAP, hg4, ho5, b5⟩
  have hul := dat_len HU.out
  have HO5R := Lib.hid ho5.rows
  have hg5 : g < w5.heap.size := ho5.lt
  have U5 := Lib.hid (T1.new 30 (ho5.at_ hul (Nat.le_refl _)))
  have HAL : Hid (Below w5.heap.size w5 (w5.alloc (.cells #[.slice (some ⟨g, 0, none⟩) ns.length ns.length] 30))) := Joins.below_alloc1 w5 _
  have B5 : Hid (Below W4.heap.size W4 (w5.alloc (.cells #[.slice (some ⟨g, 0, none⟩) ns.length ns.length] 30))) := below_trans b5 HAL.out
  have HO5 := Lib.hid (ho5.on HAL.out)
  have hz5 : w5.heap.size < (w5.alloc (.cells #[.slice (some ⟨g, 0, none⟩) ns.length ns.length] 30)).heap.size := by simp
  have HZ5 := Lib.hid hz5
  clear b5 ho5 ca hz5 HAL
  go_wp2_with fail
  refine (toStringS_any _ ys _ _ (S4.out.on B5.out) (Nat.le_refl _) s2).mono ?_
  rintro e w6 ⟨vx, rfl, hx, b6⟩
  have B6 := Lib.hid (below_trans B5.out b6)
  have U6 := Lib.hid (U5.out.on b6)
  have HO6 := Lib.hid (HO5.out.on b6)
  have X6 := Lib.hid (Joins.ownsRow_le hx (Nat.le_of_lt HZ5.out))
  have hs6 : w5.heap.size < w6.heap.size := Nat.lt_of_lt_of_le HZ5.out b6.size
  obtain ⟨Ax, cx, hvx, _, _⟩ := hx.at_
  subst hvx
  have hx5 : Hid (∀ k, (Value.slice Ax ys.length cx).ownBlock = some k → w5.heap.size < k ∧ k < w6.heap.size) := fun k hk => by
    have h1 := World.ownsRow.lt hx k hk
    have h2 := HZ5.out
    omega
  clear B5 U5 HO5 hx b6 HZ5
  have cu0 := U6.out.a
  have HSM : Hid (Calls Tryz.prog 9 #[.agg #[.slice (some ⟨g, 0, none⟩) us.length ns.length], .string name, .slice Ax ys.length cx] w6 _) := KillNode_own g ns.length us name _ ys _ (HT.out.below (T4.out.on B6.out).1) (by rw [hul]; exact HO6.out) (by rw [hul]; exact Nat.le_refl _) (by rw [hul]; exact sa) (oks_dat HU.out _ KA.out) hn1 (Strs.at_ X6.out) s2 ZZ.out
  rw [hul] at HSM
  go_wp2_with fail
  refine HSM.out.mono ?_
  rintro e w7 ⟨vg, xs, rfl, hdx, hng, b7⟩
  have HXD : Hid (xs.map NodeV.dat = K.map NodeV.dat) := by show _ = _; rw [hdx.out, killA_dat HU.out, HKK.out]
  obtain ⟨Ag, cg, hvg, _⟩ := hng.at_.form
  subst hvg
  have HUP1 : Hid (∀ b, (Value.slice Ag xs.length cg).ownBlock = some b → b < w7.heap.size) := fun b hb => (World.ownsRow.lt hng.1 b hb).2
  have HUP2 : Hid (∀ x ∈ xs, ∀ b, x.row = some b → b < w7.heap.size) := fun x hx b hb => ((hng.2.1 x hx).1.1.lt b hb).2
  have hb7 : Below w7.heap.size w7 (w7.alloc (.cells #[.slice Ag xs.length cg] 30)) := Joins.below_alloc1 w7 _
  have B7 := Lib.hid (below_trans (below_trans B6.out b7) hb7)
  have U7 := Lib.hid ((U6.out.on b7).on hb7)
  have HO7 := Lib.hid ((HO6.out.on b7).on hb7)
  have X7 := Lib.hid (Strs.below (Strs.below X6.out b7) hb7)
  have G7 := Lib.hid (hng.on hb7)
  have TG7 : Hid (TreeIn (w7.alloc (.cells #[.slice Ag xs.length cg] 30)) w7.heap.size (.slice Ag xs.length cg)) := heap_alloc_new w7 _
  have hs7 : w6.heap.size ≤ w7.heap.size := b7.size
  have hs7' : Hid (w7.heap.size < (w7.alloc (.cells #[.slice Ag xs.length cg] 30)).heap.size) := by show _ < _; simp
  have hxl : xs.length ≤ 1048576 := by have := dat_len HXD.out; omega
  have HXO : Hid (∀ x ∈ xs, x.Ok 1048576) := oks_dat HXD.out _ HKO.out
  have hxc : (cnt xs : Int) ≤ 3000000 := by rw [cnt_dat HXD.out]; have := HKC.out; omega
  have HXW : Hid (decide (xs.map NodeV.dat = ws.map NodeV.dat) = true) := decide_eq_true (HXD.out.trans HWD.out.symm)
  clear HSM b7 hng hdx cu0 B6 U6 HO6 X6 hb7
  have cg0 := TG7.out.cell.1
  have cw0 := (TW4.out.on B7.out).a
  have HE1 := Lib.hid (eqTree_any _ _ xs ws _ G7.out.at_ (TW4.out.on B7.out).2.2 hxl HXO.out)
  rw [HXW.out] at HE1
  go_wp2_with fail
  generalize w7.alloc (.cells #[.slice Ag xs.length cg] 30) = W7 at *
  refine HE1.out.mono ?_
  rintro e w8 ⟨rfl, b8⟩
  have b8d : Below w8.heap.size w8 w8.drew := (below_refl w8).drew
  have B8 := Lib.hid (below_trans (below_trans B7.out b8) b8d)
  have U8 := Lib.hid ((U7.out.on b8).on b8d)
  have HO8 := Lib.hid ((HO7.out.on b8).on b8d)
  have X8 := Lib.hid (Strs.below (Strs.below X7.out b8) b8d)
  have G8 := Lib.hid ((G7.out.on b8).on b8d)
  have TG8 := Lib.hid ((TG7.out.on b8).on b8d)
  have hs8 : w7.heap.size < w8.heap.size := Nat.lt_of_lt_of_le hs7'.out b8.size
  clear HE1 b8 b8d B7 U7 HO7 X7 G7 TG7 hs7' cg0 cw0
  have T8 := Lib.hid (T4.out.on B8.out)
  have ca : w8.cell? ⟨w.heap.size, 0, none⟩ = some (.slice A ns.length c) := T8.out.a
  have cu0 : w8.cell? ⟨w5.heap.size, 0, none⟩ = some (.slice (some ⟨g, 0, none⟩) ns.length ns.length) := U8.out.a
  go_wp2_with fail
  have HS0 : w8.drew.cell? ⟨w.heap.size, 0, none⟩ = some (.slice A ns.length c) ∧ w8.drew.cell? ⟨w5.heap.size, 0, none⟩ = some (.slice (some ⟨g, 0, none⟩) ns.length ns.length) := ⟨T8.out.a, U8.out.a⟩
  go_region_held3 (fun W => W.cell? ⟨w.heap.size, 0, none⟩ = some (.slice A ns.length c) ∧ W.cell? ⟨w5.heap.size, 0, none⟩ = some (.slice (some ⟨g, 0, none⟩) ns.length ns.length)) (first | exact HS0 | exact HS5 | exact HS6)
    (first | (go_at_call 7; refine (toTree_any _ ns _ T8.out.2.2 sa KA.out).mono ?_; rintro e wa ⟨xc, ts, rfl, HTS, hnt, ba⟩; have HBA := Lib.hid ba; have TA := Lib.hid (T8.out.on ba); have UA := Lib.hid (U8.out.on ba); have HS5 := And.intro TA.out.a UA.out.a; have HE := Lib.hid (eqTree_any _ _ us ts _ UA.out.2.2 hnt (by rw [hul]; exact sa) (oks_dat HU.out _ KA.out)); rw [show decide (us.map NodeV.dat = ts.map NodeV.dat) = true from decide_eq_true (HU.out.trans HTS.out.symm)] at HE; clear hnt ba) | (go_at_call 10; refine HE.out.mono ?_; rintro e w9 ⟨rfl, bb⟩; have HBB := Lib.hid bb; have TB := Lib.hid (TA.out.on bb); have UB := Lib.hid (UA.out.on bb); have HS6 := And.intro TB.out.a UB.out.a; clear bb))
  have B9 := Lib.hid (below_trans (below_trans B8.out HBA.out) HBB.out)
  have HO9 := Lib.hid ((HO8.out.on HBA.out).on HBB.out)
  have X9 := Lib.hid (Strs.below (Strs.below X8.out HBA.out) HBB.out)
  have G9 := Lib.hid ((G8.out.on HBA.out).on HBB.out)
  have TG9 := Lib.hid ((TG8.out.on HBA.out).on HBB.out)
  have hs9 : w7.heap.size < w9.heap.size := by have h1 := HBA.out.size; have h2 := HBB.out.size; have h3 : w8.drew.heap.size = w8.heap.size := rfl; omega
  have U9 := Lib.hid UB.out
  have S9 := Lib.hid (S4.out.on B9.out)
  clear T8 U8 TA UA HE ca cu0 B8 HO8 X8 G8 TG8 HBA HBB HS0 HS5 HS6 TB UB hs8
  go_wp2_with fail
  refine (toStringS_any _ ys _ _ S9.out (Nat.le_refl _) s2).mono ?_
  rintro e w10 ⟨vz, rfl, hz, b10⟩
  have B10 := Lib.hid (below_trans B9.out b10)
  have U10 := Lib.hid (U9.out.on b10)
  have HO10 := Lib.hid (HO9.out.on b10)
  have X10 := Lib.hid (Strs.below X9.out b10)
  have G10 := Lib.hid (G9.out.on b10)
  have TG10 := Lib.hid (TG9.out.on b10)
  have hs10 : w7.heap.size < w10.heap.size := Nat.lt_of_lt_of_le hs9 b10.size
  have HE2 := Lib.hid (eqStringS_any (.slice Ax ys.length cx) vz ys ys w10 w10.heap.size (Strs.at_ X10.out) hz.at_ s2)
  rw [show decide (ys = ys) = true from decide_eq_true rfl] at HE2
  clear B9 U9 HO9 X9 G9 TG9 S9 b10 hz hs9
  go_wp2_with fail
  refine HE2.out.mono ?_
  rintro e w11' ⟨rfl, n11, rfl⟩
  obtain ⟨w11, hw11⟩ : ∃ w11, w10.drewN n11 = w11 := ⟨_, rfl⟩
  have b11 : Below w10.heap.size w10 w11 := by rw [← hw11]; exact below_drewN _ _
  rw [hw11]
  clear hw11
  have B11 := Lib.hid (below_trans B10.out b11)
  have U11 := Lib.hid (U10.out.on b11)
  have HO11 := Lib.hid (HO10.out.on b11)
  have X11 := Lib.hid (Strs.below X10.out b11)
  have G11 := Lib.hid (G10.out.on b11)
  have TG11 := Lib.hid (TG10.out.on b11)
  have hs11 : w7.heap.size < w11.heap.size := Nat.lt_of_lt_of_le hs10 b11.size
  clear HE2 b11 B10 U10 HO10 X10 G10 TG10 hs10
  have cu0 := U11.out.a
  have HMK := Lib.hid (markTree_own g ns.length ns.length w5.heap.size us w11 HO11.out HAP.out (fun r hr b hb => (HO5R.out r hr b hb).2) hg5 (by rw [cnt_dat HU.out]; have := HCN.out; omega) (by rw [hul]; omega))
  rw [cnt_dat HU.out, hul] at HMK
  have HCN2 := HCN.out
  obtain ⟨CN, hCN⟩ : ∃ CN : Nat, 1 + cnt ns = CN := ⟨_, rfl⟩
  have hC1 : 1 + (cnt ns : Int) = (CN : Int) := by omega
  have hC2 : 1 ≤ CN := by omega
  have hC3 : (CN : Int) ≤ 3000001 := by omega
  rw [hC1] at HMK
  clear hCN hC1 HCN2
  go_wp2_with fail
  refine HMK.out.mono ?_
  rintro e w12 ⟨rfl, _, ht⟩
  have B12 := Lib.hid (B11.out.trans (ht.1.mono hg4))
  have G12 := Lib.hid (G11.out.touch ht (Nat.le_of_lt hs6))
  have TG12 := Lib.hid (TG11.out.touch ht (show w5.heap.size ≤ w7.heap.size by omega))
  have X12 := Lib.hid (ht.strsB (Nat.le_refl _) X11.out)
  have hs12 : w7.heap.size < w12.heap.size := Nat.lt_of_lt_of_le hs11 ht.1.size
  clear HMK B11 G11 TG11 HO11 U11 cu0 X11 ht hs11
  have HMX := Lib.hid (markStringS_own (.slice Ax ys.length cx) ys CN hC2 (by omega) w12 w5.heap.size X12.out (by omega))
  obtain ⟨C, hC⟩ : ∃ C : Int, (CN : Int) + (ys.length : Int) = C := ⟨_, rfl⟩
  rw [hC] at HMX
  have hC0 : ¬ C < 0 := by omega
  have HTX : Hid (∀ W, w12.grownBy W (Value.slice Ax ys.length cx).ownBlock → Touch w5.heap.size w6.heap.size w12 W) := fun W hg => Touch.grown hg (fun k hk => ⟨Nat.le_of_lt (hx5.out k hk).1, (hx5.out k hk).2⟩) (by omega)
  clear hC
  go_wp2_with fail
  refine HMX.out.mono ?_
  rintro e w13 ⟨rfl, _, hg13⟩
  have ht := HTX.out _ hg13
  have B13 := Lib.hid (B12.out.trans (ht.1.mono (show W4.heap.size ≤ w5.heap.size by omega)))
  have G13 := Lib.hid (G12.out.touch ht (Nat.le_refl _))
  have TG13 := Lib.hid (TG12.out.touch ht hs7)
  have hs13 : w7.heap.size < w13.heap.size := Nat.lt_of_lt_of_le hs12 ht.1.size
  have cg0 := TG13.out.cell.1
  have cw0 := (TW4.out.on B13.out).a
  have HE3 := Lib.hid (eqTree_any _ _ xs ws _ G13.out.at_ (TW4.out.on B13.out).2.2 hxl HXO.out)
  rw [HXW.out] at HE3
  clear HMX HTX hg13 ht B12 G12 TG12 X12 hs12 hx5
  go_wp2_with fail
  refine HE3.out.mono ?_
  rintro e w14 ⟨rfl, b14⟩
  have B14 := Lib.hid (below_trans B13.out b14)
  have G14 := Lib.hid (G13.out.on b14)
  have TG14 := Lib.hid (TG13.out.on b14)
  have hs14 : w7.heap.size < w14.heap.size := Nat.lt_of_lt_of_le hs13 b14.size
  clear HE3 b14 B13 G13 TG13 hs13 cg0 cw0
  have cg0 := TG14.out.cell.1
  have HMS := Lib.hid (markTree_nown _ xs w6.heap.size w7.heap.size w14 G14.out (by omega) HUP1.out HUP2.out (by omega) (by omega))
  obtain ⟨M, hM⟩ : ∃ M : Int, 1 + (cnt xs : Int) = M := ⟨_, rfl⟩
  rw [hM] at HMS
  have hM0 : ¬ M < 0 := by omega
  have HMM := Lib.hid hM; clear hM
  go_wp2_with fail
  refine HMS.out.mono ?_
  rintro e w15 ⟨rfl, hh15, ht⟩
  have B15 := Lib.hid (B14.out.trans (ht.1.mono (show W4.heap.size ≤ w6.heap.size by omega)))
  have H15 := Lib.hid hh15
  have TG15 := Lib.hid (TG14.out.touch ht (Nat.le_refl _))
  clear HMS hh15 B14 G14 TG14 ht cg0 hs14
  have cg0 := TG15.out.cell.1
  have HHE := Lib.hid (heldTree_nown _ xs w6.heap.size w15 H15.out (by omega) (by omega))
  rw [HMM.out] at HHE
  go_wp2_with fail
  refine HHE.out.mono ?_
  rintro e w16 ⟨rfl, b16⟩
  have B16 := Lib.hid (below_trans B15.out b16)
  have H16 := Lib.hid (H15.out.on b16)
  have TG16 := Lib.hid (TG15.out.on b16)
  have T16 := Lib.hid (T4.out.on B16.out)
  clear HHE b16 B15 H15 TG15 cg0
  have ca := T16.out.a
  go_wp2_with fail
  refine (toTree_apart _ ns _ T16.out.2.2 sa KA.out).mono ?_
  rintro e w17 ⟨g2, ts, rfl, HTS, _, hg17, ho17, b17⟩
  have htl := dat_len HTS.out
  have B17 := Lib.hid (below_trans B16.out b17)
  have H17 := Lib.hid (H16.out.on b17)
  have TG17 := Lib.hid (TG16.out.on b17)
  have HO17 := Lib.hid ho17
  clear B16 H16 TG16 T16 b17 ca ho17
  go_wp2_with fail
  refine (toStringS_any _ ys _ _ (S4.out.on B17.out) (Nat.le_refl _) s2).mono ?_
  rintro e w18 ⟨vy, rfl, hy, b18⟩
  have B18 := Lib.hid (below_trans B17.out b18)
  have H18 := Lib.hid (H17.out.on b18)
  have TG18 := Lib.hid (TG17.out.on b18)
  have HO18 := Lib.hid (HO17.out.on b18)
  have HSM2 : Hid (Calls Tryz.prog 9 #[.agg #[.slice (some ⟨g2, 0, none⟩) ts.length ns.length], .string name, vy] w18 _) := KillNode_own g2 ns.length ts name _ ys _ (HT.out.below (T4.out.on B18.out).1) (by rw [htl]; exact HO18.out) (by rw [htl]; exact Nat.le_refl _) (by rw [htl]; exact sa) (oks_dat HTS.out _ KA.out) hn1 hy.at_ s2 ZZ.out
  rw [htl] at HSM2
  clear B17 H17 TG17 HO17 hy b18
  go_wp2_with fail
  refine HSM2.out.mono ?_
  rintro e w19 ⟨vh, zs, rfl, hdz, hnz, b19⟩
  have HZD : Hid (zs.map NodeV.dat = K.map NodeV.dat) := by show _ = _; rw [hdz.out, killA_dat HTS.out, HKK.out]
  obtain ⟨Ah, ch, hvh, _⟩ := hnz.at_.form
  subst hvh
  have hb19 : Below w19.heap.size w19 (w19.alloc (.cells #[.slice Ah zs.length ch] 30)) := Joins.below_alloc1 w19 _
  have B19 := Lib.hid (below_trans (below_trans B18.out b19) hb19)
  have H19 := Lib.hid ((H18.out.on b19).on hb19)
  have TG19 := Lib.hid ((TG18.out.on b19).on hb19)
  have Z19 := Lib.hid (hnz.on hb19)
  have TZ19 : Hid (TreeIn (w19.alloc (.cells #[.slice Ah zs.length ch] 30)) w19.heap.size (.slice Ah zs.length ch)) := heap_alloc_new w19 _
  have cz0 := TZ19.out.cell.1
  have cw0 := (TW4.out.on B19.out).a
  have HE4 := Lib.hid (eqTree_any _ _ zs ws _ Z19.out.at_ (TW4.out.on B19.out).2.2 (by have := dat_len HZD.out; omega) (oks_dat HZD.out _ HKO.out))
  rw [show decide (zs.map NodeV.dat = ws.map NodeV.dat) = true from decide_eq_true (HZD.out.trans HWD.out.symm)] at HE4
  clear HSM2 B18 H18 TG18 HO18 b19 hb19 hnz hdz Z19
  go_wp2_with fail
  generalize w19.alloc (.cells #[.slice Ah zs.length ch] 30) = W19 at *
  refine HE4.out.mono ?_
  rintro e w20 ⟨rfl, b20⟩
  have B20 := Lib.hid (below_trans B19.out b20)
  have H20 := Lib.hid (H19.out.on b20)
  have TG20 := Lib.hid (TG19.out.on b20)
  clear HE4 B19 H19 TG19 TZ19 b20 cz0 cw0
  have cg0 := TG20.out.cell.1
  have HHE := Lib.hid (heldTree_nown _ xs w6.heap.size w20 H20.out (by omega) (by omega))
  rw [HMM.out] at HHE
  go_wp2_with fail
  refine HHE.out.mono ?_
  rintro e w21 ⟨rfl, b21⟩
  have B21 := Lib.hid (below_trans B20.out b21)
  clear HHE B20 b21 cg0
  go_wp2_with fail
  go_ret
  exact ⟨rfl, (T4.out.on B21.out).1⟩

end Go.Proofs.YtllamjgloilioaaGreatDoor
