/- The law of NamesOf. -/
import Derived.Test.YtjedmpkjopgklaaGreatDoorNamesA
import Derived.Deep.RegionHeld3
namespace Go.Proofs.YtjedmpkjopgklaaGreatDoor
open Go.RowKit Go.ChangeShapes Go.WideShapes Go.ChangeAt Go.Deep
set_option linter.unusedVariables false

theorem cnt_dat {a b : List NodeV} (h : a.map NodeV.dat = b.map NodeV.dat) : cnt a = cnt b := by
  have : ∀ l : List NodeV, cnt l = ((l.map NodeV.dat).map fun d => d.2.1.length + 2).sum := fun l => by unfold cnt; rw [List.map_map]; rfl
  rw [this, this, h]

theorem namesL_len (ns : List NodeV) : (namesL ns).length ≤ ns.length := by
  unfold namesL
  split
  · have := Lib.compact_length_le (bytesOf (nmB ns)); simpa [bytesOf, nmB] using this
  · simp

theorem bytesOf_len (ys : List ByteArray) : (bytesOf ys).length = ys.length := by simp [bytesOf]

theorem Below.big {B : Nat} {a b c : World} (h : Below B a b) (k : Below b.heap.size b c) (hb : B ≤ b.heap.size) : Below B a c := h.trans (k.mono hb)

set_option maxHeartbeats 2000000 in
set_option maxRecDepth 8000 in
theorem NamesOf_walk (v0 : Value) (x0 : Value × List NodeV) (w : World) (e0 : v0 = .agg #[x0.1]) (h0 : NodesAt w x0.1 x0.2) (k0 : x0.2.length ≤ maxLen ∧ ∀ n ∈ x0.2, n.Ok maxLen) (hL : laidMetH Tryz.prog Rows.fnExactFindKeyRow.laid w) (hsh : w.ShapedOpen Tryz.prog) :
    Calls Tryz.prog 5 #[v0] w fun e w' => e = .returned (.bool true) ∧ Below w.heap.size w w' := by
  have HT := Lib.hid (T10.of_laid hL); clear hL hsh
  obtain ⟨va, ns⟩ := x0
  simp only at *
  subst e0
  obtain ⟨la, oa⟩ := k0
  have OA := Lib.hid oa; clear oa
  have T0 := Lib.hid (T1.new 35 h0)
  obtain ⟨A, c, rfl, _, _⟩ := h0
  obtain ⟨D, hD⟩ : ∃ D, namesL ns = D := ⟨_, rfl⟩
  have HDD := Lib.hid hD
  have HDL : Hid (D.length ≤ ns.length) := by show _; rw [← hD]; exact namesL_len ns
  clear hD
  go_enter Tryz.func5, Tryz.ntmps5
  go_wp2_with fail
  refine (szTree_sum _ ns 1048576 _ T0.out.2.2 (by omega) (by omega) la OA.out).mono ?_
  rintro e w1 ⟨⟨q, rfl, q1, q2, hq⟩, b1⟩
  have HQ := Lib.hid hq; clear hq
  have TT1 := Lib.hid (T0.out.on b1); clear T0 b1
  by_cases q0 : q < 0
  · go_wp2_with fail
    go_ret
    exact ⟨rfl, TT1.out.1⟩
  have KA := Lib.hid (HQ.out (by omega)).2.1
  have sa := (HQ.out (by omega)).1
  have HCN := Lib.hid (HQ.out (by omega)).2.2
  clear HQ OA
  have ca := TT1.out.a
  go_wp2_with fail
  refine (toTree_any _ ns _ TT1.out.2.2 sa KA.out).mono ?_
  rintro e w2 ⟨vs, ss, rfl, HSs, hns, b2⟩
  have T2 := Lib.hid (TT1.out.on b2)
  have HSP := Lib.hid (sNamesOf_any vs ss _ hns (by rw [dat_len HSs.out]; exact sa) (oks_dat HSs.out _ KA.out))
  rw [namesL_dat HSs.out, HDD.out] at HSP
  clear TT1 b2 ca hns
  have ca := T2.out.a
  go_wp2_with fail
  refine HSP.out.mono ?_
  rintro e w3 ⟨⟨vw, yw, rfl, HYW, hsw⟩, b3⟩
  have T3 := Lib.hid (T2.out.on b3)
  have SW3 := Lib.hid (Strs.at_ hsw)
  have hyl : yw.length ≤ 1048576 := by have := HDL.out; rw [← HYW.out, bytesOf_len] at this; omega
  clear T2 b3 ca HSP hsw
  have ca := T3.out.a
  go_wp2_with fail
  refine (toTree_apart _ ns _ T3.out.2.2 sa KA.out).mono ?_
  rintro e w4 ⟨g, us, rfl, HU, HAP, hg3, ho4, b4⟩
  have hul := dat_len HU.out
  have HO4 := Lib.hid ho4
  have HO4R := Lib.hid ho4.rows
  have hg4 : g < w4.heap.size := ho4.lt
  have U4 := Lib.hid (T1.new 42 (ho4.at_ hul (Nat.le_refl _)))
  have HAL : Hid (Below w4.heap.size w4 (w4.alloc (.cells #[.slice (some ⟨g, 0, none⟩) ns.length ns.length] 42))) := Joins.below_alloc1 w4 _
  have B4 : Hid (Below w3.heap.size w3 (w4.alloc (.cells #[.slice (some ⟨g, 0, none⟩) ns.length ns.length] 42))) := below_trans b4 HAL.out
  have hz4 : w4.heap.size < (w4.alloc (.cells #[.slice (some ⟨g, 0, none⟩) ns.length ns.length] 42)).heap.size := by simp
  have HZ4 := Lib.hid hz4
  clear b4 ho4 ca hz4
  have ca := (T3.out.on B4.out).a
  have cu0 := U4.out.a
  have HSM := Lib.hid (NamesOf_any _ us _ (HT.out.below (T3.out.on B4.out).1) U4.out.2.2 (by rw [hul]; exact sa) (oks_dat HU.out _ KA.out))
  rw [namesL_dat HU.out, HDD.out] at HSM
  go_wp2_with fail
  refine HSM.out.mono ?_
  rintro e w5 ⟨⟨vg, yg, rfl, HYG, hsg⟩, b5⟩
  obtain rfl : yg = yw := bytesOf_inj (HYG.out.trans HYW.out.symm)
  have B5 := Lib.hid (below_trans B4.out b5)
  have U5 := Lib.hid (U4.out.on b5)
  have HO5 := Lib.hid ((HO4.out.on HAL.out).on b5)
  have SG5 := Lib.hid (Joins.ownsRow_le hsg (Nat.le_of_lt HZ4.out))
  have hs5 : w4.heap.size < w5.heap.size := Nat.lt_of_lt_of_le HZ4.out b5.size
  have HE1 := Lib.hid (eqStringS_any vg vw yg yg w5 w5.heap.size (Strs.at_ SG5.out) (SW3.out.on B5.out) hyl)
  rw [show decide (yg = yg) = true from decide_eq_true rfl] at HE1
  clear HSM b5 hsg ca cu0 B4 U4 HO4 HAL
  go_wp2_with fail
  refine HE1.out.mono ?_
  rintro e w6' ⟨rfl, n6, rfl⟩
  obtain ⟨w6, hw6⟩ : ∃ w6, w5.drewN n6 = w6 := ⟨_, rfl⟩
  have b6 : Below w5.heap.size w5 w6 := by rw [← hw6]; exact below_drewN _ _
  rw [hw6]
  clear hw6
  have B6 := Lib.hid ((below_trans B5.out b6).drew)
  have U6 := Lib.hid (U5.out.on b6).drew
  have HO6 := Lib.hid (NodesOwn.on (HO5.out.on b6) (below_refl w6).drew)
  have SG6 := Lib.hid (Strs.below (Strs.below SG5.out b6) (below_refl w6).drew)
  have hs6 : w4.heap.size < w6.heap.size := Nat.lt_of_lt_of_le hs5 b6.size
  clear HE1 b6 B5 U5 HO5 SG5 hs5
  have T6 := Lib.hid (T3.out.on B6.out)
  have ca : w6.cell? ⟨w.heap.size, 0, none⟩ = some (.slice A ns.length c) := T6.out.a
  have cu0 : w6.cell? ⟨w4.heap.size, 0, none⟩ = some (.slice (some ⟨g, 0, none⟩) ns.length ns.length) := U6.out.a
  go_wp2_with fail
  have HS0 : w6.drew.cell? ⟨w.heap.size, 0, none⟩ = some (.slice A ns.length c) ∧ w6.drew.cell? ⟨w4.heap.size, 0, none⟩ = some (.slice (some ⟨g, 0, none⟩) ns.length ns.length) := ⟨T6.out.a, U6.out.a⟩
  go_region_held3 (fun W => W.cell? ⟨w.heap.size, 0, none⟩ = some (.slice A ns.length c) ∧ W.cell? ⟨w4.heap.size, 0, none⟩ = some (.slice (some ⟨g, 0, none⟩) ns.length ns.length)) (first | exact HS0 | exact HS5 | exact HS6)
    (first | (go_at_call 17; refine (toTree_any _ ns _ T6.out.2.2 sa KA.out).mono ?_; rintro e wa ⟨xc, ts, rfl, HTS, hnt, ba⟩; have HBA := Lib.hid ba; have TA := Lib.hid (T6.out.on ba); have UA := Lib.hid (U6.out.on ba); have HS5 := And.intro TA.out.a UA.out.a; have HE := Lib.hid (eqTree_any _ _ us ts _ UA.out.2.2 hnt (by rw [hul]; exact sa) (oks_dat HU.out _ KA.out)); rw [show decide (us.map NodeV.dat = ts.map NodeV.dat) = true from decide_eq_true (HU.out.trans HTS.out.symm)] at HE; clear hnt ba) | (go_at_call 21; refine HE.out.mono ?_; rintro e wb ⟨rfl, bb⟩; have HBB := Lib.hid bb; have TB := Lib.hid (TA.out.on bb); have UB := Lib.hid (UA.out.on bb); have HS6 := And.intro TB.out.a UB.out.a; clear bb))
  have B7 := Lib.hid (below_trans (below_trans B6.out HBA.out) HBB.out)
  have HO7 := Lib.hid ((HO6.out.on HBA.out).on HBB.out)
  have SG7 := Lib.hid (Strs.below (Strs.below SG6.out HBA.out) HBB.out)
  have hs7 : w4.heap.size < wb.heap.size := by have h1 := HBA.out.size; have h2 := HBB.out.size; have h3 : w6.drew.heap.size = w6.heap.size := rfl; omega
  have cu7 := UB.out.a
  clear T6 U6 TA UA HE ca cu0 B6 HO6 SG6 HBA HBB HS0 HS5 HS6 TB UB
  have HMK := Lib.hid (markTree_own g ns.length ns.length w4.heap.size us wb HO7.out HAP.out (fun r hr b hb => (HO4R.out r hr b hb).2) hg4 (by rw [cnt_dat HU.out]; have := HCN.out; omega) (by rw [hul]; omega))
  rw [cnt_dat HU.out, hul] at HMK
  obtain ⟨C, hC⟩ : ∃ C : Int, 1 + (cnt ns : Int) = C := ⟨_, rfl⟩
  rw [hC] at HMK
  have hC0 : ¬ C < 0 := by omega
  clear hC
  go_wp2_with fail
  refine HMK.out.mono ?_
  rintro e w8 ⟨rfl, _, ht⟩
  have B8 := Lib.hid (B7.out.trans (ht.1.mono hg3))
  have SG8 := Lib.hid (ht.strs SG7.out)
  have hs8 : w4.heap.size < w8.heap.size := Nat.lt_of_lt_of_le hs7 ht.1.size
  have HE2 := Lib.hid (eqStringS_any vg vw yg yg w8 w8.heap.size (Strs.at_ SG8.out) (SW3.out.on B8.out) hyl)
  rw [show decide (yg = yg) = true from decide_eq_true rfl] at HE2
  clear HMK B7 SG7 HO7 ht cu7
  go_wp2_with fail
  refine HE2.out.mono ?_
  rintro e w9' ⟨rfl, n9, rfl⟩
  obtain ⟨w9, hw9⟩ : ∃ w9, w8.drewN n9 = w9 := ⟨_, rfl⟩
  have b9 : Below w8.heap.size w8 w9 := by rw [← hw9]; exact below_drewN _ _
  rw [hw9]
  clear hw9
  have B9 := Lib.hid (below_trans B8.out b9)
  have SG9 := Lib.hid (Strs.below SG8.out b9)
  have hs9 : w4.heap.size < w9.heap.size := Nat.lt_of_lt_of_le hs8 b9.size
  clear HE2 B8 SG8 b9
  have HMS : Hid (Calls Tryz.prog 23 #[vg, .int .i64 1] w9 _) := markStringS_own vg yg 1 (by omega) (by omega) w9 w4.heap.size SG9.out (by omega)
  obtain ⟨M, hM⟩ : ∃ M : Int, ((1 : Nat) : Int) + (yg.length : Int) = M := ⟨_, rfl⟩
  rw [hM] at HMS
  have hM0 : ¬ M < 0 := by omega
  have HMM := Lib.hid hM; clear hM
  have hgr : ∀ W, w9.grownBy W vg.ownBlock → Below w4.heap.size w9 W := fun W hg => (Below.refl w4.heap.size w9).grown hg (by omega) (fun k hk => (World.ownsRow.lt SG9.out k hk).1)
  have HGR := Lib.hid hgr; clear hgr
  go_wp2_with fail
  refine HMS.out.mono ?_
  rintro e w10 ⟨rfl, hs10, hg10⟩
  have hb10 := HGR.out _ hg10
  have B10 := Lib.hid (B9.out.trans (hb10.mono (show w3.heap.size ≤ w4.heap.size by omega)))
  have SM10 := Lib.hid hs10
  clear HMS HGR hg10 hs10 B9 SG9 hb10
  have HHE : Hid (Calls Tryz.prog 24 #[vg, .int .i64 1] w10 _) := heldStringS_own vg yg.length 1 (by omega) (by omega) w10 w4.heap.size SM10.out
  rw [HMM.out] at HHE
  go_wp2_with fail
  refine HHE.out.mono ?_
  rintro e w11 ⟨rfl, b11⟩
  have B11 := Lib.hid (B10.out.trans (b11.mono (B10.out.size)))
  have SM11 := Lib.hid (Strs.below SM10.out b11)
  have T11 := Lib.hid (T3.out.on B11.out)
  clear HHE b11 B10 SM10
  have ca := T11.out.a
  go_wp2_with fail
  refine (toTree_any _ ns _ T11.out.2.2 sa KA.out).mono ?_
  rintro e w12 ⟨vt, ts, rfl, HTS, hnt, b12⟩
  have B12 := Lib.hid (below_trans B11.out b12)
  have SM12 := Lib.hid (Strs.below SM11.out b12)
  have HSM2 := Lib.hid (NamesOf_any vt ts _ (HT.out.below (T3.out.on B12.out).1) hnt (by rw [dat_len HTS.out]; exact sa) (oks_dat HTS.out _ KA.out))
  rw [namesL_dat HTS.out, HDD.out] at HSM2
  clear B11 SM11 T11 b12 hnt ca
  go_wp2_with fail
  refine HSM2.out.mono ?_
  rintro e w13 ⟨⟨vh, yh, rfl, HYH, hsh⟩, b13⟩
  obtain rfl : yh = yg := bytesOf_inj (HYH.out.trans HYG.out.symm)
  have B13 := Lib.hid (below_trans B12.out b13)
  have SM13 := Lib.hid (Strs.below SM12.out b13)
  have HE3 := Lib.hid (eqStringS_any vh vw yh yh w13 w13.heap.size (Strs.at_ hsh) (SW3.out.on B13.out) hyl)
  rw [show decide (yh = yh) = true from decide_eq_true rfl] at HE3
  clear HSM2 B12 SM12 b13 hsh
  go_wp2_with fail
  refine HE3.out.mono ?_
  rintro e w14' ⟨rfl, n14, rfl⟩
  obtain ⟨w14, hw14⟩ : ∃ w14, w13.drewN n14 = w14 := ⟨_, rfl⟩
  have b14 : Below w13.heap.size w13 w14 := by rw [← hw14]; exact below_drewN _ _
  rw [hw14]
  clear hw14
  have B14 := Lib.hid (below_trans B13.out b14)
  have SM14 := Lib.hid (Strs.below SM13.out b14)
  have HHE : Hid (Calls Tryz.prog 24 #[vg, .int .i64 1] w14 _) := heldStringS_own vg yh.length 1 (by omega) (by omega) w14 w4.heap.size SM14.out
  rw [HMM.out] at HHE
  clear HE3 B13 SM13 b14 SM14
  go_wp2_with fail
  refine HHE.out.mono ?_
  rintro e w15 ⟨rfl, b15⟩
  have B15 := Lib.hid (below_trans B14.out b15)
  clear HHE B14 b15
  go_wp2_with fail
  go_ret
  exact ⟨rfl, (T3.out.on B15.out).1⟩

end Go.Proofs.YtjedmpkjopgklaaGreatDoor
