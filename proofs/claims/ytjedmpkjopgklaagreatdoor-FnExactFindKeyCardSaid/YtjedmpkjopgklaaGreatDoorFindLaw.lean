/- The law of FindKey. -/
import Derived.Test.YtjedmpkjopgklaaGreatDoorFindKey2
namespace Go.Proofs.YtjedmpkjopgklaaGreatDoor
open Go.RowKit Go.ChangeShapes Go.WideShapes Go.ChangeAt Go.Deep
set_option linter.unusedVariables false

theorem fkB_dat {x y : PageV} (h : x.dat = y.dat) (t : ByteArray) : fkB x t = fkB y t := by
  obtain ⟨h1, h2, h3, h4⟩ := PageV.dat_eq h
  unfold fkB; rw [pgB_dat h, h1, h2]

set_option maxHeartbeats 1000000 in
set_option maxRecDepth 8000 in
theorem FindKey_walk (v : Value) (x : PageV) (key : ByteArray) (hkey : key.size ≤ maxLen) (w : World) (hv : v = .agg x.cells) (h : x.At w) (hok : x.Ok maxLen) (hL : laidMetH Tryz.prog Rows.fnExactFindKeyRow.laid w) (hsh : w.ShapedOpen Tryz.prog) : Calls Tryz.prog 3 #[v, .string key] w fun e w' => e = .returned (.bool true) ∧ Below w.heap.size w w' := by
  have HT := Lib.hid (T10.of_laid hL); have HM := Lib.hid (ML.of_shaped hsh); clear hL hsh
  subst hv
  have C0 := Lib.hid (CellsAt.new w x.cells 25)
  have HB0 : Hid (Below w.heap.size w (w.alloc (.cells x.cells 25))) := Joins.below_alloc1 w _
  have A0 := Lib.hid (h.on HB0.out); clear h
  obtain ⟨leaf, kv, ks, vv, vs, iv, is⟩ := x
  have HOK := Lib.hid hok; clear hok
  simp only [PageV.cells]
  unfold maxLen at hkey
  by_cases hk1 : key.size ≤ 1048576
  rotate_left
  · go_enter Tryz.func3, Tryz.ntmps3
    go_wp2_with fail
    go_ret
    exact ⟨rfl, HB0.out⟩
  go_enter Tryz.func3, Tryz.ntmps3
  go_wp2_with fail
  refine (szPage_ex ⟨leaf, kv, ks, vv, vs, iv, is⟩ 1048576 _ A0.out (by omega) (by omega) HOK.out).mono ?_
  rintro e w1 ⟨⟨q, rfl, q1, q2, hq⟩, b1⟩
  have HQ := Lib.hid hq; clear hq HOK
  have C1 := Lib.hid (C0.out.below b1)
  have A1 := Lib.hid (A0.out.on b1)
  have HB1 := Lib.hid (below_trans HB0.out b1)
  clear C0 A0 HB0 b1
  by_cases q0 : q < 0
  · go_wp2_with fail
    go_ret
    exact ⟨rfl, HB1.out⟩
  have HOK := Lib.hid (HQ.out (by omega)); clear HQ
  obtain ⟨c0, c1, c2, c3⟩ := PageV.four C1.out
  go_wp2_with fail
  refine (toPage_any ⟨leaf, kv, ks, vv, vs, iv, is⟩ _ A1.out HOK.out).mono ?_
  rintro e w2 ⟨xa, rfl, HD, ho, b2⟩
  have C2 := Lib.hid (C1.out.below b2)
  have A2 := Lib.hid (A1.out.on b2)
  have HB2 := Lib.hid (below_trans HB1.out b2)
  have HAt := Lib.hid ho.at_
  have HOKa := Lib.hid (PageV.ok_dat HD.out _ HOK.out)
  have HE := Lib.hid (fkB_dat HD.out key)
  clear C1 A1 HB1 b2 c0 c1 c2 c3 ho
  go_wp2_with fail
  refine (sFindKey_any xa key _ (HT.out.below HB2.out) (HM.out.below HB2.out) HAt.out HOKa.out).mono ?_
  rintro e w3 ⟨rfl, b3⟩
  rw [HE.out]
  obtain ⟨V1, V2, hV⟩ : ∃ V1 V2, fkB ⟨leaf, kv, ks, vv, vs, iv, is⟩ key = (V1, V2) := ⟨_, _, rfl⟩
  have HVV := Lib.hid hV; clear hV
  rw [HVV.out]
  simp only
  have C3 := Lib.hid (C2.out.below b3)
  have A3 := Lib.hid (A2.out.on b3)
  have HB3 := Lib.hid (below_trans HB2.out b3)
  clear C2 A2 HB2 b3 HAt HOKa HE HD
  obtain ⟨c0, c1, c2, c3⟩ := PageV.four C3.out
  go_wp2_with fail
  refine (toPage_any ⟨leaf, kv, ks, vv, vs, iv, is⟩ _ A3.out HOK.out).mono ?_
  rintro e w4 ⟨xb, rfl, HD, ho, b4⟩
  have D0 := Lib.hid (CellsAt.new w4 xb.cells 29)
  have b4a : Below w4.heap.size w4 (w4.alloc (.cells xb.cells 29)) := Joins.below_alloc1 w4 _
  have b4' := below_trans b4 b4a
  have C4 := Lib.hid (C3.out.below b4')
  have A4 := Lib.hid (A3.out.on b4')
  have HB4 := Lib.hid (below_trans HB3.out b4')
  have HAt := Lib.hid (ho.at_.on b4a)
  have HOKb := Lib.hid (PageV.ok_dat HD.out _ HOK.out)
  have HE := Lib.hid (fkB_dat HD.out key)
  clear C3 A3 HB3 b4 b4' b4a c0 c1 c2 c3 ho
  obtain ⟨lb, kb, ksb, vb, vsb, ib, isb⟩ := xb
  obtain ⟨Ak, ck, hkb, _, _⟩ := id HAt.out.1
  replace hkb : kb = .slice Ak ksb.length ck := hkb
  subst hkb
  obtain ⟨Av, cv, hvb, _, _⟩ := id HAt.out.2.1
  replace hvb : vb = .slice Av vsb.length cv := hvb
  subst hvb
  obtain ⟨Ai, ci, hib, _, _⟩ := id HAt.out.2.2.1
  replace hib : ib = .slice Ai isb.length ci := hib
  subst hib
  simp only [PageV.cells]
  go_wp2_with fail
  refine (FindKey_any ⟨lb, _, ksb, _, vsb, _, isb⟩ key _ (HT.out.below HB4.out) (HM.out.below HB4.out) HAt.out HOKb.out).mono ?_
  rintro e w5 ⟨rfl, b5⟩
  rw [HE.out, HVV.out]
  simp only
  have C5 := Lib.hid (C4.out.below b5)
  have D5 := Lib.hid (D0.out.below b5)
  have A5 := Lib.hid (A4.out.on b5)
  have HB5 := Lib.hid (below_trans HB4.out b5)
  have HAt5 := Lib.hid (HAt.out.on b5)
  clear C4 A4 HB4 b5 HAt D0 HE
  obtain ⟨c0, c1, c2, c3⟩ := PageV.four C5.out
  obtain ⟨d0, d1, d2, d3⟩ := PageV.four D5.out
  go_wp2_with fail
  have A6 : Hid (PageV.At ⟨leaf, kv, ks, vv, vs, iv, is⟩ w5.drew) := A5.out
  have D6 : Hid (CellsAt w5.drew w4.heap.size (PageV.cells ⟨lb, .slice Ak ksb.length ck, ksb, .slice Av vsb.length cv, vsb, .slice Ai isb.length ci, isb⟩).toList) := D5.out
  have E6 : Hid (PageV.At ⟨lb, .slice Ak ksb.length ck, ksb, .slice Av vsb.length cv, vsb, .slice Ai isb.length ci, isb⟩ w5.drew) := HAt5.out
  have HB6 : Hid (Below w.heap.size w w5.drew) := HB5.out.drew
  go_region_with (first | (go_at_call 11; refine (toPage_any ⟨leaf, kv, ks, vv, vs, iv, is⟩ _ A6.out HOK.out).mono ?_; rintro e w6 ⟨xc, rfl, HDc, ho, b6⟩; have HD7 := Lib.hid (CellsAt.below D6.out b6); have HAx := Lib.hid (E6.out.on b6); have HAc := Lib.hid ho.at_; have HB7 := Lib.hid (below_trans HB6.out b6); obtain ⟨d0', d1', d2', d3'⟩ := PageV.four HD7.out; clear b6 ho) | (go_at_call 13; refine (eqPage_any ⟨lb, .slice Ak ksb.length ck, ksb, .slice Av vsb.length cv, vsb, .slice Ai isb.length ci, isb⟩ xc _ HAx.out HAc.out HOKb.out).mono ?_; rintro e w7 ⟨rfl, b7⟩; rw [decide_eq_true (HD.out.trans HDc.out.symm)]))
  all_goals
    go_wp2_with fail
    go_ret
    exact ⟨rfl, below_trans HB7.out b7⟩

end Go.Proofs.YtjedmpkjopgklaaGreatDoor
