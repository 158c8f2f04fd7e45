/- SamePage: an argument that is a page, opened; the walk of the law. -/
import Derived.Test.YtbmdjipkfabnhaaPageS
import Derived.RegionTactic
import Derived.Deep.RegionWith
import Derived.Deep.DeepCutAuto
import Derived.ChangeSlices
import Derived.ChangeArms
namespace Go.Proofs.Ytbmdjipkfabnhaa
open Go.RowKit Go.ChangeShapes Go.WideShapes Go.ChangeAt Go.Deep
set_option linter.unusedVariables false

theorem cells_i64 : Try.prog.cellsOf 2 = 1 := by kernel_rfl

theorem ints_of_trod {H : Type} {enc : TypeId × Value → H} {W : World} {v : Value} {fuel : Nat} {x : DataW H × List MemPlace}
    (hf : DataW.trod enc Try.prog W 0 (fun _ => true) true fuel 40 [v] = some x) : ∃ xs, IntsAt W W.heap.size v xs ∧ xs.length ≤ maxLen := by
  rcases open_ints Try.underlying40 Try.underlying2 cells_i64 hf with ⟨hcs, hx⟩ | ⟨a, len, cap, ss, hcs, _, hl, hm, hz, hx, hcell, hws⟩
  · simp only [List.cons.injEq, and_true] at hcs
    subst hcs
    exact ⟨[], ⟨none, 0, rfl, Nat.le_refl _, Reads.none_⟩, by unfold maxLen; simp⟩
  · simp only [List.cons.injEq, and_true] at hcs
    subst hcs
    have hlen : (ss.take len).length = len := by rw [List.length_take]; simp at hz; omega
    refine ⟨ss.take len, ⟨some a, cap, by rw [hlen], by rw [hlen]; exact hl, ⟨by simp [intVs], fun hn => ⟨a, rfl, ?_, ?_⟩⟩⟩, by rw [hlen]; omega⟩
    · rw [hlen] at hn
      have := lt_of_cell (hcell 0 (by simp at hz; omega))
      rwa [block_of_add] at this
    · intro j u hu
      simp only [intVs, List.getElem?_map] at hu
      have hj : j < len := by
        rcases Nat.lt_or_ge j len with h | h
        · exact h
        · rw [List.getElem?_eq_none (by omega)] at hu; cases hu
      have hjs : j < ss.length := by simp at hz; omega
      rw [hcell j hjs]
      rw [List.getElem?_take_of_lt hj, List.getElem?_eq_getElem hjs] at hu
      simp at hu; subst hu
      simp [List.getD, List.getElem?_eq_getElem hjs]

set_option maxRecDepth 20000 in
theorem open_pageV {H : Type} {enc : TypeId × Value → H} {W : World} {base : Nat} {v : Value} {d : DataW H} {p : List MemPlace} (hk : Value.okWide Try.prog W .any base 42 v)
    (h : DataW.Trod enc Try.prog W 0 (fun _ => true) true 42 v d p) : ∃ x : PageV, v = .agg x.cells ∧ x.At W ∧ x.Ok maxLen := by
  obtain ⟨v0, v1, v2, v3, y0, y1, y2, y3, n, rfl, _, _, h0, h1, h2, h3⟩ := Joins.open_agg4 Try.underlying42 (by kernel_rfl) (by kernel_rfl) hk h
  obtain ⟨b, hb, _⟩ := DataW.trod_bool Try.underlying4 h0
  obtain ⟨xs, hx, hxl, hxz⟩ := strs_of_trod h1
  obtain ⟨ys, hy, hyl, hyz⟩ := strs_of_trod h2
  obtain ⟨zs, hz, hzl⟩ := ints_of_trod h3
  simp only [List.cons.injEq, and_true] at hb
  subst hb
  exact ⟨⟨b, v1, xs, v2, ys, v3, zs⟩, rfl, ⟨hx, hy, hz, trivial⟩, ⟨hxl, hxz⟩, ⟨hyl, hyz⟩, hzl, trivial⟩

set_option maxRecDepth 8000 in
theorem SamePage_any (x y : PageV) (w : World) (hx : x.At w) (hy : y.At w) (hok : x.Ok 1048576) :
    Calls Try.prog 21 #[.agg x.cells, .agg y.cells] w fun e w' => e = .returned (.bool (decide (x.dat = y.dat))) ∧ Below w.heap.size w w' := by
  obtain ⟨R, hR⟩ : ∃ R : Bool, decide (x.dat = y.dat) = R := ⟨_, rfl⟩
  rw [hR]
  have HR := Lib.hid hR; clear hR
  have hba : Below w.heap.size w ((w.alloc (.cells x.cells 45)).alloc (.cells y.cells 45)) := Joins.below_alloc2 w _ _
  have hX := hx.on hba
  have hY := hy.on hba
  obtain ⟨leaf, kv, keys, vv, vals, iv, kids⟩ := x
  obtain ⟨leaf2, kv2, keys2, vv2, vals2, iv2, kids2⟩ := y
  obtain ⟨⟨hl1, hz1⟩, ⟨hl2, hz2⟩, hl3, _⟩ := hok
  obtain ⟨hx1, hx2, hx3, _⟩ := hx
  obtain ⟨hy1, hy2, hy3, _⟩ := hy
  obtain ⟨hX1, hX2, hX3, _⟩ := hX
  obtain ⟨hY1, hY2, hY3, _⟩ := hY
  simp only [PageV.cells] at *
  have HV : Hid (∀ b : Bool, (b = true ↔ leaf = leaf2 ∧ keys = keys2 ∧ vals = vals2 ∧ kids = kids2) → R = b) := fun b hb => by
    rw [← HR.out]
    have e : (PageV.dat ⟨leaf, kv, keys, vv, vals, iv, kids⟩ = PageV.dat ⟨leaf2, kv2, keys2, vv2, vals2, iv2, kids2⟩) ↔ (leaf = leaf2 ∧ keys = keys2 ∧ vals = vals2 ∧ kids = kids2) := by simp [PageV.dat]
    cases b
    · rw [decide_eq_false_iff_not, e]; exact fun h => by simpa using hb.2 h
    · rw [decide_eq_true_iff, e]; exact hb.1 rfl
  clear HR hz1 hz2
  have HX1 := Lib.hid hX1; have HX2 := Lib.hid hX2; have HX3 := Lib.hid hX3
  have HY1 := Lib.hid hY1; have HY2 := Lib.hid hY2; have HY3 := Lib.hid hY3
  clear hX1 hX2 hX3 hY1 hY2 hY3
  obtain ⟨A1, c1, rfl, _, _⟩ := id hx1
  obtain ⟨A2, c2, rfl, _, _⟩ := id hx2
  obtain ⟨A3, c3, rfl, _, _⟩ := id hx3
  obtain ⟨B1, d1, rfl, _, _⟩ := id hy1
  obtain ⟨B2, d2, rfl, _, _⟩ := id hy2
  obtain ⟨B3, d3, rfl, _, _⟩ := id hy3
  clear hx1 hx2 hx3 hy1 hy2 hy3
  by_cases hn : leaf = leaf2
  rotate_left
  · have e1 : (leaf == leaf2) = false := by simpa using hn
    go_enter Try.func21, Try.ntmps21
    go_wp2_with fail
    go_ret
    exact ⟨ret_bool (HV.out false (by simp [hn])).symm, hba⟩
  subst hn
  have e1 : (leaf == leaf) = true := by simp
  go_enter Try.func21, Try.ntmps21
  go_wp2_with fail
  refine (slicesEqual_any _ _ keys keys2 _ _ HX1.out HY1.out hl1).mono ?_
  rintro e w1 ⟨rfl, n1, rfl⟩
  by_cases h1 : keys = keys2
  rotate_left
  · rw [decide_eq_false h1]
    go_wp2_with fail
    go_ret
    exact ⟨ret_bool (HV.out false (by simp [h1])).symm, below_trans hba (below_drewN _ _)⟩
  rw [decide_eq_true h1]
  have H1 := Lib.hid h1; clear h1
  go_wp2_with fail
  refine (slicesEqual_any _ _ vals vals2 _ _ (HX2.out.on (below_drewN _ n1)) (HY2.out.on (below_drewN _ n1)) hl2).mono ?_
  rintro e w1 ⟨rfl, n2, rfl⟩
  by_cases h1 : vals = vals2
  rotate_left
  · rw [decide_eq_false h1]
    go_wp2_with fail
    go_ret
    exact ⟨ret_bool (HV.out false (by simp [h1])).symm, by have hq := below_trans (below_trans hba (below_drewN _ n1)) (below_drewN _ n2); simp only [World.drewN_drewN] at hq ⊢; exact hq⟩
  rw [decide_eq_true h1]
  have H2 := Lib.hid h1; clear h1
  go_wp2_with fail
  have hq := below_trans hba (below_drewN _ (n1 + n2))
  refine (slicesEqualI_any _ _ kids kids2 _ _ (HX3.out.on (below_drewN _ (n1 + n2))) (HY3.out.on (below_drewN _ (n1 + n2))) hl3).mono ?_
  rintro e w1 ⟨rfl, n3, rfl⟩
  have hq3 := below_trans hq (below_drewN _ n3)
  have HQ3 := Lib.hid hq3; clear hq hq3
  go_wp2_with fail
  go_ret
  refine ⟨ret_bool (HV.out _ ?_).symm, by have hq := HQ3.out; simp only [World.drewN_drewN] at hq ⊢; exact hq⟩
  simp [H1.out, H2.out]

set_option maxRecDepth 8000 in
theorem sSamePage_any (x y : PageV) (w : World) (hx : x.At w) (hy : y.At w) (hok : x.Ok 1048576) :
    Calls Try.prog 19 #[.agg x.cells, .agg y.cells] w fun e w' => e = .returned (.bool (decide (x.dat = y.dat))) ∧ Below w.heap.size w w' := by
  obtain ⟨R, hR⟩ : ∃ R : Bool, decide (x.dat = y.dat) = R := ⟨_, rfl⟩
  rw [hR]
  have HR := Lib.hid hR; clear hR
  have hba : Below w.heap.size w ((w.alloc (.cells x.cells 45)).alloc (.cells y.cells 45)) := Joins.below_alloc2 w _ _
  have hX := hx.on hba
  have hY := hy.on hba
  obtain ⟨leaf, kv, keys, vv, vals, iv, kids⟩ := x
  obtain ⟨leaf2, kv2, keys2, vv2, vals2, iv2, kids2⟩ := y
  obtain ⟨⟨hl1, hz1⟩, ⟨hl2, hz2⟩, hl3, _⟩ := hok
  obtain ⟨hx1, hx2, hx3, _⟩ := hx
  obtain ⟨hy1, hy2, hy3, _⟩ := hy
  obtain ⟨hX1, hX2, hX3, _⟩ := hX
  obtain ⟨hY1, hY2, hY3, _⟩ := hY
  simp only [PageV.cells] at *
  have HV : Hid (∀ b : Bool, (b = true ↔ leaf = leaf2 ∧ keys = keys2 ∧ vals = vals2 ∧ kids = kids2) → R = b) := fun b hb => by
    rw [← HR.out]
    have e : (PageV.dat ⟨leaf, kv, keys, vv, vals, iv, kids⟩ = PageV.dat ⟨leaf2, kv2, keys2, vv2, vals2, iv2, kids2⟩) ↔ (leaf = leaf2 ∧ keys = keys2 ∧ vals = vals2 ∧ kids = kids2) := by simp [PageV.dat]
    cases b
    · rw [decide_eq_false_iff_not, e]; exact fun h => by simpa using hb.2 h
    · rw [decide_eq_true_iff, e]; exact hb.1 rfl
  clear HR hz1 hz2
  have HX1 := Lib.hid hX1; have HX2 := Lib.hid hX2; have HX3 := Lib.hid hX3
  have HY1 := Lib.hid hY1; have HY2 := Lib.hid hY2; have HY3 := Lib.hid hY3
  clear hX1 hX2 hX3 hY1 hY2 hY3
  obtain ⟨A1, c1, rfl, _, _⟩ := id hx1
  obtain ⟨A2, c2, rfl, _, _⟩ := id hx2
  obtain ⟨A3, c3, rfl, _, _⟩ := id hx3
  obtain ⟨B1, d1, rfl, _, _⟩ := id hy1
  obtain ⟨B2, d2, rfl, _, _⟩ := id hy2
  obtain ⟨B3, d3, rfl, _, _⟩ := id hy3
  clear hx1 hx2 hx3 hy1 hy2 hy3
  by_cases hn : leaf = leaf2
  rotate_left
  · have e1 : (leaf == leaf2) = false := by simpa using hn
    go_enter Try.func19, Try.ntmps19
    go_wp2_with fail
    go_ret
    exact ⟨ret_bool (HV.out false (by simp [hn])).symm, hba⟩
  subst hn
  have e1 : (leaf == leaf) = true := by simp
  go_enter Try.func19, Try.ntmps19
  go_wp2_with fail
  refine (sSameSubs_any _ _ keys keys2 _ _ HX1.out HY1.out hl1).mono ?_
  rintro e w1 ⟨rfl, n1, rfl⟩
  by_cases h1 : keys = keys2
  rotate_left
  · rw [decide_eq_false h1]
    go_wp2_with fail
    go_ret
    exact ⟨ret_bool (HV.out false (by simp [h1])).symm, below_trans hba (below_drewN _ _)⟩
  rw [decide_eq_true h1]
  have H1 := Lib.hid h1; clear h1
  go_wp2_with fail
  refine (sSameSubs_any _ _ vals vals2 _ _ (HX2.out.on (below_drewN _ n1)) (HY2.out.on (below_drewN _ n1)) hl2).mono ?_
  rintro e w1 ⟨rfl, n2, rfl⟩
  by_cases h1 : vals = vals2
  rotate_left
  · rw [decide_eq_false h1]
    go_wp2_with fail
    go_ret
    exact ⟨ret_bool (HV.out false (by simp [h1])).symm, by have hq := below_trans (below_trans hba (below_drewN _ n1)) (below_drewN _ n2); simp only [World.drewN_drewN] at hq ⊢; exact hq⟩
  rw [decide_eq_true h1]
  have H2 := Lib.hid h1; clear h1
  go_wp2_with fail
  have hq := below_trans hba (below_drewN _ (n1 + n2))
  refine (l00Same_any _ _ kids kids2 _ _ (HX3.out.on (below_drewN _ (n1 + n2))) (HY3.out.on (below_drewN _ (n1 + n2))) hl3).mono ?_
  rintro e w1 ⟨rfl, n3, rfl⟩
  have hq3 := below_trans hq (below_drewN _ n3)
  have HQ3 := Lib.hid hq3; clear hq hq3
  go_wp2_with fail
  go_ret
  refine ⟨ret_bool (HV.out _ ?_).symm, by have hq := HQ3.out; simp only [World.drewN_drewN] at hq ⊢; exact hq⟩
  simp [H1.out, H2.out]

theorem PageV.four {w : World} {g : Nat} {x : PageV} (h : CellsAt w g x.cells.toList) : w.cell? ⟨g, 0, none⟩ = some (.bool x.leaf) ∧ w.cell? ⟨g, 1, none⟩ = some x.keysv ∧ w.cell? ⟨g, 2, none⟩ = some x.valsv ∧ w.cell? ⟨g, 3, none⟩ = some x.kidsv :=
  ⟨h.2 0 _ rfl, h.2 1 _ rfl, h.2 2 _ rfl, h.2 3 _ rfl⟩

theorem PageV.ok_dat {x y : PageV} (h : x.dat = y.dat) (M : Nat) (hy : y.Ok M) : x.Ok M := by
  obtain ⟨a, b, c, d, e, f, g⟩ := x
  obtain ⟨a2, b2, c2, d2, e2, f2, g2⟩ := y
  simp only [PageV.dat, Prod.mk.injEq] at h
  obtain ⟨rfl, rfl, rfl, rfl⟩ := h
  exact hy

/-- The law's two arguments in memory. -/
def PP (w0 w : World) (x : PageV) (gA : Nat) (y : PageV) (gB : Nat) : Prop :=
  Below w0.heap.size w0 w ∧ CellsAt w gA x.cells.toList ∧ CellsAt w gB y.cells.toList ∧ x.At w ∧ y.At w

theorem PP.on {w0 w w' : World} {x : PageV} {gA : Nat} {y : PageV} {gB : Nat} (h : PP w0 w x gA y gB) (hb : Below w.heap.size w w') : PP w0 w' x gA y gB :=
  ⟨below_trans h.1 hb, h.2.1.below hb, h.2.2.1.below hb, h.2.2.2.1.on hb, h.2.2.2.2.on hb⟩

theorem PP.drew {w0 w : World} {x : PageV} {gA : Nat} {y : PageV} {gB : Nat} (h : PP w0 w x gA y gB) : PP w0 w.drew x gA y gB :=
  ⟨h.1.drew, h.2.1, h.2.2.1, h.2.2.2.1, h.2.2.2.2⟩

set_option maxHeartbeats 2000000 in
set_option maxRecDepth 8000 in
theorem SamePage_walk (v0 : Value) (x0 : PageV) (v1 : Value) (x1 : PageV) (w : World) (e0 : v0 = .agg x0.cells) (h0 : x0.At w) (k0 : x0.Ok maxLen) (e1 : v1 = .agg x1.cells) (h1 : x1.At w) (k1 : x1.Ok maxLen) :
    Calls Try.prog 5 #[v0, v1] w fun e w' => e = .returned (.bool true) ∧ Below w.heap.size w w' := by
  subst e0 e1
  have OA := Lib.hid k0; have OB := Lib.hid k1; clear k0 k1
  have hba : Below w.heap.size w ((w.alloc (.cells x0.cells 42)).alloc (.cells x1.cells 42)) := Joins.below_alloc2 w _ _
  have T0 : Hid (PP w ((w.alloc (.cells x0.cells 42)).alloc (.cells x1.cells 42)) x0 w.heap.size x1 (w.heap.size + 1)) := by
    refine ⟨hba, (CellsAt.new w x0.cells _).below (Joins.below_alloc1 _ _), ?_, h0.on hba, h1.on hba⟩
    have := CellsAt.new (w.alloc (.cells x0.cells 42)) x1.cells 42
    rw [show (w.alloc (.cells x0.cells 42)).heap.size = w.heap.size + 1 by simp] at this
    exact this
  clear hba h0 h1
  obtain ⟨D, hD⟩ : ∃ D : Bool, decide (x0.dat = x1.dat) = D := ⟨_, rfl⟩
  have HDD := Lib.hid hD; clear hD
  obtain ⟨lf, kv, ks, vv, vs, iv, is⟩ := x0
  obtain ⟨lf2, kv2, ks2, vv2, vs2, iv2, is2⟩ := x1
  simp only [PageV.cells]
  go_enter Try.func5, Try.ntmps5
  go_wp2_with fail
  refine (szPage_ex ⟨lf, kv, ks, vv, vs, iv, is⟩ 1048576 _ T0.out.2.2.2.1 (by omega) (by omega) OA.out).mono ?_
  rintro e w1 ⟨⟨q, rfl, q1, q2, hq⟩, b1⟩
  have HQ := Lib.hid hq; clear hq
  have T1 := Lib.hid (T0.out.on b1); clear T0 b1
  by_cases q0 : q < 0
  · go_wp2_with fail
    go_ret
    exact ⟨rfl, T1.out.1⟩
  have KA := Lib.hid (HQ.out (by omega))
  clear HQ OA
  obtain ⟨a0, a1, a2, a3⟩ := PageV.four T1.out.2.1
  obtain ⟨b0, b1, b2, b3⟩ := PageV.four T1.out.2.2.1
  go_wp2_with fail
  refine (szPage_ex ⟨lf2, kv2, ks2, vv2, vs2, iv2, is2⟩ q _ T1.out.2.2.2.2 (by omega) (by omega) OB.out).mono ?_
  rintro e w2 ⟨⟨p, rfl, p1, p2, hp⟩, b2'⟩
  have HP := Lib.hid hp; clear hp
  have T2 := Lib.hid (T1.out.on b2'); clear T1 b2' a0 a1 a2 a3 b0 b1 b2 b3
  by_cases p0 : p < 0
  · go_wp2_with fail
    go_ret
    exact ⟨rfl, T2.out.1⟩
  have KB := Lib.hid (HP.out (by omega))
  clear HP OB
  obtain ⟨a0, a1, a2, a3⟩ := PageV.four T2.out.2.1
  obtain ⟨b0, b1, b2, b3⟩ := PageV.four T2.out.2.2.1
  go_upto_region 8 with fail
  go_cut [6] (fun s wx => s = .bool D ∧ PP w wx ⟨lf, kv, ks, vv, vs, iv, is⟩ w.heap.size ⟨lf2, kv2, ks2, vv2, vs2, iv2, is2⟩ (w.heap.size + 1))
  case first =>
    have T3 := Lib.hid T2.out.drew
    have tok : True := trivial
    go_region_with (first | (go_at_call 20; have _t := tok; refine (toPage_any ⟨lf, kv, ks, vv, vs, iv, is⟩ _ T3.out.2.2.2.1 KA.out).mono ?_; rintro e w4 ⟨xs, rfl, HD, hn, b4⟩; have T4 := Lib.hid (T3.out.on b4); have HN := Lib.hid hn.at_; obtain ⟨bb0, bb1, bb2, bb3⟩ := PageV.four T4.out.2.2.1; clear b4 hn tok) | (go_at_call 20; refine (toPage_any ⟨lf2, kv2, ks2, vv2, vs2, iv2, is2⟩ _ T4.out.2.2.2.2 KB.out).mono ?_; rintro e w5 ⟨ys, rfl, HE, hn, b5⟩; have T5 := Lib.hid (T4.out.on b5); have HN5 := Lib.hid (HN.out.on b5); have HM5 := Lib.hid hn.at_; clear b5 hn) | (go_at_call 19; refine (sSamePage_any xs ys _ HN5.out HM5.out (PageV.ok_dat HD.out _ KA.out)).mono ?_; rintro e w6 ⟨rfl, b6⟩; rw [HD.out, HE.out, HDD.out]; have T6 := Lib.hid (T5.out.on b6); clear b6))
    all_goals
      go_wp2_with fail
      go_meet
      exact ⟨rfl, T6.out⟩
  case rest =>
    obtain ⟨rfl, T6⟩ := hcut
    have T6 := Lib.hid T6
    clear T2 a0 a1 a2 a3 b0 b1 b2 b3
    obtain ⟨a0, a1, a2, a3⟩ := PageV.four T6.out.2.1
    obtain ⟨b0, b1, b2, b3⟩ := PageV.four T6.out.2.2.1
    go_wp2_with fail
    refine (toPage_any ⟨lf, kv, ks, vv, vs, iv, is⟩ _ T6.out.2.2.2.1 KA.out).mono ?_
    rintro e w7 ⟨us, rfl, HU, hnu, b7⟩
    have hnu := hnu.at_
    obtain ⟨ul, uk, uks, uv, uvs, ui, uis⟩ := us
    obtain ⟨Ak, ck, hk, _, _⟩ := id hnu.1
    replace hk : uk = .slice Ak uks.length ck := hk
    subst hk
    obtain ⟨Av, cv, hv, _, _⟩ := id hnu.2.1
    replace hv : uv = .slice Av uvs.length cv := hv
    subst hv
    obtain ⟨Ai, ci, hi, _, _⟩ := id hnu.2.2.1
    replace hi : ui = .slice Ai uis.length ci := hi
    subst hi
    have b7a : Below w7.heap.size w7 (w7.alloc (.cells #[.bool ul, .slice Ak uks.length ck, .slice Av uvs.length cv, .slice Ai uis.length ci] 45)) := Joins.below_alloc1 w7 _
    have T7 := Lib.hid ((T6.out.on b7).on b7a)
    have NU := Lib.hid (hnu.on b7a)
    have CU := Lib.hid (CellsAt.new w7 #[.bool ul, .slice Ak uks.length ck, .slice Av uvs.length cv, .slice Ai uis.length ci] 45)
    clear T6 b7 b7a hnu a0 a1 a2 a3 b0 b1 b2 b3
    simp only [PageV.cells]
    obtain ⟨b0, b1, b2, b3⟩ := PageV.four T7.out.2.2.1
    go_wp2_with fail
    refine (toPage_any ⟨lf2, kv2, ks2, vv2, vs2, iv2, is2⟩ _ T7.out.2.2.2.2 KB.out).mono ?_
    rintro e w8 ⟨zs, rfl, HZ, hnz, b8⟩
    have hnz := hnz.at_
    obtain ⟨zl, zk, zks, zv, zvs, zi, zis⟩ := zs
    obtain ⟨Bk, dk, hk, _, _⟩ := id hnz.1
    replace hk : zk = .slice Bk zks.length dk := hk
    subst hk
    obtain ⟨Bv, dv, hv, _, _⟩ := id hnz.2.1
    replace hv : zv = .slice Bv zvs.length dv := hv
    subst hv
    obtain ⟨Bi, di, hi, _, _⟩ := id hnz.2.2.1
    replace hi : zi = .slice Bi zis.length di := hi
    subst hi
    have b8a : Below w8.heap.size w8 (w8.alloc (.cells #[.bool zl, .slice Bk zks.length dk, .slice Bv zvs.length dv, .slice Bi zis.length di] 45)) := Joins.below_alloc1 w8 _
    have T8 := Lib.hid ((T7.out.on b8).on b8a)
    have NU8 := Lib.hid ((NU.out.on b8).on b8a)
    have CU8 := Lib.hid ((CU.out.below b8).below b8a)
    have NZ := Lib.hid (hnz.on b8a)
    have CZ := Lib.hid (CellsAt.new w8 #[.bool zl, .slice Bk zks.length dk, .slice Bv zvs.length dv, .slice Bi zis.length di] 45)
    clear T7 b8 b8a hnz NU CU b0 b1 b2 b3
    simp only [PageV.cells]
    obtain ⟨u0, u1, u2, u3⟩ := PageV.four (x := ⟨ul, .slice Ak uks.length ck, uks, .slice Av uvs.length cv, uvs, .slice Ai uis.length ci, uis⟩) CU8.out
    obtain ⟨z0, z1, z2, z3⟩ := PageV.four (x := ⟨zl, .slice Bk zks.length dk, zks, .slice Bv zvs.length dv, zvs, .slice Bi zis.length di, zis⟩) CZ.out
    go_wp2_with fail
    have HSM := Lib.hid (SamePage_any _ _ _ NU8.out NZ.out (PageV.ok_dat HU.out _ KA.out))
    rw [HU.out, HZ.out, HDD.out] at HSM
    refine HSM.out.mono ?_
    rintro e w9 ⟨rfl, b9⟩
    have T9 := Lib.hid (T8.out.on b9).drew
    have NU9 := Lib.hid (NU8.out.on b9)
    have CU9 := Lib.hid (CU8.out.below b9)
    have NZ9 := Lib.hid (NZ.out.on b9)
    have CZ9 := Lib.hid (CZ.out.below b9)
    clear T8 NU8 CU8 NZ CZ HSM b9 u0 u1 u2 u3 z0 z1 z2 z3
    obtain ⟨a0, a1, a2, a3⟩ := PageV.four (w := w9) T9.out.2.1
    obtain ⟨u0, u1, u2, u3⟩ := PageV.four (x := ⟨ul, .slice Ak uks.length ck, uks, .slice Av uvs.length cv, uvs, .slice Ai uis.length ci, uis⟩) CU9.out
    go_upto_region 14 with fail
    go_cut [39] (fun s wx => s = .bool false ∧ PP w wx ⟨lf, kv, ks, vv, vs, iv, is⟩ w.heap.size ⟨lf2, kv2, ks2, vv2, vs2, iv2, is2⟩ (w.heap.size + 1) ∧ PageV.At ⟨zl, .slice Bk zks.length dk, zks, .slice Bv zvs.length dv, zvs, .slice Bi zis.length di, zis⟩ wx ∧ CellsAt wx w8.heap.size [.bool zl, .slice Bk zks.length dk, .slice Bv zvs.length dv, .slice Bi zis.length di])
    case first =>
      have NUd : Hid (PageV.At ⟨ul, .slice Ak uks.length ck, uks, .slice Av uvs.length cv, uvs, .slice Ai uis.length ci, uis⟩ w9.drew) := NU9.out
      have CUd : Hid (CellsAt w9.drew w7.heap.size [.bool ul, .slice Ak uks.length ck, .slice Av uvs.length cv, .slice Ai uis.length ci]) := CU9.out
      have NZd : Hid (PageV.At ⟨zl, .slice Bk zks.length dk, zks, .slice Bv zvs.length dv, zvs, .slice Bi zis.length di, zis⟩ w9.drew) := NZ9.out
      have CZd : Hid (CellsAt w9.drew w8.heap.size [.bool zl, .slice Bk zks.length dk, .slice Bv zvs.length dv, .slice Bi zis.length di]) := CZ9.out
      clear NU9 CU9 NZ9 CZ9
      go_region_with (first | (go_at_call 20; refine (toPage_any ⟨lf, kv, ks, vv, vs, iv, is⟩ _ T9.out.2.2.2.1 KA.out).mono ?_; rintro e wa ⟨ts, rfl, HTS, hnt, ba⟩; have TA := Lib.hid (T9.out.on ba); have NUa := Lib.hid (NUd.out.on ba); have CUa := Lib.hid (CUd.out.below ba); have NZa := Lib.hid (NZd.out.on ba); have CZa := Lib.hid (CZd.out.below ba); have NT := Lib.hid hnt.at_; obtain ⟨v0', v1', v2', v3'⟩ := PageV.four (x := ⟨ul, .slice Ak uks.length ck, uks, .slice Av uvs.length cv, uvs, .slice Ai uis.length ci, uis⟩) CUa.out; clear ba hnt T9 NUd CUd NZd CZd) | (go_at_call 22; refine (eqPage_any _ ts _ NUa.out NT.out (PageV.ok_dat HU.out _ KA.out)).mono ?_; rintro e wb ⟨rfl, bb⟩; rw [decide_eq_true (HU.out.trans HTS.out.symm)]; have TB := Lib.hid (TA.out.on bb); have NZb := Lib.hid (NZa.out.on bb); have CZb := Lib.hid (CZa.out.below bb); clear bb TA NUa CUa NZa CZa NT v0' v1' v2' v3'))
      all_goals
        go_wp2_with fail
        go_meet
        exact ⟨rfl, ⟨TB.out.1, TB.out.2⟩, NZb.out, CZb.out⟩
    case rest =>
      obtain ⟨rfl, TB0, NZ0, CZ0⟩ := hcut
      have TB := Lib.hid TB0.drew
      have NZb := Lib.hid NZ0
      have CZb := Lib.hid CZ0
      clear TB0 NZ0 CZ0 T9 a0 a1 a2 a3 u0 u1 u2 u3 NU9 CU9 NZ9 CZ9
      obtain ⟨b0, b1, b2, b3⟩ := PageV.four (w := wc) TB.out.2.2.1
      obtain ⟨z0, z1, z2, z3⟩ := PageV.four (x := ⟨zl, .slice Bk zks.length dk, zks, .slice Bv zvs.length dv, zvs, .slice Bi zis.length di, zis⟩) CZb.out
      go_wp2_with fail
      have NZd : Hid (PageV.At ⟨zl, .slice Bk zks.length dk, zks, .slice Bv zvs.length dv, zvs, .slice Bi zis.length di, zis⟩ wc.drew) := NZb.out
      have CZd : Hid (CellsAt wc.drew w8.heap.size [.bool zl, .slice Bk zks.length dk, .slice Bv zvs.length dv, .slice Bi zis.length di]) := CZb.out
      clear NZb CZb
      go_region_with (first | (go_at_call 20; refine (toPage_any ⟨lf2, kv2, ks2, vv2, vs2, iv2, is2⟩ _ TB.out.2.2.2.2 KB.out).mono ?_; rintro e we ⟨rs, rfl, HRS, hnr, bc⟩; have TC := Lib.hid (TB.out.on bc); have NZc := Lib.hid (NZd.out.on bc); have CZc := Lib.hid (CZd.out.below bc); have NR := Lib.hid hnr.at_; obtain ⟨v0', v1', v2', v3'⟩ := PageV.four (x := ⟨zl, .slice Bk zks.length dk, zks, .slice Bv zvs.length dv, zvs, .slice Bi zis.length di, zis⟩) CZc.out; clear bc hnr TB NZd CZd) | (go_at_call 22; refine (eqPage_any _ rs _ NZc.out NR.out (PageV.ok_dat HZ.out _ KB.out)).mono ?_; rintro e wd ⟨rfl, bd⟩; rw [decide_eq_true (HZ.out.trans HRS.out.symm)]; have TD := Lib.hid (TC.out.on bd); clear bd TC NZc CZc NR))
      all_goals
        go_wp2_with fail
        go_ret
        exact ⟨rfl, TD.out.1⟩

end Go.Proofs.Ytbmdjipkfabnhaa
