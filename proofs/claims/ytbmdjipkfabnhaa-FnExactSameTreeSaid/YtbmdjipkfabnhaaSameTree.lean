/- SameTree: both sides and the walk. -/
import Derived.Test.YtbmdjipkfabnhaaTree
import Derived.Deep.DeepCutAuto
namespace Go.Proofs.Ytbmdjipkfabnhaa
open Go.RowKit Go.ChangeShapes Go.WideShapes Go.ChangeAt Go.Deep
set_option linter.unusedVariables false

theorem sameNode_any (x y : NodeV) (w : World) (hx : x.At w) (hy : y.At w) (hok : x.Ok 1048576) :
    Calls Try.prog 64 #[.agg x.cells, .agg y.cells] w fun e w' => e = .returned (.bool (decide (x.dat = y.dat))) ∧ Below w.heap.size w w' := by
  obtain ⟨R, hR⟩ : ∃ R : Bool, decide (x.dat = y.dat) = R := ⟨_, rfl⟩
  rw [hR]
  have HR := Lib.hid hR; clear hR
  have hba : Below w.heap.size w ((w.alloc (.cells x.cells 87)).alloc (.cells y.cells 87)) := Joins.below_alloc2 w _ _
  have hX := hx.on hba
  have hY := hy.on hba
  obtain ⟨name, subsv, subs, value⟩ := x
  obtain ⟨name2, subsV, subs2, value2⟩ := y
  obtain ⟨hnname, ⟨hlsubs, hzsubs⟩, hnvalue, _⟩ := hok
  obtain ⟨hxsubs, _⟩ := hx
  obtain ⟨hysubs, _⟩ := hy
  obtain ⟨hXsubs, _⟩ := hX
  obtain ⟨hYsubs, _⟩ := hY
  simp only [NodeV.cells] at *
  have HV : Hid (∀ b : Bool, (b = true ↔ name = name2 ∧ subs = subs2 ∧ value = value2) → R = b) := fun b hb => by
    rw [← HR.out]
    have e : (NodeV.dat ⟨name, subsv, subs, value⟩ = NodeV.dat ⟨name2, subsV, subs2, value2⟩) ↔ (name = name2 ∧ subs = subs2 ∧ value = value2) := by simp [NodeV.dat]
    cases b
    · rw [decide_eq_false_iff_not, e]; exact fun h => by simpa using hb.2 h
    · rw [decide_eq_true_iff, e]; exact hb.1 rfl
  clear HR
  clear hzsubs
  have HX := Lib.hid hXsubs; clear hXsubs
  have HY := Lib.hid hYsubs; clear hYsubs
  obtain ⟨A, c, rfl, _, _⟩ := id hxsubs; clear hxsubs
  obtain ⟨A2, c2, rfl, _, _⟩ := id hysubs; clear hysubs
  by_cases hn : name = name2
  · subst hn
    by_cases hv : value = value2
    · subst hv
      go_enter Try.func64, Try.ntmps64
      go_wp2_with fail
      refine (slicesEqual_any _ _ subs subs2 _ _ HX.out HY.out hlsubs).mono ?_
      rintro e w' ⟨rfl, n, rfl⟩
      go_wp2_with fail
      go_ret
      refine ⟨ret_bool ?_, below_trans hba (below_drewN _ n)⟩
      refine (HV.out _ ?_).symm
      simp
    · have e1 : (value.toList == value2.toList) = false := by rw [ba_toList, ba_toList]; exact beq_eq_false_iff_ne.2 (fun h => hv (ba_ext h))
      go_enter Try.func64, Try.ntmps64
      go_wp2_with fail
      go_ret
      exact ⟨ret_bool (HV.out false (by simp [hv])).symm, hba⟩
  · have e1 : (name.toList == name2.toList) = false := by rw [ba_toList, ba_toList]; exact beq_eq_false_iff_ne.2 (fun h => hn (ba_ext h))
    go_enter Try.func64, Try.ntmps64
    go_wp2_with fail
    go_ret
    exact ⟨ret_bool (HV.out false (by simp [hn])).symm, hba⟩

theorem l03SameNode_any (x y : NodeV) (w : World) (hx : x.At w) (hy : y.At w) (hok : x.Ok 1048576) :
    Calls Try.prog 61 #[.agg x.cells, .agg y.cells] w fun e w' => e = .returned (.bool (decide (x.dat = y.dat))) ∧ Below w.heap.size w w' := by
  obtain ⟨R, hR⟩ : ∃ R : Bool, decide (x.dat = y.dat) = R := ⟨_, rfl⟩
  rw [hR]
  have HR := Lib.hid hR; clear hR
  have hba : Below w.heap.size w ((w.alloc (.cells x.cells 87)).alloc (.cells y.cells 87)) := Joins.below_alloc2 w _ _
  have hX := hx.on hba
  have hY := hy.on hba
  obtain ⟨name, subsv, subs, value⟩ := x
  obtain ⟨name2, subsV, subs2, value2⟩ := y
  obtain ⟨hnname, ⟨hlsubs, hzsubs⟩, hnvalue, _⟩ := hok
  obtain ⟨hxsubs, _⟩ := hx
  obtain ⟨hysubs, _⟩ := hy
  obtain ⟨hXsubs, _⟩ := hX
  obtain ⟨hYsubs, _⟩ := hY
  simp only [NodeV.cells] at *
  have HV : Hid (∀ b : Bool, (b = true ↔ name = name2 ∧ subs = subs2 ∧ value = value2) → R = b) := fun b hb => by
    rw [← HR.out]
    have e : (NodeV.dat ⟨name, subsv, subs, value⟩ = NodeV.dat ⟨name2, subsV, subs2, value2⟩) ↔ (name = name2 ∧ subs = subs2 ∧ value = value2) := by simp [NodeV.dat]
    cases b
    · rw [decide_eq_false_iff_not, e]; exact fun h => by simpa using hb.2 h
    · rw [decide_eq_true_iff, e]; exact hb.1 rfl
  clear HR
  clear hzsubs
  have HX := Lib.hid hXsubs; clear hXsubs
  have HY := Lib.hid hYsubs; clear hYsubs
  obtain ⟨A, c, rfl, _, _⟩ := id hxsubs; clear hxsubs
  obtain ⟨A2, c2, rfl, _, _⟩ := id hysubs; clear hysubs
  by_cases hn : name = name2
  · subst hn
    by_cases hv : value = value2
    · subst hv
      go_enter Try.func61, Try.ntmps61
      go_wp2_with fail
      refine (sSameSubs_any _ _ subs subs2 _ _ HX.out HY.out hlsubs).mono ?_
      rintro e w' ⟨rfl, n, rfl⟩
      go_wp2_with fail
      go_ret
      refine ⟨ret_bool ?_, below_trans hba (below_drewN _ n)⟩
      refine (HV.out _ ?_).symm
      simp
    · have e1 : (value.toList == value2.toList) = false := by rw [ba_toList, ba_toList]; exact beq_eq_false_iff_ne.2 (fun h => hv (ba_ext h))
      go_enter Try.func61, Try.ntmps61
      go_wp2_with fail
      go_ret
      exact ⟨ret_bool (HV.out false (by simp [hv])).symm, hba⟩
  · have e1 : (name.toList == name2.toList) = false := by rw [ba_toList, ba_toList]; exact beq_eq_false_iff_ne.2 (fun h => hn (ba_ext h))
    go_enter Try.func61, Try.ntmps61
    go_wp2_with fail
    go_ret
    exact ⟨ret_bool (HV.out false (by simp [hn])).symm, hba⟩

set_option maxHeartbeats 1000000 in
set_option maxRecDepth 8000 in
theorem EqualNodes_any (v v2 : Value) (ns ms : List NodeV) (w : World) (h : NodesAt w v ns) (h2 : NodesAt w v2 ms) (hl : ns.length ≤ 1048576) (hok : ∀ x ∈ ns, x.Ok 1048576) :
    Calls Try.prog 63 #[v, v2, .func (.func 64) #[] #[]] w fun e w' => e = .returned (.bool (decide (ns.map NodeV.dat = ms.map NodeV.dat))) ∧ Below w.heap.size w w' := by
  obtain ⟨R, hR⟩ : ∃ R : Bool, decide (ns.map NodeV.dat = ms.map NodeV.dat) = R := ⟨_, rfl⟩
  rw [hR]
  have HR := Lib.hid hR; clear hR
  have H := Lib.hid h
  have H2 := Lib.hid h2
  obtain ⟨A, c, rfl, hc, _⟩ := h
  obtain ⟨A2, c2, rfl, hc2, _⟩ := h2
  have HOK := Lib.hid hok; clear hok
  rcases eqForms (ns.length : Int) (ms.length : Int) with ⟨e1, e2, e3⟩ | ⟨e1, e2, e3⟩
  · have hlen : ns.length = ms.length := by have := e3.out; omega
    have e4 : (ns.length == ms.length) = true := by simp [hlen]
    have e5 : (ns.length != ms.length) = false := by simp [hlen]
    have HL := Lib.hid hlen; clear hlen
    go_enter Try.func63, Try.ntmps63
    go_wp2
    go_loopw [17] (fun i wr => ∃ k : Nat, k ≤ ns.length ∧ i = .int .i64 k ∧ Hid (R = decide ((ns.drop k).map NodeV.dat = (ms.drop k).map NodeV.dat)) ∧ Below w.heap.size w wr) (fun i _ => ns.length - (intOf i).toNat)
    case atStart => exact ⟨0, Nat.zero_le _, rfl, by show _ = _; rw [List.drop_zero, List.drop_zero]; exact HR.out.symm, below_refl _⟩
    case round =>
      clear HR
      obtain ⟨k, hk, rfl, HI, hbel⟩ := hrel
      by_cases hlt : k < ns.length
      · have hlt2 : k < ms.length := by rw [← HL.out]; exact hlt
        obtain ⟨ad, rfl, hbl, hat, a0, a1, a2⟩ := (H.out.on hbel).get hlt
        have HX := Lib.hid (HOK.out _ (List.getElem_mem hlt))
        have HD := Lib.hid (List.drop_eq_getElem_cons hlt)
        have HD2 := Lib.hid (List.drop_eq_getElem_cons hlt2)
        have hb1 : Below w.heap.size w (wr.alloc (.cells ns[k].cells 87)) := hbel.alloc hbel.size _
        have hb1a : Below wr.heap.size wr (wr.alloc (.cells ns[k].cells 87)) := Joins.below_alloc1 wr _
        obtain ⟨ad2, rfl, hbl2, hat2, b0, b1, b2⟩ := (H2.out.on hb1).get hlt2
        have hb2a : Below (wr.alloc (.cells ns[k].cells 87)).heap.size (wr.alloc (.cells ns[k].cells 87)) ((wr.alloc (.cells ns[k].cells 87)).alloc (.cells ms[k].cells 87)) := Joins.below_alloc1 _ _
        have HA := Lib.hid ((hat.on hb1a).on hb2a)
        have HA2 := Lib.hid (hat2.on hb2a)
        have HB := Lib.hid (below_trans hb1 hb2a)
        have i0 : (0 : Int) ≤ k := by omega
        have i1 : (k : Int) < ns.length := by omega
        have i2 : (k : Int) < ms.length := by omega
        clear hb1 hb1a hb2a
        generalize ns[k] = x at *
        generalize ms[k] = y at *
        have HE := Lib.hid (fun W (h1 : x.At W) (h2 : y.At W) => sameNode_any x y W h1 h2 HX.out)
        obtain ⟨D, hD⟩ : ∃ D : Bool, decide (x.dat = y.dat) = D := ⟨_, rfl⟩
        rw [hD] at HE
        have HDD := Lib.hid hD; clear hD
        obtain ⟨name, sv, xs, value⟩ := x
        obtain ⟨name2, sv2, xs2, value2⟩ := y
        obtain ⟨Ax, cx, hsx, _, _⟩ := id hat.1
        replace hsx : sv = .slice Ax xs.length cx := hsx
        subst hsx
        obtain ⟨Ay, cy, hsy, _, _⟩ := id hat2.1
        replace hsy : sv2 = .slice Ay xs2.length cy := hsy
        subst hsy
        clear hat hat2
        simp only [NodeV.cells] at *
        go_wp2_with fail
        refine (HE.out _ HA.out HA2.out).mono ?_
        rintro e w6 ⟨rfl, b6⟩
        have HB6 := Lib.hid (below_trans HB.out b6)
        cases D
        · go_wp2_with fail
          go_ret
          refine ⟨ret_bool ?_, HB6.out⟩
          rw [HI.out, HD.out, HD2.out]
          symm
          rw [decide_eq_false_iff_not]
          intro e
          rw [List.map_cons, List.map_cons, List.cons.injEq] at e
          have := HDD.out
          rw [decide_eq_true e.1] at this
          cases this
        · go_wp2_with fail
          refine ⟨⟨k + 1, by omega, by go_num, ?_, HB6.out⟩, by simp [intOf]; omega⟩
          show _ = _
          have hd := of_decide_eq_true HDD.out
          rw [HI.out, HD.out, HD2.out, List.map_cons, List.map_cons, decide_eq_decide, List.cons.injEq]
          exact ⟨fun h => h.2, fun h => ⟨hd, h⟩⟩
      · go_wp2
        go_ret
        refine ⟨ret_bool ?_, hbel⟩
        have := HL.out
        rw [HI.out, List.drop_eq_nil_of_le (by omega), List.drop_eq_nil_of_le (by omega)]; simp
  · have HL : Hid (R = false) := by
      show _ = _
      rw [← HR.out, decide_eq_false_iff_not]
      intro e; exact e3.out (by rw [dat_len e])
    have e4 : (ns.length == ms.length) = false := by have := e3.out; simp; omega
    have e5 : (ns.length != ms.length) = true := by have := e3.out; simp; omega
    go_enter Try.func63, Try.ntmps63
    go_wp2
    go_ret
    exact ⟨ret_bool HL.out.symm, below_refl _⟩

theorem SameTree_any (v v2 : Value) (ns ms : List NodeV) (w : World) (h : NodesAt w v ns) (h2 : NodesAt w v2 ms) (hl : ns.length ≤ 1048576) (hok : ∀ x ∈ ns, x.Ok 1048576) :
    Calls Try.prog 31 #[.agg #[v], .agg #[v2]] w fun e w' => e = .returned (.bool (decide (ns.map NodeV.dat = ms.map NodeV.dat))) ∧ Below w.heap.size w w' := by
  have hba : Below w.heap.size w ((w.alloc (.cells #[v] 61)).alloc (.cells #[v2] 61)) := Joins.below_alloc2 w _ _
  have H := Lib.hid (h.on hba)
  have H2 := Lib.hid (h2.on hba)
  have HOK := Lib.hid hok; clear hok
  obtain ⟨A, c, rfl, _, _⟩ := h
  obtain ⟨A2, c2, rfl, _, _⟩ := h2
  have HE := Lib.hid (EqualNodes_any _ _ ns ms _ H.out H2.out hl HOK.out)
  generalize decide (ns.map NodeV.dat = ms.map NodeV.dat) = R at *
  go_enter Try.func31, Try.ntmps31
  go_wp2_with fail
  refine HE.out.mono ?_
  rintro e w1 ⟨rfl, b1⟩
  go_wp2_with fail
  go_ret
  exact ⟨rfl, below_trans hba b1⟩

set_option maxHeartbeats 1000000 in
set_option maxRecDepth 8000 in
theorem sSameTree_any (v v2 : Value) (ns ms : List NodeV) (w : World) (h : NodesAt w v ns) (h2 : NodesAt w v2 ms) (hl : ns.length ≤ 1048576) (hok : ∀ x ∈ ns, x.Ok 1048576) :
    Calls Try.prog 29 #[.agg #[v], .agg #[v2]] w fun e w' => e = .returned (.bool (decide (ns.map NodeV.dat = ms.map NodeV.dat))) ∧ Below w.heap.size w w' := by
  obtain ⟨R, hR⟩ : ∃ R : Bool, decide (ns.map NodeV.dat = ms.map NodeV.dat) = R := ⟨_, rfl⟩
  rw [hR]
  have HR := Lib.hid hR; clear hR
  have hba : Below w.heap.size w ((w.alloc (.cells #[v] 61)).alloc (.cells #[v2] 61)) := Joins.below_alloc2 w _ _
  have H := Lib.hid (h.on hba)
  have H2 := Lib.hid (h2.on hba)
  have HOK := Lib.hid hok; clear hok
  obtain ⟨A, c, rfl, hc, _⟩ := h
  obtain ⟨A2, c2, rfl, hc2, _⟩ := h2
  rcases eqForms (ns.length : Int) (ms.length : Int) with ⟨e1, e2, e3⟩ | ⟨e1, e2, e3⟩
  · have hlen : ns.length = ms.length := by have := e3.out; omega
    have e4 : (ns.length == ms.length) = true := by simp [hlen]
    have e5 : (ns.length != ms.length) = false := by simp [hlen]
    have HL := Lib.hid hlen; clear hlen
    have HC1 := Lib.hid ((CellsAt.new w #[.slice A ns.length c] 61).below (Joins.below_alloc1 _ (.cells #[.slice A2 ms.length c2] 61)))
    have HC2 := Lib.hid (CellsAt.new (w.alloc (.cells #[.slice A ns.length c] 61)) #[.slice A2 ms.length c2] 61)
    rw [show (w.alloc (.cells #[.slice A ns.length c] 61)).heap.size = w.heap.size + 1 by simp] at HC2
    go_enter Try.func29, Try.ntmps29
    go_wp2
    go_loopw [5] (fun i wr => ∃ k : Nat, k ≤ ns.length ∧ i = .int .i64 k ∧ Hid (R = decide ((ns.drop k).map NodeV.dat = (ms.drop k).map NodeV.dat)) ∧ Below ((w.alloc (.cells #[.slice A ns.length c] 61)).alloc (.cells #[.slice A2 ms.length c2] 61)).heap.size ((w.alloc (.cells #[.slice A ns.length c] 61)).alloc (.cells #[.slice A2 ms.length c2] 61)) wr) (fun i _ => ns.length - (intOf i).toNat)
    case atStart => exact ⟨0, Nat.zero_le _, rfl, by show _ = _; rw [List.drop_zero, List.drop_zero]; exact HR.out.symm, below_refl _⟩
    case round =>
      clear HR
      obtain ⟨k, hk, rfl, HI, hbel⟩ := hrel
      have c1 : wr.cell? ⟨w.heap.size, 0, none⟩ = some (.slice A ns.length c) := (HC1.out.below hbel).2 0 _ rfl
      have c2' : wr.cell? ⟨w.heap.size + 1, 0, none⟩ = some (.slice A2 ms.length c2) := (HC2.out.below hbel).2 0 _ rfl
      by_cases hlt : k < ns.length
      · have hlt2 : k < ms.length := by rw [← HL.out]; exact hlt
        have HB : Hid (Below w.heap.size w wr.drew) := (below_trans hba hbel).drew
        have HBB : Hid (Below ((w.alloc (.cells #[.slice A ns.length c] 61)).alloc (.cells #[.slice A2 ms.length c2] 61)).heap.size ((w.alloc (.cells #[.slice A ns.length c] 61)).alloc (.cells #[.slice A2 ms.length c2] 61)) wr.drew) := hbel.drew
        obtain ⟨ad, rfl, hbl, hat, a0, a1, a2⟩ := (H.out.on hbel).get hlt
        obtain ⟨ad2, rfl, hbl2, hat2, b0, b1, b2⟩ := (H2.out.on hbel).get hlt2
        have HX := Lib.hid (HOK.out _ (List.getElem_mem hlt))
        have HD := Lib.hid (List.drop_eq_getElem_cons hlt)
        have HD2 := Lib.hid (List.drop_eq_getElem_cons hlt2)
        have HAT := Lib.hid hat; clear hat
        have HAT2 := Lib.hid hat2; clear hat2
        generalize ns[k] = x at *
        generalize ms[k] = y at *
        have HE := Lib.hid (fun W (h1 : x.At W) (h2 : y.At W) => l03SameNode_any x y W h1 h2 HX.out)
        obtain ⟨D, hD⟩ : ∃ D : Bool, decide (x.dat = y.dat) = D := ⟨_, rfl⟩
        rw [hD] at HE
        have HDD := Lib.hid hD; clear hD
        have i0 : (0 : Int) ≤ k := by omega
        have i1 : (k : Int) < ns.length := by omega
        have i2 : (k : Int) < ms.length := by omega
        obtain ⟨name, sv, xs, value⟩ := x
        obtain ⟨name2, sv2, xs2, value2⟩ := y
        simp only at a0 a1 a2 b0 b1 b2
        simp only [NodeV.cells] at HE
        have HA3 : Hid (NodeV.At ⟨name, sv, xs, value⟩ wr.drew) := HAT.out
        have HA4 : Hid (NodeV.At ⟨name2, sv2, xs2, value2⟩ wr.drew) := HAT2.out
        go_wp2_with fail
        have c1' : World.cell? { heap := wr.heap, tape := wr.tape, drawn := wr.drawn + 1, os := wr.os, output := wr.output } ⟨w.heap.size, 0, none⟩ = some (.slice (some ad) ns.length c) := c1
        have c2'' : World.cell? { heap := wr.heap, tape := wr.tape, drawn := wr.drawn + 1, os := wr.os, output := wr.output } ⟨w.heap.size + 1, 0, none⟩ = some (.slice (some ad2) ms.length c2) := c2'
        have a0' : World.cell? { heap := wr.heap, tape := wr.tape, drawn := wr.drawn + 1, os := wr.os, output := wr.output } (ad.add (k * 3)) = some (.string name) := a0
        have a1' : World.cell? { heap := wr.heap, tape := wr.tape, drawn := wr.drawn + 1, os := wr.os, output := wr.output } ⟨(ad.add (k * 3)).block, (ad.add (k * 3)).off + 1, none⟩ = some (sv) := a1
        have a2' : World.cell? { heap := wr.heap, tape := wr.tape, drawn := wr.drawn + 1, os := wr.os, output := wr.output } ⟨(ad.add (k * 3)).block, (ad.add (k * 3)).off + 2, none⟩ = some (.string value) := a2
        have b0' : World.cell? { heap := wr.heap, tape := wr.tape, drawn := wr.drawn + 1, os := wr.os, output := wr.output } (ad2.add (k * 3)) = some (.string name2) := b0
        have b1' : World.cell? { heap := wr.heap, tape := wr.tape, drawn := wr.drawn + 1, os := wr.os, output := wr.output } ⟨(ad2.add (k * 3)).block, (ad2.add (k * 3)).off + 1, none⟩ = some (sv2) := b1
        have b2' : World.cell? { heap := wr.heap, tape := wr.tape, drawn := wr.drawn + 1, os := wr.os, output := wr.output } ⟨(ad2.add (k * 3)).block, (ad2.add (k * 3)).off + 2, none⟩ = some (.string value2) := b2
        go_still_tail 10, (by kernel_rfl)
        change wpList _ _ _ _ _ wr.drew
        generalize wr.drew = w5 at *
        clear a0 a1 a2 b0 b1 b2 a0' a1' a2' b0' b1' b2' c1 c2' c1' c2''
        go_wp2_with fail
        refine (HE.out _ HA3.out HA4.out).mono ?_
        rintro e w6 ⟨rfl, b6⟩
        have HB6 := Lib.hid (below_trans HB.out b6)
        have HBB6 := Lib.hid (below_trans HBB.out b6)
        cases D
        · go_wp2_with fail
          go_ret
          refine ⟨ret_bool ?_, HB6.out⟩
          rw [HI.out, HD.out, HD2.out]
          symm
          rw [decide_eq_false_iff_not]
          intro e
          rw [List.map_cons, List.map_cons, List.cons.injEq] at e
          have := HDD.out
          rw [decide_eq_true e.1] at this
          cases this
        · go_wp2_with fail
          refine ⟨⟨k + 1, by omega, by go_num, ?_, HBB6.out⟩, by simp [intOf]; omega⟩
          show _ = _
          have hd := of_decide_eq_true HDD.out
          rw [HI.out, HD.out, HD2.out, List.map_cons, List.map_cons, decide_eq_decide, List.cons.injEq]
          exact ⟨fun h => h.2, fun h => ⟨hd, h⟩⟩
      · go_wp2
        go_ret
        refine ⟨ret_bool ?_, below_trans hba hbel⟩
        have := HL.out
        rw [HI.out, List.drop_eq_nil_of_le (by omega), List.drop_eq_nil_of_le (by omega)]; simp
  · have HL : Hid (R = false) := by
      show _ = _
      rw [← HR.out, decide_eq_false_iff_not]
      intro e; exact e3.out (by rw [dat_len e])
    have e4 : (ns.length == ms.length) = false := by have := e3.out; simp; omega
    have e5 : (ns.length != ms.length) = true := by have := e3.out; simp; omega
    go_enter Try.func29, Try.ntmps29
    go_wp2
    go_ret
    exact ⟨ret_bool HL.out.symm, hba⟩

/-- The law's two arguments in memory. -/
def TT (w0 w : World) (va : Value) (ns : List NodeV) (gA : Nat) (vb : Value) (ms : List NodeV) (gB : Nat) : Prop :=
  Below w0.heap.size w0 w ∧ CellsAt w gA [va] ∧ CellsAt w gB [vb] ∧ NodesAt w va ns ∧ NodesAt w vb ms

theorem TT.on {w0 w w' : World} {va : Value} {ns : List NodeV} {gA : Nat} {vb : Value} {ms : List NodeV} {gB : Nat} (h : TT w0 w va ns gA vb ms gB) (hb : Below w.heap.size w w') : TT w0 w' va ns gA vb ms gB :=
  ⟨below_trans h.1 hb, h.2.1.below hb, h.2.2.1.below hb, h.2.2.2.1.on hb, h.2.2.2.2.on hb⟩

theorem TT.drew {w0 w : World} {va : Value} {ns : List NodeV} {gA : Nat} {vb : Value} {ms : List NodeV} {gB : Nat} (h : TT w0 w va ns gA vb ms gB) : TT w0 w.drew va ns gA vb ms gB :=
  ⟨h.1.drew, h.2.1, h.2.2.1, h.2.2.2.1, h.2.2.2.2⟩

theorem TT.a {w0 w : World} {va : Value} {ns : List NodeV} {gA : Nat} {vb : Value} {ms : List NodeV} {gB : Nat} (h : TT w0 w va ns gA vb ms gB) : w.cell? ⟨gA, 0, none⟩ = some va := h.2.1.2 0 _ rfl

theorem TT.b {w0 w : World} {va : Value} {ns : List NodeV} {gA : Nat} {vb : Value} {ms : List NodeV} {gB : Nat} (h : TT w0 w va ns gA vb ms gB) : w.cell? ⟨gB, 0, none⟩ = some vb := h.2.2.1.2 0 _ rfl

set_option maxHeartbeats 2000000 in
set_option maxRecDepth 8000 in
theorem SameTree_walk (v0 : Value) (x0 : Value × List NodeV) (v1 : Value) (x1 : Value × List NodeV) (w : World) (e0 : v0 = .agg #[x0.1]) (h0 : NodesAt w x0.1 x0.2) (k0 : x0.2.length ≤ maxLen ∧ ∀ n ∈ x0.2, n.Ok maxLen) (e1 : v1 = .agg #[x1.1]) (h1 : NodesAt w x1.1 x1.2) (k1 : x1.2.length ≤ maxLen ∧ ∀ n ∈ x1.2, n.Ok maxLen) :
    Calls Try.prog 7 #[v0, v1] w fun e w' => e = .returned (.bool true) ∧ Below w.heap.size w w' := by
  obtain ⟨va, ns⟩ := x0
  obtain ⟨vb, ms⟩ := x1
  simp only at *
  subst e0 e1
  obtain ⟨la, oa⟩ := k0
  obtain ⟨lb, ob⟩ := k1
  have OA := Lib.hid oa; have OB := Lib.hid ob; clear oa ob
  have hba : Below w.heap.size w ((w.alloc (.cells #[va] 56)).alloc (.cells #[vb] 56)) := Joins.below_alloc2 w _ _
  have T0 : Hid (TT w ((w.alloc (.cells #[va] 56)).alloc (.cells #[vb] 56)) va ns w.heap.size vb ms (w.heap.size + 1)) := by
    refine ⟨hba, (CellsAt.new w #[va] _).below (Joins.below_alloc1 _ _), ?_, h0.on hba, h1.on hba⟩
    have := CellsAt.new (w.alloc (.cells #[va] 56)) #[vb] 56
    rw [show (w.alloc (.cells #[va] 56)).heap.size = w.heap.size + 1 by simp] at this
    exact this
  obtain ⟨A, c, rfl, _, _⟩ := h0
  obtain ⟨A2, c2, rfl, _, _⟩ := h1
  clear hba
  obtain ⟨D, hD⟩ : ∃ D : Bool, decide (ns.map NodeV.dat = ms.map NodeV.dat) = D := ⟨_, rfl⟩
  have HDD := Lib.hid hD; clear hD
  go_enter Try.func7, Try.ntmps7
  go_wp2_with fail
  refine (szTree_ex _ ns 1048576 _ T0.out.2.2.2.1 (by omega) (by omega) la OA.out).mono ?_
  rintro e w1 ⟨⟨q, rfl, q1, q2, hq⟩, b1⟩
  have HQ := Lib.hid hq; clear hq
  have T1 := Lib.hid (T0.out.on b1); clear T0 b1
  by_cases q0 : q < 0
  · go_wp2_with fail
    go_ret
    exact ⟨rfl, T1.out.1⟩
  have KA := Lib.hid (HQ.out (by omega)).2
  have sa := (HQ.out (by omega)).1
  clear HQ OA
  have ca := T1.out.a
  have cb := T1.out.b
  go_wp2_with fail
  refine (szTree_ex _ ms q _ T1.out.2.2.2.2 (by omega) (by omega) lb OB.out).mono ?_
  rintro e w2 ⟨⟨p, rfl, p1, p2, hp⟩, b2⟩
  have HP := Lib.hid hp; clear hp
  have T2 := Lib.hid (T1.out.on b2); clear T1 b2 ca cb
  by_cases p0 : p < 0
  · go_wp2_with fail
    go_ret
    exact ⟨rfl, T2.out.1⟩
  have KB := Lib.hid (HP.out (by omega)).2
  have sb := (HP.out (by omega)).1
  clear HP OB
  have ca := T2.out.a
  have cb := T2.out.b
  go_upto_region 8 with fail
  go_cut [6] (fun s wx => s = .bool D ∧ TT w wx (.slice A ns.length c) ns w.heap.size (.slice A2 ms.length c2) ms (w.heap.size + 1))
  case first =>
    have T3 := Lib.hid T2.out.drew
    have tok : True := trivial
    go_region_with (first | (go_at_call 30; have _t := tok; refine (toTree_any _ ns _ T3.out.2.2.2.1 sa KA.out).mono ?_; rintro e w4 ⟨va', xs, rfl, HD, hn, b4⟩; have T4 := Lib.hid (T3.out.on b4); have HN := Lib.hid hn; have cb4 := T4.out.b; clear b4 hn tok) | (go_at_call 30; refine (toTree_any _ ms _ T4.out.2.2.2.2 sb KB.out).mono ?_; rintro e w5 ⟨vb', ys, rfl, HE, hn, b5⟩; have T5 := Lib.hid (T4.out.on b5); have HN5 := Lib.hid (HN.out.on b5); have HM5 := Lib.hid hn; clear b5 hn) | (go_at_call 29; refine (sSameTree_any _ _ xs ys _ HN5.out HM5.out (by rw [dat_len HD.out]; exact sa) (oks_dat HD.out _ KA.out)).mono ?_; rintro e w6 ⟨rfl, b6⟩; rw [HD.out, HE.out, HDD.out]; have T6 := Lib.hid (T5.out.on b6); clear b6))
    all_goals
      go_wp2_with fail
      go_meet
      exact ⟨rfl, T6.out⟩
  case rest =>
    obtain ⟨rfl, T6⟩ := hcut
    have T6 := Lib.hid T6
    clear T2 ca cb
    have ca := T6.out.a
    have cb := T6.out.b
    go_wp2_with fail
    refine (toTree_any _ ns _ T6.out.2.2.2.1 sa KA.out).mono ?_
    rintro e w7 ⟨xa, us, rfl, HU, hnu, b7⟩
    obtain ⟨Au, cu, rfl, _, _⟩ := id hnu
    have b7a : Below w7.heap.size w7 (w7.alloc (.cells #[.slice Au us.length cu] 61)) := Joins.below_alloc1 w7 _
    have T7 := Lib.hid ((T6.out.on b7).on b7a)
    have NU := Lib.hid (hnu.on b7a)
    have CU := Lib.hid (CellsAt.new w7 #[.slice Au us.length cu] 61)
    clear T6 b7 b7a hnu ca cb
    have ca := T7.out.a
    have cb := T7.out.b
    go_wp2_with fail
    refine (toTree_any _ ms _ T7.out.2.2.2.2 sb KB.out).mono ?_
    rintro e w8 ⟨xb, zs, rfl, HZ, hnz, b8⟩
    obtain ⟨Az, cz, rfl, _, _⟩ := id hnz
    have b8a : Below w8.heap.size w8 (w8.alloc (.cells #[.slice Az zs.length cz] 61)) := Joins.below_alloc1 w8 _
    have T8 := Lib.hid ((T7.out.on b8).on b8a)
    have NU8 := Lib.hid ((NU.out.on b8).on b8a)
    have CU8 := Lib.hid ((CU.out.below b8).below b8a)
    have NZ := Lib.hid (hnz.on b8a)
    have CZ := Lib.hid (CellsAt.new w8 #[.slice Az zs.length cz] 61)
    clear T7 b8 b8a hnz ca cb NU CU
    have ca := T8.out.a
    have cb := T8.out.b
    have cu0 := CU8.out.2 0 _ rfl
    have cz0 := CZ.out.2 0 _ rfl
    go_wp2_with fail
    have HSM := Lib.hid (SameTree_any _ _ us zs _ NU8.out NZ.out (by rw [dat_len HU.out]; exact sa) (oks_dat HU.out _ KA.out))
    rw [HU.out, HZ.out, HDD.out] at HSM
    refine HSM.out.mono ?_
    rintro e w9 ⟨rfl, b9⟩
    have T9 := Lib.hid (T8.out.on b9).drew
    have NU9 := Lib.hid (NU8.out.on b9)
    have CU9 := Lib.hid (CU8.out.below b9)
    have NZ9 := Lib.hid (NZ.out.on b9)
    have CZ9 := Lib.hid (CZ.out.below b9)
    clear T8 NU8 CU8 NZ CZ HSM b9 ca cb cu0 cz0
    have ca : w9.cell? ⟨w.heap.size, 0, none⟩ = some (.slice A ns.length c) := T9.out.a
    have cb : w9.cell? ⟨w.heap.size + 1, 0, none⟩ = some (.slice A2 ms.length c2) := T9.out.b
    have cu0 := CU9.out.2 0 _ rfl
    have cz0 := CZ9.out.2 0 _ rfl
    go_upto_region 14 with fail
    go_cut [39] (fun s wx => s = .bool false ∧ TT w wx (.slice A ns.length c) ns w.heap.size (.slice A2 ms.length c2) ms (w.heap.size + 1) ∧ NodesAt wx (.slice Az zs.length cz) zs ∧ CellsAt wx w8.heap.size [.slice Az zs.length cz])
    case first =>
      have NUd : Hid (NodesAt w9.drew (.slice Au us.length cu) us) := NU9.out
      have CUd : Hid (CellsAt w9.drew w7.heap.size [.slice Au us.length cu]) := CU9.out
      have NZd : Hid (NodesAt w9.drew (.slice Az zs.length cz) zs) := NZ9.out
      have CZd : Hid (CellsAt w9.drew w8.heap.size [.slice Az zs.length cz]) := CZ9.out
      clear NU9 CU9 NZ9 CZ9
      go_region_with (first | (go_at_call 30; refine (toTree_any _ ns _ T9.out.2.2.2.1 sa KA.out).mono ?_; rintro e wa ⟨xc, ts, rfl, HTS, hnt, ba⟩; have TA := Lib.hid (T9.out.on ba); have NUa := Lib.hid (NUd.out.on ba); have CUa := Lib.hid (CUd.out.below ba); have NZa := Lib.hid (NZd.out.on ba); have CZa := Lib.hid (CZd.out.below ba); have NT := Lib.hid hnt; have cua := CUa.out.2 0 _ rfl; clear ba hnt T9 NUd CUd NZd CZd) | (go_at_call 32; refine (eqTree_any _ _ us ts _ NUa.out NT.out (by rw [dat_len HU.out]; exact sa) (oks_dat HU.out _ KA.out)).mono ?_; rintro e wb ⟨rfl, bb⟩; rw [decide_eq_true (HU.out.trans HTS.out.symm)]; have TB := Lib.hid (TA.out.on bb); have NZb := Lib.hid (NZa.out.on bb); have CZb := Lib.hid (CZa.out.below bb); clear bb TA NUa CUa NZa CZa NT cua))
      all_goals
        go_wp2_with fail
        go_meet
        exact ⟨rfl, ⟨TB.out.1, TB.out.2⟩, NZb.out, CZb.out⟩
    case rest =>
      obtain ⟨rfl, TB0, NZ0, CZ0⟩ := hcut
      have TB := Lib.hid TB0.drew
      have NZb := Lib.hid NZ0
      have CZb := Lib.hid CZ0
      clear TB0 NZ0 CZ0 T9 ca cb cu0 cz0
      have cb : wc.cell? ⟨w.heap.size + 1, 0, none⟩ = some (.slice A2 ms.length c2) := TB.out.b
      have cz0 := CZb.out.2 0 _ rfl
      go_wp2_with fail
      have NZd : Hid (NodesAt wc.drew (.slice Az zs.length cz) zs) := NZb.out
      have CZd : Hid (CellsAt wc.drew w8.heap.size [.slice Az zs.length cz]) := CZb.out
      clear NZb CZb
      go_region_with (first | (go_at_call 30; refine (toTree_any _ ms _ TB.out.2.2.2.2 sb KB.out).mono ?_; rintro e we ⟨xd, rs, rfl, HRS, hnr, bc⟩; have TC := Lib.hid (TB.out.on bc); have NZc := Lib.hid (NZd.out.on bc); have CZc := Lib.hid (CZd.out.below bc); have NR := Lib.hid hnr; have czc := CZc.out.2 0 _ rfl; clear bc hnr TB NZd CZd) | (go_at_call 32; refine (eqTree_any _ _ zs rs _ NZc.out NR.out (by rw [dat_len HZ.out]; exact sb) (oks_dat HZ.out _ KB.out)).mono ?_; rintro e wd ⟨rfl, bd⟩; rw [decide_eq_true (HZ.out.trans HRS.out.symm)]; have TD := Lib.hid (TC.out.on bd); clear bd TC NZc CZc NR czc))
      all_goals
        go_wp2_with fail
        go_ret
        exact ⟨rfl, TD.out.1⟩

end Go.Proofs.Ytbmdjipkfabnhaa
