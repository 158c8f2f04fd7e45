/- Cells, levels, their slices. (printed by gen_dv.py) -/
import Derived.Test.YtllamjgloilioaaDvTree
namespace Go.Proofs.Ytllamjgloilioaa
open Go.RowKit Go.ChangeShapes Go.WideShapes Go.ChangeAt Go.Deep
set_option linter.unusedVariables false
set_option linter.unusedSimpArgs false

@[reducible] def tyCell : Ty := .pair .num (.pair tyTree .unit)

theorem Rd.invCell {w : World} {lo hi : Nat} {cs : List Value} {d : DV} (h : Rd w lo hi tyCell cs d) : ∃ (id : Int) (Atree_nodes : Option Addr) (ctree_nodes : Nat) (tree_nodes : List DV) (dtree : DV), cs = [.int .i64 id, .slice Atree_nodes tree_nodes.length ctree_nodes] ∧ d = .pair (.num id) (.pair dtree .unit) ∧ Rd w lo hi tyTree [.slice Atree_nodes tree_nodes.length ctree_nodes] dtree := by
  obtain ⟨id, s1, e1, rfl, rfl, h1⟩ := Rd.inv_num_ h
  obtain ⟨c2, s2, dtree, e2, rfl, rfl, Htree, h2⟩ := Rd.inv_pair h1
  obtain ⟨Atree_nodes, ctree_nodes, tree_nodes, rfl⟩ := Rd.cellsTree Htree
  obtain ⟨rfl, rfl⟩ := Rd.inv_unit h2
  exact ⟨_, _, _, _, _, rfl, rfl, Htree⟩

theorem Rd.cellsCell {w : World} {lo hi : Nat} {cs : List Value} {d : DV} (h : Rd w lo hi tyCell cs d) : ∃ (id : Int) (Atree_nodes : Option Addr) (ctree_nodes : Nat) (tree_nodes : List DV), cs = [.int .i64 id, .slice Atree_nodes tree_nodes.length ctree_nodes] := by
  obtain ⟨y0, y1, y2, y3, y4, e1, _⟩ := Rd.invCell h
  exact ⟨y0, y1, y2, y3, e1⟩

theorem Rd.mkCell {w : World} {lo hi : Nat} {id : Int} {Atree_nodes : Option Addr} {ctree_nodes : Nat} {tree_nodes : List DV} {dtree : DV} (Htree : Rd w lo hi tyTree [.slice Atree_nodes tree_nodes.length ctree_nodes] dtree) : Rd w lo hi tyCell [.int .i64 id, .slice Atree_nodes tree_nodes.length ctree_nodes] (.pair (.num id) (.pair dtree .unit)) :=
  (.pair (.num _) (.pair Htree .unit))

set_option maxHeartbeats 1000000 in
set_option maxRecDepth 8000 in
theorem szCell_dv (cs : List Value) (d : DV) (left : Int) (w : World) (h : At w tyCell cs d) (hf : Fits maxLen d) (h0 : 0 ≤ left) (h1 : left ≤ 1048576) :
    Calls Try.prog 66 #[.agg cs.toArray, .int .i64 left] w fun e w' => (∃ q : Int, e = .returned (.int .i64 q) ∧ -1 ≤ q ∧ q ≤ left ∧ Hid (0 ≤ q → Fits 1048576 d)) ∧ Below w.heap.size w w' := by
  obtain ⟨id, Atree_nodes, ctree_nodes, tree_nodes, dtree, rfl, rfl, Htree⟩ := Rd.invCell h
  have hba : Hid (Below w.heap.size w (w.alloc (.cells #[.int .i64 id, .slice Atree_nodes tree_nodes.length ctree_nodes] 122))) := Joins.below_alloc1 w _
  have HHtree : Hid (At w tyTree [.slice Atree_nodes tree_nodes.length ctree_nodes] dtree) := Htree; clear Htree
  have HFtree := Lib.hid hf.snd.fst
  clear hf
  have C0 := Lib.hid (CellsAt.new w #[.int .i64 id, .slice Atree_nodes tree_nodes.length ctree_nodes] 122)
  go_enter Try.func66, Try.ntmps66
  go_wp2_with fail
  refine (szTree_dv _ _ left _ (HHtree.out.on hba.out) HFtree.out (by omega) (by omega)).mono ?_
  rintro e w1 ⟨⟨q1, rfl, qa1, qb1, Q1⟩, b1⟩
  have B1 := Lib.hid (below_trans hba.out b1)
  by_cases ztree : q1 < 0
  · go_wp2_with fail
    go_ret
    exact ⟨⟨_, rfl, by omega, by omega, fun hq => by omega⟩, B1.out⟩
  go_wp2_with fail
  go_ret
  exact ⟨⟨_, rfl, by omega, by omega, fun _ => (.pair (.num _) (.pair (Q1.out (by omega)) .unit))⟩, B1.out⟩

set_option maxHeartbeats 2000000 in
set_option maxRecDepth 8000 in
theorem eqCell_dv (cs cs2 : List Value) (d d2 : DV) (w : World) (h : At w tyCell cs d) (h2 : At w tyCell cs2 d2) (hf : Fits 1048576 d) :
    Calls Try.prog 76 #[.agg cs.toArray, .agg cs2.toArray] w fun e w' => GotB e d d2 ∧ Below w.heap.size w w' := by
  obtain ⟨id, Atree_nodes, ctree_nodes, tree_nodes, dtree, rfl, rfl, Htree⟩ := Rd.invCell h
  obtain ⟨id2, Atree_nodes2, ctree_nodes2, tree_nodes2, dtree2, rfl, rfl, Htree2⟩ := Rd.invCell h2
  have hba : Hid (Below w.heap.size w ((w.alloc (.cells #[.int .i64 id, .slice Atree_nodes tree_nodes.length ctree_nodes] 99)).alloc (.cells #[.int .i64 id2, .slice Atree_nodes2 tree_nodes2.length ctree_nodes2] 99))) := Joins.below_alloc2 w _ _
  have HHtree : Hid (At w tyTree [.slice Atree_nodes tree_nodes.length ctree_nodes] dtree) := Htree; clear Htree
  have HHtree2 : Hid (At w tyTree [.slice Atree_nodes2 tree_nodes2.length ctree_nodes2] dtree2) := Htree2; clear Htree2
  have HFtree := Lib.hid hf.snd.fst
  clear hf
  have HV : Hid (∀ b : Bool, (b = true ↔ id = id2 ∧ dtree = dtree2) → EqB b (.pair (.num id) (.pair dtree .unit)) (.pair (.num id2) (.pair dtree2 .unit))) := fun b hb => by
    unfold EqB; rw [hb]; simp only [DV.pair.injEq, DV.num.injEq, DV.bool.injEq, DV.str.injEq, and_true]
  have C0 := Lib.hid ((CellsAt.new w #[.int .i64 id, .slice Atree_nodes tree_nodes.length ctree_nodes] 99).below (Joins.below_alloc1 _ (.cells #[.int .i64 id2, .slice Atree_nodes2 tree_nodes2.length ctree_nodes2] 99)))
  have D0 := Lib.hid (CellsAt.new (w.alloc (.cells #[.int .i64 id, .slice Atree_nodes tree_nodes.length ctree_nodes] 99)) #[.int .i64 id2, .slice Atree_nodes2 tree_nodes2.length ctree_nodes2] 99)
  have hz1 : (w.alloc (.cells #[.int .i64 id, .slice Atree_nodes tree_nodes.length ctree_nodes] 99)).heap.size = w.heap.size + 1 := by simp
  rw [hz1] at D0; clear hz1
  go_enter Try.func76, Try.ntmps76
  rcases eqForms id id2 with ⟨e1, e2, Eid⟩ | ⟨e1, e2, Eid⟩
  rotate_left
  · have hne := Eid.out
    go_wp2_with fail
    go_ret
    exact ⟨⟨false, rfl, HV.out false (by simp [hne])⟩, hba.out⟩
  go_wp2_with fail
  refine (eqTree_dv _ _ _ _ _ (HHtree.out.on hba.out) (HHtree2.out.on hba.out) HFtree.out).mono ?_
  rintro e w1 ⟨⟨r1, rfl, HE1⟩, b1⟩
  have B1 := Lib.hid (below_trans hba.out b1)
  have C1 := Lib.hid (C0.out.below b1)
  have D1 := Lib.hid (D0.out.below b1)
  clear C0 D0 b1
  cases r1
  · have hne : ¬ dtree = dtree2 := fun h => by have := HE1.2 h; cases this
    go_wp2_with fail
    go_ret
    exact ⟨⟨false, rfl, HV.out false (by simp [hne])⟩, B1.out⟩
  have Etree := Lib.hid (HE1.1 rfl); clear HE1
  go_wp2_with fail
  go_ret
  exact ⟨⟨true, rfl, HV.out true (by simp [Eid.out, Etree.out])⟩, B1.out⟩

set_option maxHeartbeats 4000000 in
set_option maxRecDepth 8000 in
theorem toCell_dv (cs : List Value) (d : DV) (w : World) (h : At w tyCell cs d) (hf : Fits 1048576 d) :
    Calls Try.prog 71 #[.agg cs.toArray] w fun e w' => ∃ cs' : List Value, e = .returned (.agg cs'.toArray) ∧ Rd w' w.heap.size w'.heap.size tyCell cs' d ∧ Below w.heap.size w w' := by
  obtain ⟨id, Atree_nodes, ctree_nodes, tree_nodes, dtree, rfl, rfl, Htree⟩ := Rd.invCell h
  have HHtree : Hid (At w tyTree [.slice Atree_nodes tree_nodes.length ctree_nodes] dtree) := Htree; clear Htree
  have HFtree := Lib.hid hf.snd.fst
  clear hf
  have M0 : Hid (Mid w (((w.alloc (.cells #[.int .i64 id, .slice Atree_nodes tree_nodes.length ctree_nodes] 122)).alloc (.cells #[.int .i64 0, .slice none 0 0] 99)).alloc (.cells #[.int .i64 id, .slice none 0 0] 99)) [.int .i64 id, .slice Atree_nodes tree_nodes.length ctree_nodes] #[.int .i64 id, .slice none 0 0] #[.int .i64 0, .slice none 0 0] 99) := Mid.start w #[.int .i64 id, .slice Atree_nodes tree_nodes.length ctree_nodes] #[.int .i64 id, .slice none 0 0] #[.int .i64 0, .slice none 0 0] 122 99
  go_enter Try.func71, Try.ntmps71
  go_wp2_with fail
  refine (toTree_dv _ _ _ (HHtree.out.on M0.out.below) HFtree.out).mono ?_
  rintro e w1 ⟨v1, rfl, R1, b1⟩
  have M1a := Lib.hid (M0.out.step b1)
  have N1 := Lib.hid (R1.got M0.out.lt)
  clear R1 b1 M0
  obtain ⟨Atree_nodes', ctree_nodes', tree_nodes', rfl⟩ := N1.out.cellsTree
  have Ntree := Lib.hid N1.out; clear N1
  obtain ⟨d1_0, f1_0⟩ := M1a.out.ocell 0 (.int .i64 id) rfl
  obtain ⟨d1_1, f1_1⟩ := M1a.out.ocell 1 (.slice none 0 0) rfl
  obtain ⟨r0, g0⟩ := M1a.out.zcell 0 (.int .i64 0) rfl
  obtain ⟨r1, g1⟩ := M1a.out.zcell 1 (.slice none 0 0) rfl
  have M1 : Hid (Mid w (w1.setCell ⟨w.heap.size + 1 + 1, 1, none⟩ (.slice Atree_nodes' tree_nodes'.length ctree_nodes')) [.int .i64 id, .slice Atree_nodes tree_nodes.length ctree_nodes] #[.int .i64 id, .slice Atree_nodes' tree_nodes'.length ctree_nodes'] #[.int .i64 0, .slice none 0 0] 99) := M1a.out.row 1 [.slice Atree_nodes' tree_nodes'.length ctree_nodes']
  have Ntree : Hid (Rd (w1.setCell ⟨w.heap.size + 1 + 1, 1, none⟩ (.slice Atree_nodes' tree_nodes'.length ctree_nodes')) (w.heap.size + 1 + 1 + 1) ((w1.setCell ⟨w.heap.size + 1 + 1, 1, none⟩ (.slice Atree_nodes' tree_nodes'.length ctree_nodes'))).heap.size tyTree [.slice Atree_nodes' tree_nodes'.length ctree_nodes'] dtree) := Ntree.out.row (w.heap.size + 1 + 1) 1 [.slice Atree_nodes' tree_nodes'.length ctree_nodes'] (by omega)
  clear M1a
  go_wp2_with fail
  refine bodyPost_ret (results_cell_row rfl _ _ (w.heap.size + 1) 99 #[.int .i64 id, .slice Atree_nodes' tree_nodes'.length ctree_nodes'] (0, 0) _ rfl (M1.out.fin [.int .i64 id, .slice Atree_nodes' tree_nodes'.length ctree_nodes'] rfl) Try.underlying99 rfl (by kernel_rfl)) rfl ⟨[.int .i64 id, .slice Atree_nodes' tree_nodes'.length ctree_nodes'], rfl, ?_, M1.out.finBelow [.int .i64 id, .slice Atree_nodes' tree_nodes'.length ctree_nodes']⟩
  exact Rd.mkCell ((Ntree.out.row (w.heap.size + 1) 0 [.int .i64 id, .slice Atree_nodes' tree_nodes'.length ctree_nodes'] (by omega)).imp (fun _ _ _ => rfl) (by omega) (Nat.le_refl _))

set_option maxHeartbeats 2000000 in
set_option maxRecDepth 8000 in
theorem sameCell_dv (cs cs2 : List Value) (d d2 : DV) (w : World) (h : At w tyCell cs d) (h2 : At w tyCell cs2 d2) (hf : Fits 1048576 d) :
    Calls Try.prog 53 #[.agg cs.toArray, .agg cs2.toArray] w fun e w' => GotB e d d2 ∧ Below w.heap.size w w' := by
  obtain ⟨id, Atree_nodes, ctree_nodes, tree_nodes, dtree, rfl, rfl, Htree⟩ := Rd.invCell h
  obtain ⟨id2, Atree_nodes2, ctree_nodes2, tree_nodes2, dtree2, rfl, rfl, Htree2⟩ := Rd.invCell h2
  have hba : Hid (Below w.heap.size w ((w.alloc (.cells #[.int .i64 id, .slice Atree_nodes tree_nodes.length ctree_nodes] 99)).alloc (.cells #[.int .i64 id2, .slice Atree_nodes2 tree_nodes2.length ctree_nodes2] 99))) := Joins.below_alloc2 w _ _
  have HHtree : Hid (At w tyTree [.slice Atree_nodes tree_nodes.length ctree_nodes] dtree) := Htree; clear Htree
  have HHtree2 : Hid (At w tyTree [.slice Atree_nodes2 tree_nodes2.length ctree_nodes2] dtree2) := Htree2; clear Htree2
  have HFtree := Lib.hid hf.snd.fst
  clear hf
  have HV : Hid (∀ b : Bool, (b = true ↔ id = id2 ∧ dtree = dtree2) → EqB b (.pair (.num id) (.pair dtree .unit)) (.pair (.num id2) (.pair dtree2 .unit))) := fun b hb => by
    unfold EqB; rw [hb]; simp only [DV.pair.injEq, DV.num.injEq, DV.bool.injEq, DV.str.injEq, and_true]
  have C0 := Lib.hid ((CellsAt.new w #[.int .i64 id, .slice Atree_nodes tree_nodes.length ctree_nodes] 99).below (Joins.below_alloc1 _ (.cells #[.int .i64 id2, .slice Atree_nodes2 tree_nodes2.length ctree_nodes2] 99)))
  have D0 := Lib.hid (CellsAt.new (w.alloc (.cells #[.int .i64 id, .slice Atree_nodes tree_nodes.length ctree_nodes] 99)) #[.int .i64 id2, .slice Atree_nodes2 tree_nodes2.length ctree_nodes2] 99)
  have hz1 : (w.alloc (.cells #[.int .i64 id, .slice Atree_nodes tree_nodes.length ctree_nodes] 99)).heap.size = w.heap.size + 1 := by simp
  rw [hz1] at D0; clear hz1
  go_enter Try.func53, Try.ntmps53
  rcases eqForms id id2 with ⟨e1, e2, Eid⟩ | ⟨e1, e2, Eid⟩
  rotate_left
  · have hne := Eid.out
    go_wp2_with fail
    go_ret
    exact ⟨⟨false, rfl, HV.out false (by simp [hne])⟩, hba.out⟩
  go_wp2_with fail
  refine (iSameTree_dv _ _ _ _ _ (HHtree.out.on hba.out) (HHtree2.out.on hba.out) HFtree.out).mono ?_
  rintro e w1 ⟨⟨r1, rfl, HE1⟩, b1⟩
  have B1 := Lib.hid (below_trans hba.out b1)
  have C1 := Lib.hid (C0.out.below b1)
  have D1 := Lib.hid (D0.out.below b1)
  clear C0 D0 b1
  cases r1
  · have hne : ¬ dtree = dtree2 := fun h => by have := HE1.2 h; cases this
    go_wp2_with fail
    go_ret
    exact ⟨⟨false, rfl, HV.out false (by simp [hne])⟩, B1.out⟩
  have Etree := Lib.hid (HE1.1 rfl); clear HE1
  go_wp2_with fail
  go_ret
  exact ⟨⟨true, rfl, HV.out true (by simp [Eid.out, Etree.out])⟩, B1.out⟩

theorem At.getCell {w : World} {A : Option Addr} {n c : Nat} {ds : List DV} (h : At w (.sl tyCell) [.slice A n c] (.sl ds)) {k : Nat} (hk : k < ds.length) : ∃ (ad : Addr) (id : Int) (Atree_nodes : Option Addr) (ctree_nodes : Nat) (tree_nodes : List DV), A = some ad ∧ ad.block < w.heap.size ∧ At w tyCell [.int .i64 id, .slice Atree_nodes tree_nodes.length ctree_nodes] ds[k] ∧ w.cell? (ad.add (k * 2)) = some (.int .i64 id) ∧ w.cell? ⟨(ad.add (k * 2)).block, (ad.add (k * 2)).off + 1, none⟩ = some (.slice Atree_nodes tree_nodes.length ctree_nodes) := by
  obtain ⟨ad, ec, hA, _, hb, hc, hr⟩ := Rd.get h hk
  obtain ⟨id, Atree_nodes, ctree_nodes, tree_nodes, rfl⟩ := hr.cellsCell
  refine ⟨ad, _, _, _, _, hA, hb, hr, hc 0 _ rfl, ?_⟩
  · rw [show (⟨(ad.add (k * 2)).block, (ad.add (k * 2)).off + 1, none⟩ : Addr) = ad.add (k * 2 + 1) by rw [← add_posD, add_of_add]]; exact hc 1 _ rfl

set_option maxHeartbeats 1000000 in
set_option maxRecDepth 8000 in
theorem szCellS_dv (v : Value) (d : DV) (left : Int) (w : World) (h : At w (.sl tyCell) [v] d) (hf : Fits maxLen d) (h0 : 0 ≤ left) (h1 : left ≤ 1048576) :
    Calls Try.prog 42 #[v, .int .i64 left] w fun e w' => (∃ q : Int, e = .returned (.int .i64 q) ∧ -1 ≤ q ∧ q ≤ left ∧ Hid (0 ≤ q → Fits 1048576 d)) ∧ Below w.heap.size w w' := by
  obtain ⟨A, c, ds, hv, rfl, hc, hr⟩ := Rd.inv_sl h
  simp only [List.cons.injEq, and_true] at hv
  subst hv
  have H : Hid (At w (.sl tyCell) [.slice A ds.length c] (.sl ds)) := hr; clear h hr
  have hl := hf.len
  unfold maxLen at hl
  have HOK := Lib.hid hf.mem; clear hf
  by_cases hn : left - ds.length < 0
  · go_enter Try.func42, Try.ntmps42
    go_wp2
    go_ret
    exact ⟨⟨_, rfl, by omega, by omega, fun h => by omega⟩, below_refl _⟩
  · go_enter Try.func42, Try.ntmps42
    go_wp2
    go_loopw [1, 5] (fun l i wr => ∃ (k : Nat) (q : Int), k ≤ ds.length ∧ i = .int .i64 k ∧ l = .int .i64 q ∧ 0 ≤ q ∧ q ≤ left ∧ Hid (∀ x ∈ ds.take k, Fits 1048576 x) ∧ Below w.heap.size w wr) (fun _ i _ => ds.length - (intOf i).toNat)
    case atStart => exact ⟨0, _, Nat.zero_le _, rfl, rfl, by omega, by omega, fun x hx => by simp at hx, below_refl _⟩
    case round =>
      obtain ⟨k, q, hk, rfl, rfl, hq0, hq1, HI, hbel⟩ := hrel
      by_cases hlt : k < ds.length
      · have HB := Lib.hid hbel
        obtain ⟨ad, id, Atree_nodes, ctree_nodes, tree_nodes, rfl, hbl, hat, a0, a1⟩ := (H.out.on hbel).getCell hlt
        have HX := Lib.hid (HOK.out _ (List.getElem_mem hlt))
        have HT := Lib.hid (List.take_succ_eq_append_getElem hlt)
        have HAT := Lib.hid hat; clear hat
        generalize ds[k] = x at *
        go_wp2_with fail
        refine (szCell_dv _ x q _ HAT.out HX.out hq0 (by omega)).mono ?_
        rintro e w2 ⟨⟨q', rfl, q1, q2, HQ⟩, b2⟩
        clear a0 a1
        by_cases q0 : q' < 0
        · go_wp2_with fail
          go_ret
          exact ⟨⟨_, rfl, by omega, by omega, fun h => by omega⟩, below_trans HB.out b2⟩
        · go_wp2_with fail
          refine ⟨⟨k + 1, q', by omega, by go_num, rfl, by omega, by omega, ?_, below_trans HB.out b2⟩, by simp [intOf]; omega⟩
          intro x hx
          rw [HT.out] at hx
          rcases List.mem_append.1 hx with hx | hx
          · exact HI.out x hx
          · rw [List.mem_singleton] at hx; subst hx; exact HQ.out (by omega)
      · obtain rfl : k = ds.length := by omega
        rw [List.take_length] at HI
        go_wp2
        go_ret
        exact ⟨⟨_, rfl, by omega, by omega, fun h => .sl _ (by omega) HI.out⟩, hbel⟩

theorem info_Cell : (Try.prog.info? 99).map (fun i => (i.zero, i.size, i.bytes)) = some (some (.agg #[.int .i64 0, .slice none 0 0]), 2, 32) := by kernel_rfl

theorem run_make_Cell (n : Nat) (hn : n ≤ 1048576) (w : World) : (Instr.makeSlice 43 (.int .i64 (n : Int)) (.int .i64 (n : Int))).run Try.prog w = .ok (.slice (some ⟨w.heap.size, 0, none⟩) n n) (w.alloc (.cells (madeCells #[.int .i64 0, .slice none 0 0] (n * 2)) 99)) := by
  obtain ⟨i0, hi0, hz0, hz1, hz2⟩ := info_parts info_Cell
  have h := run_make_rowN (P := Try.prog) 43 99 i0 _ Try.underlying43 hi0 hz0 .i64 .i64 n n (Nat.le_refl _) (by rw [hz2]; omega) (by omega) w
  rw [hz1] at h
  exact h

set_option maxHeartbeats 2000000 in
set_option maxRecDepth 8000 in
theorem toCellS_dv (v : Value) (d : DV) (w : World) (h : At w (.sl tyCell) [v] d) (hf : Fits 1048576 d) :
    Calls Try.prog 51 #[v] w fun e w' => ∃ v', e = .returned v' ∧ Rd w' w.heap.size w'.heap.size (.sl tyCell) [v'] d ∧ Below w.heap.size w w' := by
  obtain ⟨A, c, ds, hv, rfl, hc, hr⟩ := Rd.inv_sl h
  simp only [List.cons.injEq, and_true] at hv
  subst hv
  have H : Hid (At w (.sl tyCell) [.slice A ds.length c] (.sl ds)) := hr; clear h hr
  have hl := hf.len
  have HOK := Lib.hid hf.mem; clear hf
  have hmk := fun W => run_make_Cell ds.length hl W
  have HZ : Hid (Part (w.alloc (.cells (madeCells #[.int .i64 0, .slice none 0 0] (ds.length * 2)) 99)) w.heap.size ds.length 99 tyCell []) := Part.new w _ _ _ _ (by simp [madeCells, Ty.size])
  generalize madeCells #[.int .i64 0, .slice none 0 0] (ds.length * 2) = zs at *
  go_enter Try.func51, Try.ntmps51
  go_wp2
  go_loopw [4] (fun i wr => ∃ k : Nat, k ≤ ds.length ∧ i = .int .i64 k ∧ Hid (Part wr w.heap.size ds.length 99 tyCell (ds.take k)) ∧ Below w.heap.size w wr) (fun i _ => ds.length - (intOf i).toNat)
  case atStart => exact ⟨0, Nat.zero_le _, rfl, HZ.out, Joins.below_alloc1 w _⟩
  case round =>
    obtain ⟨k, hk, rfl, HO, hbel⟩ := hrel
    by_cases hlt : k < ds.length
    · have HB := Lib.hid hbel
      obtain ⟨ad, id, Atree_nodes, ctree_nodes, tree_nodes, rfl, hbl, hat, a0, a1⟩ := (H.out.on hbel).getCell hlt
      have HX := Lib.hid (HOK.out _ (List.getElem_mem hlt))
      have HT := Lib.hid (List.take_succ_eq_append_getElem hlt)
      have HAT := Lib.hid hat; clear hat
      generalize ds[k] = x at *
      go_wp2_with fail
      refine (toCell_dv _ x _ HAT.out HX.out).mono ?_
      rintro e w2 ⟨cs', rfl, hr, b2⟩
      have hbs := hbel.size
      have HO2 := Lib.hid (Part.on HO.out b2)
      have HB2 := Lib.hid (below_trans HB.out b2)
      have HR := Lib.hid (hr.got (lo := w.heap.size + 1) (by have := Part.lt HO.out; omega))
      obtain ⟨id', Atree_nodes', ctree_nodes', tree_nodes', rfl⟩ := hr.cellsCell
      obtain ⟨⟨u0, s0⟩, f0⟩ := HO2.out.slot hlt 0 (by decide)
      obtain ⟨⟨u1, s1⟩, f1⟩ := HO2.out.slot hlt 1 (by decide)
      simp only [Ty.size, Nat.add_zero, Nat.zero_add, Nat.reduceAdd, Nat.mul_one] at s0 f0 s1 f1
      clear hr b2 HO a0 a1
      go_wp2_with fail
      have hp := HO2.out.put [.int .i64 id', .slice Atree_nodes' tree_nodes'.length ctree_nodes'] x HR.out (by rw [List.length_take]; omega)
      rw [List.length_take, Nat.min_eq_left hk, ← HT.out] at hp
      exact ⟨⟨k + 1, by omega, by go_num, hp, setRow_below [.int .i64 id', .slice Atree_nodes' tree_nodes'.length ctree_nodes'] _ _ _ _ (k * (tyCell).size) (Nat.le_refl _) HB2.out⟩, by simp [intOf]; omega⟩
    · obtain rfl : k = ds.length := by omega
      rw [List.take_length] at HO
      go_wp2
      go_ret
      exact ⟨_, rfl, HO.out.rd rfl (Nat.le_refl _), hbel⟩

set_option maxHeartbeats 2000000 in
set_option maxRecDepth 8000 in
theorem eqCellS_dv (v v2 : Value) (d d2 : DV) (w : World) (h : At w (.sl tyCell) [v] d) (h2 : At w (.sl tyCell) [v2] d2) (hf : Fits 1048576 d) :
    Calls Try.prog 63 #[v, v2] w fun e w' => GotB e d d2 ∧ Below w.heap.size w w' := by
  obtain ⟨A, c, ds, hv, rfl, hc, hr⟩ := Rd.inv_sl h
  simp only [List.cons.injEq, and_true] at hv
  subst hv
  have H : Hid (At w (.sl tyCell) [.slice A ds.length c] (.sl ds)) := hr; clear h hr
  obtain ⟨A2, c2, es, hv, rfl, hc2, hr⟩ := Rd.inv_sl h2
  simp only [List.cons.injEq, and_true] at hv
  subst hv
  have H2 : Hid (At w (.sl tyCell) [.slice A2 es.length c2] (.sl es)) := hr; clear h2 hr
  have hl := hf.len
  have HOK := Lib.hid hf.mem; clear hf
  rcases eqForms (ds.length : Int) (es.length : Int) with ⟨e1, e2, e3⟩ | ⟨e1, e2, e3⟩
  · have hlen : ds.length = es.length := by have := e3.out; omega
    have e4 : (ds.length == es.length) = true := by simp [hlen]
    have e5 : (ds.length != es.length) = false := by simp [hlen]
    have HL := Lib.hid hlen; clear hlen
    go_enter Try.func63, Try.ntmps63
    go_wp2
    go_loopw [5] (fun i wr => ∃ k : Nat, k ≤ ds.length ∧ i = .int .i64 k ∧ Hid (DV.sl ds = .sl es ↔ DV.sl (ds.drop k) = .sl (es.drop k)) ∧ Below w.heap.size w wr) (fun i _ => ds.length - (intOf i).toNat)
    case atStart => exact ⟨0, Nat.zero_le _, rfl, by show _ ↔ _; rw [List.drop_zero, List.drop_zero], below_refl _⟩
    case round =>
      obtain ⟨k, hk, rfl, HI, hbel⟩ := hrel
      by_cases hlt : k < ds.length
      · have hlt2 : k < es.length := by rw [← HL.out]; exact hlt
        have HB : Hid (Below w.heap.size w wr.drew) := hbel.drew
        obtain ⟨ad, id, Atree_nodes, ctree_nodes, tree_nodes, rfl, hbl, hat, a0, a1⟩ := (H.out.on hbel).getCell hlt
        obtain ⟨ad2, id2, Atree_nodes2, ctree_nodes2, tree_nodes2, rfl, hbl2, hat2, b0, b1⟩ := (H2.out.on hbel).getCell hlt2
        have HX := Lib.hid (HOK.out _ (List.getElem_mem hlt))
        have HD := Lib.hid (List.drop_eq_getElem_cons hlt)
        have HD2 := Lib.hid (List.drop_eq_getElem_cons hlt2)
        have HA3 : Hid (At wr.drew tyCell [.int .i64 id, .slice Atree_nodes tree_nodes.length ctree_nodes] ds[k]) := hat.on ((below_refl wr).drew); clear hat
        have HA4 : Hid (At wr.drew tyCell [.int .i64 id2, .slice Atree_nodes2 tree_nodes2.length ctree_nodes2] es[k]) := hat2.on ((below_refl wr).drew); clear hat2
        generalize ds[k] = x at *
        generalize es[k] = y at *
        have i0 : (0 : Int) ≤ k := by omega
        have i1 : (k : Int) < ds.length := by omega
        have i2 : (k : Int) < es.length := by omega
        go_wp2_with fail
        have a0' : World.cell? { heap := wr.heap, tape := wr.tape, drawn := wr.drawn + 1, os := wr.os, output := wr.output } (ad.add (k * 2)) = some (.int .i64 id) := a0
        have b0' : World.cell? { heap := wr.heap, tape := wr.tape, drawn := wr.drawn + 1, os := wr.os, output := wr.output } (ad2.add (k * 2)) = some (.int .i64 id2) := b0
        have a1' : World.cell? { heap := wr.heap, tape := wr.tape, drawn := wr.drawn + 1, os := wr.os, output := wr.output } ⟨(ad.add (k * 2)).block, (ad.add (k * 2)).off + 1, none⟩ = some (.slice Atree_nodes tree_nodes.length ctree_nodes) := a1
        have b1' : World.cell? { heap := wr.heap, tape := wr.tape, drawn := wr.drawn + 1, os := wr.os, output := wr.output } ⟨(ad2.add (k * 2)).block, (ad2.add (k * 2)).off + 1, none⟩ = some (.slice Atree_nodes2 tree_nodes2.length ctree_nodes2) := b1
        go_still_tail 8, (by kernel_rfl)
        change wpList _ _ _ _ _ wr.drew
        generalize wr.drew = w5 at *
        clear a0 b0 a0' b0' a1 b1 a1' b1'
        go_wp2_with fail
        refine (eqCell_dv _ _ x y _ HA3.out HA4.out HX.out).mono ?_
        rintro e w6 ⟨⟨r, rfl, HE⟩, b6⟩
        have HB6 := Lib.hid (below_trans HB.out b6)
        have HEE := Lib.hid HE; clear HE b6
        cases r
        · go_wp2_with fail
          go_ret
          refine ⟨⟨false, rfl, ?_⟩, HB6.out⟩
          show _ ↔ _
          rw [HI.out, HD.out, HD2.out, sl_cons]
          exact ⟨fun h => (by cases h), fun h => HEE.out.2 h.1⟩
        · go_wp2_with fail
          refine ⟨⟨k + 1, by omega, by go_num, ?_, HB6.out⟩, by simp [intOf]; omega⟩
          show _ ↔ _
          rw [HI.out, HD.out, HD2.out, sl_cons]
          exact ⟨fun h => h.2, fun h => ⟨HEE.out.1 rfl, h⟩⟩
      · go_wp2
        go_ret
        refine ⟨⟨true, rfl, ?_⟩, hbel⟩
        have := HL.out
        show _ ↔ _
        rw [HI.out, List.drop_eq_nil_of_le (by omega), List.drop_eq_nil_of_le (by omega)]; simp
  · have e4 : (ds.length == es.length) = false := by have := e3.out; simp; omega
    have e5 : (ds.length != es.length) = true := by have := e3.out; simp; omega
    go_enter Try.func63, Try.ntmps63
    go_wp2
    go_ret
    refine ⟨⟨false, rfl, ?_⟩, below_refl _⟩
    show _ ↔ _
    exact ⟨fun h => (by cases h), fun h => absurd (sl_len h) (by have := e3.out; omega)⟩

theorem At.getLevel {w : World} {A : Option Addr} {n c : Nat} {ds : List DV} (h : At w (.sl tyLevel) [.slice A n c] (.sl ds)) {k : Nat} (hk : k < ds.length) : ∃ (ad : Addr) (Asaved : Option Addr) (csaved : Nat) (saved : List DV), A = some ad ∧ ad.block < w.heap.size ∧ At w tyLevel [.slice Asaved saved.length csaved] ds[k] ∧ w.cell? (ad.add k) = some (.slice Asaved saved.length csaved) := by
  obtain ⟨ad, ec, hA, _, hb, hc, hr⟩ := Rd.get h hk
  obtain ⟨Asaved, csaved, saved, rfl⟩ := hr.cellsLevel
  refine ⟨ad, _, _, _, hA, hb, hr, (by simpa [Ty.size] using hc 0 _ rfl)⟩

set_option maxHeartbeats 1000000 in
set_option maxRecDepth 8000 in
theorem szLevelS_dv (v : Value) (d : DV) (left : Int) (w : World) (h : At w (.sl tyLevel) [v] d) (hf : Fits maxLen d) (h0 : 0 ≤ left) (h1 : left ≤ 1048576) :
    Calls Try.prog 43 #[v, .int .i64 left] w fun e w' => (∃ q : Int, e = .returned (.int .i64 q) ∧ -1 ≤ q ∧ q ≤ left ∧ Hid (0 ≤ q → Fits 1048576 d)) ∧ Below w.heap.size w w' := by
  obtain ⟨A, c, ds, hv, rfl, hc, hr⟩ := Rd.inv_sl h
  simp only [List.cons.injEq, and_true] at hv
  subst hv
  have H : Hid (At w (.sl tyLevel) [.slice A ds.length c] (.sl ds)) := hr; clear h hr
  have hl := hf.len
  unfold maxLen at hl
  have HOK := Lib.hid hf.mem; clear hf
  by_cases hn : left - ds.length < 0
  · go_enter Try.func43, Try.ntmps43
    go_wp2
    go_ret
    exact ⟨⟨_, rfl, by omega, by omega, fun h => by omega⟩, below_refl _⟩
  · go_enter Try.func43, Try.ntmps43
    go_wp2
    go_loopw [1, 5] (fun l i wr => ∃ (k : Nat) (q : Int), k ≤ ds.length ∧ i = .int .i64 k ∧ l = .int .i64 q ∧ 0 ≤ q ∧ q ≤ left ∧ Hid (∀ x ∈ ds.take k, Fits 1048576 x) ∧ Below w.heap.size w wr) (fun _ i _ => ds.length - (intOf i).toNat)
    case atStart => exact ⟨0, _, Nat.zero_le _, rfl, rfl, by omega, by omega, fun x hx => by simp at hx, below_refl _⟩
    case round =>
      obtain ⟨k, q, hk, rfl, rfl, hq0, hq1, HI, hbel⟩ := hrel
      by_cases hlt : k < ds.length
      · have HB := Lib.hid hbel
        obtain ⟨ad, Asaved, csaved, saved, rfl, hbl, hat, a0⟩ := (H.out.on hbel).getLevel hlt
        have HX := Lib.hid (HOK.out _ (List.getElem_mem hlt))
        have HT := Lib.hid (List.take_succ_eq_append_getElem hlt)
        have HAT := Lib.hid hat; clear hat
        generalize ds[k] = x at *
        go_wp2_with fail
        refine (szLevel_dv _ x q _ HAT.out HX.out hq0 (by omega)).mono ?_
        rintro e w2 ⟨⟨q', rfl, q1, q2, HQ⟩, b2⟩
        clear a0
        by_cases q0 : q' < 0
        · go_wp2_with fail
          go_ret
          exact ⟨⟨_, rfl, by omega, by omega, fun h => by omega⟩, below_trans HB.out b2⟩
        · go_wp2_with fail
          refine ⟨⟨k + 1, q', by omega, by go_num, rfl, by omega, by omega, ?_, below_trans HB.out b2⟩, by simp [intOf]; omega⟩
          intro x hx
          rw [HT.out] at hx
          rcases List.mem_append.1 hx with hx | hx
          · exact HI.out x hx
          · rw [List.mem_singleton] at hx; subst hx; exact HQ.out (by omega)
      · obtain rfl : k = ds.length := by omega
        rw [List.take_length] at HI
        go_wp2
        go_ret
        exact ⟨⟨_, rfl, by omega, by omega, fun h => .sl _ (by omega) HI.out⟩, hbel⟩

theorem info_Level : (Try.prog.info? 103).map (fun i => (i.zero, i.size, i.bytes)) = some (some (.agg #[.slice none 0 0]), 1, 24) := by kernel_rfl

theorem run_make_Level (n : Nat) (hn : n ≤ 1048576) (w : World) : (Instr.makeSlice 44 (.int .i64 (n : Int)) (.int .i64 (n : Int))).run Try.prog w = .ok (.slice (some ⟨w.heap.size, 0, none⟩) n n) (w.alloc (.cells (madeCells #[.slice none 0 0] (n * 1)) 103)) := by
  obtain ⟨i0, hi0, hz0, hz1, hz2⟩ := info_parts info_Level
  have h := run_make_rowN (P := Try.prog) 44 103 i0 _ Try.underlying44 hi0 hz0 .i64 .i64 n n (Nat.le_refl _) (by rw [hz2]; omega) (by omega) w
  rw [hz1] at h
  exact h

set_option maxHeartbeats 2000000 in
set_option maxRecDepth 8000 in
theorem toLevelS_dv (v : Value) (d : DV) (w : World) (h : At w (.sl tyLevel) [v] d) (hf : Fits 1048576 d) :
    Calls Try.prog 52 #[v] w fun e w' => ∃ v', e = .returned v' ∧ Rd w' w.heap.size w'.heap.size (.sl tyLevel) [v'] d ∧ Below w.heap.size w w' := by
  obtain ⟨A, c, ds, hv, rfl, hc, hr⟩ := Rd.inv_sl h
  simp only [List.cons.injEq, and_true] at hv
  subst hv
  have H : Hid (At w (.sl tyLevel) [.slice A ds.length c] (.sl ds)) := hr; clear h hr
  have hl := hf.len
  have HOK := Lib.hid hf.mem; clear hf
  have hmk := fun W => run_make_Level ds.length hl W
  have HZ : Hid (Part (w.alloc (.cells (madeCells #[.slice none 0 0] (ds.length * 1)) 103)) w.heap.size ds.length 103 tyLevel []) := Part.new w _ _ _ _ (by simp [madeCells, Ty.size])
  generalize madeCells #[.slice none 0 0] (ds.length * 1) = zs at *
  go_enter Try.func52, Try.ntmps52
  go_wp2
  go_loopw [4] (fun i wr => ∃ k : Nat, k ≤ ds.length ∧ i = .int .i64 k ∧ Hid (Part wr w.heap.size ds.length 103 tyLevel (ds.take k)) ∧ Below w.heap.size w wr) (fun i _ => ds.length - (intOf i).toNat)
  case atStart => exact ⟨0, Nat.zero_le _, rfl, HZ.out, Joins.below_alloc1 w _⟩
  case round =>
    obtain ⟨k, hk, rfl, HO, hbel⟩ := hrel
    by_cases hlt : k < ds.length
    · have HB := Lib.hid hbel
      obtain ⟨ad, Asaved, csaved, saved, rfl, hbl, hat, a0⟩ := (H.out.on hbel).getLevel hlt
      have HX := Lib.hid (HOK.out _ (List.getElem_mem hlt))
      have HT := Lib.hid (List.take_succ_eq_append_getElem hlt)
      have HAT := Lib.hid hat; clear hat
      generalize ds[k] = x at *
      go_wp2_with fail
      refine (toLevel_dv _ x _ HAT.out HX.out).mono ?_
      rintro e w2 ⟨cs', rfl, hr, b2⟩
      have hbs := hbel.size
      have HO2 := Lib.hid (Part.on HO.out b2)
      have HB2 := Lib.hid (below_trans HB.out b2)
      have HR := Lib.hid (hr.got (lo := w.heap.size + 1) (by have := Part.lt HO.out; omega))
      obtain ⟨Asaved', csaved', saved', rfl⟩ := hr.cellsLevel
      obtain ⟨⟨u0, s0⟩, f0⟩ := HO2.out.slot hlt 0 (by decide)
      simp only [Ty.size, Nat.add_zero, Nat.zero_add, Nat.reduceAdd, Nat.mul_one] at s0 f0
      clear hr b2 HO a0
      go_wp2_with fail
      have hp := HO2.out.put [.slice Asaved' saved'.length csaved'] x HR.out (by rw [List.length_take]; omega)
      rw [List.length_take, Nat.min_eq_left hk, ← HT.out] at hp
      rw [show k * (tyLevel).size = k from Nat.mul_one k] at hp
      exact ⟨⟨k + 1, by omega, by go_num, hp, setRow_below [.slice Asaved' saved'.length csaved'] _ _ _ _ k (Nat.le_refl _) HB2.out⟩, by simp [intOf]; omega⟩
    · obtain rfl : k = ds.length := by omega
      rw [List.take_length] at HO
      go_wp2
      go_ret
      exact ⟨_, rfl, HO.out.rd rfl (Nat.le_refl _), hbel⟩

set_option maxHeartbeats 2000000 in
set_option maxRecDepth 8000 in
theorem eqLevelS_dv (v v2 : Value) (d d2 : DV) (w : World) (h : At w (.sl tyLevel) [v] d) (h2 : At w (.sl tyLevel) [v2] d2) (hf : Fits 1048576 d) :
    Calls Try.prog 64 #[v, v2] w fun e w' => GotB e d d2 ∧ Below w.heap.size w w' := by
  obtain ⟨A, c, ds, hv, rfl, hc, hr⟩ := Rd.inv_sl h
  simp only [List.cons.injEq, and_true] at hv
  subst hv
  have H : Hid (At w (.sl tyLevel) [.slice A ds.length c] (.sl ds)) := hr; clear h hr
  obtain ⟨A2, c2, es, hv, rfl, hc2, hr⟩ := Rd.inv_sl h2
  simp only [List.cons.injEq, and_true] at hv
  subst hv
  have H2 : Hid (At w (.sl tyLevel) [.slice A2 es.length c2] (.sl es)) := hr; clear h2 hr
  have hl := hf.len
  have HOK := Lib.hid hf.mem; clear hf
  rcases eqForms (ds.length : Int) (es.length : Int) with ⟨e1, e2, e3⟩ | ⟨e1, e2, e3⟩
  · have hlen : ds.length = es.length := by have := e3.out; omega
    have e4 : (ds.length == es.length) = true := by simp [hlen]
    have e5 : (ds.length != es.length) = false := by simp [hlen]
    have HL := Lib.hid hlen; clear hlen
    go_enter Try.func64, Try.ntmps64
    go_wp2
    go_loopw [5] (fun i wr => ∃ k : Nat, k ≤ ds.length ∧ i = .int .i64 k ∧ Hid (DV.sl ds = .sl es ↔ DV.sl (ds.drop k) = .sl (es.drop k)) ∧ Below w.heap.size w wr) (fun i _ => ds.length - (intOf i).toNat)
    case atStart => exact ⟨0, Nat.zero_le _, rfl, by show _ ↔ _; rw [List.drop_zero, List.drop_zero], below_refl _⟩
    case round =>
      obtain ⟨k, hk, rfl, HI, hbel⟩ := hrel
      by_cases hlt : k < ds.length
      · have hlt2 : k < es.length := by rw [← HL.out]; exact hlt
        have HB : Hid (Below w.heap.size w wr.drew) := hbel.drew
        obtain ⟨ad, Asaved, csaved, saved, rfl, hbl, hat, a0⟩ := (H.out.on hbel).getLevel hlt
        obtain ⟨ad2, Asaved2, csaved2, saved2, rfl, hbl2, hat2, b0⟩ := (H2.out.on hbel).getLevel hlt2
        have HX := Lib.hid (HOK.out _ (List.getElem_mem hlt))
        have HD := Lib.hid (List.drop_eq_getElem_cons hlt)
        have HD2 := Lib.hid (List.drop_eq_getElem_cons hlt2)
        have HA3 : Hid (At wr.drew tyLevel [.slice Asaved saved.length csaved] ds[k]) := hat.on ((below_refl wr).drew); clear hat
        have HA4 : Hid (At wr.drew tyLevel [.slice Asaved2 saved2.length csaved2] es[k]) := hat2.on ((below_refl wr).drew); clear hat2
        generalize ds[k] = x at *
        generalize es[k] = y at *
        have i0 : (0 : Int) ≤ k := by omega
        have i1 : (k : Int) < ds.length := by omega
        have i2 : (k : Int) < es.length := by omega
        go_wp2_with fail
        have a0' : World.cell? { heap := wr.heap, tape := wr.tape, drawn := wr.drawn + 1, os := wr.os, output := wr.output } (ad.add k) = some (.slice Asaved saved.length csaved) := a0
        have b0' : World.cell? { heap := wr.heap, tape := wr.tape, drawn := wr.drawn + 1, os := wr.os, output := wr.output } (ad2.add k) = some (.slice Asaved2 saved2.length csaved2) := b0
        go_still_tail 8, (by kernel_rfl)
        change wpList _ _ _ _ _ wr.drew
        generalize wr.drew = w5 at *
        clear a0 b0 a0' b0'
        go_wp2_with fail
        refine (eqLevel_dv _ _ x y _ HA3.out HA4.out HX.out).mono ?_
        rintro e w6 ⟨⟨r, rfl, HE⟩, b6⟩
        have HB6 := Lib.hid (below_trans HB.out b6)
        have HEE := Lib.hid HE; clear HE b6
        cases r
        · go_wp2_with fail
          go_ret
          refine ⟨⟨false, rfl, ?_⟩, HB6.out⟩
          show _ ↔ _
          rw [HI.out, HD.out, HD2.out, sl_cons]
          exact ⟨fun h => (by cases h), fun h => HEE.out.2 h.1⟩
        · go_wp2_with fail
          refine ⟨⟨k + 1, by omega, by go_num, ?_, HB6.out⟩, by simp [intOf]; omega⟩
          show _ ↔ _
          rw [HI.out, HD.out, HD2.out, sl_cons]
          exact ⟨fun h => h.2, fun h => ⟨HEE.out.1 rfl, h⟩⟩
      · go_wp2
        go_ret
        refine ⟨⟨true, rfl, ?_⟩, hbel⟩
        have := HL.out
        show _ ↔ _
        rw [HI.out, List.drop_eq_nil_of_le (by omega), List.drop_eq_nil_of_le (by omega)]; simp
  · have e4 : (ds.length == es.length) = false := by have := e3.out; simp; omega
    have e5 : (ds.length != es.length) = true := by have := e3.out; simp; omega
    go_enter Try.func64, Try.ntmps64
    go_wp2
    go_ret
    refine ⟨⟨false, rfl, ?_⟩, below_refl _⟩
    show _ ↔ _
    exact ⟨fun h => (by cases h), fun h => absurd (sl_len h) (by have := e3.out; omega)⟩

set_option maxHeartbeats 2000000 in
set_option maxRecDepth 8000 in
theorem EqualCell_dv (v v2 : Value) (d d2 : DV) (w : World) (h : At w (.sl tyCell) [v] d) (h2 : At w (.sl tyCell) [v2] d2) (hf : Fits 1048576 d) :
    Calls Try.prog 57 #[v, v2, .func (.func 53) #[] #[]] w fun e w' => GotB e d d2 ∧ Below w.heap.size w w' := by
  obtain ⟨A, c, ds, hv, rfl, hc, hr⟩ := Rd.inv_sl h
  simp only [List.cons.injEq, and_true] at hv
  subst hv
  have H : Hid (At w (.sl tyCell) [.slice A ds.length c] (.sl ds)) := hr; clear h hr
  obtain ⟨A2, c2, es, hv, rfl, hc2, hr⟩ := Rd.inv_sl h2
  simp only [List.cons.injEq, and_true] at hv
  subst hv
  have H2 : Hid (At w (.sl tyCell) [.slice A2 es.length c2] (.sl es)) := hr; clear h2 hr
  have hl := hf.len
  have HOK := Lib.hid hf.mem; clear hf
  rcases eqForms (ds.length : Int) (es.length : Int) with ⟨e1, e2, e3⟩ | ⟨e1, e2, e3⟩
  · have hlen : ds.length = es.length := by have := e3.out; omega
    have e4 : (ds.length == es.length) = true := by simp [hlen]
    have e5 : (ds.length != es.length) = false := by simp [hlen]
    have HL := Lib.hid hlen; clear hlen
    go_enter Try.func57, Try.ntmps57
    go_wp2
    go_loopw [17] (fun i wr => ∃ k : Nat, k ≤ ds.length ∧ i = .int .i64 k ∧ Hid (DV.sl ds = .sl es ↔ DV.sl (ds.drop k) = .sl (es.drop k)) ∧ Below w.heap.size w wr) (fun i _ => ds.length - (intOf i).toNat)
    case atStart => exact ⟨0, Nat.zero_le _, rfl, by show _ ↔ _; rw [List.drop_zero, List.drop_zero], below_refl _⟩
    case round =>
      obtain ⟨k, hk, rfl, HI, hbel⟩ := hrel
      by_cases hlt : k < ds.length
      · have hlt2 : k < es.length := by rw [← HL.out]; exact hlt
        obtain ⟨ad, id, Atree_nodes, ctree_nodes, tree_nodes, rfl, hbl, hat, a0, a1⟩ := (H.out.on hbel).getCell hlt
        have hb1a := Joins.below_alloc1 wr (.cells #[.int .i64 id, .slice Atree_nodes tree_nodes.length ctree_nodes] 99)
        have hb1 := below_trans hbel hb1a
        obtain ⟨ad2, id2, Atree_nodes2, ctree_nodes2, tree_nodes2, rfl, hbl2, hat2, b0, b1⟩ := (H2.out.on hb1).getCell hlt2
        have hb2a := Joins.below_alloc1 (wr.alloc (.cells #[.int .i64 id, .slice Atree_nodes tree_nodes.length ctree_nodes] 99)) (.cells #[.int .i64 id2, .slice Atree_nodes2 tree_nodes2.length ctree_nodes2] 99)
        have HX := Lib.hid (HOK.out _ (List.getElem_mem hlt))
        have HD := Lib.hid (List.drop_eq_getElem_cons hlt)
        have HD2 := Lib.hid (List.drop_eq_getElem_cons hlt2)
        have HA3 := Lib.hid ((hat.on hb1a).on hb2a)
        have HA4 := Lib.hid (hat2.on hb2a)
        have HB := Lib.hid (below_trans hb1 hb2a)
        clear hat hat2 hb1 hb1a hb2a
        generalize ds[k] = x at *
        generalize es[k] = y at *
        have i0 : (0 : Int) ≤ k := by omega
        have i1 : (k : Int) < ds.length := by omega
        have i2 : (k : Int) < es.length := by omega
        go_wp2_with fail
        refine (sameCell_dv _ _ x y _ HA3.out HA4.out HX.out).mono ?_
        rintro e w6 ⟨⟨r, rfl, HE⟩, b6⟩
        have HB6 := Lib.hid (below_trans HB.out b6)
        have HEE := Lib.hid HE; clear HE b6
        cases r
        · go_wp2_with fail
          go_ret
          refine ⟨⟨false, rfl, ?_⟩, HB6.out⟩
          show _ ↔ _
          rw [HI.out, HD.out, HD2.out, sl_cons]
          exact ⟨fun h => (by cases h), fun h => HEE.out.2 h.1⟩
        · go_wp2_with fail
          refine ⟨⟨k + 1, by omega, by go_num, ?_, HB6.out⟩, by simp [intOf]; omega⟩
          show _ ↔ _
          rw [HI.out, HD.out, HD2.out, sl_cons]
          exact ⟨fun h => h.2, fun h => ⟨HEE.out.1 rfl, h⟩⟩
      · go_wp2
        go_ret
        refine ⟨⟨true, rfl, ?_⟩, hbel⟩
        have := HL.out
        show _ ↔ _
        rw [HI.out, List.drop_eq_nil_of_le (by omega), List.drop_eq_nil_of_le (by omega)]; simp
  · have e4 : (ds.length == es.length) = false := by have := e3.out; simp; omega
    have e5 : (ds.length != es.length) = true := by have := e3.out; simp; omega
    go_enter Try.func57, Try.ntmps57
    go_wp2
    go_ret
    refine ⟨⟨false, rfl, ?_⟩, below_refl _⟩
    show _ ↔ _
    exact ⟨fun h => (by cases h), fun h => absurd (sl_len h) (by have := e3.out; omega)⟩

set_option maxHeartbeats 2000000 in
set_option maxRecDepth 8000 in
theorem EqualLevel_dv (v v2 : Value) (d d2 : DV) (w : World) (h : At w (.sl tyLevel) [v] d) (h2 : At w (.sl tyLevel) [v2] d2) (hf : Fits 1048576 d) :
    Calls Try.prog 58 #[v, v2, .func (.func 55) #[] #[]] w fun e w' => GotB e d d2 ∧ Below w.heap.size w w' := by
  obtain ⟨A, c, ds, hv, rfl, hc, hr⟩ := Rd.inv_sl h
  simp only [List.cons.injEq, and_true] at hv
  subst hv
  have H : Hid (At w (.sl tyLevel) [.slice A ds.length c] (.sl ds)) := hr; clear h hr
  obtain ⟨A2, c2, es, hv, rfl, hc2, hr⟩ := Rd.inv_sl h2
  simp only [List.cons.injEq, and_true] at hv
  subst hv
  have H2 : Hid (At w (.sl tyLevel) [.slice A2 es.length c2] (.sl es)) := hr; clear h2 hr
  have hl := hf.len
  have HOK := Lib.hid hf.mem; clear hf
  rcases eqForms (ds.length : Int) (es.length : Int) with ⟨e1, e2, e3⟩ | ⟨e1, e2, e3⟩
  · have hlen : ds.length = es.length := by have := e3.out; omega
    have e4 : (ds.length == es.length) = true := by simp [hlen]
    have e5 : (ds.length != es.length) = false := by simp [hlen]
    have HL := Lib.hid hlen; clear hlen
    go_enter Try.func58, Try.ntmps58
    go_wp2
    go_loopw [17] (fun i wr => ∃ k : Nat, k ≤ ds.length ∧ i = .int .i64 k ∧ Hid (DV.sl ds = .sl es ↔ DV.sl (ds.drop k) = .sl (es.drop k)) ∧ Below w.heap.size w wr) (fun i _ => ds.length - (intOf i).toNat)
    case atStart => exact ⟨0, Nat.zero_le _, rfl, by show _ ↔ _; rw [List.drop_zero, List.drop_zero], below_refl _⟩
    case round =>
      obtain ⟨k, hk, rfl, HI, hbel⟩ := hrel
      by_cases hlt : k < ds.length
      · have hlt2 : k < es.length := by rw [← HL.out]; exact hlt
        obtain ⟨ad, Asaved, csaved, saved, rfl, hbl, hat, a0⟩ := (H.out.on hbel).getLevel hlt
        have hb1a := Joins.below_alloc1 wr (.cells #[.slice Asaved saved.length csaved] 103)
        have hb1 := below_trans hbel hb1a
        obtain ⟨ad2, Asaved2, csaved2, saved2, rfl, hbl2, hat2, b0⟩ := (H2.out.on hb1).getLevel hlt2
        have hb2a := Joins.below_alloc1 (wr.alloc (.cells #[.slice Asaved saved.length csaved] 103)) (.cells #[.slice Asaved2 saved2.length csaved2] 103)
        have HX := Lib.hid (HOK.out _ (List.getElem_mem hlt))
        have HD := Lib.hid (List.drop_eq_getElem_cons hlt)
        have HD2 := Lib.hid (List.drop_eq_getElem_cons hlt2)
        have HA3 := Lib.hid ((hat.on hb1a).on hb2a)
        have HA4 := Lib.hid (hat2.on hb2a)
        have HB := Lib.hid (below_trans hb1 hb2a)
        clear hat hat2 hb1 hb1a hb2a
        generalize ds[k] = x at *
        generalize es[k] = y at *
        have i0 : (0 : Int) ≤ k := by omega
        have i1 : (k : Int) < ds.length := by omega
        have i2 : (k : Int) < es.length := by omega
        go_wp2_with fail
        refine (sameLevel_dv _ _ x y _ HA3.out HA4.out HX.out).mono ?_
        rintro e w6 ⟨⟨r, rfl, HE⟩, b6⟩
        have HB6 := Lib.hid (below_trans HB.out b6)
        have HEE := Lib.hid HE; clear HE b6
        cases r
        · go_wp2_with fail
          go_ret
          refine ⟨⟨false, rfl, ?_⟩, HB6.out⟩
          show _ ↔ _
          rw [HI.out, HD.out, HD2.out, sl_cons]
          exact ⟨fun h => (by cases h), fun h => HEE.out.2 h.1⟩
        · go_wp2_with fail
          refine ⟨⟨k + 1, by omega, by go_num, ?_, HB6.out⟩, by simp [intOf]; omega⟩
          show _ ↔ _
          rw [HI.out, HD.out, HD2.out, sl_cons]
          exact ⟨fun h => h.2, fun h => ⟨HEE.out.1 rfl, h⟩⟩
      · go_wp2
        go_ret
        refine ⟨⟨true, rfl, ?_⟩, hbel⟩
        have := HL.out
        show _ ↔ _
        rw [HI.out, List.drop_eq_nil_of_le (by omega), List.drop_eq_nil_of_le (by omega)]; simp
  · have e4 : (ds.length == es.length) = false := by have := e3.out; simp; omega
    have e5 : (ds.length != es.length) = true := by have := e3.out; simp; omega
    go_enter Try.func58, Try.ntmps58
    go_wp2
    go_ret
    refine ⟨⟨false, rfl, ?_⟩, below_refl _⟩
    show _ ↔ _
    exact ⟨fun h => (by cases h), fun h => absurd (sl_len h) (by have := e3.out; omega)⟩

set_option maxHeartbeats 2000000 in
set_option maxRecDepth 8000 in
theorem l09SameBinds_dv (v v2 : Value) (d d2 : DV) (w : World) (h : At w (.sl tyBind) [v] d) (h2 : At w (.sl tyBind) [v2] d2) (hf : Fits 1048576 d) :
    Calls Try.prog 68 #[v, v2] w fun e w' => GotB e d d2 ∧ Below w.heap.size w w' := by
  obtain ⟨A, c, ds, hv, rfl, hc, hr⟩ := Rd.inv_sl h
  simp only [List.cons.injEq, and_true] at hv
  subst hv
  have H : Hid (At w (.sl tyBind) [.slice A ds.length c] (.sl ds)) := hr; clear h hr
  obtain ⟨A2, c2, es, hv, rfl, hc2, hr⟩ := Rd.inv_sl h2
  simp only [List.cons.injEq, and_true] at hv
  subst hv
  have H2 : Hid (At w (.sl tyBind) [.slice A2 es.length c2] (.sl es)) := hr; clear h2 hr
  have hl := hf.len
  have HOK := Lib.hid hf.mem; clear hf
  rcases eqForms (ds.length : Int) (es.length : Int) with ⟨e1, e2, e3⟩ | ⟨e1, e2, e3⟩
  · have hlen : ds.length = es.length := by have := e3.out; omega
    have e4 : (ds.length == es.length) = true := by simp [hlen]
    have e5 : (ds.length != es.length) = false := by simp [hlen]
    have HL := Lib.hid hlen; clear hlen
    go_enter Try.func68, Try.ntmps68
    go_wp2
    go_loopw [5] (fun i wr => ∃ k : Nat, k ≤ ds.length ∧ i = .int .i64 k ∧ Hid (DV.sl ds = .sl es ↔ DV.sl (ds.drop k) = .sl (es.drop k)) ∧ Below w.heap.size w wr) (fun i _ => ds.length - (intOf i).toNat)
    case atStart => exact ⟨0, Nat.zero_le _, rfl, by show _ ↔ _; rw [List.drop_zero, List.drop_zero], below_refl _⟩
    case round =>
      obtain ⟨k, hk, rfl, HI, hbel⟩ := hrel
      by_cases hlt : k < ds.length
      · have hlt2 : k < es.length := by rw [← HL.out]; exact hlt
        have HB := Lib.hid hbel
        obtain ⟨ad, name, cell, rfl, hbl, hat, a0, a1⟩ := (H.out.on hbel).getBind hlt
        obtain ⟨ad2, name2, cell2, rfl, hbl2, hat2, b0, b1⟩ := (H2.out.on hbel).getBind hlt2
        have HD := Lib.hid (List.drop_eq_getElem_cons hlt)
        have HD2 := Lib.hid (List.drop_eq_getElem_cons hlt2)
        have HX : Hid (ds[k] = .pair (.str name) (.pair (.num cell) .unit)) := by
          obtain ⟨y0, y1, e1, e2⟩ := Rd.invBind hat
          simp only [List.cons.injEq, Value.int.injEq, Value.bool.injEq, Value.string.injEq, and_true, true_and] at e1
          obtain ⟨rfl, rfl⟩ := e1
          exact e2
        have HY : Hid (es[k] = .pair (.str name2) (.pair (.num cell2) .unit)) := by
          obtain ⟨y0, y1, e1, e2⟩ := Rd.invBind hat2
          simp only [List.cons.injEq, Value.int.injEq, Value.bool.injEq, Value.string.injEq, and_true, true_and] at e1
          obtain ⟨rfl, rfl⟩ := e1
          exact e2
        rw [HX.out] at HD
        rw [HY.out] at HD2
        clear hat hat2 HX HY
        have HC := Lib.hid (conj_Bind name name2 cell cell2)
        have hne := fun W => neqBind_run name name2 cell cell2 W
        obtain ⟨r, hr⟩ : ∃ r : Bool, decide (name = name2 ∧ cell = cell2) = r := ⟨_, rfl⟩
        rw [hr] at hne
        have HR := Lib.hid hr; clear hr
        have i0 : (0 : Int) ≤ k := by omega
        have i1 : (k : Int) < ds.length := by omega
        have i2 : (k : Int) < es.length := by omega
        cases r
        · go_wp2
          go_quiet (fail)
          go_wp2
          go_ret
          refine ⟨⟨false, rfl, ?_⟩, (below_trans HB.out (below_drewN _ _))⟩
          show _ ↔ _
          rw [HI.out, HD.out, HD2.out, sl_cons]
          exact ⟨fun h => (by cases h), fun h => absurd (HC.out.2 h.1) (of_decide_eq_false HR.out)⟩
        · go_wp2
          go_quiet (fail)
          go_wp2
          refine ⟨⟨k + 1, by omega, by go_num, ?_, (below_trans HB.out (below_drewN _ _))⟩, by simp [intOf]; omega⟩
          show _ ↔ _
          rw [HI.out, HD.out, HD2.out, sl_cons]
          exact ⟨fun h => h.2, fun h => ⟨HC.out.1 (of_decide_eq_true HR.out), h⟩⟩
      · go_wp2
        go_ret
        refine ⟨⟨true, rfl, ?_⟩, hbel⟩
        have := HL.out
        show _ ↔ _
        rw [HI.out, List.drop_eq_nil_of_le (by omega), List.drop_eq_nil_of_le (by omega)]; simp
  · have e4 : (ds.length == es.length) = false := by have := e3.out; simp; omega
    have e5 : (ds.length != es.length) = true := by have := e3.out; simp; omega
    go_enter Try.func68, Try.ntmps68
    go_wp2
    go_ret
    refine ⟨⟨false, rfl, ?_⟩, below_refl _⟩
    show _ ↔ _
    exact ⟨fun h => (by cases h), fun h => absurd (sl_len h) (by have := e3.out; omega)⟩

theorem At.getfCell {w : World} {A : Option Addr} {n c : Nat} {ds : List DV} (h : At w (.sl tyCell) [.slice A n c] (.sl ds)) {k : Nat} (hk : k < ds.length) : ∃ (ad : Addr) (id : Int) (Atree_nodes : Option Addr) (ctree_nodes : Nat) (tree_nodes : List DV) (dtree : DV), A = some ad ∧ ad.block < w.heap.size ∧ ds[k] = .pair (.num id) (.pair dtree .unit) ∧ At w tyTree [.slice Atree_nodes tree_nodes.length ctree_nodes] dtree ∧ w.cell? (ad.add (k * 2)) = some (.int .i64 id) ∧ w.cell? ⟨(ad.add (k * 2)).block, (ad.add (k * 2)).off + 1, none⟩ = some (.slice Atree_nodes tree_nodes.length ctree_nodes) := by
  obtain ⟨ad, ec, hA, _, hb, hc, hr⟩ := Rd.get h hk
  obtain ⟨id, Atree_nodes, ctree_nodes, tree_nodes, dtree, rfl, hd, Rtree⟩ := hr.invCell
  refine ⟨ad, _, _, _, _, _, hA, hb, hd, Rtree, hc 0 _ rfl, ?_⟩
  · rw [show (⟨(ad.add (k * 2)).block, (ad.add (k * 2)).off + 1, none⟩ : Addr) = ad.add (k * 2 + 1) by rw [← add_posD, add_of_add]]; exact hc 1 _ rfl

theorem At.getfLevel {w : World} {A : Option Addr} {n c : Nat} {ds : List DV} (h : At w (.sl tyLevel) [.slice A n c] (.sl ds)) {k : Nat} (hk : k < ds.length) : ∃ (ad : Addr) (Asaved : Option Addr) (csaved : Nat) (saved : List DV), A = some ad ∧ ad.block < w.heap.size ∧ ds[k] = .pair (.sl saved) .unit ∧ At w (.sl tyBind) [.slice Asaved saved.length csaved] (.sl saved) ∧ w.cell? (ad.add k) = some (.slice Asaved saved.length csaved) := by
  obtain ⟨ad, ec, hA, _, hb, hc, hr⟩ := Rd.get h hk
  obtain ⟨Asaved, csaved, saved, rfl, hd, Rsaved⟩ := hr.invLevel
  refine ⟨ad, _, _, _, hA, hb, hd, Rsaved, (by simpa [Ty.size] using hc 0 _ rfl)⟩

end Go.Proofs.Ytllamjgloilioaa
