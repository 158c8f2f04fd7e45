/- Trees; lists of what is saved. (printed by gen_dv.py) -/
import Derived.Test.YtllamjgloilioaaDvRefS
import Derived.Test.YtllamjgloilioaaDvFlatE
import Derived.Test.YtllamjgloilioaaDvEqual
namespace Go.Proofs.Ytllamjgloilioaa
open Go.RowKit Go.ChangeShapes Go.WideShapes Go.ChangeAt Go.Deep
set_option linter.unusedVariables false
set_option linter.unusedSimpArgs false

@[reducible] def tyTree : Ty := .pair (.sl tyNode) .unit

theorem Rd.invTree {w : World} {lo hi : Nat} {cs : List Value} {d : DV} (h : Rd w lo hi tyTree cs d) : ∃ (Anodes : Option Addr) (cnodes : Nat) (nodes : List DV), cs = [.slice Anodes nodes.length cnodes] ∧ d = .pair (.sl nodes) .unit ∧ Rd w lo hi (.sl tyNode) [.slice Anodes nodes.length cnodes] (.sl nodes) := by
  obtain ⟨Anodes, cnodes, nodes, s1, e1, rfl, rfl, Hnodes, h1⟩ := Rd.inv_sl_ h
  obtain ⟨rfl, rfl⟩ := Rd.inv_unit h1
  exact ⟨_, _, _, rfl, rfl, Hnodes⟩

theorem Rd.cellsTree {w : World} {lo hi : Nat} {cs : List Value} {d : DV} (h : Rd w lo hi tyTree cs d) : ∃ (Anodes : Option Addr) (cnodes : Nat) (nodes : List DV), cs = [.slice Anodes nodes.length cnodes] := by
  obtain ⟨y0, y1, y2, e1, _⟩ := Rd.invTree h
  exact ⟨y0, y1, y2, e1⟩

theorem Rd.mkTree {w : World} {lo hi : Nat} {Anodes : Option Addr} {cnodes : Nat} {nodes : List DV} (Hnodes : Rd w lo hi (.sl tyNode) [.slice Anodes nodes.length cnodes] (.sl nodes)) : Rd w lo hi tyTree [.slice Anodes nodes.length cnodes] (.pair (.sl nodes) .unit) :=
  (.pair Hnodes .unit)

set_option maxHeartbeats 1000000 in
set_option maxRecDepth 8000 in
theorem szTree_dv (cs : List Value) (d : DV) (left : Int) (w : World) (h : At w tyTree cs d) (hf : Fits maxLen d) (h0 : 0 ≤ left) (h1 : left ≤ 1048576) :
    Calls Try.prog 78 #[.agg cs.toArray, .int .i64 left] w fun e w' => (∃ q : Int, e = .returned (.int .i64 q) ∧ -1 ≤ q ∧ q ≤ left ∧ Hid (0 ≤ q → Fits 1048576 d)) ∧ Below w.heap.size w w' := by
  obtain ⟨Anodes, cnodes, nodes, rfl, rfl, Hnodes⟩ := Rd.invTree h
  have hba : Hid (Below w.heap.size w (w.alloc (.cells #[.slice Anodes nodes.length cnodes] 120))) := Joins.below_alloc1 w _
  have HHnodes : Hid (At w (.sl tyNode) [.slice Anodes nodes.length cnodes] (.sl nodes)) := Hnodes; clear Hnodes
  have HFnodes := Lib.hid hf.fst
  clear hf
  have C0 := Lib.hid (CellsAt.new w #[.slice Anodes nodes.length cnodes] 120)
  go_enter Try.func78, Try.ntmps78
  go_wp2_with fail
  refine (szNodeS_dv _ _ left _ (HHnodes.out.on hba.out) HFnodes.out (by omega) (by omega)).mono ?_
  rintro e w1 ⟨⟨q1, rfl, qa1, qb1, Q1⟩, b1⟩
  have B1 := Lib.hid (below_trans hba.out b1)
  by_cases znodes : q1 < 0
  · go_wp2_with fail
    go_ret
    exact ⟨⟨_, rfl, by omega, by omega, fun hq => by omega⟩, B1.out⟩
  go_wp2_with fail
  go_ret
  exact ⟨⟨_, rfl, by omega, by omega, fun _ => (.pair (Q1.out (by omega)) .unit)⟩, B1.out⟩

set_option maxHeartbeats 2000000 in
set_option maxRecDepth 8000 in
theorem eqTree_dv (cs cs2 : List Value) (d d2 : DV) (w : World) (h : At w tyTree cs d) (h2 : At w tyTree cs2 d2) (hf : Fits 1048576 d) :
    Calls Try.prog 81 #[.agg cs.toArray, .agg cs2.toArray] w fun e w' => GotB e d d2 ∧ Below w.heap.size w w' := by
  obtain ⟨Anodes, cnodes, nodes, rfl, rfl, Hnodes⟩ := Rd.invTree h
  obtain ⟨Anodes2, cnodes2, nodes2, rfl, rfl, Hnodes2⟩ := Rd.invTree h2
  have hba : Hid (Below w.heap.size w ((w.alloc (.cells #[.slice Anodes nodes.length cnodes] 97)).alloc (.cells #[.slice Anodes2 nodes2.length cnodes2] 97))) := Joins.below_alloc2 w _ _
  have HHnodes : Hid (At w (.sl tyNode) [.slice Anodes nodes.length cnodes] (.sl nodes)) := Hnodes; clear Hnodes
  have HHnodes2 : Hid (At w (.sl tyNode) [.slice Anodes2 nodes2.length cnodes2] (.sl nodes2)) := Hnodes2; clear Hnodes2
  have HFnodes := Lib.hid hf.fst
  clear hf
  have HV : Hid (∀ b : Bool, (b = true ↔ DV.sl nodes = DV.sl nodes2) → EqB b (.pair (.sl nodes) .unit) (.pair (.sl nodes2) .unit)) := fun b hb => by
    unfold EqB; rw [hb]; simp only [DV.pair.injEq, DV.num.injEq, DV.bool.injEq, DV.str.injEq, and_true]
  have C0 := Lib.hid ((CellsAt.new w #[.slice Anodes nodes.length cnodes] 97).below (Joins.below_alloc1 _ (.cells #[.slice Anodes2 nodes2.length cnodes2] 97)))
  have D0 := Lib.hid (CellsAt.new (w.alloc (.cells #[.slice Anodes nodes.length cnodes] 97)) #[.slice Anodes2 nodes2.length cnodes2] 97)
  have hz1 : (w.alloc (.cells #[.slice Anodes nodes.length cnodes] 97)).heap.size = w.heap.size + 1 := by simp
  rw [hz1] at D0; clear hz1
  go_enter Try.func81, Try.ntmps81
  go_wp2_with fail
  refine (eqNodeS_dv _ _ _ _ _ (HHnodes.out.on hba.out) (HHnodes2.out.on hba.out) HFnodes.out).mono ?_
  rintro e w1 ⟨⟨r1, rfl, HE1⟩, b1⟩
  have B1 := Lib.hid (below_trans hba.out b1)
  have C1 := Lib.hid (C0.out.below b1)
  have D1 := Lib.hid (D0.out.below b1)
  clear C0 D0 b1
  cases r1
  · have hne : ¬ DV.sl nodes = .sl nodes2 := fun h => by have := HE1.2 h; cases this
    go_wp2_with fail
    go_ret
    exact ⟨⟨false, rfl, HV.out false (by simp [hne])⟩, B1.out⟩
  have Enodes := Lib.hid (HE1.1 rfl); clear HE1
  go_wp2_with fail
  go_ret
  exact ⟨⟨true, rfl, HV.out true (by simp [Enodes.out])⟩, B1.out⟩

set_option maxHeartbeats 4000000 in
set_option maxRecDepth 8000 in
theorem toTree_dv (cs : List Value) (d : DV) (w : World) (h : At w tyTree cs d) (hf : Fits 1048576 d) :
    Calls Try.prog 80 #[.agg cs.toArray] w fun e w' => ∃ cs' : List Value, e = .returned (.agg cs'.toArray) ∧ Rd w' w.heap.size w'.heap.size tyTree cs' d ∧ Below w.heap.size w w' := by
  obtain ⟨Anodes, cnodes, nodes, rfl, rfl, Hnodes⟩ := Rd.invTree h
  have HHnodes : Hid (At w (.sl tyNode) [.slice Anodes nodes.length cnodes] (.sl nodes)) := Hnodes; clear Hnodes
  have HFnodes := Lib.hid hf.fst
  clear hf
  have M0 : Hid (Mid w (((w.alloc (.cells #[.slice Anodes nodes.length cnodes] 120)).alloc (.cells #[.slice none 0 0] 97)).alloc (.cells #[.slice none 0 0] 97)) [.slice Anodes nodes.length cnodes] #[.slice none 0 0] #[.slice none 0 0] 97) := Mid.start w #[.slice Anodes nodes.length cnodes] #[.slice none 0 0] #[.slice none 0 0] 120 97
  go_enter Try.func80, Try.ntmps80
  go_wp2_with fail
  refine (toNodeS_dv _ _ _ (HHnodes.out.on M0.out.below) HFnodes.out).mono ?_
  rintro e w1 ⟨v1, rfl, R1, b1⟩
  have M1a := Lib.hid (M0.out.step b1)
  have N1 := Lib.hid (R1.got M0.out.lt)
  clear R1 b1 M0
  obtain ⟨Anodes', cnodes', rfl⟩ := N1.out.slv
  have Nnodes := Lib.hid N1.out; clear N1
  obtain ⟨d1_0, f1_0⟩ := M1a.out.ocell 0 (.slice none 0 0) rfl
  obtain ⟨r0, g0⟩ := M1a.out.zcell 0 (.slice none 0 0) rfl
  have M1 : Hid (Mid w (w1.setCell ⟨w.heap.size + 1 + 1, 0, none⟩ (.slice Anodes' nodes.length cnodes')) [.slice Anodes nodes.length cnodes] #[.slice Anodes' nodes.length cnodes'] #[.slice none 0 0] 97) := M1a.out.row 0 [.slice Anodes' nodes.length cnodes']
  have Nnodes : Hid (Rd (w1.setCell ⟨w.heap.size + 1 + 1, 0, none⟩ (.slice Anodes' nodes.length cnodes')) (w.heap.size + 1 + 1 + 1) ((w1.setCell ⟨w.heap.size + 1 + 1, 0, none⟩ (.slice Anodes' nodes.length cnodes'))).heap.size (.sl tyNode) [.slice Anodes' nodes.length cnodes'] (.sl nodes)) := Nnodes.out.row (w.heap.size + 1 + 1) 0 [.slice Anodes' nodes.length cnodes'] (by omega)
  clear M1a
  go_wp2_with fail
  refine bodyPost_ret (results_cell_row rfl _ _ (w.heap.size + 1) 97 #[.slice Anodes' nodes.length cnodes'] (0, 0) _ rfl (M1.out.fin [.slice Anodes' nodes.length cnodes'] rfl) Try.underlying97 rfl (by kernel_rfl)) rfl ⟨[.slice Anodes' nodes.length cnodes'], rfl, ?_, M1.out.finBelow [.slice Anodes' nodes.length cnodes']⟩
  exact Rd.mkTree ((Nnodes.out.row (w.heap.size + 1) 0 [.slice Anodes' nodes.length cnodes'] (by omega)).imp (fun _ _ _ => rfl) (by omega) (Nat.le_refl _))

@[reducible] def tyLevel : Ty := .pair (.sl tyBind) .unit

theorem Rd.invLevel {w : World} {lo hi : Nat} {cs : List Value} {d : DV} (h : Rd w lo hi tyLevel cs d) : ∃ (Asaved : Option Addr) (csaved : Nat) (saved : List DV), cs = [.slice Asaved saved.length csaved] ∧ d = .pair (.sl saved) .unit ∧ Rd w lo hi (.sl tyBind) [.slice Asaved saved.length csaved] (.sl saved) := by
  obtain ⟨Asaved, csaved, saved, s1, e1, rfl, rfl, Hsaved, h1⟩ := Rd.inv_sl_ h
  obtain ⟨rfl, rfl⟩ := Rd.inv_unit h1
  exact ⟨_, _, _, rfl, rfl, Hsaved⟩

theorem Rd.cellsLevel {w : World} {lo hi : Nat} {cs : List Value} {d : DV} (h : Rd w lo hi tyLevel cs d) : ∃ (Asaved : Option Addr) (csaved : Nat) (saved : List DV), cs = [.slice Asaved saved.length csaved] := by
  obtain ⟨y0, y1, y2, e1, _⟩ := Rd.invLevel h
  exact ⟨y0, y1, y2, e1⟩

theorem Rd.mkLevel {w : World} {lo hi : Nat} {Asaved : Option Addr} {csaved : Nat} {saved : List DV} (Hsaved : Rd w lo hi (.sl tyBind) [.slice Asaved saved.length csaved] (.sl saved)) : Rd w lo hi tyLevel [.slice Asaved saved.length csaved] (.pair (.sl saved) .unit) :=
  (.pair Hsaved .unit)

set_option maxHeartbeats 1000000 in
set_option maxRecDepth 8000 in
theorem szLevel_dv (cs : List Value) (d : DV) (left : Int) (w : World) (h : At w tyLevel cs d) (hf : Fits maxLen d) (h0 : 0 ≤ left) (h1 : left ≤ 1048576) :
    Calls Try.prog 67 #[.agg cs.toArray, .int .i64 left] w fun e w' => (∃ q : Int, e = .returned (.int .i64 q) ∧ -1 ≤ q ∧ q ≤ left ∧ Hid (0 ≤ q → Fits 1048576 d)) ∧ Below w.heap.size w w' := by
  obtain ⟨Asaved, csaved, saved, rfl, rfl, Hsaved⟩ := Rd.invLevel h
  have hba : Hid (Below w.heap.size w (w.alloc (.cells #[.slice Asaved saved.length csaved] 125))) := Joins.below_alloc1 w _
  have HHsaved : Hid (At w (.sl tyBind) [.slice Asaved saved.length csaved] (.sl saved)) := Hsaved; clear Hsaved
  have HFsaved := Lib.hid hf.fst
  clear hf
  have C0 := Lib.hid (CellsAt.new w #[.slice Asaved saved.length csaved] 125)
  go_enter Try.func67, Try.ntmps67
  go_wp2_with fail
  refine (szBindS_dv _ _ left _ (HHsaved.out.on hba.out) HFsaved.out (by omega) (by omega)).mono ?_
  rintro e w1 ⟨⟨q1, rfl, qa1, qb1, Q1⟩, b1⟩
  have B1 := Lib.hid (below_trans hba.out b1)
  by_cases zsaved : q1 < 0
  · go_wp2_with fail
    go_ret
    exact ⟨⟨_, rfl, by omega, by omega, fun hq => by omega⟩, B1.out⟩
  go_wp2_with fail
  go_ret
  exact ⟨⟨_, rfl, by omega, by omega, fun _ => (.pair (Q1.out (by omega)) .unit)⟩, B1.out⟩

set_option maxHeartbeats 2000000 in
set_option maxRecDepth 8000 in
theorem eqLevel_dv (cs cs2 : List Value) (d d2 : DV) (w : World) (h : At w tyLevel cs d) (h2 : At w tyLevel cs2 d2) (hf : Fits 1048576 d) :
    Calls Try.prog 77 #[.agg cs.toArray, .agg cs2.toArray] w fun e w' => GotB e d d2 ∧ Below w.heap.size w w' := by
  obtain ⟨Asaved, csaved, saved, rfl, rfl, Hsaved⟩ := Rd.invLevel h
  obtain ⟨Asaved2, csaved2, saved2, rfl, rfl, Hsaved2⟩ := Rd.invLevel h2
  have hba : Hid (Below w.heap.size w ((w.alloc (.cells #[.slice Asaved saved.length csaved] 103)).alloc (.cells #[.slice Asaved2 saved2.length csaved2] 103))) := Joins.below_alloc2 w _ _
  have HHsaved : Hid (At w (.sl tyBind) [.slice Asaved saved.length csaved] (.sl saved)) := Hsaved; clear Hsaved
  have HHsaved2 : Hid (At w (.sl tyBind) [.slice Asaved2 saved2.length csaved2] (.sl saved2)) := Hsaved2; clear Hsaved2
  have HFsaved := Lib.hid hf.fst
  clear hf
  have HV : Hid (∀ b : Bool, (b = true ↔ DV.sl saved = DV.sl saved2) → EqB b (.pair (.sl saved) .unit) (.pair (.sl saved2) .unit)) := fun b hb => by
    unfold EqB; rw [hb]; simp only [DV.pair.injEq, DV.num.injEq, DV.bool.injEq, DV.str.injEq, and_true]
  have C0 := Lib.hid ((CellsAt.new w #[.slice Asaved saved.length csaved] 103).below (Joins.below_alloc1 _ (.cells #[.slice Asaved2 saved2.length csaved2] 103)))
  have D0 := Lib.hid (CellsAt.new (w.alloc (.cells #[.slice Asaved saved.length csaved] 103)) #[.slice Asaved2 saved2.length csaved2] 103)
  have hz1 : (w.alloc (.cells #[.slice Asaved saved.length csaved] 103)).heap.size = w.heap.size + 1 := by simp
  rw [hz1] at D0; clear hz1
  go_enter Try.func77, Try.ntmps77
  go_wp2_with fail
  refine (eqBindS_dv _ _ _ _ _ (HHsaved.out.on hba.out) (HHsaved2.out.on hba.out) HFsaved.out).mono ?_
  rintro e w1 ⟨⟨r1, rfl, HE1⟩, b1⟩
  have B1 := Lib.hid (below_trans hba.out b1)
  have C1 := Lib.hid (C0.out.below b1)
  have D1 := Lib.hid (D0.out.below b1)
  clear C0 D0 b1
  cases r1
  · have hne : ¬ DV.sl saved = .sl saved2 := fun h => by have := HE1.2 h; cases this
    go_wp2_with fail
    go_ret
    exact ⟨⟨false, rfl, HV.out false (by simp [hne])⟩, B1.out⟩
  have Esaved := Lib.hid (HE1.1 rfl); clear HE1
  go_wp2_with fail
  go_ret
  exact ⟨⟨true, rfl, HV.out true (by simp [Esaved.out])⟩, B1.out⟩

set_option maxHeartbeats 4000000 in
set_option maxRecDepth 8000 in
theorem toLevel_dv (cs : List Value) (d : DV) (w : World) (h : At w tyLevel cs d) (hf : Fits 1048576 d) :
    Calls Try.prog 72 #[.agg cs.toArray] w fun e w' => ∃ cs' : List Value, e = .returned (.agg cs'.toArray) ∧ Rd w' w.heap.size w'.heap.size tyLevel cs' d ∧ Below w.heap.size w w' := by
  obtain ⟨Asaved, csaved, saved, rfl, rfl, Hsaved⟩ := Rd.invLevel h
  have HHsaved : Hid (At w (.sl tyBind) [.slice Asaved saved.length csaved] (.sl saved)) := Hsaved; clear Hsaved
  have HFsaved := Lib.hid hf.fst
  clear hf
  have M0 : Hid (Mid w (((w.alloc (.cells #[.slice Asaved saved.length csaved] 125)).alloc (.cells #[.slice none 0 0] 103)).alloc (.cells #[.slice none 0 0] 103)) [.slice Asaved saved.length csaved] #[.slice none 0 0] #[.slice none 0 0] 103) := Mid.start w #[.slice Asaved saved.length csaved] #[.slice none 0 0] #[.slice none 0 0] 125 103
  go_enter Try.func72, Try.ntmps72
  go_wp2_with fail
  refine (toBindS_dv _ _ _ (HHsaved.out.on M0.out.below) HFsaved.out).mono ?_
  rintro e w1 ⟨v1, rfl, R1, b1⟩
  have M1a := Lib.hid (M0.out.step b1)
  have N1 := Lib.hid (R1.got M0.out.lt)
  clear R1 b1 M0
  obtain ⟨Asaved', csaved', rfl⟩ := N1.out.slv
  have Nsaved := Lib.hid N1.out; clear N1
  obtain ⟨d1_0, f1_0⟩ := M1a.out.ocell 0 (.slice none 0 0) rfl
  obtain ⟨r0, g0⟩ := M1a.out.zcell 0 (.slice none 0 0) rfl
  have M1 : Hid (Mid w (w1.setCell ⟨w.heap.size + 1 + 1, 0, none⟩ (.slice Asaved' saved.length csaved')) [.slice Asaved saved.length csaved] #[.slice Asaved' saved.length csaved'] #[.slice none 0 0] 103) := M1a.out.row 0 [.slice Asaved' saved.length csaved']
  have Nsaved : Hid (Rd (w1.setCell ⟨w.heap.size + 1 + 1, 0, none⟩ (.slice Asaved' saved.length csaved')) (w.heap.size + 1 + 1 + 1) ((w1.setCell ⟨w.heap.size + 1 + 1, 0, none⟩ (.slice Asaved' saved.length csaved'))).heap.size (.sl tyBind) [.slice Asaved' saved.length csaved'] (.sl saved)) := Nsaved.out.row (w.heap.size + 1 + 1) 0 [.slice Asaved' saved.length csaved'] (by omega)
  clear M1a
  go_wp2_with fail
  refine bodyPost_ret (results_cell_row rfl _ _ (w.heap.size + 1) 103 #[.slice Asaved' saved.length csaved'] (0, 0) _ rfl (M1.out.fin [.slice Asaved' saved.length csaved'] rfl) Try.underlying103 rfl (by kernel_rfl)) rfl ⟨[.slice Asaved' saved.length csaved'], rfl, ?_, M1.out.finBelow [.slice Asaved' saved.length csaved']⟩
  exact Rd.mkLevel ((Nsaved.out.row (w.heap.size + 1) 0 [.slice Asaved' saved.length csaved'] (by omega)).imp (fun _ _ _ => rfl) (by omega) (Nat.le_refl _))

set_option maxHeartbeats 2000000 in
set_option maxRecDepth 8000 in
theorem iSameTree_dv (cs cs2 : List Value) (d d2 : DV) (w : World) (h : At w tyTree cs d) (h2 : At w tyTree cs2 d2) (hf : Fits 1048576 d) :
    Calls Try.prog 54 #[.agg cs.toArray, .agg cs2.toArray] w fun e w' => GotB e d d2 ∧ Below w.heap.size w w' := by
  obtain ⟨Anodes, cnodes, nodes, rfl, rfl, Hnodes⟩ := Rd.invTree h
  obtain ⟨Anodes2, cnodes2, nodes2, rfl, rfl, Hnodes2⟩ := Rd.invTree h2
  have hba : Hid (Below w.heap.size w ((w.alloc (.cells #[.slice Anodes nodes.length cnodes] 97)).alloc (.cells #[.slice Anodes2 nodes2.length cnodes2] 97))) := Joins.below_alloc2 w _ _
  have HHnodes : Hid (At w (.sl tyNode) [.slice Anodes nodes.length cnodes] (.sl nodes)) := Hnodes; clear Hnodes
  have HHnodes2 : Hid (At w (.sl tyNode) [.slice Anodes2 nodes2.length cnodes2] (.sl nodes2)) := Hnodes2; clear Hnodes2
  have HFnodes := Lib.hid hf.fst
  clear hf
  have HV : Hid (∀ b : Bool, (b = true ↔ DV.sl nodes = DV.sl nodes2) → EqB b (.pair (.sl nodes) .unit) (.pair (.sl nodes2) .unit)) := fun b hb => by
    unfold EqB; rw [hb]; simp only [DV.pair.injEq, DV.num.injEq, DV.bool.injEq, DV.str.injEq, and_true]
  have C0 := Lib.hid ((CellsAt.new w #[.slice Anodes nodes.length cnodes] 97).below (Joins.below_alloc1 _ (.cells #[.slice Anodes2 nodes2.length cnodes2] 97)))
  have D0 := Lib.hid (CellsAt.new (w.alloc (.cells #[.slice Anodes nodes.length cnodes] 97)) #[.slice Anodes2 nodes2.length cnodes2] 97)
  have hz1 : (w.alloc (.cells #[.slice Anodes nodes.length cnodes] 97)).heap.size = w.heap.size + 1 := by simp
  rw [hz1] at D0; clear hz1
  go_enter Try.func54, Try.ntmps54
  go_wp2_with fail
  refine (EqualNode_dv _ _ _ _ _ (HHnodes.out.on hba.out) (HHnodes2.out.on hba.out) HFnodes.out).mono ?_
  rintro e w1 ⟨⟨r1, rfl, HE1⟩, b1⟩
  have B1 := Lib.hid (below_trans hba.out b1)
  have C1 := Lib.hid (C0.out.below b1)
  have D1 := Lib.hid (D0.out.below b1)
  clear C0 D0 b1
  cases r1
  · have hne : ¬ DV.sl nodes = .sl nodes2 := fun h => by have := HE1.2 h; cases this
    go_wp2_with fail
    go_ret
    exact ⟨⟨false, rfl, HV.out false (by simp [hne])⟩, B1.out⟩
  have Enodes := Lib.hid (HE1.1 rfl); clear HE1
  go_wp2_with fail
  go_ret
  exact ⟨⟨true, rfl, HV.out true (by simp [Enodes.out])⟩, B1.out⟩

set_option maxHeartbeats 2000000 in
set_option maxRecDepth 8000 in
theorem sameLevel_dv (cs cs2 : List Value) (d d2 : DV) (w : World) (h : At w tyLevel cs d) (h2 : At w tyLevel cs2 d2) (hf : Fits 1048576 d) :
    Calls Try.prog 55 #[.agg cs.toArray, .agg cs2.toArray] w fun e w' => GotB e d d2 ∧ Below w.heap.size w w' := by
  obtain ⟨Asaved, csaved, saved, rfl, rfl, Hsaved⟩ := Rd.invLevel h
  obtain ⟨Asaved2, csaved2, saved2, rfl, rfl, Hsaved2⟩ := Rd.invLevel h2
  have hba : Hid (Below w.heap.size w ((w.alloc (.cells #[.slice Asaved saved.length csaved] 103)).alloc (.cells #[.slice Asaved2 saved2.length csaved2] 103))) := Joins.below_alloc2 w _ _
  have HHsaved : Hid (At w (.sl tyBind) [.slice Asaved saved.length csaved] (.sl saved)) := Hsaved; clear Hsaved
  have HHsaved2 : Hid (At w (.sl tyBind) [.slice Asaved2 saved2.length csaved2] (.sl saved2)) := Hsaved2; clear Hsaved2
  have HFsaved := Lib.hid hf.fst
  clear hf
  have HV : Hid (∀ b : Bool, (b = true ↔ DV.sl saved = DV.sl saved2) → EqB b (.pair (.sl saved) .unit) (.pair (.sl saved2) .unit)) := fun b hb => by
    unfold EqB; rw [hb]; simp only [DV.pair.injEq, DV.num.injEq, DV.bool.injEq, DV.str.injEq, and_true]
  have C0 := Lib.hid ((CellsAt.new w #[.slice Asaved saved.length csaved] 103).below (Joins.below_alloc1 _ (.cells #[.slice Asaved2 saved2.length csaved2] 103)))
  have D0 := Lib.hid (CellsAt.new (w.alloc (.cells #[.slice Asaved saved.length csaved] 103)) #[.slice Asaved2 saved2.length csaved2] 103)
  have hz1 : (w.alloc (.cells #[.slice Asaved saved.length csaved] 103)).heap.size = w.heap.size + 1 := by simp
  rw [hz1] at D0; clear hz1
  go_enter Try.func55, Try.ntmps55
  go_wp2_with fail
  refine (EqualBind_dv _ _ _ _ _ (HHsaved.out.on hba.out) (HHsaved2.out.on hba.out) HFsaved.out).mono ?_
  rintro e w1 ⟨⟨r1, rfl, HE1⟩, b1⟩
  have B1 := Lib.hid (below_trans hba.out b1)
  have C1 := Lib.hid (C0.out.below b1)
  have D1 := Lib.hid (D0.out.below b1)
  clear C0 D0 b1
  cases r1
  · have hne : ¬ DV.sl saved = .sl saved2 := fun h => by have := HE1.2 h; cases this
    go_wp2_with fail
    go_ret
    exact ⟨⟨false, rfl, HV.out false (by simp [hne])⟩, B1.out⟩
  have Esaved := Lib.hid (HE1.1 rfl); clear HE1
  go_wp2_with fail
  go_ret
  exact ⟨⟨true, rfl, HV.out true (by simp [Esaved.out])⟩, B1.out⟩

set_option maxHeartbeats 4000000 in
set_option maxRecDepth 8000 in
theorem sSameTree_dv (cs cs2 : List Value) (d d2 : DV) (w : World) (h : At w tyTree cs d) (h2 : At w tyTree cs2 d2) (hf : Fits 1048576 d) :
    Calls Try.prog 69 #[.agg cs.toArray, .agg cs2.toArray] w fun e w' => GotB e d d2 ∧ Below w.heap.size w w' := by
  obtain ⟨Anodes, cnodes, nodes, rfl, rfl, Hnodes⟩ := Rd.invTree h
  obtain ⟨Anodes2, cnodes2, nodes2, rfl, rfl, Hnodes2⟩ := Rd.invTree h2
  have hba : Hid (Below w.heap.size w ((w.alloc (.cells #[.slice Anodes nodes.length cnodes] 97)).alloc (.cells #[.slice Anodes2 nodes2.length cnodes2] 97))) := Joins.below_alloc2 w _ _
  have HHnodes : Hid (At w (.sl tyNode) [.slice Anodes nodes.length cnodes] (.sl nodes)) := Hnodes; clear Hnodes
  have HHnodes2 : Hid (At w (.sl tyNode) [.slice Anodes2 nodes2.length cnodes2] (.sl nodes2)) := Hnodes2; clear Hnodes2
  have HFnodes := Lib.hid hf.fst
  have hlnodes := HFnodes.out.len
  clear hf
  have HV : Hid (∀ b : Bool, (b = true ↔ DV.sl nodes = DV.sl nodes2) → EqB b (.pair (.sl nodes) .unit) (.pair (.sl nodes2) .unit)) := fun b hb => by
    unfold EqB; rw [hb]; simp only [DV.pair.injEq, DV.num.injEq, DV.bool.injEq, DV.str.injEq, and_true]
  have C0 := Lib.hid ((CellsAt.new w #[.slice Anodes nodes.length cnodes] 97).below (Joins.below_alloc1 _ (.cells #[.slice Anodes2 nodes2.length cnodes2] 97)))
  have D0 := Lib.hid (CellsAt.new (w.alloc (.cells #[.slice Anodes nodes.length cnodes] 97)) #[.slice Anodes2 nodes2.length cnodes2] 97)
  have hz1 : (w.alloc (.cells #[.slice Anodes nodes.length cnodes] 97)).heap.size = w.heap.size + 1 := by simp
  rw [hz1] at D0; clear hz1
  go_enter Try.func69, Try.ntmps69
  rcases eqForms (nodes.length : Int) (nodes2.length : Int) with ⟨l1nodes, l2nodes, l3⟩ | ⟨l1nodes, l2nodes, l3⟩
  rotate_left
  · have hne : ¬ DV.sl nodes = .sl nodes2 := fun h => l3.out (by rw [sl_len h])
    have e4 : (nodes.length == nodes2.length) = false := by have := l3.out; simp; omega
    have e5 : (nodes.length != nodes2.length) = true := by have := l3.out; simp; omega
    go_wp2_with fail
    go_ret
    exact ⟨⟨false, rfl, HV.out false (by simp [hne])⟩, hba.out⟩
  have hlennodes : nodes.length = nodes2.length := by have := l3.out; omega
  have m4nodes : (nodes.length == nodes2.length) = true := by simp [hlennodes]
  have m5nodes : (nodes.length != nodes2.length) = false := by simp [hlennodes]
  have HLnodes := Lib.hid hlennodes; clear hlennodes l3
  go_wp2_with fail
  obtain ⟨w0, hw0⟩ : ∃ w0 : World, ((w.alloc (.cells #[.slice Anodes nodes.length cnodes] 97)).alloc (.cells #[.slice Anodes2 nodes2.length cnodes2] 97)) = w0 := ⟨_, rfl⟩
  rw [hw0] at hba C0 D0 ⊢
  clear hw0
  go_loopw [5] (fun i wr => ∃ k : Nat, k ≤ nodes.length ∧ i = .int .i64 k ∧ Hid (DV.sl nodes = .sl nodes2 ↔ DV.sl (nodes.drop k) = .sl (nodes2.drop k)) ∧ Below w0.heap.size w0 wr) (fun i _ => nodes.length - (intOf i).toNat)
  case atStart => exact ⟨0, Nat.zero_le _, rfl, by show _ ↔ _; rw [List.drop_zero, List.drop_zero], below_refl _⟩
  case round =>
    obtain ⟨k, hk, rfl, HI, hbel⟩ := hrel
    have Cnodes := Lib.hid (C0.out.below hbel)
    have Dnodes := Lib.hid (D0.out.below hbel)
    have Bnodes := Lib.hid (below_trans hba.out hbel)
    have kA := Cnodes.out.2 0 _ rfl
    have kB := Dnodes.out.2 0 _ rfl
    by_cases hlt : k < nodes.length
    · have hlt2 : k < nodes2.length := by rw [← HLnodes.out]; exact hlt
      have HB : Hid (Below w.heap.size w wr.drew) := Bnodes.out.drew
      have HD := Lib.hid (List.drop_eq_getElem_cons hlt)
      have HD2 := Lib.hid (List.drop_eq_getElem_cons hlt2)
      have i0 : (0 : Int) ≤ k := by omega
      have i1 : (k : Int) < nodes.length := by omega
      have i2 : (k : Int) < nodes2.length := by omega
      obtain ⟨ad, nameq, Asubsq, csubsq, subsq, valueq, rfl, hbl, hat, a0, a1, a2⟩ := (HHnodes.out.on Bnodes.out).getNode hlt
      obtain ⟨ad2, namer, Asubsr, csubsr, subsr, valuer, rfl, hbl2, hat2, b0, b1, b2⟩ := (HHnodes2.out.on Bnodes.out).getNode hlt2
      have HX := Lib.hid (HFnodes.out.mem _ (List.getElem_mem hlt))
      have HA3 : Hid (At wr.drew tyNode [.string nameq, .slice Asubsq subsq.length csubsq, .string valueq] nodes[k]) := hat.on ((below_refl wr).drew); clear hat
      have HA4 : Hid (At wr.drew tyNode [.string namer, .slice Asubsr subsr.length csubsr, .string valuer] nodes2[k]) := hat2.on ((below_refl wr).drew); clear hat2
      generalize nodes[k] = x at *
      generalize nodes2[k] = y at *
      go_wp2_with fail
      have kA' : World.cell? { heap := wr.heap, tape := wr.tape, drawn := wr.drawn + 1, os := wr.os, output := wr.output } ⟨w.heap.size, 0, none⟩ = some (.slice (some ad) nodes.length cnodes) := kA
      have kB' : World.cell? { heap := wr.heap, tape := wr.tape, drawn := wr.drawn + 1, os := wr.os, output := wr.output } ⟨w.heap.size + 1, 0, none⟩ = some (.slice (some ad2) nodes2.length cnodes2) := kB
      have a0' : World.cell? { heap := wr.heap, tape := wr.tape, drawn := wr.drawn + 1, os := wr.os, output := wr.output } (ad.add (k * 3)) = some (.string nameq) := a0
      have b0' : World.cell? { heap := wr.heap, tape := wr.tape, drawn := wr.drawn + 1, os := wr.os, output := wr.output } (ad2.add (k * 3)) = some (.string namer) := b0
      have a1' : World.cell? { heap := wr.heap, tape := wr.tape, drawn := wr.drawn + 1, os := wr.os, output := wr.output } ⟨(ad.add (k * 3)).block, (ad.add (k * 3)).off + 1, none⟩ = some (.slice Asubsq subsq.length csubsq) := a1
      have b1' : World.cell? { heap := wr.heap, tape := wr.tape, drawn := wr.drawn + 1, os := wr.os, output := wr.output } ⟨(ad2.add (k * 3)).block, (ad2.add (k * 3)).off + 1, none⟩ = some (.slice Asubsr subsr.length csubsr) := b1
      have a2' : World.cell? { heap := wr.heap, tape := wr.tape, drawn := wr.drawn + 1, os := wr.os, output := wr.output } ⟨(ad.add (k * 3)).block, (ad.add (k * 3)).off + 2, none⟩ = some (.string valueq) := a2
      have b2' : World.cell? { heap := wr.heap, tape := wr.tape, drawn := wr.drawn + 1, os := wr.os, output := wr.output } ⟨(ad2.add (k * 3)).block, (ad2.add (k * 3)).off + 2, none⟩ = some (.string valuer) := b2
      go_still_tail 10, (by kernel_rfl)
      change wpList _ _ _ _ _ wr.drew
      have hbd : Below w0.heap.size w0 wr.drew := hbel.drew
      generalize wr.drew = w5 at *
      clear kA kB kA' kB' a0 b0 a0' b0' a1 b1 a1' b1' a2 b2 a2' b2'
      go_wp2_with fail
      refine (l03SameNode_dv _ _ x y _ HA3.out HA4.out HX.out).mono ?_
      rintro e w6 ⟨⟨r, rfl, HE⟩, b6⟩
      have HB6 := Lib.hid (below_trans HB.out b6)
      have HB7 := Lib.hid (below_trans hbd b6)
      have HEE := Lib.hid HE; clear HE b6 hbd
      cases r
      · have hq : ¬ DV.sl nodes = .sl nodes2 := fun h => by
          rw [HI.out, HD.out, HD2.out, sl_cons] at h
          have := HEE.out.2 h.1
          cases this
        go_wp2_with fail
        go_ret
        exact ⟨⟨false, rfl, HV.out false (by simp [hq])⟩, HB6.out⟩
      · go_wp2_with fail
        refine ⟨⟨k + 1, by omega, by go_num, ?_, HB7.out⟩, by simp [intOf]; omega⟩
        show _ ↔ _
        rw [HI.out, HD.out, HD2.out, sl_cons]
        exact ⟨fun h => h.2, fun h => ⟨HEE.out.1 rfl, h⟩⟩
    · obtain rfl : k = nodes.length := by omega
      have Enodes : Hid (DV.sl nodes = .sl nodes2) := by
        show _ = _
        rw [HI.out, List.drop_eq_nil_of_le (by omega), List.drop_eq_nil_of_le (by rw [← HLnodes.out]; omega)]
      clear HI
      obtain ⟨wnodes, rfl⟩ : ∃ wnodes : World, wnodes = wr := ⟨_, rfl⟩
      clear hbel
      go_wp2_with fail
      clear kA kB
      go_wp2_with fail
      go_ret
      exact ⟨⟨true, rfl, HV.out true (by simp [Enodes.out])⟩, Bnodes.out⟩

end Go.Proofs.Ytllamjgloilioaa
