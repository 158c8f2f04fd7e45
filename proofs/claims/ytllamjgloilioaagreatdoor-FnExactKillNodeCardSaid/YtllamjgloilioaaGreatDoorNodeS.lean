/- A struct in memory: its size, its copy, equality; printed by gen_struct.py. -/
import Derived.Test.YtllamjgloilioaaGreatDoorStructArgs
import Derived.Test.YtllamjgloilioaaGreatDoorStructTools
namespace Go.Proofs.YtllamjgloilioaaGreatDoor
open Go.RowKit Go.ChangeShapes Go.WideShapes Go.ChangeAt Go.Deep
set_option linter.unusedVariables false

structure NodeV where
  name : ByteArray
  subsv : Value
  subs : List ByteArray
  value : ByteArray

def NodeV.cells (x : NodeV) : Array Value := #[.string x.name, x.subsv, .string x.value]

def NodeV.At (x : NodeV) (w : World) : Prop := StrsAt w w.heap.size x.subsv x.subs ∧ True

def NodeV.Own (x : NodeV) (w : World) (base : Nat) : Prop := Strs w base x.subsv x.subs ∧ True

def NodeV.Ok (x : NodeV) (M : Nat) : Prop := x.name.size ≤ M ∧ (x.subs.length ≤ M ∧ ∀ s ∈ x.subs, s.size ≤ M) ∧ x.value.size ≤ M ∧ True

def NodeV.dat (x : NodeV) : ByteArray × List ByteArray × ByteArray := (x.name, x.subs, x.value)

theorem NodeV.At.on {x : NodeV} {w w' : World} (h : x.At w) (hb : Below w.heap.size w w') : x.At w' := by
  obtain ⟨hsubs, _⟩ := h
  exact ⟨hsubs.on hb, trivial⟩

theorem NodeV.Own.at_ {x : NodeV} {w : World} {base : Nat} (h : x.Own w base) : x.At w := by
  obtain ⟨hsubs, _⟩ := h
  exact ⟨hsubs.at_, trivial⟩

set_option maxRecDepth 8000 in
theorem szNode_ex (x : NodeV) (left : Int) (w : World) (h : x.At w) (h0 : 0 ≤ left) (h1 : left ≤ 1048576) (hok : x.Ok maxLen) :
    Calls Tryz.prog 28 #[.agg x.cells, .int .i64 left] w fun e w' => (∃ q : Int, e = .returned (.int .i64 q) ∧ -1 ≤ q ∧ q ≤ left ∧ (0 ≤ q → x.Ok 1048576)) ∧ Below w.heap.size w w' := by
  have hA := h.on (Joins.below_alloc1 w (.cells x.cells 49))
  have hba : Below w.heap.size w (w.alloc (.cells x.cells 49)) := Joins.below_alloc1 w _
  obtain ⟨name, subsv, subs, value⟩ := x
  obtain ⟨hnname, ⟨hlsubs, hzsubs⟩, hnvalue, _⟩ := hok
  obtain ⟨hsubs, _⟩ := h
  obtain ⟨hAsubs, _⟩ := hA
  simp only [NodeV.cells] at *
  unfold maxLen at hnname
  have HZsubs := Lib.hid hzsubs; clear hzsubs
  have HAsubs := Lib.hid hAsubs; clear hAsubs
  obtain ⟨Asubs, csubs, rfl, _, _⟩ := id hsubs
  unfold maxLen at hnvalue
  go_enter Tryz.func28, Tryz.ntmps28
  by_cases c_name : left - name.size < 0
  · go_wp2_with fail
    go_ret
    exact ⟨⟨_, rfl, by omega, by omega, fun hq => by omega⟩, hba⟩
  go_wp2_with fail
  refine (szStringS_ex _ subs (left - name.size) _ _ HAsubs.out (by omega) (by omega) hlsubs HZsubs.out).mono ?_
  rintro e w' ⟨qsubs, rfl, rfl, qasubs, qbsubs, hq⟩
  have Qsubs := Lib.hid hq; clear hq
  by_cases c_subs : qsubs < 0
  · go_wp2_with fail
    go_ret
    exact ⟨⟨_, rfl, by omega, by omega, fun hq => by omega⟩, hba⟩
  by_cases c_value : qsubs - value.size < 0
  · go_wp2_with fail
    go_ret
    exact ⟨⟨_, rfl, by omega, by omega, fun hq => by omega⟩, hba⟩
  go_wp2_with fail
  go_ret
  have esubs := Qsubs.out (by omega)
  refine ⟨⟨_, rfl, by omega, by omega, fun _ => ⟨show name.size ≤ 1048576 by omega, ⟨show subs.length ≤ 1048576 by omega, fun s hs => by have := size_le_total (show s ∈ subs from hs); omega⟩, show value.size ≤ 1048576 by omega, trivial⟩⟩, hba⟩

set_option maxHeartbeats 1000000 in
set_option maxRecDepth 8000 in
theorem toNode_any (x : NodeV) (w : World) (h : x.At w) (hok : x.Ok 1048576) :
    Calls Tryz.prog 35 #[.agg x.cells] w fun e w' => ∃ x' : NodeV, e = .returned (.agg x'.cells) ∧ Hid (x'.dat = x.dat) ∧ x'.Own w' w.heap.size ∧ Below w.heap.size w w' := by
  obtain ⟨name, subsv, subs, value⟩ := x
  obtain ⟨hnname, ⟨hlsubs, hzsubs⟩, hnvalue, _⟩ := hok
  obtain ⟨hsubs, _⟩ := h
  simp only [NodeV.cells, NodeV.dat, NodeV.Own] at *
  clear hzsubs
  have Hsubs := Lib.hid hsubs
  obtain ⟨Asubs, csubs, rfl, _, _⟩ := id hsubs; clear hsubs
  have hba : Below w.heap.size w (((w.alloc (.cells #[.string name, .slice Asubs subs.length csubs, .string value] 49)).alloc (.cells #[.string ⟨#[]⟩, .slice none 0 0, .string ⟨#[]⟩] 50)).alloc (.cells #[.string name, .slice none 0 0, .string ⟨#[]⟩] 50)) := Joins.below_alloc3 w _ _ _
  have C0 := Lib.hid (((CellsAt.new w #[.string name, .slice Asubs subs.length csubs, .string value] 49).below (Joins.below_alloc1 _ (.cells #[.string ⟨#[]⟩, .slice none 0 0, .string ⟨#[]⟩] 50))).below (Joins.below_alloc1 _ (.cells #[.string name, .slice none 0 0, .string ⟨#[]⟩] 50)))
  have hO0 := heap_alloc_new ((w.alloc (.cells #[.string name, .slice Asubs subs.length csubs, .string value] 49)).alloc (.cells #[.string ⟨#[]⟩, .slice none 0 0, .string ⟨#[]⟩] 50)) (.cells #[.string name, .slice none 0 0, .string ⟨#[]⟩] 50)
  have e2 : ((w.alloc (.cells #[.string name, .slice Asubs subs.length csubs, .string value] 49)).alloc (.cells #[.string ⟨#[]⟩, .slice none 0 0, .string ⟨#[]⟩] 50)).heap.size = w.heap.size + 1 + 1 := by simp
  rw [e2] at hO0
  have HO := Lib.hid hO0
  have hsz : w.heap.size + 1 + 1 < (((w.alloc (.cells #[.string name, .slice Asubs subs.length csubs, .string value] 49)).alloc (.cells #[.string ⟨#[]⟩, .slice none 0 0, .string ⟨#[]⟩] 50)).alloc (.cells #[.string name, .slice none 0 0, .string ⟨#[]⟩] 50)).heap.size := by simp
  have HSZ := Lib.hid hsz
  have HBA := Lib.hid hba
  have hR0 : (((w.alloc (.cells #[.string name, .slice Asubs subs.length csubs, .string value] 49)).alloc (.cells #[.string ⟨#[]⟩, .slice none 0 0, .string ⟨#[]⟩] 50)).alloc (.cells #[.string name, .slice none 0 0, .string ⟨#[]⟩] 50)).heap[w.heap.size + 1]? = some (.cells #[.string ⟨#[]⟩, .slice none 0 0, .string ⟨#[]⟩] 50 (0, 0)) := by
    rw [Below.heap_alloc _ _ _ (by simp), show w.heap.size + 1 = (w.alloc (.cells #[.string name, .slice Asubs subs.length csubs, .string value] 49)).heap.size by simp]
    exact heap_alloc_new _ _
  have HR := Lib.hid hR0
  have hW0 : (((w.alloc (.cells #[.string name, .slice Asubs subs.length csubs, .string value] 49)).alloc (.cells #[.string ⟨#[]⟩, .slice none 0 0, .string ⟨#[]⟩] 50)).alloc (.cells #[.string name, .slice none 0 0, .string ⟨#[]⟩] 50)).heap.size = w.heap.size + 1 + 1 + 1 := by simp
  have HW := Lib.hid hW0
  clear hO0 e2 hba hsz hR0 hW0
  go_enter Tryz.func35, Tryz.ntmps35
  go_wp2_with fail
  refine (toStringS_any _ subs _ _ (Hsubs.out.on HBA.out) (Nat.le_refl _) hlsubs).mono ?_
  rintro e w1 ⟨svsubs, rfl, hosubs, b1⟩
  have hO1 := (b1.block _ HSZ.out).trans HO.out
  have hR1 := (b1.block _ (Nat.lt_of_succ_lt HSZ.out)).trans HR.out
  have C1 := C0.out.below b1
  have B1 := below_trans HBA.out b1
  rw [HW.out] at hosubs
  have hs1 : w.heap.size + 1 + 1 + 1 ≤ w1.heap.size := by have := b1.size; rw [HW.out] at this; exact this
  clear HO C0 HSZ HBA HR HW b1
  obtain ⟨Asubs', csubs', rfl, _, _⟩ := hosubs.at_
  have c1_0 : w1.cell? ⟨w.heap.size, 0, none⟩ = some (.string name) := C1.2 0 _ rfl
  have d1_0 : w1.cell? ⟨w.heap.size + 1 + 1, 0, none⟩ = some (.string name) := by rw [Lib.cell_of_heap hO1]; rfl
  have fz1_0 : w1.frozen? ⟨w.heap.size + 1 + 1, 0, none⟩ = false := Lib.frozen_of_heap hO1 0
  have c1_1 : w1.cell? ⟨w.heap.size, 1, none⟩ = some (.slice Asubs subs.length csubs) := C1.2 1 _ rfl
  have d1_1 : w1.cell? ⟨w.heap.size + 1 + 1, 1, none⟩ = some (.slice none 0 0) := by rw [Lib.cell_of_heap hO1]; rfl
  have fz1_1 : w1.frozen? ⟨w.heap.size + 1 + 1, 1, none⟩ = false := Lib.frozen_of_heap hO1 1
  have c1_2 : w1.cell? ⟨w.heap.size, 2, none⟩ = some (.string value) := C1.2 2 _ rfl
  have d1_2 : w1.cell? ⟨w.heap.size + 1 + 1, 2, none⟩ = some (.string ⟨#[]⟩) := by rw [Lib.cell_of_heap hO1]; rfl
  have fz1_2 : w1.frozen? ⟨w.heap.size + 1 + 1, 2, none⟩ = false := Lib.frozen_of_heap hO1 2
  have r0 : w1.cell? ⟨w.heap.size + 1, 0, none⟩ = some (.string ⟨#[]⟩) := by rw [Lib.cell_of_heap hR1]; rfl
  have g0 : w1.frozen? ⟨w.heap.size + 1, 0, none⟩ = false := Lib.frozen_of_heap hR1 0
  have r1 : w1.cell? ⟨w.heap.size + 1, 1, none⟩ = some (.slice none 0 0) := by rw [Lib.cell_of_heap hR1]; rfl
  have g1 : w1.frozen? ⟨w.heap.size + 1, 1, none⟩ = false := Lib.frozen_of_heap hR1 1
  have r2 : w1.cell? ⟨w.heap.size + 1, 2, none⟩ = some (.string ⟨#[]⟩) := by rw [Lib.cell_of_heap hR1]; rfl
  have g2 : w1.frozen? ⟨w.heap.size + 1, 2, none⟩ = false := Lib.frozen_of_heap hR1 2
  have HRR := Lib.hid hR1
  have HOsubs := Lib.hid hosubs; clear hosubs
  clear hO1 hR1 C1
  go_wp2_with fail
  refine bodyPost_ret (results_cell_row rfl _ _ (w.heap.size + 1) 50 #[.string name, .slice Asubs' subs.length csubs', .string value] (0, 0) _ rfl ?_ Tryz.underlying50 rfl (by kernel_rfl)) rfl ⟨⟨name, .slice Asubs' subs.length csubs', subs, value⟩, rfl, rfl, ?_, ?_⟩
  · have q0 := HRR.out
    rw [← heap_setCell_other w1 ⟨w.heap.size + 1 + 1, 1, none⟩ (w.heap.size + 1) (.slice Asubs' subs.length csubs') (by simp)] at q0
    rw [← heap_setCell_other (w1.setCell ⟨w.heap.size + 1 + 1, 1, none⟩ (.slice Asubs' subs.length csubs')) ⟨w.heap.size + 1 + 1, 2, none⟩ (w.heap.size + 1) (.string value) (by simp)] at q0
    exact (heap_setCell_same _ _ 2 _ _ _ (heap_setCell_same _ _ 1 _ _ _ (heap_setCell_same _ _ 0 _ _ _ q0)))
  · exact ⟨Joins.ownsRow_le (ownsRow_setCell_below (ownsRow_setCell_below (ownsRow_setCell_below (ownsRow_setCell_below (ownsRow_setCell_below HOsubs.out (by simp) _) (by simp) _) (by simp) _) (by simp) _) (by simp) _) (by omega), trivial⟩
  · exact (((((B1.setCell (p := ⟨w.heap.size + 1 + 1, 1, none⟩) (by simp; omega) _).setCell (p := ⟨w.heap.size + 1 + 1, 2, none⟩) (by simp; omega) _).setCell (p := ⟨w.heap.size + 1, 0, none⟩) (by simp) _).setCell (p := ⟨w.heap.size + 1, 1, none⟩) (by simp) _).setCell (p := ⟨w.heap.size + 1, 2, none⟩) (by simp) _)

set_option maxHeartbeats 1000000 in
set_option maxRecDepth 8000 in
theorem eqNode_any (x y : NodeV) (w : World) (hx : x.At w) (hy : y.At w) (hok : x.Ok 1048576) :
    Calls Tryz.prog 44 #[.agg x.cells, .agg y.cells] w fun e w' => e = .returned (.bool (decide (x.dat = y.dat))) ∧ Below w.heap.size w w' := by
  obtain ⟨R, hR⟩ : ∃ R : Bool, decide (x.dat = y.dat) = R := ⟨_, rfl⟩
  rw [hR]
  have HR := Lib.hid hR; clear hR
  have hba : Below w.heap.size w ((w.alloc (.cells x.cells 50)).alloc (.cells y.cells 50)) := Joins.below_alloc2 w _ _
  have hX := hx.on hba
  have hY := hy.on hba
  obtain ⟨name, subsv, subs, value⟩ := x
  obtain ⟨name2, subsV, subs2, value2⟩ := y
  obtain ⟨hnname, ⟨hlsubs, hzsubs⟩, hnvalue, _⟩ := hok
  obtain ⟨hxsubs, _⟩ := hx
  obtain ⟨hysubs, _⟩ := hy
  obtain ⟨hXsubs, _⟩ := hX
  obtain ⟨hYsubs, _⟩ := hY
  simp only [NodeV.cells] at *
  have HV : Hid (∀ b : Bool, (b = true ↔ name = name2 ∧ subs = subs2 ∧ value = value2) → R = b) := fun b hb => by
    rw [← HR.out]
    have e : (NodeV.dat ⟨name, subsv, subs, value⟩ = NodeV.dat ⟨name2, subsV, subs2, value2⟩) ↔ (name = name2 ∧ subs = subs2 ∧ value = value2) := by simp [NodeV.dat]
    cases b
    · rw [decide_eq_false_iff_not, e]; exact fun h => by simpa using hb.2 h
    · rw [decide_eq_true_iff, e]; exact hb.1 rfl
  clear HR
  clear hzsubs
  have HXsubs := Lib.hid hXsubs; clear hXsubs
  have HYsubs := Lib.hid hYsubs; clear hYsubs
  obtain ⟨Asubs, csubs, rfl, _, _⟩ := id hxsubs; clear hxsubs
  obtain ⟨Asubs2, csubs2, rfl, _, _⟩ := id hysubs; clear hysubs
  have hbz := hba.size
  go_enter Tryz.func44, Tryz.ntmps44
  by_cases hne : name = name2
  rotate_left
  · have e1 : (name.toList == name2.toList) = false := by rw [ba_toList, ba_toList]; exact beq_eq_false_iff_ne.2 (fun h => hne (ba_ext h))
    go_wp2_with fail
    go_ret
    exact ⟨ret_bool (HV.out false (by simp [hne])).symm, hba⟩
  subst hne
  go_wp2_with fail
  refine (eqStringS_any _ _ subs subs2 _ _ HXsubs.out HYsubs.out hlsubs).mono ?_
  rintro e w' ⟨rfl, n0, rfl⟩
  have B0 := below_trans hba (below_drewN _ n0)
  by_cases hne : subs = subs2
  rotate_left
  · rw [decide_eq_false hne]
    go_wp2_with fail
    go_ret
    exact ⟨ret_bool (HV.out false (by simp [hne])).symm, B0⟩
  rw [decide_eq_true hne]
  have Esubs := Lib.hid hne; clear hne
  by_cases hne : value = value2
  rotate_left
  · have e1 : (value.toList == value2.toList) = false := by rw [ba_toList, ba_toList]; exact beq_eq_false_iff_ne.2 (fun h => hne (ba_ext h))
    go_wp2_with fail
    go_ret
    exact ⟨ret_bool (HV.out false (by simp [hne])).symm, B0⟩
  subst hne
  go_wp2_with fail
  go_ret
  exact ⟨ret_bool (HV.out true (by simp [Esubs.out])).symm, B0⟩


end Go.Proofs.YtllamjgloilioaaGreatDoor
