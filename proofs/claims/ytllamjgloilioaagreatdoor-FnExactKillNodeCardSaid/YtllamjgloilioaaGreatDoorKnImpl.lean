/- KillNode: impl's copies of a node and of a tree. -/
import Derived.Test.YtllamjgloilioaaGreatDoorKnRow
import Derived.Test.YtllamjgloilioaaGreatDoorTreeLaw
import Derived.Test.YtllamjgloilioaaGreatDoorKnIn
import Derived.Test.YtllamjgloilioaaGreatDoorShelf
import Derived.Deep.RegionLaw
namespace Go.Proofs.YtllamjgloilioaaGreatDoor
open Go.RowKit Go.ChangeShapes Go.WideShapes Go.ChangeAt Go.Deep
set_option linter.unusedVariables false

theorem Clone_own (v : Value) (xs : List ByteArray) (w : World) (base : Nat) (h : Strs w base v xs) (hl : xs.length ≤ 1048576) :
    Calls Tryz.prog 59 #[v] w fun e w' => ∃ v', e = .returned v' ∧ Strs w' w.heap.size v' xs ∧ Below w.heap.size w w' := by
  rcases ownsRow_formsS h with ⟨rfl, hn⟩ | ⟨g, cap, rfl⟩
  · have hx : xs = [] := List.eq_nil_of_length_eq_zero hn
    subst hx
    exact (Tryz.slices_Clone_string_nil 0 0 w).mono fun e w' ⟨he, hw⟩ => ⟨_, he, World.ownsRow_nil _ _ _ _, by rw [hw]; exact below_refl _⟩
  · by_cases h0 : xs.length = 0
    · have hx : xs = [] := List.eq_nil_of_length_eq_zero h0
      subst hx
      exact (Tryz.slices_Clone_string_zero ⟨g, 0, none⟩ cap w).mono fun e w' ⟨v', he, h1, _, h2⟩ => ⟨v', he, h1, h2⟩
    · refine (Tryz.slices_Clone_string g 0 xs.length cap xs w (Nat.le_refl _) (by omega) (fun i hi => ?_)).mono fun e w' ⟨v', he, h1, _, h2⟩ => ⟨v', he, by rw [List.take_length] at h1; exact h1, h2⟩
      rw [Nat.zero_add, World.ownsRow.cellAt h i (by omega)]
      simp [strVs, List.getD, List.getElem?_eq_getElem hi]

theorem NodesOwn.getK {w : World} {g n : Nat} {xs : List NodeV} (h : NodesOwn w g n xs) {k : Nat} (hk : k < xs.length) : w.cell? ⟨g, k * 3, none⟩ = some (.string xs[k].name) ∧ w.cell? ⟨g, k * 3 + 1, none⟩ = some xs[k].subsv ∧ w.cell? ⟨g, k * 3 + 2, none⟩ = some (.string xs[k].value) := by
  obtain ⟨cur, hh, hz, hl, hq⟩ := h
  have h1 := (hq k hk).1
  exact ⟨by rw [Lib.cell_of_heap hh]; exact h1 0 _ rfl, by rw [Lib.cell_of_heap hh]; exact h1 1 _ rfl, by rw [Lib.cell_of_heap hh]; exact h1 2 _ rfl⟩

set_option maxHeartbeats 1000000 in
set_option maxRecDepth 8000 in
theorem copyNode_own (x : NodeV) (w : World) (B : Nat) (h : x.Own w B) (hl : x.subs.length ≤ 1048576) :
    Calls Tryz.prog 40 #[.agg x.cells] w fun e w' => ∃ x' : NodeV, e = .returned (.agg x'.cells) ∧ Hid (x'.dat = x.dat) ∧ x'.Own w' w.heap.size ∧ Below w.heap.size w w' := by
  obtain ⟨name, subsv, subs, value⟩ := x
  obtain ⟨hs, _⟩ := h
  simp only [NodeV.cells, NodeV.dat, NodeV.Own] at *
  have HS0 := Lib.hid hs
  obtain ⟨As, cs, rfl, _, _⟩ := hs.at_; clear hs
  have hba : Below w.heap.size w ((w.alloc (.cells #[.string name, .slice As subs.length cs, .string value] 50)).alloc (.cells #[.string ⟨#[]⟩, .slice none 0 0, .string ⟨#[]⟩] 50)) := Joins.below_alloc2 w _ _
  have HCL := Lib.hid (Clone_own _ subs ((w.alloc (.cells #[.string name, .slice As subs.length cs, .string value] 50)).alloc (.cells #[.string ⟨#[]⟩, .slice none 0 0, .string ⟨#[]⟩] 50)) B (own_on HS0.out hba) hl)
  have hR0 := heap_alloc_new (w.alloc (.cells #[.string name, .slice As subs.length cs, .string value] 50)) (.cells #[.string ⟨#[]⟩, .slice none 0 0, .string ⟨#[]⟩] 50)
  have e1 : (w.alloc (.cells #[.string name, .slice As subs.length cs, .string value] 50)).heap.size = w.heap.size + 1 := by simp
  rw [e1] at hR0
  have HR := Lib.hid hR0
  have hO0 : ((w.alloc (.cells #[.string name, .slice As subs.length cs, .string value] 50)).alloc (.cells #[.string ⟨#[]⟩, .slice none 0 0, .string ⟨#[]⟩] 50)).heap[w.heap.size]? = some (.cells #[.string name, .slice As subs.length cs, .string value] 50 (0, 0)) := by
    rw [Below.heap_alloc _ _ _ (by simp)]
    exact heap_alloc_new _ _
  have HO := Lib.hid hO0
  have hW0 : ((w.alloc (.cells #[.string name, .slice As subs.length cs, .string value] 50)).alloc (.cells #[.string ⟨#[]⟩, .slice none 0 0, .string ⟨#[]⟩] 50)).heap.size = w.heap.size + 1 + 1 := by simp
  have HW := Lib.hid hW0
  have HBA := Lib.hid hba
  clear hO0 hR0 e1 hW0 hba HS0
  go_enter Tryz.func40, Tryz.ntmps40
  go_wp2_with fail
  refine HCL.out.mono ?_
  rintro e w1 ⟨sv', rfl, ho, b1⟩
  have hO1 := (b1.block w.heap.size (by rw [HW.out]; omega)).trans HO.out
  have hR1 := (b1.block (w.heap.size + 1) (by rw [HW.out]; omega)).trans HR.out
  have B1 := below_trans HBA.out b1
  rw [HW.out] at ho
  have hs1 : w.heap.size + 1 + 1 ≤ w1.heap.size := by have := b1.size; rw [HW.out] at this; exact this
  clear HCL HR HO HW HBA b1
  obtain ⟨As', cs', rfl, _, _⟩ := ho.at_
  have c0 : w1.cell? ⟨w.heap.size, 0, none⟩ = some (.string name) := by rw [Lib.cell_of_heap hO1]; rfl
  have c1 : w1.cell? ⟨w.heap.size, 1, none⟩ = some (.slice As subs.length cs) := by rw [Lib.cell_of_heap hO1]; rfl
  have c2 : w1.cell? ⟨w.heap.size, 2, none⟩ = some (.string value) := by rw [Lib.cell_of_heap hO1]; rfl
  have f1 : w1.frozen? ⟨w.heap.size, 1, none⟩ = false := Lib.frozen_of_heap hO1 1
  have r0 : w1.cell? ⟨w.heap.size + 1, 0, none⟩ = some (.string ⟨#[]⟩) := by rw [Lib.cell_of_heap hR1]; rfl
  have g0 : w1.frozen? ⟨w.heap.size + 1, 0, none⟩ = false := Lib.frozen_of_heap hR1 0
  have r1 : w1.cell? ⟨w.heap.size + 1, 1, none⟩ = some (.slice none 0 0) := by rw [Lib.cell_of_heap hR1]; rfl
  have g1 : w1.frozen? ⟨w.heap.size + 1, 1, none⟩ = false := Lib.frozen_of_heap hR1 1
  have r2 : w1.cell? ⟨w.heap.size + 1, 2, none⟩ = some (.string ⟨#[]⟩) := by rw [Lib.cell_of_heap hR1]; rfl
  have g2 : w1.frozen? ⟨w.heap.size + 1, 2, none⟩ = false := Lib.frozen_of_heap hR1 2
  have HRR := Lib.hid hR1
  have HOS := Lib.hid ho
  clear hO1 hR1 ho
  go_wp2_with fail
  refine bodyPost_ret (results_cell_row rfl _ _ (w.heap.size + 1) 50 #[.string name, .slice As' subs.length cs', .string value] (0, 0) _ rfl ?_ Tryz.underlying50 rfl (by kernel_rfl)) rfl ⟨⟨name, .slice As' subs.length cs', subs, value⟩, rfl, rfl, ?_, ?_⟩
  · have q0 := HRR.out
    rw [← heap_setCell_other w1 ⟨w.heap.size, 1, none⟩ (w.heap.size + 1) (.slice As' subs.length cs') (by simp)] at q0
    exact (heap_setCell_same _ _ 2 _ _ _ (heap_setCell_same _ _ 1 _ _ _ (heap_setCell_same _ _ 0 _ _ _ q0)))
  · exact ⟨Joins.ownsRow_le (ownsRow_setCell_below (ownsRow_setCell_below (ownsRow_setCell_below (ownsRow_setCell_below HOS.out (by simp; omega) _) (by simp) _) (by simp) _) (by simp) _) (by omega), trivial⟩
  · exact ((((B1.setCell (p := ⟨w.heap.size, 1, none⟩) (by simp) _).setCell (p := ⟨w.heap.size + 1, 0, none⟩) (by simp) _).setCell (p := ⟨w.heap.size + 1, 1, none⟩) (by simp) _).setCell (p := ⟨w.heap.size + 1, 2, none⟩) (by simp) _)

theorem step_append_Node (w : World) {ops : Array Oper} {o : Oper} {a : Act} {K : Act → World → Prop} {Q : Exit → Act → World → Prop} {E : Prop} (hgd : o.guard = none) (s x : Operand)
    (ho : o.op = .call { callee := .builtin .append, args := #[s, x], argTypes := #[28, 28] }) (base : Nat) (v : Value) (n : Nat) (l : List Value) (u0 u1 u2 : Value) (k0 : u0.oneCell' = true) (k1 : u1.oneCell' = true) (k2 : u2.oneCell' = true) (hown : w.ownsRow base 50 3 v n l) (hs : a.eval s = v)
    (hx : a.eval x = .slice (some ⟨w.heap.size, 0, none⟩) 1 1) (hlen : n < 1099511627776) (hbase : base ≤ w.heap.size)
    (h : ∀ v' w', w'.ownsRow base 50 3 v' (n + 1) (l ++ [u0, u1, u2]) → w.grownBy w' v.ownBlock → Below base w w' → (v'.ownBlock = v.ownBlock ∨ v'.ownBlock = some (w.heap.size + 1)) → K (a.put o.dst v') w') :
    if Region.wanted o (yielded ops a.tmps) = true then Oper.wp Tryz.prog o a (w.alloc (.cells #[u0, u1, u2] 50)) K Q else E := by
  have hw : Region.wanted o (yielded ops a.tmps) = true := by simp [Region.wanted, hgd]
  rw [if_pos hw]
  obtain ⟨i0, hi0, hz0, hz1, hz2⟩ := info_parts info_node3
  obtain ⟨v', w', hrun, h2, h3, _, h5⟩ := run_append_own_at (P := Tryz.prog) (w.alloc (.cells #[u0, u1, u2] 50)) base 28 o.type 50 i0 _ 3 _ Tryz.underlying28 hi0 hz0 hz1 hz2 rfl (by omega) v n l (hown.alloc _)
    ⟨w.heap.size, 0, none⟩ 1 1 [u0, u1, u2] rfl (fun j u hj => by
      match j, hj with
      | 0, hj => simp at hj; subst hj; simp [Addr.add]
      | 1, hj => simp at hj; subst hj; simp [Addr.add]
      | 2, hj => simp at hj; subst hj; simp [Addr.add]) (fun u hu => by simp at hu; rcases hu with rfl | rfl | rfl <;> assumption) (by unfold maxLen; omega) (by omega) (by simp; omega)
  have hg : w.grownBy w' v.ownBlock := grownBy_tr (World.grownBy_alloc w _ _) h3
  have hbl : Below base w w' := by
    refine (Below.refl _ _).grown hg hbase (fun k hk => ?_)
    exact (World.ownsRow.lt hown k hk).1
  unfold Oper.wp execOp
  simp only [ho, resolve, invoke, builtin, Sem.run_bind, Sem.run_pure, Result.andThen_ok, List.map_toArray, List.map_cons, List.map_nil, hs, hx, hrun]
  exact h v' w' h2 hg hbl (by simpa using h5)

end Go.Proofs.YtllamjgloilioaaGreatDoor
