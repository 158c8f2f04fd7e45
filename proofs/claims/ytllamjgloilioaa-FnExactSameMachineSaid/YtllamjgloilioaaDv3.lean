/- Plain data in memory: a struct's copy in the making: its parameter's block, its result's, its own. -/
import Derived.Test.YtllamjgloilioaaDv2
import Derived.Test.YtllamjgloilioaaStructArgs
import Derived.Test.YtllamjgloilioaaStructTools
namespace Go.Proofs.Ytllamjgloilioaa
open Go.RowKit Go.WideShapes Go.ChangeShapes Go.Deep
set_option linter.unusedVariables false

theorem setRow_other : ∀ (us : List Value) (w : World) (g off b : Nat), b ≠ g → (setRow w g off us).heap[b]? = w.heap[b]?
  | [], _, _, _, _, _ => rfl
  | u :: r, w, g, off, b, h => by rw [setRow, setRow_other r _ g _ b h]; exact Below.heap_setCell w ⟨g, off, none⟩ u b h

theorem setRow_cell : ∀ (us : List Value) (w : World) (g off : Nat) (a : Addr), a.block ≠ g → (setRow w g off us).cell? a = w.cell? a
  | [], _, _, _, _, _ => rfl
  | u :: r, w, g, off, a, h => by rw [setRow, setRow_cell r _ g _ a h]; exact cell_setCell_blk w ⟨g, off, none⟩ a u h

theorem setArr_all {cur : Array Value} {us : List Value} (h : cur.size = us.length) : setArr cur 0 us = us.toArray := by
  apply Array.ext_getElem?
  intro i
  rcases Nat.lt_or_ge i us.length with h1 | h1
  · have := setArr_in us cur 0 i (by omega) h1
    rw [Nat.zero_add] at this
    rw [this]; simp
  · rw [Array.getElem?_eq_none (by rw [setArr_size]; omega), Array.getElem?_eq_none (by simpa using h1)]

theorem add_posD (a : Addr) (n : Nat) : a.add (n + 1) = ⟨a.block, a.off + (n + 1), none⟩ := by simp [Addr.add]

/-- In the making: the parameter's cells, the copy's, the result's. -/
def Mid (w wi : World) (pc : List Value) (oc zc : Array Value) (T : TypeId) : Prop :=
  w.heap.size + 1 + 1 < wi.heap.size ∧ CellsAt wi w.heap.size pc ∧ wi.heap[w.heap.size + 1 + 1]? = some (.cells oc T (0, 0)) ∧ wi.heap[w.heap.size + 1]? = some (.cells zc T (0, 0)) ∧ Below w.heap.size w wi

section
variable {w wi wj : World} {pc : List Value} {oc zc : Array Value} {T : TypeId}

theorem Mid.start (w : World) (pc oc zc : Array Value) (T0 T : TypeId) : Mid w (((w.alloc (.cells pc T0)).alloc (.cells zc T)).alloc (.cells oc T)) pc.toList oc zc T := by
  refine ⟨by simp, ((CellsAt.new w pc T0).below (Joins.below_alloc1 _ _)).below (Joins.below_alloc1 _ _), ?_, ?_, Joins.below_alloc3 w _ _ _⟩
  · have h := heap_alloc_new ((w.alloc (.cells pc T0)).alloc (.cells zc T)) (.cells oc T)
    have e2 : ((w.alloc (.cells pc T0)).alloc (.cells zc T)).heap.size = w.heap.size + 1 + 1 := by simp
    rw [e2] at h
    exact h
  · rw [Below.heap_alloc _ _ _ (by simp), show w.heap.size + 1 = (w.alloc (.cells pc T0)).heap.size by simp]
    exact heap_alloc_new _ _

theorem Mid.step (h : Mid w wi pc oc zc T) (hb : Below wi.heap.size wi wj) : Mid w wj pc oc zc T := by
  obtain ⟨h1, h2, h3, h4, h5⟩ := h
  exact ⟨Nat.lt_of_lt_of_le h1 hb.size, h2.below hb, (hb.block _ h1).trans h3, (hb.block _ (by omega)).trans h4, below_trans h5 hb⟩

theorem Mid.row (h : Mid w wi pc oc zc T) (off : Nat) (us : List Value) : Mid w (setRow wi (w.heap.size + 1 + 1) off us) pc (setArr oc off us) zc T := by
  obtain ⟨h1, h2, h3, h4, h5⟩ := h
  refine ⟨by rw [setRow_size]; exact h1, ⟨by rw [setRow_size]; exact h2.1, fun j u hu => ?_⟩, setRow_heap us _ _ _ _ _ h3, by rw [setRow_other us _ _ _ _ (by omega)]; exact h4, setRow_below us _ _ _ _ _ (by omega) h5⟩
  rw [setRow_cell us _ _ _ _ (by show w.heap.size ≠ _; omega)]; exact h2.2 j u hu

theorem Mid.pcell (h : Mid w wi pc oc zc T) (j : Nat) (u : Value) (hu : pc[j]? = some u) : wi.cell? ⟨w.heap.size, j, none⟩ = some u := h.2.1.2 j u hu

theorem Mid.ocell (h : Mid w wi pc oc zc T) (j : Nat) (u : Value) (hu : oc[j]? = some u) : wi.cell? ⟨w.heap.size + 1 + 1, j, none⟩ = some u ∧ wi.frozen? ⟨w.heap.size + 1 + 1, j, none⟩ = false :=
  ⟨by rw [Lib.cell_of_heap h.2.2.1]; exact hu, Lib.frozen_of_heap h.2.2.1 j⟩

theorem Mid.zcell (h : Mid w wi pc oc zc T) (j : Nat) (u : Value) (hu : zc[j]? = some u) : wi.cell? ⟨w.heap.size + 1, j, none⟩ = some u ∧ wi.frozen? ⟨w.heap.size + 1, j, none⟩ = false :=
  ⟨by rw [Lib.cell_of_heap h.2.2.2.1]; exact hu, Lib.frozen_of_heap h.2.2.2.1 j⟩

theorem Mid.below (h : Mid w wi pc oc zc T) : Below w.heap.size w wi := h.2.2.2.2

theorem Mid.lt (h : Mid w wi pc oc zc T) : w.heap.size + 1 + 1 + 1 ≤ wi.heap.size := h.1

/-- At the end the copy goes to the result. -/
theorem Mid.fin (h : Mid w wi pc oc zc T) (us : List Value) (hz : zc.size = us.length) : (setRow wi (w.heap.size + 1) 0 us).heap[w.heap.size + 1]? = some (.cells us.toArray T (0, 0)) := by
  rw [setRow_heap us _ _ _ _ _ h.2.2.2.1, setArr_all hz]

theorem Mid.finBelow (h : Mid w wi pc oc zc T) (us : List Value) : Below w.heap.size w (setRow wi (w.heap.size + 1) 0 us) := setRow_below us _ _ _ _ _ (by omega) h.below

theorem Rd.slv {lo hi : Nat} {e : Ty} {v : Value} {ds : List DV} (h : Rd w lo hi (.sl e) [v] (.sl ds)) : ∃ A c, v = .slice A ds.length c := by
  obtain ⟨A, c, ds', e1, e2, _, _⟩ := Rd.inv_sl h
  injection e2 with e2
  subst e2
  simp only [List.cons.injEq, and_true] at e1
  exact ⟨A, c, e1⟩

theorem Rd.got {lo : Nat} {t : Ty} {cs : List Value} {d : DV} (h : Rd wj wi.heap.size wj.heap.size t cs d) (hlo : lo ≤ wi.heap.size) : Rd wj lo wj.heap.size t cs d := h.imp (fun _ _ _ => rfl) hlo (Nat.le_refl _)

theorem Rd.step {lo : Nat} {t : Ty} {cs : List Value} {d : DV} (h : Rd wi lo wi.heap.size t cs d) (hb : Below wi.heap.size wi wj) : Rd wj lo wj.heap.size t cs d := h.imp (fun p _ hp => hb.cell hp) (Nat.le_refl _) hb.size

theorem Rd.row {lo : Nat} {t : Ty} {cs : List Value} {d : DV} (h : Rd wi lo wi.heap.size t cs d) (g off : Nat) (us : List Value) (hg : g < lo) : Rd (setRow wi g off us) lo (setRow wi g off us).heap.size t cs d := by
  rw [setRow_size]; exact setRow_rd us _ _ _ h (.inl hg)
end

end Go.Proofs.Ytllamjgloilioaa
