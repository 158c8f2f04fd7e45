/- The law of TreeOk; what the laws of one tree share. -/
import Derived.Test.YtllamjgloilioaaGreatDoorTreeOk
import Derived.Deep.RegionHeld3
namespace Go.Proofs.YtllamjgloilioaaGreatDoor
open Go.RowKit Go.ChangeShapes Go.WideShapes Go.ChangeAt Go.Deep
set_option linter.unusedVariables false

theorem NodeV.dat_eq {x y : NodeV} (h : x.dat = y.dat) : x.name = y.name ∧ x.subs = y.subs ∧ x.value = y.value := by
  unfold NodeV.dat at h
  injection h with h1 h2
  injection h2 with h2 h3
  exact ⟨h1, h2, h3⟩

theorem nodeOkB_dat {x y : NodeV} (h : x.dat = y.dat) : nodeOkB x = nodeOkB y := by
  obtain ⟨h1, h2, h3⟩ := NodeV.dat_eq h
  unfold nodeOkB; rw [h1, h2, h3]

theorem lessB_dat {x y a b : NodeV} (h : x.dat = y.dat) (h' : a.dat = b.dat) : lessB x a = lessB y b := by
  obtain ⟨h1, h2, h3⟩ := NodeV.dat_eq h
  obtain ⟨k1, k2, k3⟩ := NodeV.dat_eq h'
  unfold lessB; rw [h1, h2, k1, k2]

theorem treeGo_dat : ∀ (xs ys : List NodeV) (p q : Option NodeV), p.map NodeV.dat = q.map NodeV.dat → xs.map NodeV.dat = ys.map NodeV.dat → treeGo p xs = treeGo q ys
  | [], [], p, q, _, _ => by cases p <;> cases q <;> rfl
  | [], y :: ys, _, _, _, h => by simp at h
  | x :: xs, [], _, _, _, h => by simp at h
  | x :: xs, y :: ys, p, q, hp, h => by
    simp only [List.map_cons, List.cons.injEq] at h
    have ih := treeGo_dat xs ys (some x) (some y) (by simp [h.1]) h.2
    unfold treeGo
    rw [ih, nodeOkB_dat h.1]
    cases p with
    | none => cases q with
      | none => rfl
      | some b => simp at hp
    | some a => cases q with
      | none => simp at hp
      | some b =>
        have e : a.dat = b.dat := by simpa using hp
        simp only [lessB_dat e h.1]

theorem treeOkB_dat {xs ys : List NodeV} (h : xs.map NodeV.dat = ys.map NodeV.dat) : treeOkB xs = treeOkB ys := by
  unfold treeOkB; rw [dat_len h, treeGo_dat xs ys none none rfl h]

/-- One tree, in a cell of its own; the world has only grown since w0. -/
def T1 (w0 w : World) (va : Value) (ns : List NodeV) (gA : Nat) : Prop := Below w0.heap.size w0 w ∧ CellsAt w gA [va] ∧ NodesAt w va ns

theorem T1.on {w0 w w' : World} {va : Value} {ns : List NodeV} {gA : Nat} (h : T1 w0 w va ns gA) (hb : Below w.heap.size w w') : T1 w0 w' va ns gA :=
  ⟨below_trans h.1 hb, h.2.1.below hb, h.2.2.on hb⟩

theorem T1.drew {w0 w : World} {va : Value} {ns : List NodeV} {gA : Nat} (h : T1 w0 w va ns gA) : T1 w0 w.drew va ns gA := h.on (below_refl w).drew

theorem T1.a {w0 w : World} {va : Value} {ns : List NodeV} {gA : Nat} (h : T1 w0 w va ns gA) : w.cell? ⟨gA, 0, none⟩ = some va := h.2.1.2 0 _ rfl

theorem T1.new {w : World} {va : Value} {ns : List NodeV} (t : TypeId) (h : NodesAt w va ns) : T1 w (w.alloc (.cells #[va] t)) va ns w.heap.size :=
  ⟨Joins.below_alloc1 w _, CellsAt.new w #[va] t, h.on (Joins.below_alloc1 w _)⟩

end Go.Proofs.YtllamjgloilioaaGreatDoor
