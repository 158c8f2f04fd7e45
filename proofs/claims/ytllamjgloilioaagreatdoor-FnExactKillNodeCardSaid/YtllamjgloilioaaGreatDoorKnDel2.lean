/- KillNode: slices.DeleteFunc over a row of nodes of the call's own. -/
import Derived.Test.YtllamjgloilioaaGreatDoorKnDel
namespace Go.Proofs.YtllamjgloilioaaGreatDoor
open Go.RowKit Go.ChangeShapes Go.WideShapes Go.ChangeAt Go.Deep
set_option linter.unusedVariables false
set_option linter.unusedSimpArgs false

theorem nodeVs_set (K T : List NodeV) (x y : NodeV) : (((nodeVs (K ++ y :: T)).set (K.length * 3) (.string x.name)).set (K.length * 3 + 1) x.subsv).set (K.length * 3 + 2) (.string x.value) = nodeVs (K ++ x :: T) := by
  have hK := nodeVs_len K
  rw [nodeVs_append, nodeVs_append, nodeVs_cons, nodeVs_cons]
  generalize nodeVs K = k at *
  generalize nodeVs T = t at *
  rw [← hK]
  rw [List.set_append_right _ _ (Nat.le_refl _), List.set_append_right _ _ (Nat.le_succ _), List.set_append_right _ _ (by omega)]
  simp

/-- A row of n nodes in block g. -/
def NodesIn (w : World) (B g cap n : Nat) (L : List NodeV) : Prop := w.ownsRow B 50 3 (.slice (some ⟨g, 0, none⟩) n cap) n (nodeVs L)

theorem NodesIn.on {w w' : World} {B g cap n : Nat} {L : List NodeV} (h : NodesIn w B g cap n L) (hb : Below w.heap.size w w') : NodesIn w' B g cap n L := own_on h hb

theorem NodesIn.len {w : World} {B g cap n : Nat} {L : List NodeV} (h : NodesIn w B g cap n L) : L.length = n := by
  have h1 := h.1
  rw [nodeVs_len] at h1
  omega

theorem NodesIn.get {w : World} {B g cap n : Nat} {A D : List NodeV} {x : NodeV} {j : Nat} (h : NodesIn w B g cap n (A ++ x :: D)) (hj : A.length = j) : w.cell? ⟨g, j * 3, none⟩ = some (.string x.name) ∧ w.cell? ⟨g, j * 3 + 1, none⟩ = some x.subsv ∧ w.cell? ⟨g, j * 3 + 2, none⟩ = some (.string x.value) ∧
    w.frozen? ⟨g, j * 3, none⟩ = false ∧ w.frozen? ⟨g, j * 3 + 1, none⟩ = false ∧ w.frozen? ⟨g, j * 3 + 2, none⟩ = false := by
  subst hj
  have hl := h.len
  simp only [List.length_append, List.length_cons] at hl
  have hi : A.length < (A ++ x :: D).length := by simp
  have hx : (A ++ x :: D)[A.length] = x := by simp
  have q : ∀ o u, x.cells[o]? = some u → o < 3 → w.cell? ⟨g, A.length * 3 + o, none⟩ = some u := fun o u hu ho => by
    rw [World.ownsRow.cellAt h _ (by omega)]
    exact nodeVs_get _ _ _ hi _ (by rw [hx]; exact hu)
  exact ⟨q 0 _ rfl (by omega), q 1 _ rfl (by omega), q 2 _ rfl (by omega), World.ownsRow.frozenAt h _, World.ownsRow.frozenAt h _, World.ownsRow.frozenAt h _⟩

theorem NodesIn.put {w : World} {B g cap n : Nat} {A D : List NodeV} {x y : NodeV} {j : Nat} (h : NodesIn w B g cap n (A ++ y :: D)) (hj : A.length = j) :
    NodesIn (((w.setCell ⟨g, j * 3, none⟩ (.string x.name)).setCell ⟨g, j * 3 + 1, none⟩ x.subsv).setCell ⟨g, j * 3 + 2, none⟩ (.string x.value)) B g cap n (A ++ x :: D) ∧
    w.grownBy (((w.setCell ⟨g, j * 3, none⟩ (.string x.name)).setCell ⟨g, j * 3 + 1, none⟩ x.subsv).setCell ⟨g, j * 3 + 2, none⟩ (.string x.value)) (some g) := by
  subst hj
  obtain ⟨h1, g1⟩ := World.ownsRow.stored h (A.length * 3) (.string x.name)
  obtain ⟨h2, g2⟩ := h1.stored (A.length * 3 + 1) x.subsv
  obtain ⟨h3, g3⟩ := h2.stored (A.length * 3 + 2) (.string x.value)
  rw [nodeVs_set] at h3
  exact ⟨h3, grownBy_tr (grownBy_tr g1 g2) g3⟩

theorem run_zeroNode (w : World) : (zeroValue 50).run Tryz.prog w = .ok (.agg #[.string ⟨#[]⟩, .slice none 0 0, .string ⟨#[]⟩]) w := by
  obtain ⟨i0, hi0, hz0, _, _⟩ := info_parts info_node3
  simp [zeroValue, typeInfo, hi0, hz0]

theorem run_clear_nodes (w : World) (g o n c : Nat) (ty : TypeId) (hn : 0 < n) (hc : ∀ j, j < n * 3 → (w.cell? ⟨g, o + j, none⟩).isSome = true) (hf : ∀ j, j < n * 3 → w.frozen? ⟨g, o + j, none⟩ = false) :
    (Builtin.clear_ #[28] ty #[.slice (some ⟨g, o, none⟩) n c]).run Tryz.prog w = .ok (.tuple #[]) (w.setCells g o (Builtin.zeroCells #[.string ⟨#[]⟩, .slice none 0 0, .string ⟨#[]⟩] n).toList) := by
  have hl : (Builtin.zeroCells #[.string ⟨#[]⟩, .slice none 0 0, .string ⟨#[]⟩] n).toList.length = n * 3 := by simp [Builtin.zeroCells]
  have h1 : ∀ v ∈ (Builtin.zeroCells #[.string ⟨#[]⟩, .slice none 0 0, .string ⟨#[]⟩] n).toList, v.oneCell' = true := by
    intro v hv
    simp only [Builtin.zeroCells, Array.toList_map, List.mem_map] at hv
    obtain ⟨i, _, rfl⟩ := hv
    have : i % 3 = 0 ∨ i % 3 = 1 ∨ i % 3 = 2 := by omega
    rcases this with e | e | e <;> simp [e] <;> rfl
  have hst := run_storeCells_cells (P := Tryz.prog) g o _ 0 w (by rw [hl]; simpa using hc) (by rw [hl]; simpa using hf) h1
  simp only [Nat.add_zero] at hst
  obtain ⟨m, rfl⟩ : ∃ m, n = m + 1 := ⟨n - 1, by omega⟩
  simp [Builtin.clear_, run_underlying Tryz.underlying28, run_zeroNode, Value.cells, hst]

theorem filter_none {p : NodeV → Bool} {l : List NodeV} (h : ∀ x ∈ l, p x = false) : l.filter (fun x => !p x) = l := by
  rw [List.filter_eq_self]
  intro x hx
  rw [h x hx]; rfl

/-- The head of the row, handed back. -/
theorem NOwn.head {w : World} {B g cap n k : Nat} {K ns : List NodeV} {cs : List Value} (h : w.ownsRow B 50 3 (.slice (some ⟨g, 0, none⟩) n cap) n cs) (hk : K.length = k) (hL : nodeVs K = cs.take (k * 3)) (hkn : k ≤ n) (hsub : K.Sublist ns)
    (hown : ∀ x ∈ ns, x.Own w B ∧ x.row ≠ some g) (hap : Apart (ns.map NodeV.row)) : NOwn w B (.slice (some ⟨g, 0, none⟩) k cap) K := by
  subst hk
  refine ⟨by rw [hL]; exact ownsRow_head h _ hkn, fun x hx => ⟨(hown x (hsub.subset hx)).1, fun b hb e => ?_⟩, hap.sub (hsub.map _)⟩
  simp only [Value.ownBlock, Option.some.injEq] at e
  subst e
  exact (hown x (hsub.subset hx)).2 hb

end Go.Proofs.YtllamjgloilioaaGreatDoor
