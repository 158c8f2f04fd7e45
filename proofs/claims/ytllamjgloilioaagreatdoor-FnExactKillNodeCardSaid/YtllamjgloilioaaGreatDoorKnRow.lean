/- A row of nodes of the call's own, as append grows it. -/
import Derived.Test.YtllamjgloilioaaGreatDoorKnMark
import Derived.Test.YtllamjgloilioaaGreatDoorAppendT
import Derived.Laws.IdiomCopy
namespace Go.Proofs.YtllamjgloilioaaGreatDoor
open Go.RowKit Go.ChangeShapes Go.WideShapes Go.ChangeAt Go.Deep
set_option linter.unusedVariables false

def nodeVs (xs : List NodeV) : List Value := xs.flatMap fun x => x.cells.toList

theorem nodeVs_append (l m : List NodeV) : nodeVs (l ++ m) = nodeVs l ++ nodeVs m := by simp [nodeVs]

theorem nodeVs_one (x : NodeV) : nodeVs [x] = [.string x.name, x.subsv, .string x.value] := by simp [nodeVs, NodeV.cells]

theorem nodeVs_cons (x : NodeV) (l : List NodeV) : nodeVs (x :: l) = [.string x.name, x.subsv, .string x.value] ++ nodeVs l := by simp [nodeVs, NodeV.cells]

theorem nodeVs_len : ∀ l : List NodeV, (nodeVs l).length = l.length * 3
  | [] => rfl
  | x :: l => by rw [nodeVs_cons, List.length_append, nodeVs_len l]; simp; omega

theorem nodeVs_get : ∀ (l : List NodeV) (k j : Nat) (h : k < l.length) (u : Value), l[k].cells[j]? = some u → (nodeVs l)[k * 3 + j]? = some u
  | [], _, _, h, _, _ => absurd h (by simp)
  | x :: l, 0, j, _, u, hu => by
    rw [nodeVs_cons]
    match j, hu with
    | 0, hu => simpa [NodeV.cells] using hu
    | 1, hu => simpa [NodeV.cells] using hu
    | 2, hu => simpa [NodeV.cells] using hu
    | j + 3, hu => rw [Array.getElem?_eq_none (by simp [NodeV.cells])] at hu; cases hu
  | x :: l, k + 1, j, h, u, hu => by
    rw [nodeVs_cons, List.getElem?_append_right (by simp; omega)]
    have := nodeVs_get l k j (by simpa using h) u (by simpa using hu)
    rw [← this]
    congr 1
    simp; omega

/-- The row's cells are the call's own; its lists lie anywhere. -/
def NRow (w : World) (B : Nat) (v : Value) (xs : List NodeV) : Prop := w.ownsRow B 50 3 v xs.length (nodeVs xs) ∧ ∀ x ∈ xs, x.At w

/-- The row's cells and its lists are the call's own, each list in a block of its own. -/
def NOwn (w : World) (B : Nat) (v : Value) (xs : List NodeV) : Prop :=
  w.ownsRow B 50 3 v xs.length (nodeVs xs) ∧ (∀ x ∈ xs, x.Own w B ∧ ∀ b, x.row = some b → v.ownBlock ≠ some b) ∧ Apart (xs.map NodeV.row)

theorem NRow.on {w w' : World} {B : Nat} {v : Value} {xs : List NodeV} (h : NRow w B v xs) (hb : Below w.heap.size w w') : NRow w' B v xs := ⟨own_on h.1 hb, fun x hx => (h.2 x hx).on hb⟩

theorem NOwn.on {w w' : World} {B : Nat} {v : Value} {xs : List NodeV} (h : NOwn w B v xs) (hb : Below w.heap.size w w') : NOwn w' B v xs := ⟨own_on h.1 hb, fun x hx => ⟨(h.2.1 x hx).1.on hb, (h.2.1 x hx).2⟩, h.2.2⟩

theorem NOwn.row {w : World} {B : Nat} {v : Value} {xs : List NodeV} (h : NOwn w B v xs) : NRow w B v xs := ⟨h.1, fun x hx => (h.2.1 x hx).1.at_⟩

theorem NRow.at_ {w : World} {B : Nat} {v : Value} {xs : List NodeV} (h : NRow w B v xs) : NodesAt w v xs := by
  rcases h.1.2 with ⟨rfl, hn⟩ | ⟨g, cap, cur, rfl, hb, hg, hnc, hcm, hcs, htake⟩
  · exact ⟨none, 0, by rw [hn], by omega, fun h0 => by omega⟩
  · refine ⟨some ⟨g, 0, none⟩, cap, rfl, hnc, fun h0 => ⟨_, rfl, (Array.getElem?_eq_some_iff.1 hg).1, fun k hk => ⟨fun j u hu => ?_, h.2 _ (List.getElem_mem hk)⟩⟩⟩
    exact World.ownsRow.cells h.1 rfl _ _ (nodeVs_get xs k j hk u hu)

theorem NOwn.at_ {w : World} {B : Nat} {v : Value} {xs : List NodeV} (h : NOwn w B v xs) : NodesAt w v xs := h.row.at_

theorem NOwn.nil (w : World) (B : Nat) : NOwn w B (.slice none 0 0) [] := ⟨World.ownsRow_nil _ _ _ _, fun x hx => absurd hx (by simp), List.Pairwise.nil⟩

/-- Any two copies of the same data. -/
theorem NOwn.on_ {w : World} {B g c : Nat} {xs : List NodeV} (h : NOwn w B (.slice (some ⟨g, 0, none⟩) xs.length c) xs) : NodesOn B w g c xs := by
  rcases h.1.2 with ⟨h', _⟩ | ⟨g', cap, cur, h', hb, hg, hnc, hcm, hcs, htake⟩
  · cases h'
  · simp only [Value.slice.injEq, Option.some.injEq, Addr.mk.injEq, and_true, true_and] at h'
    obtain ⟨rfl, rfl⟩ := h'
    refine ⟨hb, cur, hg, hcs, hnc, fun k hk => ⟨fun j u hu => ?_, (h.2.1 _ (List.getElem_mem hk)).1, fun e => (h.2.1 _ (List.getElem_mem hk)).2 g e rfl⟩⟩
    have h1 := nodeVs_get xs k j hk u hu
    rw [← htake, List.getElem?_take] at h1
    split at h1
    · simpa using h1
    · cases h1

/-- One node more. -/
theorem NOwn.push {w0 w1 w2 : World} {B : Nat} {v v' : Value} {xs : List NodeV} {x : NodeV} (h : NOwn w0 B v xs) (hB : B ≤ w0.heap.size) (b1 : Below w0.heap.size w0 w1) (hx : x.Own w1 w0.heap.size)
    (hr : w2.ownsRow B 50 3 v' (xs.length + 1) (nodeVs xs ++ [.string x.name, x.subsv, .string x.value])) (hg : w1.grownBy w2 v.ownBlock) (hv : v'.ownBlock = v.ownBlock ∨ v'.ownBlock = some (w1.heap.size + 1)) : NOwn w2 B v' (xs ++ [x]) := by
  have hlt := World.ownsRow.lt h.1
  have hrow : ∀ y ∈ xs, ∀ b, y.row = some b → b < w0.heap.size := fun y hy b hb => ((h.2.1 y hy).1.1.lt b hb).2
  have hxr : ∀ b, x.row = some b → w0.heap.size ≤ b ∧ b < w1.heap.size := fun b hb => hx.1.lt b hb
  have hs1 := b1.size
  refine ⟨?_, fun y hy => ?_, ?_⟩
  · rw [List.length_append, nodeVs_append, nodeVs_one]; exact hr
  · rcases List.mem_append.1 hy with hy | hy
    · obtain ⟨h1, h2⟩ := h.2.1 y hy
      refine ⟨⟨World.ownsRow.kept (own_on h1.1 b1) hg ?_, trivial⟩, fun b hb => ?_⟩
      · cases hq : y.subsv.ownBlock with
        | none => exact .inl rfl
        | some b => exact .inr (fun e => h2 b hq e.symm)
      · rcases hv with hv | hv
        · rw [hv]; exact h2 b hb
        · rw [hv]; intro e; injection e with e; have := hrow y hy b hb; omega
    · rw [List.mem_singleton] at hy
      subst hy
      refine ⟨⟨World.ownsRow.kept (Joins.ownsRow_le hx.1 hB) hg ?_, trivial⟩, fun b hb => ?_⟩
      · cases hq : y.subsv.ownBlock with
        | none => exact .inl rfl
        | some b =>
          refine .inr (fun e => ?_)
          have h1 := hxr b hq
          have h2 := hlt b e.symm
          omega
      · have h1 := hxr b hb
        rcases hv with hv | hv
        · rw [hv]; intro e; have h2 := hlt b e; omega
        · rw [hv]; intro e; injection e with e; omega
  · rw [List.map_append]
    exact h.2.2.snoc w0.heap.size (fun r hr b hb => by
      obtain ⟨y, hy, rfl⟩ := List.mem_map.1 hr
      exact hrow y hy b hb) (fun b hb => (hxr b hb).1)

/-- One node more, whose list lies anywhere. -/
theorem NRow.push {w1 w2 : World} {B : Nat} {v v' : Value} {xs : List NodeV} {x : NodeV} (h : ∀ y ∈ xs, y.At w2) (hx : x.At w2)
    (hr : w2.ownsRow B 50 3 v' (xs.length + 1) (nodeVs xs ++ [.string x.name, x.subsv, .string x.value])) : NRow w2 B v' (xs ++ [x]) := by
  refine ⟨by rw [List.length_append, nodeVs_append, nodeVs_one]; exact hr, fun y hy => ?_⟩
  rcases List.mem_append.1 hy with hy | hy
  · exact h y hy
  · rw [List.mem_singleton] at hy; subst hy; exact hx

theorem NOwn.le {w : World} {B B' : Nat} {v : Value} {xs : List NodeV} (h : NOwn w B v xs) (hb : B' ≤ B) : NOwn w B' v xs := ⟨Joins.ownsRow_le h.1 hb, fun x hx => ⟨(h.2.1 x hx).1.le hb, (h.2.1 x hx).2⟩, h.2.2⟩

theorem Touch.own {g h B : Nat} {w w' : World} (ht : Touch g h w w') (hB : h ≤ B) {e : TypeId} {size : Nat} {v : Value} {n : Nat} {cs : List Value} (hs : w.ownsRow B e size v n cs) : w'.ownsRow B e size v n cs := by
  refine ⟨hs.1, ?_⟩
  rcases hs.2 with hn | ⟨k, cap, cur, hv, hk, hh, rest⟩
  · exact .inl hn
  · exact .inr ⟨k, cap, cur, hv, hk, by rw [ht.2 k (by omega) (Array.getElem?_eq_some_iff.1 hh).1]; exact hh, rest⟩

theorem NOwn.touch {g h B : Nat} {w w' : World} {v : Value} {xs : List NodeV} (h0 : NOwn w B v xs) (ht : Touch g h w w') (hB : h ≤ B) : NOwn w' B v xs :=
  ⟨ht.own hB h0.1, fun x hx => ⟨⟨ht.own hB (h0.2.1 x hx).1.1, trivial⟩, (h0.2.1 x hx).2⟩, h0.2.2⟩

theorem Apart.sub {l m : List (Option Nat)} (h : Apart m) (hs : l.Sublist m) : Apart l := List.Pairwise.sublist hs h

/-- The head of a row. -/
theorem ownsRow_head {w : World} {B : Nat} {e : TypeId} {size g cap n : Nat} {cs : List Value} (h : w.ownsRow B e size (.slice (some ⟨g, 0, none⟩) n cap) n cs) (k : Nat) (hk : k ≤ n) : w.ownsRow B e size (.slice (some ⟨g, 0, none⟩) k cap) k (cs.take (k * size)) := by
  have hl := h.1
  rcases h.2 with ⟨h', _⟩ | ⟨g', cap', cur, h', hb, hg, hnc, hcm, hcs, htake⟩
  · cases h'
  · simp only [Value.slice.injEq, Option.some.injEq, Addr.mk.injEq, and_true, true_and] at h'
    obtain ⟨rfl, rfl⟩ := h'
    have hle : k * size ≤ n * size := Nat.mul_le_mul_right _ hk
    refine ⟨by rw [List.length_take, hl]; omega, .inr ⟨g, cap, cur, rfl, hb, hg, Nat.le_trans hk hnc, hcm, hcs, ?_⟩⟩
    rw [← htake, List.take_take, Nat.min_eq_left hle]

/-- Cells from place o on are written. -/
theorem ownsRow_setCells {B : Nat} {e : TypeId} {size g cap n : Nat} : ∀ (us : List Value) (o : Nat) (w : World) (cs : List Value), w.ownsRow B e size (.slice (some ⟨g, 0, none⟩) n cap) n cs →
    ∃ cs', (w.setCells g o us).ownsRow B e size (.slice (some ⟨g, 0, none⟩) n cap) n cs' ∧ cs'.take o = cs.take o ∧ w.grownBy (w.setCells g o us) (some g)
  | [], o, w, cs, h => ⟨cs, h, rfl, World.grownBy.refl _ _⟩
  | u :: us, o, w, cs, h => by
    obtain ⟨h1, h2⟩ := h.stored o u
    obtain ⟨cs', h3, h4, h5⟩ := ownsRow_setCells us (o + 1) _ _ h1
    refine ⟨cs', h3, ?_, grownBy_tr h2 h5⟩
    have := congrArg (List.take o) h4
    rw [List.take_take, List.take_take, Nat.min_eq_left (by omega)] at this
    rw [this, List.take_set_of_le (Nat.le_refl _)]

end Go.Proofs.YtllamjgloilioaaGreatDoor
