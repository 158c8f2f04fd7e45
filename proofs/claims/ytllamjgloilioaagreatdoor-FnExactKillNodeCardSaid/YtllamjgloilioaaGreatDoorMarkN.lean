/- Marks in rows of strings and in rows of nodes: what is written, and that nothing else is. -/
import Derived.Test.YtllamjgloilioaaGreatDoorMarks
import Derived.Test.YtllamjgloilioaaGreatDoorTree
namespace Go.Proofs.YtllamjgloilioaaGreatDoor
open Go.RowKit Go.ChangeShapes Go.WideShapes Go.ChangeAt Go.Deep
set_option linter.unusedVariables false

theorem grown_refl (w : World) (row : Option Nat) : w.grownBy w row := ⟨rfl, rfl, rfl, Nat.le_refl _, fun _ _ _ => rfl⟩

theorem grown_trans {a b c : World} {row : Option Nat} (h : a.grownBy b row) (k : b.grownBy c row) : a.grownBy c row :=
  ⟨k.os.trans h.os, k.tape.trans h.tape, k.output.trans h.output, Nat.le_trans h.size k.size, fun i hi hn => (k.block i (Nat.lt_of_lt_of_le hi h.size) hn).trans (h.block i hi hn)⟩

theorem grown_below {a b : World} (h : Below a.heap.size a b) (row : Option Nat) : a.grownBy b row := ⟨h.os, h.tape, h.output, h.size, fun i hi _ => h.block i hi⟩

theorem grown_set (w : World) (g i : Nat) (u : Value) : w.grownBy (w.setCell ⟨g, i, none⟩ u) (some g) := ⟨rfl, rfl, rfl, by simp, fun k _ hk => Below.heap_setCell w ⟨g, i, none⟩ u k (fun e => hk (by simp [e]))⟩

/-- The marks from k on. -/
def marks (k n : Nat) : List ByteArray := (List.range n).map fun i => mtB (k + i)

theorem marks_len (k n : Nat) : (marks k n).length = n := by simp [marks]

set_option maxRecDepth 8000 in
theorem markStringS_own (v : Value) (xs : List ByteArray) (k : Nat) (hk0 : 1 ≤ k) (hk : (k : Int) + xs.length ≤ 10000000) (w : World) (base : Nat) (h : Strs w base v xs) (hbw : base ≤ w.heap.size) :
    Calls Tryz.prog 13 #[v, .int .i64 k] w fun e w' => e = .returned (.int .i64 (k + xs.length)) ∧ Strs w' base v (marks k xs.length) ∧ w.grownBy w' v.ownBlock := by
  rcases ownsRow_formsS h with ⟨rfl, hn⟩ | ⟨g, cap, rfl⟩
  · have hx : xs = [] := List.eq_nil_of_length_eq_zero hn
    subst hx
    go_enter Tryz.func13, Tryz.ntmps13
    go_wp2_with fail
    go_loopw [1, 5] (fun q i wr => q = .int .i64 k ∧ i = .int .i64 0 ∧ wr = w) (fun _ _ _ => 0)
    case atStart => exact ⟨rfl, rfl, rfl⟩
    case round =>
      obtain ⟨rfl, rfl, rfl⟩ := hrel
      go_wp2_with fail
      go_ret
      exact ⟨rfl, h, grown_refl _ _⟩
  · have hgb : base ≤ g := (World.ownsRow.lt h g rfl).1
    have hgl : g < w.heap.size := (World.ownsRow.lt h g rfl).2
    go_enter Tryz.func13, Tryz.ntmps13
    go_wp2_with fail
    go_loopw [1, 5] (fun q i wr => ∃ j : Nat, j ≤ xs.length ∧ i = .int .i64 j ∧ q = .int .i64 (k + j) ∧ Hid (Strs wr base (.slice (some ⟨g, 0, none⟩) xs.length cap) (marks k j ++ xs.drop j)) ∧ Hid (w.grownBy wr (some g))) (fun _ i _ => xs.length - (intOf i).toNat)
    case atStart => exact ⟨0, Nat.zero_le _, rfl, by go_num, by show Strs _ _ _ _; simpa [marks] using h, grown_refl _ _⟩
    case round =>
      obtain ⟨j, hj, rfl, rfl, HS, hbel⟩ := hrel
      have hbs := hbel.out.size
      by_cases hlt : j < xs.length
      · have hln : (marks k j ++ xs.drop j).length = xs.length := by simp [marks]; omega
        go_wp2_with fail
        have ekj : ((k : Int) + j) = ((k + j : Nat) : Int) := by omega
        rw [ekj]
        refine (markText_any (k + j) (by omega) (by omega) _).mono ?_
        rintro e w2 ⟨rfl, hb2⟩
        have hb2s := hb2.size
        have S2 : Strs w2 base (.slice (some ⟨g, 0, none⟩) xs.length cap) (marks k j ++ xs.drop j) := HS.out.below hb2
        have S3 := S2
        unfold Strs at S3
        rw [hln] at S3
        have hfz := S3.frozenAt j
        have hcell : ∃ y, w2.cell? ⟨g, j, none⟩ = some (.string y) := by
          have := S3.cellAt j (by omega)
          rw [this, strVs, List.getElem?_map, List.getElem?_eq_getElem (by omega)]
          exact ⟨_, rfl⟩
        obtain ⟨y, hcell⟩ := hcell
        obtain ⟨M, HM⟩ : ∃ M, Hid (mtB (k + j) = M) := ⟨_, rfl⟩
        rw [HM.out]
        obtain ⟨hst, hgr⟩ := S3.stored j (.string M)
        have HST := Lib.hid hst
        have HBL : Hid (w.grownBy (w2.setCell ⟨g, j, none⟩ (.string M)) (some g)) := grown_trans (grown_trans hbel.out (grown_below hb2 _)) (grown_set _ _ _ _)
        have HLN := Lib.hid hln
        clear hst hgr S3 S2 HS hln hb2
        have i0 : (0 : Int) ≤ j := by omega
        have i1 : (j : Int) < xs.length := by omega
        have i2 : ((k + j : Nat) : Int) + 1 ≤ 30000000 := by omega
        have i3 : 0 ≤ ((k + j : Nat) : Int) := by omega
        obtain ⟨kj, hkj⟩ : ∃ kj : Int, ((k + j : Nat) : Int) = kj := ⟨_, rfl⟩
        rw [hkj] at i2 i3 ⊢
        have HKJ := Lib.hid hkj; clear hkj
        have HSL : Hid ((strVs (marks k j ++ xs.drop j)).set j (.string M) = strVs (marks k (j + 1) ++ xs.drop (j + 1))) := by
          show _ = _
          rw [List.drop_eq_getElem_cons hlt, strVs_set, set_mid _ _ _ _ j (by simp [marks]), marks, marks, List.range_succ, List.map_append, List.map_cons, List.map_nil, HM.out]
        go_wp2_with fail
        refine ⟨⟨j + 1, by omega, by go_num, ?_, ?_, HBL⟩, by simp [intOf]; omega⟩
        · have := HKJ.out; congr 1; omega
        · show Strs _ _ _ _
          have h1 := HST.out
          rw [HSL.out] at h1
          unfold Strs
          have e : (marks k (j + 1) ++ xs.drop (j + 1)).length = xs.length := by simp [marks]; omega
          rw [e]
          exact h1
      · obtain rfl : j = xs.length := by omega
        go_wp2_with fail
        go_ret
        refine ⟨rfl, ?_, hbel.out⟩
        have := HS.out
        rw [List.drop_length, List.append_nil] at this
        exact this

def NodeV.row (x : NodeV) : Option Nat := x.subsv.ownBlock

/-- The rows of the nodes are apart from each other. -/
def Apart (rs : List (Option Nat)) : Prop := rs.Pairwise fun a b => a = none ∨ a ≠ b

theorem Apart.at_ {rs : List (Option Nat)} (h : Apart rs) {i j : Nat} (hi : i < rs.length) (hj : j < rs.length) (hne : i ≠ j) : rs[j] = none ∨ rs[j] ≠ rs[i] := by
  rcases Nat.lt_or_ge i j with h1 | h1
  · have := List.pairwise_iff_getElem.1 h i j hi hj h1
    rcases this with e | e
    · cases hq : rs[j] with
      | none => exact .inl rfl
      | some b => exact .inr (by rw [e]; simp)
    · exact .inr (fun q => e q.symm)
  · exact List.pairwise_iff_getElem.1 h j i hj hi (by omega)

theorem NodesOwn.lens {w : World} {g n : Nat} {xs : List NodeV} (h : NodesOwn w g n xs) : xs.length ≤ n := by obtain ⟨_, _, _, h, _⟩ := h; exact h

/-- Node i's list is written. -/
theorem NodesOwn.subs {w w' : World} {g n i : Nat} {xs : List NodeV} (h : NodesOwn w g n xs) (hi : i < xs.length) (hap : Apart (xs.map NodeV.row)) (hg : w.grownBy w' xs[i].row) (ys : List ByteArray) (hs : Strs w' (g + 1) xs[i].subsv ys) :
    NodesOwn w' g n (xs.set i { xs[i] with subs := ys }) := by
  have hlt := h.lt
  obtain ⟨cur, hh, hz, hl, hk⟩ := h
  have hgne : some g ≠ xs[i].row := by
    intro e
    have := ((hk i hi).2.1.lt g e.symm).1
    omega
  refine ⟨cur, by rw [hg.block g hlt hgne]; exact hh, hz, by simpa using hl, fun k hk' => ?_⟩
  have hkl : k < xs.length := by simpa using hk'
  by_cases e : i = k
  · subst e
    rw [List.getElem_set_self]
    exact ⟨fun j u hu => (hk i hi).1 j u hu, ⟨hs, trivial⟩⟩
  · rw [List.getElem_set_ne e]
    refine ⟨(hk k hkl).1, ⟨World.ownsRow.kept (hk k hkl).2.1 hg ?_, trivial⟩⟩
    have := Apart.at_ hap (i := i) (j := k) (by simpa using hi) (by simpa using hkl) e
    simpa [NodeV.row] using this

/-- A cell of node i is written. -/
theorem NodesOwn.cell_ {w : World} {g n i : Nat} {xs : List NodeV} (h : NodesOwn w g n xs) (hi : i < xs.length) (o : Nat) (ho : o < 3) (u : Value) (y : NodeV) (hy : y.cells = xs[i].cells.setIfInBounds o u) (hv : y.subsv = xs[i].subsv) (hs : y.subs = xs[i].subs) :
    NodesOwn (w.setCell ⟨g, i * 3 + o, none⟩ u) g n (xs.set i y) := by
  obtain ⟨cur, hh, hz, hl, hk⟩ := h
  have own : ∀ x : NodeV, x.Own w (g + 1) → x.Own (w.setCell ⟨g, i * 3 + o, none⟩ u) (g + 1) := fun x hx => hx.set (by simp) _
  refine ⟨_, heap_setCell_same _ _ _ _ _ _ hh, by simp [hz], by simpa using hl, fun k hk' => ?_⟩
  have hkl : k < xs.length := by simpa using hk'
  have h3 : ∀ (x : NodeV) (j : Nat) (u : Value), x.cells[j]? = some u → j < 3 := fun x j u hu => by
    rcases Nat.lt_or_ge j 3 with h | h
    · exact h
    · rw [Array.getElem?_eq_none (by simpa [NodeV.cells] using h)] at hu; cases hu
  by_cases e : i = k
  · subst e
    rw [List.getElem_set_self]
    refine ⟨fun j v hu => ?_, own _ (show y.Own w (g + 1) from ⟨by rw [hv, hs]; exact (hk i hi).2.1, trivial⟩)⟩
    have hj := h3 y j v hu
    rw [hy] at hu
    by_cases hjo : o = j
    · subst hjo
      rw [Array.getElem?_setIfInBounds_self_of_lt (by simpa [NodeV.cells] using hj)] at hu
      rw [Array.getElem?_setIfInBounds_self_of_lt (by rw [hz]; omega)]
      exact hu
    · rw [Array.getElem?_setIfInBounds_ne hjo] at hu
      rw [Array.getElem?_setIfInBounds_ne (by omega)]
      exact (hk i hi).1 j v hu
  · rw [List.getElem_set_ne e]
    refine ⟨fun j v hu => ?_, own _ (hk k hkl).2⟩
    have hj := h3 _ j v hu
    rw [Array.getElem?_setIfInBounds_ne (by omega)]
    exact (hk k hkl).1 j v hu

/-- A node with its marks from k on. -/
def mkNode (k : Nat) (x : NodeV) : NodeV := ⟨mtB k, x.subsv, marks (k + 1) x.subs.length, mtB (k + 1 + x.subs.length)⟩

def cntN (x : NodeV) : Nat := x.subs.length + 2

def cnt (xs : List NodeV) : Nat := (xs.map cntN).sum

def mkNodes : Nat → List NodeV → List NodeV
  | _, [] => []
  | k, x :: r => mkNode k x :: mkNodes (k + cntN x) r

theorem mkNodes_len : ∀ (xs : List NodeV) (k : Nat), (mkNodes k xs).length = xs.length
  | [], _ => rfl
  | x :: r, k => by simp [mkNodes, mkNodes_len r]

theorem mkNodes_snoc : ∀ (xs : List NodeV) (k : Nat) (x : NodeV), mkNodes k (xs ++ [x]) = mkNodes k xs ++ [mkNode (k + cnt xs) x]
  | [], k, x => by simp [mkNodes, cnt]
  | y :: r, k, x => by
    rw [List.cons_append, mkNodes, mkNodes_snoc r, mkNodes, List.cons_append]
    simp only [cnt, List.map_cons, List.sum_cons, Nat.add_assoc]

theorem mkNodes_row : ∀ (xs : List NodeV) (k : Nat), (mkNodes k xs).map NodeV.row = xs.map NodeV.row
  | [], _ => rfl
  | x :: r, k => by rw [mkNodes, List.map_cons, List.map_cons, mkNodes_row r]; rfl

theorem cnt_snoc (xs : List NodeV) (x : NodeV) : cnt (xs ++ [x]) = cnt xs + cntN x := by simp [cnt]

theorem cnt_le {xs ys : List NodeV} : cnt xs ≤ cnt (xs ++ ys) := by simp [cnt]

theorem mkNodes_get : ∀ (xs : List NodeV) (k i : Nat) (h : i < xs.length), (mkNodes k xs)[i]? = some (mkNode (k + cnt (xs.take i)) xs[i])
  | [], _, _, h => absurd h (by simp)
  | x :: r, k, 0, _ => by simp [mkNodes, cnt]
  | x :: r, k, i + 1, h => by
    rw [mkNodes, List.getElem?_cons_succ, mkNodes_get r _ i (by simpa using h), List.take_succ_cons]
    simp only [cnt, List.map_cons, List.sum_cons, Nat.add_assoc, List.getElem_cons_succ]

end Go.Proofs.YtllamjgloilioaaGreatDoor
