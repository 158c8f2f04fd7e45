/- Trees: an argument that is a tree, opened; szTree, toTree, eqTree. -/
import Derived.Test.YtllamjgloilioaaGreatDoorNodesS
namespace Go.Proofs.YtllamjgloilioaaGreatDoor
open Go.RowKit Go.ChangeShapes Go.WideShapes Go.ChangeAt Go.Deep
set_option linter.unusedVariables false

set_option maxRecDepth 20000 in
theorem open_nodes {H : Type} {enc : TypeId × Value → H} {W : World} {v : Value} {fuel : Nat} {x : DataW H × List MemPlace}
    (hf : DataW.trod enc Tryz.prog W 0 (fun _ => true) true fuel 22 [v] = some x) : ∃ ns, NodesAt W v ns ∧ ns.length ≤ maxLen ∧ ∀ x ∈ ns, x.Ok maxLen := by
  rcases open_slice_fields Tryz.underlying22 Tryz.underlying49 (by kernel_rfl) (by kernel_rfl) hf with ⟨hcs, hx⟩ | ⟨a, len, cap, m, hcs, hl, hm, hmm, hi⟩
  · simp only [List.cons.injEq, and_true] at hcs
    subst hcs
    exact ⟨[], ⟨none, 0, rfl, Nat.le_refl _, fun h => absurd h (by simp)⟩, by simp, fun n hn => by cases hn⟩
  · simp only [List.cons.injEq, and_true] at hcs
    subst hcs
    have hml : len ≤ m := by rw [hmm]; simp; exact hl
    obtain ⟨ns, hlen, hns⟩ := list_of (fun i (n : NodeV) => n.In W a i ∧ n.At W ∧ n.Ok maxLen) len (fun i hi' => by
      obtain ⟨n, hf⟩ := hi i (by omega)
      obtain ⟨v0, y0, c0, t0⟩ := hf 0 _ rfl
      obtain ⟨v1, y1, c1, t1⟩ := hf 1 _ rfl
      obtain ⟨v2, y2, c2, t2⟩ := hf 2 _ rfl
      obtain ⟨s, hs, _, hz⟩ := DataW.trod_string Tryz.underlying9 t0
      obtain ⟨xs, hx, hxl, hxz⟩ := strs_of_trod t1
      obtain ⟨s2, hs2, _, hz2⟩ := DataW.trod_string Tryz.underlying9 t2
      simp only [List.cons.injEq, and_true] at hs hs2
      subst hs hs2
      refine ⟨⟨s, v1, xs, s2⟩, fun j u hu => ?_, ⟨hx, trivial⟩, hz, ⟨hxl, hxz⟩, hz2, trivial⟩
      match j, hu with
      | 0, hu => simp [NodeV.cells] at hu; subst hu; exact c0
      | 1, hu => simp [NodeV.cells] at hu; subst hu; exact c1
      | 2, hu => simp [NodeV.cells] at hu; subst hu; exact c2
      | j + 3, hu => rw [Array.getElem?_eq_none (by simp [NodeV.cells])] at hu; cases hu)
    refine ⟨ns, ⟨some a, cap, by rw [hlen], by omega, fun hn => ⟨a, rfl, ?_, fun k h => ⟨(hns k h).1, (hns k h).2.1⟩⟩⟩, by omega, fun n hn => ?_⟩
    · have := lt_of_cell ((hns 0 hn).1 0 _ rfl)
      rwa [block_of_add] at this
    · obtain ⟨k, hk, rfl⟩ := List.getElem_of_mem hn
      exact (hns k hk).2.2

set_option maxRecDepth 20000 in
theorem open_treeV {H : Type} {enc : TypeId × Value → H} {W : World} {base : Nat} {v : Value} {d : DataW H} {p : List MemPlace} (hk : Value.okWide Tryz.prog W .any base 24 v)
    (h : DataW.Trod enc Tryz.prog W 0 (fun _ => true) true 24 v d p) : ∃ x : Value × List NodeV, v = .agg #[x.1] ∧ NodesAt W x.1 x.2 ∧ x.2.length ≤ maxLen ∧ ∀ n ∈ x.2, n.Ok maxLen := by
  obtain ⟨v0, y0, n, rfl, h0⟩ := open_agg1 Tryz.underlying24 (by kernel_rfl) (by kernel_rfl) hk h
  obtain ⟨ns, h1, h2⟩ := open_nodes h0
  exact ⟨(v0, ns), rfl, h1, h2⟩

theorem szTree_ex (v : Value) (ns : List NodeV) (left : Int) (w : World) (h : NodesAt w v ns) (h0 : 0 ≤ left) (h1 : left ≤ 1048576) (hl : ns.length ≤ maxLen) (hok : ∀ x ∈ ns, x.Ok maxLen) :
    Calls Tryz.prog 4 #[.agg #[v], .int .i64 left] w fun e w' => (∃ q : Int, e = .returned (.int .i64 q) ∧ -1 ≤ q ∧ q ≤ left ∧ (0 ≤ q → ns.length ≤ 1048576 ∧ ∀ x ∈ ns, x.Ok 1048576)) ∧ Below w.heap.size w w' := by
  have hba : Below w.heap.size w (w.alloc (.cells #[v] 24)) := Joins.below_alloc1 w _
  have H := Lib.hid (h.on hba)
  have HOK := Lib.hid hok; clear hok
  obtain ⟨A, c, rfl, _, _⟩ := h
  unfold maxLen at hl
  go_enter Tryz.func4, Tryz.ntmps4
  go_wp2_with fail
  refine (szNodeS_ex _ ns left _ H.out h0 h1 hl HOK.out).mono ?_
  rintro e w1 ⟨⟨q, rfl, q1, q2, hq⟩, b1⟩
  have HQ := Lib.hid hq; clear hq
  by_cases q0 : q < 0
  · go_wp2_with fail
    go_ret
    exact ⟨⟨_, rfl, by omega, by omega, fun h => by omega⟩, below_trans hba b1⟩
  · go_wp2_with fail
    go_ret
    exact ⟨⟨_, rfl, by omega, by omega, HQ.out⟩, below_trans hba b1⟩

theorem NodesOwn.set {w : World} {g n : Nat} {xs : List NodeV} (h : NodesOwn w g n xs) {a : Addr} (ha : a.block < g) (u : Value) : NodesOwn (w.setCell a u) g n xs := by
  obtain ⟨cur, hh, hz, hl, hk⟩ := h
  exact ⟨cur, by rw [Below.heap_setCell _ _ _ _ (by omega)]; exact hh, hz, hl, fun k h => ⟨(hk k h).1, (hk k h).2.set (by omega) u⟩⟩

set_option maxRecDepth 8000 in
theorem toTree_own (v : Value) (ns : List NodeV) (w : World) (h : NodesAt w v ns) (hl : ns.length ≤ 1048576) (hok : ∀ x ∈ ns, x.Ok 1048576) :
    Calls Tryz.prog 7 #[.agg #[v]] w fun e w' => ∃ g xs, e = .returned (.agg #[.slice (some ⟨g, 0, none⟩) ns.length ns.length]) ∧ Hid (xs.map NodeV.dat = ns.map NodeV.dat) ∧ w.heap.size ≤ g ∧ NodesOwn w' g ns.length xs ∧ Below w.heap.size w w' := by
  have HN := Lib.hid h
  have HOK := Lib.hid hok; clear hok
  obtain ⟨A, c, rfl, _, _⟩ := h
  have hba : Below w.heap.size w (((w.alloc (.cells #[.slice A ns.length c] 24)).alloc (.cells #[.slice none 0 0] 30)).alloc (.cells #[.slice none 0 0] 30)) := Joins.below_alloc3 w _ _ _
  have hO0 := heap_alloc_new ((w.alloc (.cells #[.slice A ns.length c] 24)).alloc (.cells #[.slice none 0 0] 30)) (.cells #[.slice none 0 0] 30)
  have e2 : ((w.alloc (.cells #[.slice A ns.length c] 24)).alloc (.cells #[.slice none 0 0] 30)).heap.size = w.heap.size + 1 + 1 := by simp
  rw [e2] at hO0
  have HO := Lib.hid hO0
  have hR0 : (((w.alloc (.cells #[.slice A ns.length c] 24)).alloc (.cells #[.slice none 0 0] 30)).alloc (.cells #[.slice none 0 0] 30)).heap[w.heap.size + 1]? = some (.cells #[.slice none 0 0] 30 (0, 0)) := by
    rw [Below.heap_alloc _ _ _ (by simp), show w.heap.size + 1 = (w.alloc (.cells #[.slice A ns.length c] 24)).heap.size by simp]
    exact heap_alloc_new _ _
  have HR := Lib.hid hR0
  have hW0 : (((w.alloc (.cells #[.slice A ns.length c] 24)).alloc (.cells #[.slice none 0 0] 30)).alloc (.cells #[.slice none 0 0] 30)).heap.size = w.heap.size + 1 + 1 + 1 := by simp
  have HW := Lib.hid hW0
  have HBA := Lib.hid hba
  clear hO0 e2 hba hR0 hW0
  go_enter Tryz.func7, Tryz.ntmps7
  go_wp2_with fail
  refine (toNodeS_any _ ns _ (HN.out.on HBA.out) hl HOK.out).mono ?_
  rintro e w1 ⟨xs, rfl, HD, ho, b1⟩
  have hO1 := (b1.block (w.heap.size + 1 + 1) (by rw [HW.out]; omega)).trans HO.out
  have hR1 := (b1.block (w.heap.size + 1) (by rw [HW.out]; omega)).trans HR.out
  have B1 := below_trans HBA.out b1
  rw [HW.out] at ho
  rw [HW.out]
  have d0 : w1.cell? ⟨w.heap.size + 1 + 1, 0, none⟩ = some (.slice none 0 0) := by rw [Lib.cell_of_heap hO1]; rfl
  have f0 : w1.frozen? ⟨w.heap.size + 1 + 1, 0, none⟩ = false := Lib.frozen_of_heap hO1 0
  have r0 : w1.cell? ⟨w.heap.size + 1, 0, none⟩ = some (.slice none 0 0) := by rw [Lib.cell_of_heap hR1]; rfl
  have g0 : w1.frozen? ⟨w.heap.size + 1, 0, none⟩ = false := Lib.frozen_of_heap hR1 0
  have HRR := Lib.hid hR1
  have HOO := Lib.hid ho
  clear hO1 hR1 b1 ho HO HR HW HBA
  go_wp2_with fail
  refine bodyPost_ret (results_cell_row rfl _ _ (w.heap.size + 1) 30 #[.slice (some ⟨w.heap.size + 1 + 1 + 1, 0, none⟩) ns.length ns.length] (0, 0) _ rfl ?_ Tryz.underlying30 rfl (by kernel_rfl)) rfl ⟨w.heap.size + 1 + 1 + 1, xs, rfl, HD, by omega, ?_, ?_⟩
  · have q0 := HRR.out
    rw [← heap_setCell_other w1 ⟨w.heap.size + 1 + 1, 0, none⟩ (w.heap.size + 1) (.slice (some ⟨w.heap.size + 1 + 1 + 1, 0, none⟩) ns.length ns.length) (by simp)] at q0
    exact heap_setCell_same _ _ 0 _ _ _ q0
  · exact (HOO.out.set (by simp) _).set (by simp) _
  · exact (B1.setCell (p := ⟨w.heap.size + 1 + 1, 0, none⟩) (by simp; omega) _).setCell (p := ⟨w.heap.size + 1, 0, none⟩) (by simp) _

theorem toTree_any (v : Value) (ns : List NodeV) (w : World) (h : NodesAt w v ns) (hl : ns.length ≤ 1048576) (hok : ∀ x ∈ ns, x.Ok 1048576) :
    Calls Tryz.prog 7 #[.agg #[v]] w fun e w' => ∃ v' xs, e = .returned (.agg #[v']) ∧ Hid (xs.map NodeV.dat = ns.map NodeV.dat) ∧ NodesAt w' v' xs ∧ Below w.heap.size w w' :=
  (toTree_own v ns w h hl hok).mono fun e w' ⟨g, xs, he, hd, _, ho, hb⟩ => ⟨_, xs, he, hd, ho.at_ (dat_len hd.out) (Nat.le_refl _), hb⟩

theorem eqTree_any (v v2 : Value) (ns ms : List NodeV) (w : World) (h : NodesAt w v ns) (h2 : NodesAt w v2 ms) (hl : ns.length ≤ 1048576) (hok : ∀ x ∈ ns, x.Ok 1048576) :
    Calls Tryz.prog 10 #[.agg #[v], .agg #[v2]] w fun e w' => e = .returned (.bool (decide (ns.map NodeV.dat = ms.map NodeV.dat))) ∧ Below w.heap.size w w' := by
  have hba : Below w.heap.size w ((w.alloc (.cells #[v] 30)).alloc (.cells #[v2] 30)) := Joins.below_alloc2 w _ _
  have H := Lib.hid (h.on hba)
  have H2 := Lib.hid (h2.on hba)
  have HOK := Lib.hid hok; clear hok
  obtain ⟨A, c, rfl, _, _⟩ := h
  obtain ⟨A2, c2, rfl, _, _⟩ := h2
  have HE := Lib.hid (eqNodeS_any _ _ ns ms _ H.out H2.out hl HOK.out)
  generalize decide (ns.map NodeV.dat = ms.map NodeV.dat) = R at *
  go_enter Tryz.func10, Tryz.ntmps10
  go_wp2_with fail
  refine HE.out.mono ?_
  rintro e w1 ⟨rfl, b1⟩
  cases R
  · go_wp2_with fail
    go_ret
    exact ⟨rfl, below_trans hba b1⟩
  · go_wp2_with fail
    go_ret
    exact ⟨rfl, below_trans hba b1⟩

end Go.Proofs.YtllamjgloilioaaGreatDoor
