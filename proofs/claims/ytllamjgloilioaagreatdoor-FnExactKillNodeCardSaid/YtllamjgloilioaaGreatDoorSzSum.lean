/- The sizes of a tree, once more: what is left bounds the number of all strings in it. -/
import Derived.Test.YtllamjgloilioaaGreatDoorMarkN
namespace Go.Proofs.YtllamjgloilioaaGreatDoor
open Go.RowKit Go.ChangeShapes Go.WideShapes Go.ChangeAt Go.Deep
set_option linter.unusedVariables false

set_option maxRecDepth 8000 in
theorem szNode_sum (x : NodeV) (left : Int) (w : World) (h : x.At w) (h0 : 0 ≤ left) (h1 : left ≤ 1048576) (hok : x.Ok maxLen) :
    Calls Tryz.prog 28 #[.agg x.cells, .int .i64 left] w fun e w' => (∃ q : Int, e = .returned (.int .i64 q) ∧ -1 ≤ q ∧ q ≤ left ∧ (0 ≤ q → x.Ok 1048576 ∧ (x.subs.length : Int) + q ≤ left)) ∧ Below w.heap.size w w' := by
  have hA := h.on (Joins.below_alloc1 w (.cells x.cells 49))
  have hba : Below w.heap.size w (w.alloc (.cells x.cells 49)) := Joins.below_alloc1 w _
  obtain ⟨name, subsv, subs, value⟩ := x
  obtain ⟨hnname, ⟨hlsubs, hzsubs⟩, hnvalue, _⟩ := hok
  obtain ⟨hsubs, _⟩ := h
  obtain ⟨hAsubs, _⟩ := hA
  simp only [NodeV.cells] at *
  unfold maxLen at hnname
  have HZsubs := Lib.hid hzsubs; clear hzsubs
  have HAsubs := Lib.hid hAsubs; clear hAsubs
  obtain ⟨Asubs, csubs, rfl, _, _⟩ := id hsubs
  unfold maxLen at hnvalue
  go_enter Tryz.func28, Tryz.ntmps28
  by_cases c_name : left - name.size < 0
  · go_wp2_with fail
    go_ret
    exact ⟨⟨_, rfl, by omega, by omega, fun hq => by omega⟩, hba⟩
  go_wp2_with fail
  refine (szStringS_ex _ subs (left - name.size) _ _ HAsubs.out (by omega) (by omega) hlsubs HZsubs.out).mono ?_
  rintro e w' ⟨qsubs, rfl, rfl, qasubs, qbsubs, hq⟩
  have Qsubs := Lib.hid hq; clear hq
  by_cases c_subs : qsubs < 0
  · go_wp2_with fail
    go_ret
    exact ⟨⟨_, rfl, by omega, by omega, fun hq => by omega⟩, hba⟩
  by_cases c_value : qsubs - value.size < 0
  · go_wp2_with fail
    go_ret
    exact ⟨⟨_, rfl, by omega, by omega, fun hq => by omega⟩, hba⟩
  go_wp2_with fail
  go_ret
  have esubs := Qsubs.out (by omega)
  refine ⟨⟨_, rfl, by omega, by omega, fun _ => ⟨⟨show name.size ≤ 1048576 by omega, ⟨show subs.length ≤ 1048576 by omega, fun s hs => by have := size_le_total (show s ∈ subs from hs); omega⟩, show value.size ≤ 1048576 by omega, trivial⟩, show (subs.length : Int) + (qsubs - value.size) ≤ left by omega⟩⟩, hba⟩

/-- All strings of a tree but the names and values. -/
def subsN (ns : List NodeV) : Nat := (ns.map fun x => x.subs.length).sum

theorem cnt_subs (ns : List NodeV) : cnt ns = subsN ns + 2 * ns.length := by
  induction ns with
  | nil => rfl
  | cons x r ih =>
    simp only [cnt, subsN, List.map_cons, List.sum_cons, List.length_cons, cntN] at ih ⊢
    omega

set_option maxRecDepth 8000 in
theorem szNodeS_sum (v : Value) (ns : List NodeV) (left : Int) (w : World) (h : NodesAt w v ns) (h0 : 0 ≤ left) (h1 : left ≤ 1048576) (hl : ns.length ≤ 9223372036854775807) (hok : ∀ x ∈ ns, x.Ok maxLen) :
    Calls Tryz.prog 15 #[v, .int .i64 left] w fun e w' => (∃ q : Int, e = .returned (.int .i64 q) ∧ -1 ≤ q ∧ q ≤ left ∧ (0 ≤ q → ns.length ≤ 1048576 ∧ (∀ x ∈ ns, x.Ok 1048576) ∧ (ns.length : Int) + subsN ns + q ≤ left)) ∧ Below w.heap.size w w' := by
  have H := Lib.hid h
  obtain ⟨A, c, rfl, hc, hr⟩ := h
  clear hr
  have HOK := Lib.hid hok; clear hok
  by_cases hn : left - ns.length < 0
  · go_enter Tryz.func15, Tryz.ntmps15
    go_wp2
    go_ret
    exact ⟨⟨_, rfl, by omega, by omega, fun h => by omega⟩, below_refl _⟩
  · go_enter Tryz.func15, Tryz.ntmps15
    go_wp2
    go_loopw [1, 5] (fun l i wr => ∃ (k : Nat) (q : Int), k ≤ ns.length ∧ i = .int .i64 k ∧ l = .int .i64 q ∧ 0 ≤ q ∧ q ≤ left - ns.length ∧ Hid ((∀ x ∈ ns.take k, x.Ok 1048576) ∧ (ns.length : Int) + subsN (ns.take k) + q ≤ left) ∧ Below w.heap.size w wr) (fun _ i _ => ns.length - (intOf i).toNat)
    case atStart => exact ⟨0, _, Nat.zero_le _, rfl, rfl, by omega, by omega, ⟨fun x hx => by simp at hx, by simp [subsN]; omega⟩, below_refl _⟩
    case round =>
      obtain ⟨k, q, hk, rfl, rfl, hq0, hq1, HI, hbel⟩ := hrel
      by_cases hlt : k < ns.length
      · have HB := Lib.hid hbel
        obtain ⟨ad, rfl, hbl, hat, a0, a1, a2⟩ := (H.out.on hbel).get hlt
        have HX := Lib.hid (HOK.out _ (List.getElem_mem hlt))
        have HT := Lib.hid (List.take_succ_eq_append_getElem hlt)
        have HAT := Lib.hid hat; clear hat
        generalize ns[k] = x at *
        obtain ⟨name, sv, xs, value⟩ := x
        simp only at a0 a1 a2
        go_wp2_with fail
        refine (szNode_sum ⟨name, sv, xs, value⟩ q _ HAT.out hq0 (by omega) HX.out).mono ?_
        rintro e w2 ⟨⟨q', rfl, q1, q2, hq⟩, b2⟩
        have HQ := Lib.hid hq; clear hq a0 a1 a2
        by_cases q0 : q' < 0
        · go_wp2_with fail
          go_ret
          exact ⟨⟨_, rfl, by omega, by omega, fun h => by omega⟩, below_trans HB.out b2⟩
        · go_wp2_with fail
          refine ⟨⟨k + 1, q', by omega, by go_num, rfl, by omega, by omega, ⟨?_, ?_⟩, below_trans HB.out b2⟩, by simp [intOf]; omega⟩
          · intro x hx
            rw [HT.out] at hx
            rcases List.mem_append.1 hx with hx | hx
            · exact HI.out.1 x hx
            · rw [List.mem_singleton] at hx; subst hx; exact (HQ.out (by omega)).1
          · have h1 := HI.out.2
            have h2 := (HQ.out (by omega)).2
            rw [HT.out]
            simp only [subsN, List.map_append, List.sum_append, List.map_cons, List.map_nil, List.sum_cons, List.sum_nil] at h1 h2 ⊢
            omega
      · obtain rfl : k = ns.length := by omega
        rw [List.take_length] at HI
        go_wp2
        go_ret
        exact ⟨⟨_, rfl, by omega, by omega, fun h => ⟨by omega, HI.out.1, HI.out.2⟩⟩, hbel⟩

theorem szTree_sum (v : Value) (ns : List NodeV) (left : Int) (w : World) (h : NodesAt w v ns) (h0 : 0 ≤ left) (h1 : left ≤ 1048576) (hl : ns.length ≤ maxLen) (hok : ∀ x ∈ ns, x.Ok maxLen) :
    Calls Tryz.prog 4 #[.agg #[v], .int .i64 left] w fun e w' => (∃ q : Int, e = .returned (.int .i64 q) ∧ -1 ≤ q ∧ q ≤ left ∧ (0 ≤ q → ns.length ≤ 1048576 ∧ (∀ x ∈ ns, x.Ok 1048576) ∧ cnt ns ≤ 3000000)) ∧ Below w.heap.size w w' := by
  have hba : Below w.heap.size w (w.alloc (.cells #[v] 24)) := Joins.below_alloc1 w _
  have H := Lib.hid (h.on hba)
  have HOK := Lib.hid hok; clear hok
  obtain ⟨A, c, rfl, _, _⟩ := h
  unfold maxLen at hl
  go_enter Tryz.func4, Tryz.ntmps4
  go_wp2_with fail
  refine (szNodeS_sum _ ns left _ H.out h0 h1 hl HOK.out).mono ?_
  rintro e w1 ⟨⟨q, rfl, q1, q2, hq⟩, b1⟩
  have HQ := Lib.hid hq; clear hq
  by_cases q0 : q < 0
  · go_wp2_with fail
    go_ret
    exact ⟨⟨_, rfl, by omega, by omega, fun h => by omega⟩, below_trans hba b1⟩
  · go_wp2_with fail
    go_ret
    refine ⟨⟨_, rfl, by omega, by omega, fun h => ⟨(HQ.out h).1, (HQ.out h).2.1, ?_⟩⟩, below_trans hba b1⟩
    have := (HQ.out h).2.2
    rw [cnt_subs]; omega

end Go.Proofs.YtllamjgloilioaaGreatDoor
