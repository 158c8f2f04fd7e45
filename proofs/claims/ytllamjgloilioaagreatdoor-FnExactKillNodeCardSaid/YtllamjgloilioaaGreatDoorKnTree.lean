/- KillNode: impl's copy of a tree. -/
import Derived.Test.YtllamjgloilioaaGreatDoorKnImpl
namespace Go.Proofs.YtllamjgloilioaaGreatDoor
open Go.RowKit Go.ChangeShapes Go.WideShapes Go.ChangeAt Go.Deep
set_option linter.unusedVariables false

/-- A block of one cell that holds a tree. -/
def TreeIn (w : World) (o : Nat) (v : Value) : Prop := w.heap[o]? = some (.cells #[v] 30 (0, 0))

theorem TreeIn.lt {w : World} {o : Nat} {v : Value} (h : TreeIn w o v) : o < w.heap.size := (Array.getElem?_eq_some_iff.1 h).1

theorem TreeIn.on {w w' : World} {o : Nat} {v : Value} (h : TreeIn w o v) (hb : Below w.heap.size w w') : TreeIn w' o v := (hb.block o h.lt).trans h

theorem TreeIn.cell {w : World} {o : Nat} {v : Value} (h : TreeIn w o v) : w.cell? ⟨o, 0, none⟩ = some v ∧ w.frozen? ⟨o, 0, none⟩ = false := ⟨by rw [Lib.cell_of_heap h]; rfl, Lib.frozen_of_heap h 0⟩

theorem TreeIn.grown {w w' : World} {o : Nat} {v : Value} {row : Option Nat} (h : TreeIn w o v) (hg : w.grownBy w' row) (hn : some o ≠ row) : TreeIn w' o v := (hg.block o h.lt hn).trans h

theorem TreeIn.set {w : World} {o : Nat} {v : Value} (h : TreeIn w o v) (u : Value) : TreeIn (w.setCell ⟨o, 0, none⟩ u) o u := heap_setCell_same _ _ 0 _ _ _ h

theorem TreeIn.off {w : World} {o p : Nat} {v : Value} (h : TreeIn w o v) (hp : o ≠ p) (u : Value) : TreeIn (w.setCell ⟨p, 0, none⟩ u) o v := (heap_setCell_other w ⟨p, 0, none⟩ o u hp).trans h

theorem NOwn.off {w : World} {B p : Nat} {v : Value} {xs : List NodeV} (h : NOwn w B v xs) (hp : p < B) (u : Value) : NOwn (w.setCell ⟨p, 0, none⟩ u) B v xs :=
  ⟨ownsRow_setCell_below h.1 (by simpa using hp) u, fun x hx => ⟨⟨ownsRow_setCell_below (h.2.1 x hx).1.1 (by simpa using hp) u, trivial⟩, (h.2.1 x hx).2⟩, h.2.2⟩

set_option maxHeartbeats 2000000 in
set_option maxRecDepth 8000 in
theorem copyTree_own (g c : Nat) (ns : List NodeV) (w : World) (h : NodesOwn w g ns.length ns) (hc : ns.length ≤ c) (hl : ns.length ≤ 1048576) (hok : ∀ x ∈ ns, x.Ok 1048576) :
    Calls Tryz.prog 22 #[.agg #[.slice (some ⟨g, 0, none⟩) ns.length c]] w fun e w' => ∃ v' xs, e = .returned (.agg #[v']) ∧ Hid (xs.map NodeV.dat = ns.map NodeV.dat) ∧ NOwn w' w.heap.size v' xs ∧ Below w.heap.size w w' := by
  have hba : Below w.heap.size w (((w.alloc (.cells #[.slice (some ⟨g, 0, none⟩) ns.length c] 30)).alloc (.cells #[.slice none 0 0] 30)).alloc (.cells #[.slice none 0 0] 30)) := Joins.below_alloc3 w _ _ _
  have hO0 := heap_alloc_new ((w.alloc (.cells #[.slice (some ⟨g, 0, none⟩) ns.length c] 30)).alloc (.cells #[.slice none 0 0] 30)) (.cells #[.slice none 0 0] 30)
  have e2 : ((w.alloc (.cells #[.slice (some ⟨g, 0, none⟩) ns.length c] 30)).alloc (.cells #[.slice none 0 0] 30)).heap.size = w.heap.size + 1 + 1 := by simp
  rw [e2] at hO0
  have HO : Hid (TreeIn (((w.alloc (.cells #[.slice (some ⟨g, 0, none⟩) ns.length c] 30)).alloc (.cells #[.slice none 0 0] 30)).alloc (.cells #[.slice none 0 0] 30)) (w.heap.size + 1 + 1) (.slice none 0 0)) := hO0
  have hR0 : (((w.alloc (.cells #[.slice (some ⟨g, 0, none⟩) ns.length c] 30)).alloc (.cells #[.slice none 0 0] 30)).alloc (.cells #[.slice none 0 0] 30)).heap[w.heap.size + 1]? = some (.cells #[.slice none 0 0] 30 (0, 0)) := by
    rw [Below.heap_alloc _ _ _ (by simp), show w.heap.size + 1 = (w.alloc (.cells #[.slice (some ⟨g, 0, none⟩) ns.length c] 30)).heap.size by simp]
    exact heap_alloc_new _ _
  have HR : Hid (TreeIn (((w.alloc (.cells #[.slice (some ⟨g, 0, none⟩) ns.length c] 30)).alloc (.cells #[.slice none 0 0] 30)).alloc (.cells #[.slice none 0 0] 30)) (w.heap.size + 1) (.slice none 0 0)) := hR0
  have hW0 : (((w.alloc (.cells #[.slice (some ⟨g, 0, none⟩) ns.length c] 30)).alloc (.cells #[.slice none 0 0] 30)).alloc (.cells #[.slice none 0 0] 30)).heap.size = w.heap.size + 1 + 1 + 1 := by simp
  have HW := Lib.hid hW0
  have HBA := Lib.hid hba
  have HN := Lib.hid h
  have HOK := Lib.hid hok
  clear hO0 e2 hR0 hW0 hba h hok
  go_enter Tryz.func22, Tryz.ntmps22
  go_wp2_with fail
  go_loopw [5, 10] (fun _ i wr => ∃ (k : Nat) (xs : List NodeV) (v : Value), k ≤ ns.length ∧ i = .int .i64 k ∧ xs.length = k ∧ Hid (xs.map NodeV.dat = (ns.take k).map NodeV.dat) ∧ Hid (NOwn wr (w.heap.size + 1 + 1 + 1) v xs) ∧ Hid (TreeIn wr (w.heap.size + 1 + 1) v) ∧ Hid (TreeIn wr (w.heap.size + 1) (.slice none 0 0)) ∧ Hid (Below w.heap.size w wr)) (fun _ i _ => ns.length - (intOf i).toNat)
  case atStart => exact ⟨0, [], .slice none 0 0, Nat.zero_le _, rfl, rfl, rfl, NOwn.nil _ _, HO.out, HR.out, HBA.out⟩
  case round =>
    clear HO HR HW HBA
    obtain ⟨k, xs, v, hk, rfl, rfl, HD, HX, HO, HR, HB⟩ := hrel
    by_cases hlt : xs.length < ns.length
    · obtain ⟨a0, a1, a2⟩ := (HN.out.on HB.out).getK hlt
      obtain ⟨adq, qa, qb, hat, qc, qd, qe⟩ := ((HN.out.on HB.out).at_ rfl hc).get hlt
      clear qa qb qc qd qe adq
      have HT : Hid (ns.take (xs.length + 1) = ns.take xs.length ++ [ns[xs.length]]) := List.take_succ_eq_append_getElem hlt
      have hxl' := (HOK.out _ (List.getElem_mem hlt)).2.1.1
      have hb1 : Below wr.heap.size wr (wr.alloc (.cells ns[xs.length].cells 50)) := Joins.below_alloc1 wr _
      have HB1 := Lib.hid (below_trans HB.out hb1.drew)
      have HOX : Hid (Strs (wr.alloc (.cells ns[xs.length].cells 50)).drew (g + 1) ns[xs.length].subsv ns[xs.length].subs) := by
        obtain ⟨_, _, _, _, hq⟩ := HN.out.on HB1.out
        exact (hq xs.length hlt).2.1
      have HX1 := Lib.hid (HX.out.on hb1.drew)
      have HO1 := Lib.hid (HO.out.on hb1.drew)
      have HR1 := Lib.hid (HR.out.on hb1.drew)
      have HCP := Lib.hid (copyNode_own ns[xs.length] (wr.alloc (.cells ns[xs.length].cells 50)).drew (g + 1) ⟨HOX.out, trivial⟩ hxl')
      have co := HO1.out.cell.1
      have HSZ : Hid (w.heap.size + 1 + 1 + 1 ≤ wr.heap.size) := by
        have h1 := HO.out.lt
        show _ ≤ _
        omega
      have hsz1 : (wr.alloc (.cells ns[xs.length].cells 50)).drew.heap.size = wr.heap.size + 1 := by simp
      have HSZ1 := Lib.hid hsz1
      clear hb1 HX HO HR HOX hxl' hsz1
      generalize ns[xs.length] = x at *
      obtain ⟨nm, sv, ys, value⟩ := x
      obtain ⟨Ax, cx, hsx, _, _⟩ := id hat.1
      replace hsx : sv = .slice Ax ys.length cx := hsx
      subst hsx
      simp only [NodeV.cells] at *
      clear hat
      have hln : xs.length < 1099511627776 := by omega
      have HNE : Hid (∀ o, o < w.heap.size + 1 + 1 + 1 → some o ≠ v.ownBlock) := fun o ho e => by
        have h1 := (World.ownsRow.lt HX1.out.1 o e.symm).1
        omega
      go_wp2_with fail
      go_region_law (first | (refine step_append_Node w5 rfl _ _ rfl (w.heap.size + 1 + 1 + 1) v xs.length (nodeVs xs) (.string nm') (.slice A' ys'.length c') (.string vl') rfl rfl rfl HX5.out.1 rfl rfl hln hs5 ?_; intro v7 w7 hr7 hg7 hb7 hv7; obtain ⟨g7, c7, rfl, _, _⟩ := World.ownsRow.form hr7 (by omega); have HX7 := Lib.hid (NOwn.push (x := ⟨nm', .slice A' ys'.length c', ys', vl'⟩) HX1.out (by rw [HSZ1.out]; exact Nat.le_succ_of_le HSZ.out) B5.out HY5.out hr7 hg7 hv7); have HO7 := Lib.hid (HO5.out.grown hg7 (HNE.out _ (by omega))); have HR7 := Lib.hid (HR5.out.grown hg7 (HNE.out _ (by omega))); have HB7 := Lib.hid (HB5.out.trans (hb7.mono (by omega))); obtain ⟨co7, fo7⟩ := HO7.out.cell; clear hr7 hg7 hb7 hv7) | (go_simp; go_at_call 40; refine HCP.out.mono ?_; rintro e w5 ⟨⟨nm', sv', ys', vl'⟩, rfl, hd5, hx5, b5⟩; obtain ⟨A', c', hsv, _, _⟩ := id hx5.1.at_; replace hsv : sv' = .slice A' ys'.length c' := hsv; subst hsv; have HD5 := Lib.hid hd5; have HY5 := Lib.hid hx5; have B5 := Lib.hid b5; have HX5 := Lib.hid (HX1.out.on b5); have HO5 := Lib.hid (HO1.out.on b5); have HR5 := Lib.hid (HR1.out.on b5); have HB5 := Lib.hid (below_trans HB1.out b5); have co5 := HO5.out.cell.1; have co6 := (HO5.out.on (Joins.below_alloc1 w5 (.cells #[.string nm', .slice A' ys'.length c', .string vl'] 50))).cell.1; have hs5 : w.heap.size + 1 + 1 + 1 ≤ w5.heap.size := Nat.le_trans HSZ.out (by have h1 := b5.size; have h2 := HSZ1.out; omega); clear hd5 hx5 b5))
      all_goals
        go_wp2_with fail
        refine ⟨⟨xs.length + 1, xs ++ [⟨nm', .slice A' ys'.length c', ys', vl'⟩], .slice (some ⟨g7, 0, none⟩) (xs.length + 1) c7, by omega, by go_num, by simp, ?_, ?_, ?_, ?_, ?_⟩, by simp [intOf]; omega⟩
        rotate_left
        · exact HX7.out.off (by omega) _
        · exact HO7.out.set _
        · exact HR7.out.off (by omega) _
        · exact HB7.out.setCell (p := ⟨w.heap.size + 1 + 1, 0, none⟩) (by simp; omega) _
        · show _ = _
          rw [HT.out, List.map_append, List.map_append, HD.out, List.map_cons, List.map_nil, List.map_cons, List.map_nil, HD5.out]
    · have hkn : xs.length = ns.length := by omega
      have hO := HO.out.cell.1
      obtain ⟨hR, hRf⟩ := HR.out.cell
      rw [hkn, List.take_length] at HD
      have hv : ∃ A n c', v = .slice A n c' := by
        rcases HX.out.1.2 with ⟨rfl, _⟩ | ⟨g', cap, cur, rfl, _⟩
        · exact ⟨_, _, _, rfl⟩
        · exact ⟨_, _, _, rfl⟩
      obtain ⟨Av, nv, cv, rfl⟩ := hv
      go_wp2_with fail
      refine bodyPost_ret (results_cell_row rfl _ _ (w.heap.size + 1) 30 #[.slice Av nv cv] (0, 0) _ rfl (HR.out.set _) Tryz.underlying30 rfl (by kernel_rfl)) rfl ⟨_, xs, rfl, HD, (HX.out.off (by omega) _).le (by omega), HB.out.setCell (p := ⟨w.heap.size + 1, 0, none⟩) (by simp) _⟩

end Go.Proofs.YtllamjgloilioaaGreatDoor
