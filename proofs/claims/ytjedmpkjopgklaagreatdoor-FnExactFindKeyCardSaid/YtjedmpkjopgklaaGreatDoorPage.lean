/- SamePage: an argument that is a page, opened; the walk of the law. -/
import Derived.Test.YtjedmpkjopgklaaGreatDoorPageS
import Derived.RegionTactic
import Derived.Deep.RegionWith
import Derived.Deep.DeepCutAuto
import Derived.ChangeSlices
import Derived.ChangeArms
namespace Go.Proofs.YtjedmpkjopgklaaGreatDoor
open Go.RowKit Go.ChangeShapes Go.WideShapes Go.ChangeAt Go.Deep
set_option linter.unusedVariables false

theorem cells_i64 : Tryz.prog.cellsOf 2 = 1 := by kernel_rfl

theorem ints_of_trod {H : Type} {enc : TypeId × Value → H} {W : World} {v : Value} {fuel : Nat} {x : DataW H × List MemPlace}
    (hf : DataW.trod enc Tryz.prog W 0 (fun _ => true) true fuel 23 [v] = some x) : ∃ xs, IntsAt W W.heap.size v xs ∧ xs.length ≤ maxLen := by
  rcases open_ints Tryz.underlying23 Tryz.underlying2 cells_i64 hf with ⟨hcs, hx⟩ | ⟨a, len, cap, ss, hcs, _, hl, hm, hz, hx, hcell, hws⟩
  · simp only [List.cons.injEq, and_true] at hcs
    subst hcs
    exact ⟨[], ⟨none, 0, rfl, Nat.le_refl _, Reads.none_⟩, by unfold maxLen; simp⟩
  · simp only [List.cons.injEq, and_true] at hcs
    subst hcs
    have hlen : (ss.take len).length = len := by rw [List.length_take]; simp at hz; omega
    refine ⟨ss.take len, ⟨some a, cap, by rw [hlen], by rw [hlen]; exact hl, ⟨by simp [intVs], fun hn => ⟨a, rfl, ?_, ?_⟩⟩⟩, by rw [hlen]; omega⟩
    · rw [hlen] at hn
      have := lt_of_cell (hcell 0 (by simp at hz; omega))
      rwa [block_of_add] at this
    · intro j u hu
      simp only [intVs, List.getElem?_map] at hu
      have hj : j < len := by
        rcases Nat.lt_or_ge j len with h | h
        · exact h
        · rw [List.getElem?_eq_none (by omega)] at hu; cases hu
      have hjs : j < ss.length := by simp at hz; omega
      rw [hcell j hjs]
      rw [List.getElem?_take_of_lt hj, List.getElem?_eq_getElem hjs] at hu
      simp at hu; subst hu
      simp [List.getD, List.getElem?_eq_getElem hjs]

set_option maxRecDepth 20000 in
theorem open_pageV {H : Type} {enc : TypeId × Value → H} {W : World} {base : Nat} {v : Value} {d : DataW H} {p : List MemPlace} (hk : Value.okWide Tryz.prog W .any base 25 v)
    (h : DataW.Trod enc Tryz.prog W 0 (fun _ => true) true 25 v d p) : ∃ x : PageV, v = .agg x.cells ∧ x.At W ∧ x.Ok maxLen := by
  obtain ⟨v0, v1, v2, v3, y0, y1, y2, y3, n, rfl, _, _, h0, h1, h2, h3⟩ := Joins.open_agg4 Tryz.underlying25 (by kernel_rfl) (by kernel_rfl) hk h
  obtain ⟨b, hb, _⟩ := DataW.trod_bool Tryz.underlying4 h0
  obtain ⟨xs, hx, hxl, hxz⟩ := strs_of_trod h1
  obtain ⟨ys, hy, hyl, hyz⟩ := strs_of_trod h2
  obtain ⟨zs, hz, hzl⟩ := ints_of_trod h3
  simp only [List.cons.injEq, and_true] at hb
  subst hb
  exact ⟨⟨b, v1, xs, v2, ys, v3, zs⟩, rfl, ⟨hx, hy, hz, trivial⟩, ⟨hxl, hxz⟩, ⟨hyl, hyz⟩, hzl, trivial⟩

theorem PageV.four {w : World} {g : Nat} {x : PageV} (h : CellsAt w g x.cells.toList) : w.cell? ⟨g, 0, none⟩ = some (.bool x.leaf) ∧ w.cell? ⟨g, 1, none⟩ = some x.keysv ∧ w.cell? ⟨g, 2, none⟩ = some x.valsv ∧ w.cell? ⟨g, 3, none⟩ = some x.kidsv :=
  ⟨h.2 0 _ rfl, h.2 1 _ rfl, h.2 2 _ rfl, h.2 3 _ rfl⟩

theorem PageV.ok_dat {x y : PageV} (h : x.dat = y.dat) (M : Nat) (hy : y.Ok M) : x.Ok M := by
  obtain ⟨a, b, c, d, e, f, g⟩ := x
  obtain ⟨a2, b2, c2, d2, e2, f2, g2⟩ := y
  simp only [PageV.dat, Prod.mk.injEq] at h
  obtain ⟨rfl, rfl, rfl, rfl⟩ := h
  exact hy

/-- The law's two arguments in memory. -/
def PP (w0 w : World) (x : PageV) (gA : Nat) (y : PageV) (gB : Nat) : Prop :=
  Below w0.heap.size w0 w ∧ CellsAt w gA x.cells.toList ∧ CellsAt w gB y.cells.toList ∧ x.At w ∧ y.At w

theorem PP.on {w0 w w' : World} {x : PageV} {gA : Nat} {y : PageV} {gB : Nat} (h : PP w0 w x gA y gB) (hb : Below w.heap.size w w') : PP w0 w' x gA y gB :=
  ⟨below_trans h.1 hb, h.2.1.below hb, h.2.2.1.below hb, h.2.2.2.1.on hb, h.2.2.2.2.on hb⟩

theorem PP.drew {w0 w : World} {x : PageV} {gA : Nat} {y : PageV} {gB : Nat} (h : PP w0 w x gA y gB) : PP w0 w.drew x gA y gB :=
  ⟨h.1.drew, h.2.1, h.2.2.1, h.2.2.2.1, h.2.2.2.2⟩

end Go.Proofs.YtjedmpkjopgklaaGreatDoor
