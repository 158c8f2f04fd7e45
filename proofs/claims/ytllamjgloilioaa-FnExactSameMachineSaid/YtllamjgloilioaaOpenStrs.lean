/- An argument that is a slice of strings, opened. -/
import Derived.Test.YtllamjgloilioaaStrs
import Derived.ProofKit
import Derived.SliceStrings
namespace Go.Proofs.Ytllamjgloilioaa
open Go.RowKit Go.ChangeShapes Go.WideShapes Go.ChangeAt

theorem cells_str : Try.prog.cellsOf 9 = 1 := by kernel_rfl

set_option maxRecDepth 20000 in
theorem open_strsAt {H : Type} {enc : TypeId × Value → H} {W : World} {base : Nat} {v : Value} {d : DataW H} {p : List MemPlace} (hk : Value.okWide Try.prog W .any base 22 v)
    (h : DataW.Trod enc Try.prog W 0 (fun _ => true) true 22 v d p) : ∃ xs, StrsAt W W.heap.size v xs ∧ xs.length ≤ maxLen ∧ ∀ x ∈ xs, x.size ≤ maxLen := by
  obtain ⟨a0, len, cap, rfl⟩ := okWide_slice Try.underlying22 hk
  obtain ⟨fuel, hf⟩ := h
  rcases open_strings Try.underlying22 Try.underlying9 cells_str hf with ⟨hcs, hx⟩ | ⟨a, len', cap', ss, hcs, _, hl, hm, hz, hx, hcell, hws⟩
  · simp [Value.cells] at hcs
    obtain ⟨rfl, rfl, rfl⟩ := hcs
    exact ⟨[], ⟨none, 0, rfl, Nat.le_refl _, Reads.none_⟩, by unfold maxLen; simp, fun x hx => by cases hx⟩
  · simp [Value.cells] at hcs
    obtain ⟨rfl, rfl, rfl⟩ := hcs
    have hlen : (ss.take len).length = len := by rw [List.length_take]; simp at hz; omega
    refine ⟨ss.take len, ⟨some a, cap, by rw [hlen], by rw [hlen]; exact hl, ⟨by simp [strVs], fun hn => ⟨a, rfl, ?_, ?_⟩⟩⟩, by rw [hlen]; omega, fun x hx => hws x (List.mem_of_mem_take hx)⟩
    · rw [hlen] at hn
      have := lt_of_cell (hcell 0 (by simp at hz; omega))
      rwa [block_of_add] at this
    · intro j u hu
      simp only [strVs, List.getElem?_map] at hu
      have hj : j < len := by
        rcases Nat.lt_or_ge j len with h | h
        · exact h
        · rw [List.getElem?_eq_none (by omega)] at hu; cases hu
      have hjs : j < ss.length := by simp at hz; omega
      rw [hcell j hjs]
      rw [List.getElem?_take_of_lt hj, List.getElem?_eq_getElem hjs] at hu
      simp at hu; subst hu
      simp [List.getD, List.getElem?_eq_getElem hjs]

end Go.Proofs.Ytllamjgloilioaa
