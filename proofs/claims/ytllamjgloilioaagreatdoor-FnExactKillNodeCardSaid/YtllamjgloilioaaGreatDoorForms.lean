/- Small forms: a string that is empty or not, a world that has grown. -/
import Derived.Test.YtllamjgloilioaaGreatDoorBase
namespace Go.Proofs.YtllamjgloilioaaGreatDoor
open Go.RowKit
set_option linter.unusedVariables false

/-- The world has only grown. (Behind a name of its own: the walk leaves it alone.) -/
def Gr (a b : World) : Prop := Below a.heap.size a b

theorem Gr.step {a b c : World} (h : Gr a b) (hb : Below b.heap.size b c) : Gr a c := below_trans h hb

theorem Gr.out {a b : World} (h : Gr a b) : Below a.heap.size a b := h

theorem emptyForms (s : ByteArray) : (s.toList.isEmpty = true ∧ (s.toList == []) = true ∧ Hid (s = ⟨#[]⟩) ∧ Hid (decide (s.size = 0) = true)) ∨ (s.toList.isEmpty = false ∧ (s.toList == []) = false ∧ Hid (¬ s = ⟨#[]⟩) ∧ Hid (decide (s.size = 0) = false)) := by
  by_cases h : s.size = 0
  · have e : s = ⟨#[]⟩ := ba_ext (List.eq_nil_of_length_eq_zero (by rw [← ba_size]; exact h))
    exact .inl ⟨empty_of h, by rw [e, ba_toList]; rfl, e, decide_eq_true h⟩
  · refine .inr ⟨nonempty_of h, ?_, fun e => h (by rw [e]; rfl), decide_eq_false h⟩
    rw [beq_eq_false_iff_ne]
    intro e
    have := nonempty_of h
    rw [e] at this; cases this

theorem str_ne {a b : ByteArray} (h : ¬ a = b) : (a.toList == b.toList) = false := by
  rw [ba_toList, ba_toList]; exact beq_eq_false_iff_ne.2 (fun e => h (ba_ext e))

theorem str_eq (a : ByteArray) : (a.toList == a.toList) = true := by simp

end Go.Proofs.YtllamjgloilioaaGreatDoor
