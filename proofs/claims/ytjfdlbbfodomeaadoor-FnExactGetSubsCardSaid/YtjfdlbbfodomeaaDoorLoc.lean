/- A name and subscripts as a place: both sides. -/
import Derived.Test.YtjfdlbbfodomeaaDoorSubsL
import Derived.Test.YtjfdlbbfodomeaaDoorNames
namespace Go.Proofs.YtjfdlbbfodomeaaDoor
open Go.RowKit
set_option linter.unusedVariables false

def locOk (name : ByteArray) (xs : List ByteArray) : Bool := nameOk name && subsOkB xs

theorem locOk_parts {name : ByteArray} {xs : List ByteArray} (h : locOk name xs = true) : name.size ≤ 8 ∧ subsOkB xs = true := by
  unfold locOk at h
  rw [Bool.and_eq_true] at h
  refine ⟨?_, h.2⟩
  have h1 := h.1
  unfold nameOk at h1
  rw [Bool.and_eq_true] at h1
  exact (of_decide_eq_true h1.2).2

end Go.Proofs.YtjfdlbbfodomeaaDoor
