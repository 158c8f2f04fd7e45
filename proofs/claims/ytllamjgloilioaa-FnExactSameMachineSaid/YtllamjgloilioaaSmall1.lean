/- impl.Shared and spec.Shared: each returns the length of the common beginning; SubOk; the walks of the first small laws. -/
import Derived.Test.YtllamjgloilioaaNames
namespace Go.Proofs.Ytllamjgloilioaa
open Go.RowKit
set_option linter.unusedVariables false

def shared : List UInt8 → List UInt8 → Int
  | a :: r, b :: s => if a = b then shared r s + 1 else 0
  | _, _ => 0

theorem shared_nil_left (l : List UInt8) : shared [] l = 0 := by simp [shared]

theorem shared_nil_right (l : List UInt8) : shared l [] = 0 := by cases l <;> simp [shared]

theorem u8eq (a b : UInt8) : ((a.toNat : Int) = (b.toNat : Int)) ↔ a = b := by
  constructor
  · intro h; exact UInt8.toNat_inj.1 (by omega)
  · rintro rfl; rfl