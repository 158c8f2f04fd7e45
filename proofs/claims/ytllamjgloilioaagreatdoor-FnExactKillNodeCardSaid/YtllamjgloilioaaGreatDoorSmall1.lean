/- impl.Shared and spec.Shared: each returns the length of the common beginning; SubOk; the walks of the first small laws. -/
import Derived.Test.YtllamjgloilioaaGreatDoorNames
namespace Go.Proofs.YtllamjgloilioaaGreatDoor
open Go.RowKit
set_option linter.unusedVariables false

def shared : List UInt8 → List UInt8 → Int
  | a :: r, b :: s => if a = b then shared r s + 1 else 0
  | _, _ => 0

theorem shared_nil_left (l : List UInt8) : shared [] l = 0 := by simp [shared]

theorem shared_nil_right (l : List UInt8) : shared l [] = 0 := by cases l <;> simp [shared]

theorem u8eq (a b : UInt8) : ((a.toNat : Int) = (b.toNat : Int)) ↔ a = b := by
  constructor
  · intro h; exact UInt8.toNat_inj.1 (by omega)
  · rintro rfl; rfl

theorem SubOk_any (s : ByteArray) (w : World) (hs : s.size ≤ 1048576) : Calls Tryz.prog 58 #[.string s] w fun e w' => e = .returned (.bool (decide (1 ≤ s.size ∧ s.size ≤ 24))) ∧ w = w' := by
  go_enter Tryz.func58, Tryz.ntmps58
  go_wp2
  all_goals (go_ret; refine ⟨ret_bool ?_, rfl⟩; rw [Bool.eq_iff_iff]; simp; omega)

theorem l02Sub_any (s : ByteArray) (w : World) (hs : s.size ≤ 1048576) : Calls Tryz.prog 65 #[.string s] w fun e w' => e = .returned (.bool (decide (1 ≤ s.size ∧ s.size ≤ 24))) ∧ w = w' := by
  go_enter Tryz.func65, Tryz.ntmps65
  go_wp2
  all_goals (go_ret; refine ⟨ret_bool ?_, rfl⟩; rw [Bool.eq_iff_iff]; simp; omega)