/- impl.NameOk and spec.l02Name: each returns nameOk of the string. -/
import Derived.Test.YtkoagpeeohmokaaDoorBase
namespace Go.Proofs.YtkoagpeeohmokaaDoor
open Go.RowKit
set_option linter.unusedVariables false

def isLet (c : Nat) : Bool := decide (97 ≤ c ∧ c ≤ 122) || decide (65 ≤ c ∧ c ≤ 90)
def isDig (c : Nat) : Bool := decide (48 ≤ c ∧ c ≤ 57)
def nameGo : Bool → List UInt8 → Bool
  | _, [] => true
  | first, c :: r => (isLet c.toNat || (first && c.toNat == 37) || (!first && isDig c.toNat)) && nameGo false r

theorem nameGo_cons (c : UInt8) (f : Bool) (r : List UInt8) : nameGo f (c :: r) = ((isLet c.toNat || (f && (c.toNat : Int) == 37) || (!f && isDig c.toNat)) && nameGo false r) := by
  simp only [nameGo]; congr 3; rw [Bool.eq_iff_iff]; simp; omega
def nameOk (s : ByteArray) : Bool := nameGo true (sfx s 0) && decide (1 ≤ s.size ∧ s.size ≤ 8)

theorem isLetter_any (c : Nat) (w : World) : Calls Tryd.prog 42 #[.int .u8 c] w fun e w' => e = .returned (.bool (isLet c)) ∧ w = w' := by
    go_enter Tryd.func42, Tryd.ntmps42
    go_wp2
    all_goals (go_ret; refine ⟨ret_bool ?_, rfl⟩; rw [Bool.eq_iff_iff]; simp [isLet]; omega)

theorem isDigit_any (c : Nat) (w : World) : Calls Tryd.prog 44 #[.int .u8 c] w fun e w' => e = .returned (.bool (isDig c)) ∧ w = w' := by
    go_enter Tryd.func44, Tryd.ntmps44
    go_wp2
    all_goals (go_ret; refine ⟨ret_bool ?_, rfl⟩; rw [Bool.eq_iff_iff]; simp [isDig]; omega)

theorem l02Letter_any (c : Nat) (w : World) : Calls Tryd.prog 36 #[.int .u8 c] w fun e w' => e = .returned (.bool (isLet c)) ∧ w = w' := by
    go_enter Tryd.func36, Tryd.ntmps36
    go_wp2
    all_goals (go_ret; refine ⟨ret_bool ?_, rfl⟩; rw [Bool.eq_iff_iff]; simp [isLet]; omega)

theorem l01Digit_any (c : Nat) (w : World) : Calls Tryd.prog 34 #[.int .u8 c] w fun e w' => e = .returned (.bool (isDig c)) ∧ w = w' := by
    go_enter Tryd.func34, Tryd.ntmps34
    go_wp2
    all_goals (go_ret; refine ⟨ret_bool ?_, rfl⟩; rw [Bool.eq_iff_iff]; simp [isDig]; omega)