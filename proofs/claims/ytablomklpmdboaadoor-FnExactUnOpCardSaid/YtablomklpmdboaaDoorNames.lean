/- impl.NameOk and spec.l02Name: each returns nameOk of the string. -/
import Derived.Test.YtablomklpmdboaaDoorBase
namespace Go.Proofs.YtablomklpmdboaaDoor
open Go.RowKit
set_option linter.unusedVariables false

def isLet (c : Nat) : Bool := decide (97 ≤ c ∧ c ≤ 122) || decide (65 ≤ c ∧ c ≤ 90)
def isDig (c : Nat) : Bool := decide (48 ≤ c ∧ c ≤ 57)
def nameGo : Bool → List UInt8 → Bool
  | _, [] => true
  | first, c :: r => (isLet c.toNat || (first && c.toNat == 37) || (!first && isDig c.toNat)) && nameGo false r

theorem nameGo_cons (c : UInt8) (f : Bool) (r : List UInt8) : nameGo f (c :: r) = ((isLet c.toNat || (f && (c.toNat : Int) == 37) || (!f && isDig c.toNat)) && nameGo false r) := by
  simp only [nameGo]; congr 3; rw [Bool.eq_iff_iff]; simp; omega
def nameOk (s : ByteArray) : Bool := nameGo true (sfx s 0) && decide (1 ≤ s.size ∧ s.size ≤ 8)

theorem isLetter_any (c : Nat) (w : World) : Calls Tryd.prog 101 #[.int .u8 c] w fun e w' => e = .returned (.bool (isLet c)) ∧ w = w' := by
    go_enter Tryd.func101, Tryd.ntmps101
    go_wp2
    all_goals (go_ret; refine ⟨ret_bool ?_, rfl⟩; rw [Bool.eq_iff_iff]; simp [isLet]; omega)

theorem isDigit_any (c : Nat) (w : World) : Calls Tryd.prog 103 #[.int .u8 c] w fun e w' => e = .returned (.bool (isDig c)) ∧ w = w' := by
    go_enter Tryd.func103, Tryd.ntmps103
    go_wp2
    all_goals (go_ret; refine ⟨ret_bool ?_, rfl⟩; rw [Bool.eq_iff_iff]; simp [isDig]; omega)

theorem l02Letter_any (c : Nat) (w : World) : Calls Tryd.prog 95 #[.int .u8 c] w fun e w' => e = .returned (.bool (isLet c)) ∧ w = w' := by
    go_enter Tryd.func95, Tryd.ntmps95
    go_wp2
    all_goals (go_ret; refine ⟨ret_bool ?_, rfl⟩; rw [Bool.eq_iff_iff]; simp [isLet]; omega)

theorem l01Digit_any (c : Nat) (w : World) : Calls Tryd.prog 78 #[.int .u8 c] w fun e w' => e = .returned (.bool (isDig c)) ∧ w = w' := by
    go_enter Tryd.func78, Tryd.ntmps78
    go_wp2
    all_goals (go_ret; refine ⟨ret_bool ?_, rfl⟩; rw [Bool.eq_iff_iff]; simp [isDig]; omega)