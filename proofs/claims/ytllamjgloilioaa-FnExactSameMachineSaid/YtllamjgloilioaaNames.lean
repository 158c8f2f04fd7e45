/- impl.NameOk and spec.l02Name: each returns nameOk of the string. -/
import Derived.Test.YtllamjgloilioaaBase
namespace Go.Proofs.Ytllamjgloilioaa
open Go.RowKit
set_option linter.unusedVariables false

def isLet (c : Nat) : Bool := decide (97 ≤ c ∧ c ≤ 122) || decide (65 ≤ c ∧ c ≤ 90)
def isDig (c : Nat) : Bool := decide (48 ≤ c ∧ c ≤ 57)
def nameGo : Bool → List UInt8 → Bool
  | _, [] => true
  | first, c :: r => (isLet c.toNat || (first && c.toNat == 37) || (!first && isDig c.toNat)) && nameGo false r

theorem nameGo_cons (c : UInt8) (f : Bool) (r : List UInt8) : nameGo f (c :: r) = ((isLet c.toNat || (f && (c.toNat : Int) == 37) || (!f && isDig c.toNat)) && nameGo false r) := by
  simp only [nameGo]; congr 3; rw [Bool.eq_iff_iff]; simp; omega
def nameOk (s : ByteArray) : Bool := nameGo true (sfx s 0) && decide (1 ≤ s.size ∧ s.size ≤ 8)