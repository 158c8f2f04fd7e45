/- Plain laws of the product and the quotient. -/
import Derived.Test.YtkoagpeeohmokaaGreatDoorBase
namespace Go.Proofs.YtkoagpeeohmokaaGreatDoor
namespace MM

/-- The product of two sizes, cut at a millionth, part by part. -/
theorem mul_parts (x y : Nat) : x * y / 1000000 = x / 1000000 * y + x % 1000000 * (y / 1000000) + x % 1000000 * (y % 1000000) / 1000000 := by
  have hx := Nat.div_add_mod x 1000000
  have hy := Nat.div_add_mod y 1000000
  generalize x / 1000000 = h at *
  generalize x % 1000000 = l at *
  generalize y / 1000000 = a at *
  generalize y % 1000000 = b at *
  have e : x * y = 1000000 * (h * y + l * a) + l * b := by
    subst hx
    rw [Nat.add_mul, Nat.mul_add, Nat.mul_assoc]
    have : l * y = 1000000 * (l * a) + l * b := by
      subst hy
      rw [Nat.mul_add, ← Nat.mul_assoc, Nat.mul_comm l 1000000, Nat.mul_assoc]
    omega
  rw [e, Nat.mul_add_div (by decide)]

/-- One digit more of a quotient. -/
theorem quot_step (x y n r : Nat) (hy : 0 < y) (hn : n = x / y) (hr : r = x % y) : x * 10 / y = 10 * n + r * 10 / y ∧ x * 10 % y = r * 10 % y := by
  have h := Nat.div_add_mod x y
  rw [← hn, ← hr] at h
  have e : x * 10 = y * (10 * n) + r * 10 := by
    subst h
    rw [Nat.add_mul, Nat.mul_assoc, Nat.mul_comm n 10]
  rw [e]
  exact ⟨Nat.mul_add_div hy _ _, Nat.mul_add_mod _ _ _⟩

theorem high_small (a b c : Nat) (hc : 0 < c) (h : c ≤ a * b / 18446744073709551616) : 18446744073709551616 ≤ a * b / c := by
  rw [Nat.le_div_iff_mul_le hc]
  have h2 : c * 18446744073709551616 ≤ a * b := (Nat.le_div_iff_mul_le (by decide)).1 h
  rw [Nat.mul_comm]; exact h2

end MM
end Go.Proofs.YtkoagpeeohmokaaGreatDoor
