/- Knuth's division, two digits by one, over Nat. -/
import Derived.Test.YtkoagpeeohmokaaGreatDoorBase
namespace Go.Proofs.YtkoagpeeohmokaaGreatDoor
set_option linter.unusedVariables false
namespace Kn

/-- One step's quotient digit: what the correction loop leaves is the quotient. -/
theorem step_le {u y1 y0 q r u1 : Nat} (hr : u = q * y1 + r) (h : q * y0 ≤ 4294967296 * r + u1) :
    q * (y1 * 4294967296 + y0) ≤ u * 4294967296 + u1 := by
  subst hr
  calc q * (y1 * 4294967296 + y0) = q * y1 * 4294967296 + q * y0 := by rw [Nat.mul_add, Nat.mul_assoc]
    _ ≤ q * y1 * 4294967296 + (4294967296 * r + u1) := Nat.add_le_add_left h _
    _ = (q * y1 + r) * 4294967296 + u1 := by rw [Nat.add_mul]; omega

theorem step_gt {u y1 y0 q r u1 : Nat} (hr : u = q * y1 + r) (h : 4294967296 * r + u1 < q * y0) :
    u * 4294967296 + u1 < q * (y1 * 4294967296 + y0) := by
  subst hr
  have e : q * (y1 * 4294967296 + y0) = q * y1 * 4294967296 + q * y0 := by rw [Nat.mul_add, Nat.mul_assoc]
  have e2 : (q * y1 + r) * 4294967296 + u1 = q * y1 * 4294967296 + (4294967296 * r + u1) := by rw [Nat.add_mul]; omega
  rw [e, e2]; omega

theorem lt_of_mul_lt {q y n : Nat} (h : n < q * y) : n / y < q := Nat.div_lt_of_lt_mul (by rwa [Nat.mul_comm] at h)

theorem le_of_mul_le {q y n : Nat} (hy : 0 < y) (h : q * y ≤ n) : q ≤ n / y := (Nat.le_div_iff_mul_le hy).2 h

/-- the first guess is no less than the quotient -/
theorem guess_ge {u y1 y0 u1 : Nat} (h1 : 0 < y1) (hu1 : u1 < 4294967296) : (u * 4294967296 + u1) / (y1 * 4294967296 + y0) ≤ u / y1 := by
  rw [Nat.le_div_iff_mul_le h1]
  have hy : 0 < y1 * 4294967296 + y0 := by omega
  have h := Nat.div_mul_le_self (u * 4294967296 + u1) (y1 * 4294967296 + y0)
  generalize (u * 4294967296 + u1) / (y1 * 4294967296 + y0) = q at h ⊢
  have e : q * (y1 * 4294967296 + y0) = q * y1 * 4294967296 + q * y0 := by rw [Nat.mul_add, Nat.mul_assoc]
  rw [e] at h
  generalize q * y1 = a at h ⊢
  omega

theorem guess_le {u y1 y0 : Nat} (h1 : 2147483648 ≤ y1) (hy0 : y0 < 4294967296) (hu : u < y1 * 4294967296 + y0) : u / y1 ≤ 4294967297 := by
  have : u / y1 < 4294967298 := by
    refine (Nat.div_lt_iff_lt_mul (by omega)).2 ?_
    omega
  omega

theorem quo_ltB {B u u1 y : Nat} (hu : u < y) (hu1 : u1 < B) : (u * B + u1) / y < B := by
  have hy : 0 < y := by omega
  rw [Nat.div_lt_iff_lt_mul hy]
  have h : (u + 1) * B ≤ y * B := Nat.mul_le_mul_right _ hu
  rw [Nat.add_mul, Nat.one_mul] at h
  rw [Nat.mul_comm B y]
  omega

theorem quo_lt {u u1 y : Nat} (hu : u < y) (hu1 : u1 < 4294967296) : (u * 4294967296 + u1) / y < 4294967296 := quo_ltB hu hu1

/-- the two digits together -/
theorem two_digitsB (B u u1 u0 y : Nat) (hy : 0 < y) :
    ((u * B + u1) * B + u0) / y = (u * B + u1) / y * B + ((u * B + u1) % y * B + u0) / y := by
  generalize u * B + u1 = n
  have h := Nat.div_add_mod n y
  generalize n / y = q at h ⊢
  generalize n % y = r at h ⊢
  subst h
  have e : (y * q + r) * B + u0 = y * (q * B) + (r * B + u0) := by
    rw [Nat.add_mul, Nat.mul_assoc, Nat.add_assoc]
  rw [e, Nat.mul_add_div hy]

theorem two_digits (u u1 u0 y : Nat) (hy : 0 < y) :
    ((u * 4294967296 + u1) * 4294967296 + u0) / y = (u * 4294967296 + u1) / y * 4294967296 + ((u * 4294967296 + u1) % y * 4294967296 + u0) / y := two_digitsB 4294967296 u u1 u0 y hy

/-- The state of a correction loop: the guess q, the rest r. -/
def Inv (u y1 y0 u1 q r : Nat) : Prop := u = q * y1 + r ∧ r < 4294967296 ∧ (u * 4294967296 + u1) / (y1 * 4294967296 + y0) ≤ q ∧ q ≤ 4294967297

theorem Inv.first {u y1 y0 u1 : Nat} (h1 : 2147483648 ≤ y1) (h1' : y1 < 4294967296) (hy0 : y0 < 4294967296) (hu1 : u1 < 4294967296) (hu : u < y1 * 4294967296 + y0) : Inv u y1 y0 u1 (u / y1) (u % y1) :=
  ⟨by rw [Nat.mul_comm]; exact (Nat.div_add_mod u y1).symm, by have := Nat.mod_lt u (show 0 < y1 by omega); omega, guess_ge (by omega) hu1, guess_le h1 hy0 hu⟩

theorem Inv.last {u y1 y0 u1 q r : Nat} (h : Inv u y1 y0 u1 q r) (hy : 0 < y1) (hc : q * y0 ≤ 4294967296 * r + u1) : q = (u * 4294967296 + u1) / (y1 * 4294967296 + y0) :=
  Nat.le_antisymm (le_of_mul_le (by omega) (step_le h.1 hc)) h.2.2.1

theorem Inv.less {u y1 y0 u1 q r : Nat} (h : Inv u y1 y0 u1 q r) (hu : u < y1 * 4294967296 + y0) (hu1 : u1 < 4294967296) (hc : 4294967296 ≤ q ∨ 4294967296 * r + u1 < q * y0) : 1 ≤ q ∧ u = (q - 1) * y1 + (r + y1) ∧ (u * 4294967296 + u1) / (y1 * 4294967296 + y0) ≤ q - 1 := by
  have hlt : (u * 4294967296 + u1) / (y1 * 4294967296 + y0) < q := by
    rcases hc with hc | hc
    · exact Nat.lt_of_lt_of_le (quo_lt hu hu1) hc
    · exact lt_of_mul_lt (step_gt h.1 hc)
  have hq : 1 ≤ q := Nat.lt_of_le_of_lt (Nat.zero_le _) hlt
  refine ⟨hq, ?_, Nat.le_sub_one_of_lt hlt⟩
  clear hlt hc
  obtain ⟨p, rfl⟩ : ∃ p, q = p + 1 := ⟨q - 1, by omega⟩
  have e := h.1
  rw [Nat.add_mul, Nat.one_mul] at e
  rw [Nat.add_sub_cancel]; omega

theorem Inv.next {u y1 y0 u1 q r : Nat} (h : Inv u y1 y0 u1 q r) (hu : u < y1 * 4294967296 + y0) (hu1 : u1 < 4294967296) (hc : 4294967296 ≤ q ∨ 4294967296 * r + u1 < q * y0) (hr : r + y1 < 4294967296) : Inv u y1 y0 u1 (q - 1) (r + y1) := by
  obtain ⟨h1, h2, h3⟩ := h.less hu hu1 hc
  have := h.2.2.2
  exact ⟨h2, hr, h3, by omega⟩

theorem Inv.stop {u y1 y0 u1 q r : Nat} (h : Inv u y1 y0 u1 q r) (hu : u < y1 * 4294967296 + y0) (hu1 : u1 < 4294967296) (hy0 : y0 < 4294967296) (hc : 4294967296 ≤ q ∨ 4294967296 * r + u1 < q * y0) (hr : 4294967296 ≤ r + y1) : q - 1 = (u * 4294967296 + u1) / (y1 * 4294967296 + y0) := by
  obtain ⟨h1, h2, h3⟩ := h.less hu hu1 hc
  have h4 := h.2.2.2
  refine Nat.le_antisymm (le_of_mul_le (by omega) (step_le h2 ?_)) h3
  have h5 : (q - 1) * y0 ≤ 4294967296 * 4294967295 := Nat.mul_le_mul (by omega) (by omega)
  omega

theorem shifted (hi lo s : Nat) (hs : s < 64) (hlo : lo < 2 ^ 64) : (hi * 2 ^ s + lo / 2 ^ (64 - s)) * 2 ^ 64 + lo * 2 ^ s % 2 ^ 64 = (hi * 2 ^ 64 + lo) * 2 ^ s := by
  have e : (2 : Nat) ^ 64 = 2 ^ (64 - s) * 2 ^ s := by rw [← Nat.pow_add]; congr 1; omega
  have h1 : lo * 2 ^ s % 2 ^ 64 = lo % 2 ^ (64 - s) * 2 ^ s := by rw [e, Nat.mul_mod_mul_right]
  have h2 : lo = 2 ^ (64 - s) * (lo / 2 ^ (64 - s)) + lo % 2 ^ (64 - s) := (Nat.div_add_mod lo _).symm
  rw [h1]
  generalize lo / 2 ^ (64 - s) = d at *
  generalize lo % 2 ^ (64 - s) = m at *
  subst h2
  rw [Nat.add_mul, Nat.add_mul, Nat.add_mul, e]
  have e3 : 2 ^ (64 - s) * d * 2 ^ s = d * (2 ^ (64 - s) * 2 ^ s) := by rw [Nat.mul_comm (2 ^ (64 - s)) d, Nat.mul_assoc]
  have e4 : hi * 2 ^ s * (2 ^ (64 - s) * 2 ^ s) = hi * (2 ^ (64 - s) * 2 ^ s) * 2 ^ s := by rw [Nat.mul_assoc, Nat.mul_assoc, Nat.mul_comm (2 ^ s)]
  rw [e3, e4]; omega

/-- The whole quotient. -/
theorem whole (hi lo y s : Nat) (hs : s < 64) (hlo : lo < 2 ^ 64) (hy : 0 < y) : ((hi * 2 ^ s + lo / 2 ^ (64 - s)) * 2 ^ 64 + lo * 2 ^ s % 2 ^ 64) / (y * 2 ^ s) = (hi * 2 ^ 64 + lo) / y := by
  rw [shifted hi lo s hs hlo, Nat.mul_div_mul_right _ _ (Nat.two_pow_pos s)]

theorem top_lt {hi lo y s : Nat} (hs : s < 64) (hlo : lo < 2 ^ 64) (h : hi < y) : hi * 2 ^ s + lo / 2 ^ (64 - s) < y * 2 ^ s := by
  have h1 : lo / 2 ^ (64 - s) < 2 ^ s := by
    rw [Nat.div_lt_iff_lt_mul (Nat.two_pow_pos _), ← Nat.pow_add, show s + (64 - s) = 64 by omega]; exact hlo
  have h2 : (hi + 1) * 2 ^ s ≤ y * 2 ^ s := Nat.mul_le_mul_right _ h
  rw [Nat.add_mul, Nat.one_mul] at h2
  omega
end Kn
end Go.Proofs.YtkoagpeeohmokaaGreatDoor
