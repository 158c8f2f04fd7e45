/- math/bits.Div64: the quotient. -/
import Derived.Test.YtkoagpeeohmokaaGreatDoorKnuth
namespace Go.Proofs.YtkoagpeeohmokaaGreatDoor
open Go.RowKit
set_option linter.unusedVariables false

def GotQ (q : Nat) (e : Ending) : Prop := ∃ r : Int, e = .returned (.tuple #[.int .u64 q, .int .u64 r])

/-- A first guess: the numbers that the walk meets. -/
theorem guess (u y1 : Nat) (h1 : 0 < y1) : ∃ q r p : Nat, q = u / y1 ∧ r = u % y1 ∧ (u : Int) / (y1 : Int) = (q : Int) ∧ (q : Int) * (y1 : Int) = (p : Int) ∧ (u : Int) - (p : Int) = (r : Int) ∧ p ≤ u ∧ q ≤ u := by
  refine ⟨u / y1, u % y1, u / y1 * y1, rfl, rfl, (Int.natCast_ediv u y1).symm, (Int.natCast_mul _ _).symm, ?_, Nat.div_mul_le_self u y1, Nat.div_le_self u y1⟩
  have := Nat.div_add_mod u y1
  rw [Nat.mul_comm] at this
  omega

/-- The rest behind a digit, modulo 2^64. -/
theorem rest (u u1 q y : Nat) (hq : q = (u * 4294967296 + u1) / y) (hy : 0 < y) (hy2 : y < 18446744073709551616) :
    ∃ (R : Nat) (a b c : Int), R = (u * 4294967296 + u1) % y ∧ R < y ∧ IntKind.u64.wrap ((u : Int) * 4294967296) = a ∧ IntKind.u64.wrap (a + (u1 : Int)) = b ∧ IntKind.u64.wrap ((q : Int) * (y : Int)) = c ∧ IntKind.u64.wrap (b - c) = (R : Int) := by
  have h := Nat.div_add_mod (u * 4294967296 + u1) y
  rw [← hq] at h
  have hR := Nat.mod_lt (u * 4294967296 + u1) hy
  refine ⟨(u * 4294967296 + u1) % y, _, _, _, rfl, hR, rfl, rfl, rfl, ?_⟩
  generalize (u * 4294967296 + u1) % y = R at *
  rw [← Int.natCast_mul, Nat.mul_comm q y]
  generalize y * q = P at *
  simp only [IntKind.wrap_u64]
  omega

/-- What a round of a correction loop meets. -/
theorem ways (u y1 y0 u1 q r Q : Nat) (h1 : 2147483648 ≤ y1) (h1' : y1 < 4294967296) (h0 : y0 < 4294967296) (hu1 : u1 < 4294967296) (hu : u < y1 * 4294967296 + y0) (hQ : Q = (u * 4294967296 + u1) / (y1 * 4294967296 + y0)) (HI : Kn.Inv u y1 y0 u1 q r) :
    ∃ p : Nat, (q : Int) * (y0 : Int) = (p : Int) ∧ (p : Int) ≤ 18446744073709551615 ∧ (q : Int) ≤ 4294967297 ∧ (r : Int) ≤ 4294967295 ∧
      ((decide ((4294967296 : Int) ≤ (q : Int)) = false ∧ decide ((4294967296 : Int) * (r : Int) + (u1 : Int) < (p : Int)) = false ∧ q = Q) ∨
       ((decide ((4294967296 : Int) ≤ (q : Int)) = true ∨ (decide ((4294967296 : Int) ≤ (q : Int)) = false ∧ decide ((4294967296 : Int) * (r : Int) + (u1 : Int) < (p : Int)) = true)) ∧
        ∃ m r2 : Nat, (q : Int) - 1 = (m : Int) ∧ (1 : Int) ≤ (q : Int) ∧ (r : Int) + (y1 : Int) = (r2 : Int) ∧ m < q ∧
          ((decide ((4294967296 : Int) ≤ (r2 : Int)) = true ∧ m = Q) ∨ (decide ((4294967296 : Int) ≤ (r2 : Int)) = false ∧ Hid (Kn.Inv u y1 y0 u1 m r2))))) := by
  obtain ⟨k1, k2, k3, k4⟩ := id HI
  have hp : q * y0 ≤ 4294967297 * 4294967295 := Nat.mul_le_mul k4 (by omega)
  refine ⟨q * y0, (Int.natCast_mul _ _).symm, by omega, by omega, by omega, ?_⟩
  have hlast := fun h => HI.last (by omega) h
  have hnext := fun hc h => HI.next hu hu1 hc h
  have hstop := fun hc h => HI.stop hu hu1 h0 hc h
  have hless := fun hc => (HI.less hu hu1 hc).1
  rw [← hQ] at hlast hstop
  generalize q * y0 = p at *
  by_cases hA : 4294967296 ≤ q ∨ 4294967296 * r + u1 < p
  · right
    refine ⟨?_, q - 1, r + y1, by have := hless hA; omega, by have := hless hA; omega, by omega, by have := hless hA; omega, ?_⟩
    · by_cases hq : 4294967296 ≤ q
      · left; exact decide_eq_true (by omega)
      · right; exact ⟨decide_eq_false (by omega), decide_eq_true (by omega)⟩
    · by_cases hr : r + y1 < 4294967296
      · right; exact ⟨decide_eq_false (by omega), hnext hA hr⟩
      · left; exact ⟨decide_eq_true (by omega), hstop hA (by omega)⟩
  · left
    exact ⟨decide_eq_false (by omega), decide_eq_false (by omega), hlast (by omega)⟩

set_option maxRecDepth 100000 in
set_option maxHeartbeats 4000000 in
theorem Div64_hi (hi lo y s yn y1 y0 a b u l l1 l0 : Nat) (w : World) (h1 : (0 : Int) < hi) (h2 : (hi : Int) < y)
   (f1 : IntKind.u64.wrap ((y : Int) * 2 ^ s) = (yn : Int)) (f2 : (yn : Int) / 4294967296 = (y1 : Int)) (f3 : bits .and .u64 (yn : Int) 4294967295 = (y0 : Int))
   (f4 : IntKind.u64.wrap ((hi : Int) * 2 ^ s) = (a : Int)) (f5 : (lo : Int) / 2 ^ (64 - s) = (b : Int)) (f6 : bits .or .u64 (a : Int) (b : Int) = (u : Int))
   (f7 : IntKind.u64.wrap ((lo : Int) * 2 ^ s) = (l : Int)) (f8 : (l : Int) / 4294967296 = (l1 : Int)) (f9 : bits .and .u64 (l : Int) 4294967295 = (l0 : Int))
   (hs : (s : Int) < 64) (hy1 : (2147483648 : Int) ≤ y1) (hy1' : (y1 : Int) ≤ 4294967295) (hy0 : (y0 : Int) ≤ 4294967295) (hl1 : (l1 : Int) ≤ 4294967295) (hl0 : (l0 : Int) ≤ 4294967295) (hyn : (yn : Int) = y1 * 4294967296 + y0) (hu : (u : Int) < yn)
   (hlz : ∀ w, Calls Tryz.prog 226 #[.int .u64 y] w fun e w' => e = .returned (.int .i64 s) ∧ w' = w) : Calls Tryz.prog 211 #[.int .u64 hi, .int .u64 lo, .int .u64 y] w fun e w' => GotQ (((u * 4294967296 + l1) * 4294967296 + l0) / yn) e ∧ w = w' := by
  have H := Lib.hid hlz; clear hlz
  have HYN : Hid (yn = y1 * 4294967296 + y0) := by show _ = _; omega
  have HU := Lib.hid (show u < yn by omega)
  have Hy1 := Lib.hid (show 2147483648 ≤ y1 by omega)
  have Hy1' := Lib.hid (show y1 < 4294967296 by omega)
  have Hy0 := Lib.hid (show y0 < 4294967296 by omega)
  have Hl1 := Lib.hid (show l1 < 4294967296 by omega)
  have Hl0 := Lib.hid (show l0 < 4294967296 by omega)
  have HQ0 : Hid (∀ Q1 R1 Q0 : Nat, Q1 = (u * 4294967296 + l1) / yn → R1 = (u * 4294967296 + l1) % yn → Q0 = (R1 * 4294967296 + l0) / yn → ((u * 4294967296 + l1) * 4294967296 + l0) / yn = Q1 * 4294967296 + Q0 ∧ Q1 < 4294967296 ∧ Q0 < 4294967296) := by
    rintro Q1 R1 Q0 rfl rfl rfl
    have hy : 0 < yn := by have := HU.out; omega
    exact ⟨Kn.two_digits u l1 l0 yn hy, Kn.quo_lt HU.out Hl1.out, Kn.quo_lt (Nat.mod_lt _ hy) Hl0.out⟩
  obtain ⟨D, hD⟩ : ∃ D, ((u * 4294967296 + l1) * 4294967296 + l0) / yn = D := ⟨_, rfl⟩
  rw [hD] at HQ0 ⊢
  obtain ⟨Q1, hQ1⟩ : ∃ Q1, Q1 = (u * 4294967296 + l1) / yn := ⟨_, rfl⟩
  obtain ⟨R1, a1, a2, a3, hR1, hR1y, g1, g2, g3, g4⟩ := rest u l1 Q1 yn hQ1 (by omega) (by omega)
  obtain ⟨q, r, p, hq, hr, k1, k2, k3, k4, k5⟩ := guess u y1 (by omega)
  obtain ⟨q', r', p', hq', hr', m1, m2, m3, m4, m5⟩ := guess R1 y1 (by omega)
  have HI1 : Hid (Kn.Inv u y1 y0 l1 q r) := by subst hq hr; exact Kn.Inv.first Hy1.out Hy1'.out Hy0.out Hl1.out (by rw [← HYN.out]; exact HU.out)
  have HI2 : Hid (Kn.Inv R1 y1 y0 l0 q' r') := by subst hq' hr'; exact Kn.Inv.first Hy1.out Hy1'.out Hy0.out Hl0.out (by rw [← HYN.out]; exact hR1y)
  have HG := Lib.hid (And.intro g1 (And.intro g2 (And.intro g3 g4)))
  have HM := Lib.hid (And.intro m1 (And.intro m2 m3))
  obtain ⟨Q0, hQ2⟩ : ∃ Q0, Q0 = (R1 * 4294967296 + l0) / yn := ⟨_, rfl⟩
  have HFIN : Hid (IntKind.u64.wrap (IntKind.u64.wrap ((Q1 : Int) * 4294967296) + (Q0 : Int)) = (D : Int)) := by
    obtain ⟨i1, i2, i3⟩ := HQ0.out Q1 R1 Q0 hQ1 hR1 hQ2
    show _ = _
    simp only [IntKind.wrap_u64]
    omega
  have HQ2 := Lib.hid hQ2; clear hQ2 HQ0
  have HQ1 := Lib.hid hQ1; have HR1 := Lib.hid hR1; have HRY := Lib.hid hR1y
  have bu : (u : Int) ≤ 18446744073709551615 := by omega
  have bR : (R1 : Int) ≤ 18446744073709551615 := by omega
  have bp : (p : Int) ≤ 18446744073709551615 := by omega
  have bq : (q : Int) ≤ 18446744073709551615 := by omega
  have bp' : (p' : Int) ≤ 18446744073709551615 := by omega
  have bq' : (q' : Int) ≤ 18446744073709551615 := by omega
  have br : (0 : Int) ≤ (u : Int) - p := by omega
  have br' : (0 : Int) ≤ (R1 : Int) - p' := by omega
  clear hq hr hq' hr' hQ1 hR1 hR1y g1 g2 g3 g4 m1 m2 m3 k4 k5 m4 m5 hD hyn hu
  have e1 : ((y : Int) == 0) = false := by simp; omega
  have e2 : ((hi : Int) == 0) = false := by simp; omega
  have e3 : ¬ y1 = 0 := by omega
  go_enter Tryz.func211, Tryz.ntmps211
  go_wp2_with (go_at_call 226; refine (H.out _).mono ?_; rintro e w' ⟨rfl, rfl⟩)
  go_loop [15, 16] (fun a b => ∃ q r : Nat, a = .int .u64 q ∧ b = .int .u64 r ∧ Hid (Kn.Inv u y1 y0 l1 q r)) (fun a _ => (intOf a).toNat)
  case atStart => exact ⟨q, r, rfl, rfl, HI1.out⟩
  case round =>
    clear k1 k2 k3 bp bq br HI1
    obtain ⟨q, r, rfl, rfl, HI⟩ := hrel
    obtain ⟨p, c1, c2, c3, c4, ⟨d1, d2, d3⟩ | ⟨hd, m, r2, d1, d2, d3, d4, ⟨d5, d6⟩ | ⟨d5, d6⟩⟩⟩ := ways u y1 y0 l1 q r Q1 Hy1.out Hy1'.out Hy0.out Hl1.out (by rw [← HYN.out]; exact HU.out) (by rw [← HYN.out]; exact HQ1.out) HI.out
    · subst d3
      clear HI
      obtain ⟨g1, g2, g3, g4⟩ := HG.out
      obtain ⟨m1, m2, m3⟩ := HM.out
      go_wp2
      go_loop [18, 16] (fun a b => ∃ q r : Nat, a = .int .u64 q ∧ b = .int .u64 r ∧ Hid (Kn.Inv R1 y1 y0 l0 q r)) (fun a _ => (intOf a).toNat)
      case atStart => exact ⟨q', r', rfl, rfl, HI2.out⟩
      case round =>
        clear g1 g2 g3 g4 m1 m2 m3 c1 c2 c3 c4 HI2
        obtain ⟨z, t, rfl, rfl, HI⟩ := hrel
        obtain ⟨p, c1, c2, c3, c4, ⟨d1, d2, d3⟩ | ⟨hd, m', t2, d1, d2, d3, d4, ⟨d5, d6⟩ | ⟨d5, d6⟩⟩⟩ := ways R1 y1 y0 l0 z t Q0 Hy1.out Hy1'.out Hy0.out Hl0.out (by rw [← HYN.out]; exact HRY.out) (by rw [← HYN.out]; exact HQ2.out) HI.out
        · subst d3
          clear HI
          go_wp2
          go_ret2
          exact ⟨⟨_, by rw [HFIN.out]; rfl⟩, rfl⟩
        · subst d6
          clear HI
          rcases hd with hd | ⟨hd, hd2⟩
          all_goals
            go_wp2
            go_ret2
            exact ⟨⟨_, by rw [HFIN.out]; rfl⟩, rfl⟩
        · clear HI
          rcases hd with hd | ⟨hd, hd2⟩
          all_goals
            go_wp2
            exact ⟨⟨m', t2, rfl, rfl, d6⟩, by simp [intOf]; omega⟩
    · subst d6
      clear HI
      obtain ⟨g1, g2, g3, g4⟩ := HG.out
      obtain ⟨m1, m2, m3⟩ := HM.out
      rcases hd with hd | ⟨hd, hd2⟩
      all_goals
        go_wp2
        go_loop [18, 16] (fun a b => ∃ q r : Nat, a = .int .u64 q ∧ b = .int .u64 r ∧ Hid (Kn.Inv R1 y1 y0 l0 q r)) (fun a _ => (intOf a).toNat)
        case atStart => exact ⟨q', r', rfl, rfl, HI2.out⟩
        case round =>
          clear g1 g2 g3 g4 m1 m2 m3 c1 c2 c3 c4 HI2
          obtain ⟨z, t, rfl, rfl, HI⟩ := hrel
          obtain ⟨p, c1, c2, c3, c4, ⟨d1, d2, d3⟩ | ⟨hd, m', t2, d1, d2, d3, d4, ⟨d5, d6⟩ | ⟨d5, d6⟩⟩⟩ := ways R1 y1 y0 l0 z t Q0 Hy1.out Hy1'.out Hy0.out Hl0.out (by rw [← HYN.out]; exact HRY.out) (by rw [← HYN.out]; exact HQ2.out) HI.out
          · subst d3
            clear HI
            go_wp2
            go_ret2
            exact ⟨⟨_, by rw [HFIN.out]; rfl⟩, rfl⟩
          · subst d6
            clear HI
            rcases hd with hd | ⟨hd, hd2⟩
            all_goals
              go_wp2
              go_ret2
              exact ⟨⟨_, by rw [HFIN.out]; rfl⟩, rfl⟩
          · clear HI
            rcases hd with hd | ⟨hd, hd2⟩
            all_goals
              go_wp2
              exact ⟨⟨m', t2, rfl, rfl, d6⟩, by simp [intOf]; omega⟩
    · clear HI
      rcases hd with hd | ⟨hd, hd2⟩
      all_goals
        go_wp2
        exact ⟨⟨m, r2, rfl, rfl, d6⟩, by simp [intOf]; omega⟩
end Go.Proofs.YtkoagpeeohmokaaGreatDoor
