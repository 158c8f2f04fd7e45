/- math/bits.Div64 at every dividend; impl.ratio. -/
import Derived.Test.YtkoagpeeohmokaaGreatDoorDiv64
import Derived.Test.YtkoagpeeohmokaaGreatDoorShelf
import Derived.Test.YtkoagpeeohmokaaGreatDoorNum
import Derived.Test.YtkoagpeeohmokaaGreatDoorMulMath
import Derived.Laws.Bits64b
import Derived.Lib.BitFns
namespace Go.Proofs.YtkoagpeeohmokaaGreatDoor
open Go.RowKit
set_option linter.unusedVariables false

theorem bitLen_hi {x : Nat} (h0 : 0 < x) (hx : x < 2 ^ 64) : x < 2 ^ Lib.bitLen x ∧ 1 ≤ Lib.bitLen x ∧ Lib.bitLen x ≤ 64 ∧ 2 ^ (Lib.bitLen x - 1) ≤ x := by
  have h1 : 1 ≤ Lib.bitLen x := by have := Lib.bitLen_half x (by omega) hx; omega
  have h2 := Lib.bitLen_le x 64 (Nat.le_refl _) hx
  refine ⟨?_, h1, h2, ?_⟩
  · rcases Nat.lt_or_ge x (2 ^ Lib.bitLen x) with h | h
    · exact h
    · exfalso
      have e := Lib.bitLen_shift _ x h hx
      have hp : 0 < x / 2 ^ Lib.bitLen x := Nat.div_pos h (Nat.two_pow_pos _)
      have hl : x / 2 ^ Lib.bitLen x < 2 ^ 64 := Nat.lt_of_le_of_lt (Nat.div_le_self _ _) hx
      have := Lib.bitLen_half (x / 2 ^ Lib.bitLen x) (by omega) hl
      omega
  · rcases Nat.lt_or_ge x (2 ^ (Lib.bitLen x - 1)) with h | h
    · exfalso
      have := Lib.bitLen_le x (Lib.bitLen x - 1) (by omega) h
      omega
    · exact h

theorem andN (a : Nat) (ha : a < 18446744073709551616) : bits .and .u64 (a : Int) 4294967295 = ((a % 4294967296 : Nat) : Int) := by
  have h := bits_and_u64_nat a 4294967295 ha (by omega)
  have e : a &&& 4294967295 = a % 4294967296 := Nat.and_two_pow_sub_one_eq_mod a 32
  rw [e] at h
  exact h

theorem wrapN (a : Nat) (ha : a < 18446744073709551616) : IntKind.u64.wrap (a : Int) = (a : Int) := by rw [IntKind.wrap_u64]; omega

theorem ret_q {q D r : Int} (h : q = D) : Ending.returned (.tuple #[.int .u64 q, .int .u64 r]) = .returned (.tuple #[.int .u64 D, .int .u64 r]) := by rw [h]

theorem pow64 : (2 : Nat) ^ 64 = 18446744073709551616 := by decide

theorem Div64_any (hi lo y : Nat) (w : World) (h2 : hi < y) (h3 : y < 18446744073709551616) (h4 : lo < 18446744073709551616) :
    Calls Tryz.prog 211 #[.int .u64 hi, .int .u64 lo, .int .u64 y] w fun e w' => GotQ ((hi * 18446744073709551616 + lo) / y) e ∧ ∃ n, w' = w.drewN n := by
  by_cases h0 : hi = 0
  · subst h0
    have HF : Hid (((lo / y : Nat) : Int) = ((0 * 18446744073709551616 + lo) / y : Nat)) := by show _ = _; simp
    obtain ⟨D, hD⟩ : ∃ D, (0 * 18446744073709551616 + lo) / y = D := ⟨_, rfl⟩
    rw [hD] at HF ⊢
    clear hD
    have e1 : ((y : Int) == 0) = false := by simp; omega
    have e3 : ¬ y = 0 := by omega
    have hy0 : (0 : Int) < y := by omega
    have hl : (lo : Int) ≤ 18446744073709551615 := by omega
    have hd : (lo : Int) / (y : Int) = ((lo / y : Nat) : Int) := (Int.natCast_ediv _ _).symm
    have hdl : ((lo / y : Nat) : Int) ≤ 18446744073709551615 := by have := Nat.div_le_self lo y; omega
    generalize lo / y = q at *
    clear h3 h4
    go_enter Tryz.func211, Tryz.ntmps211
    go_wp2_with fail
    go_quiet (fail)
    go_wp2_with fail
    go_ret2
    exact ⟨⟨_, ret_q HF.out⟩, _, rfl⟩
  · have hy : 0 < y := by omega
    have hy64 : y < 2 ^ 64 := by rw [pow64]; exact h3
    obtain ⟨b1, b2, b3, b4⟩ := bitLen_hi hy hy64
    have hlz : ∀ w, Calls Tryz.prog 226 #[.int .u64 y] w fun e w' => e = .returned (.int .i64 ((64 - Lib.bitLen y : Nat) : Int)) ∧ w' = w := fun w => (Tryz.bits_LeadingZeros64 (y : Int) w (by omega) (by omega)).mono fun e w' ⟨he, hw⟩ => ⟨by rw [he, Int.toNat_natCast]; congr 2; omega, hw⟩
    obtain ⟨s, hs⟩ : ∃ s, 64 - Lib.bitLen y = s := ⟨_, rfl⟩
    rw [hs] at hlz
    have hs64 : s < 64 := by omega
    have hyn : y * 2 ^ s < 18446744073709551616 := by
      have h : y * 2 ^ s < 2 ^ Lib.bitLen y * 2 ^ s := Nat.mul_lt_mul_of_pos_right b1 (Nat.two_pow_pos _)
      rw [← Nat.pow_add, show Lib.bitLen y + s = 64 by omega, pow64] at h
      exact h
    have hyl : 9223372036854775808 ≤ y * 2 ^ s := by
      have h : 2 ^ (Lib.bitLen y - 1) * 2 ^ s ≤ y * 2 ^ s := Nat.mul_le_mul_right _ b4
      rw [← Nat.pow_add, show Lib.bitLen y - 1 + s = 63 by omega, show (2 : Nat) ^ 63 = 9223372036854775808 by decide] at h
      exact h
    have htop := Kn.top_lt (hi := hi) (lo := lo) (y := y) hs64 (by rw [pow64]; exact h4) h2
    have hwh := Kn.whole hi lo y s hs64 (by rw [pow64]; exact h4) hy
    have hbl : lo / 2 ^ (64 - s) < 2 ^ s := by
      rw [Nat.div_lt_iff_lt_mul (Nat.two_pow_pos _), ← Nat.pow_add, show s + (64 - s) = 64 by omega, pow64]; exact h4
    have ha64 : hi * 2 ^ s < 18446744073709551616 := Nat.lt_of_le_of_lt (Nat.le_add_right _ _) (Nat.lt_trans htop hyn)
    have hb64 : lo / 2 ^ (64 - s) < 18446744073709551616 := Nat.lt_of_le_of_lt (Nat.le_add_left _ _) (Nat.lt_trans htop hyn)
    have f6 : bits .or .u64 ((hi * 2 ^ s : Nat) : Int) ((lo / 2 ^ (64 - s) : Nat) : Int) = ((hi * 2 ^ s + lo / 2 ^ (64 - s) : Nat) : Int) := by
      rw [bits_or_u64_nat _ _ ha64 hb64]
      rw [← Nat.shiftLeft_eq, Nat.shiftLeft_add_eq_or_of_lt hbl]
    have f1 : IntKind.u64.wrap ((y : Int) * 2 ^ s) = ((y * 2 ^ s : Nat) : Int) := by
      rw [← wrapN _ hyn, Int.natCast_mul, Int.natCast_pow]; rfl
    have f4 : IntKind.u64.wrap ((hi : Int) * 2 ^ s) = ((hi * 2 ^ s : Nat) : Int) := by
      rw [← wrapN (hi * 2 ^ s) ha64, Int.natCast_mul, Int.natCast_pow]; rfl
    have f5 : (lo : Int) / 2 ^ (64 - s) = ((lo / 2 ^ (64 - s) : Nat) : Int) := by
      rw [Int.natCast_ediv, Int.natCast_pow]; rfl
    have f7 : IntKind.u64.wrap ((lo : Int) * 2 ^ s) = ((lo * 2 ^ s % 18446744073709551616 : Nat) : Int) := by
      have e : (lo : Int) * 2 ^ s = ((lo * 2 ^ s : Nat) : Int) := by rw [Int.natCast_mul, Int.natCast_pow]; rfl
      rw [e, IntKind.wrap_u64]; omega
    rw [pow64] at hwh
    have hm : lo * 2 ^ s % 18446744073709551616 < 18446744073709551616 := Nat.mod_lt _ (by decide)
    generalize hyn' : y * 2 ^ s = yn at *
    generalize hi * 2 ^ s = a at *
    generalize lo / 2 ^ (64 - s) = b at *
    generalize lo * 2 ^ s % 18446744073709551616 = l at *
    have h := Div64_hi hi lo y s yn (yn / 4294967296) (yn % 4294967296) a b (a + b) l (l / 4294967296) (l % 4294967296) w (by omega) (by omega)
      f1 (by omega) (andN yn hyn) f4 f5 f6 f7 (by omega) (andN l hm) (by omega) (by omega) (by omega) (by omega) (by omega) (by omega) (by omega) (by omega) hlz
    have e : ((a + b) * 4294967296 + l / 4294967296) * 4294967296 + l % 4294967296 = (a + b) * 18446744073709551616 + l := by omega
    rw [e, hwh] at h
    exact h.mono fun e w' ⟨he, hw⟩ => ⟨he, 0, hw.symm⟩

/-- A product, divided and cut, with a sign; or the code of a number that is too great. -/
def ratioV (a b c : Nat) (n : Bool) : Int × Int := if 999999999999999999 < a * b / c then (0, 7) else (if n = true then -((a * b / c : Nat) : Int) else ((a * b / c : Nat) : Int), 0)

set_option maxHeartbeats 1000000 in
theorem ratio_any (a b c : Nat) (n : Bool) (w : World) (ha : a ≤ 999999999999999999) (hb : b ≤ 999999999999999999) (hc : 0 < c) (hc2 : c ≤ 999999999999999999) :
    Calls Tryz.prog 186 #[.int .u64 a, .int .u64 b, .int .u64 c, .bool n] w fun e w' => e = .returned (.tuple #[.int .i64 (ratioV a b c n).1, .int .i64 (ratioV a b c n).2]) ∧ ∃ m, w' = w.drewN m := by
  have hab : a * b ≤ 999999999999999999 * 999999999999999999 := Nat.mul_le_mul ha hb
  have HM := Lib.hid (Tryz.bits_Mul64 a b (by omega) (by omega))
  have hdm := Nat.div_add_mod (a * b) 18446744073709551616
  have hml := Nat.mod_lt (a * b) (show 0 < 18446744073709551616 by decide)
  have HS := Lib.hid (MM.high_small a b c hc)
  have HV : Hid (ratioV a b c n = if 999999999999999999 < a * b / c then (0, 7) else (if n = true then -((a * b / c : Nat) : Int) else ((a * b / c : Nat) : Int), 0)) := rfl
  obtain ⟨V, hV⟩ : ∃ V, ratioV a b c n = V := ⟨_, rfl⟩
  rw [hV] at HV ⊢
  clear hV
  generalize a * b / 18446744073709551616 = hi at *
  generalize a * b % 18446744073709551616 = lo at *
  have HD := Lib.hid (fun (h : hi < c) W => Div64_any hi lo c W h (by omega) hml)
  rw [show hi * 18446744073709551616 + lo = a * b by omega] at HD
  generalize a * b / c = q at *
  clear hab hdm hml ha hb
  by_cases hh : hi < c
  rotate_left
  · have g1 : ¬ hi < c := hh
    have hq : 999999999999999999 < q := by have := HS.out (by omega); omega
    have HF : Hid (V = (0, 7)) := by show _ = _; rw [HV.out, if_pos hq]
    clear hq HS HV HD hc2
    go_enter Tryz.func186, Tryz.ntmps186
    go_wp2_with fail
    refine (HM.out _).mono ?_
    rintro e w' ⟨rfl, rfl⟩
    go_wp2_with fail
    go_ret2
    exact ⟨ret_pair HF.out, 0, rfl⟩
  have HDV := Lib.hid (fun W => HD.out hh W)
  have hh2 : (hi : Int) < c := by omega
  clear HS HD hc2
  by_cases hq : 999999999999999999 < q
  · have HF : Hid (V = (0, 7)) := by show _ = _; rw [HV.out, if_pos hq]
    have hq2 : decide ((999999999999999999 : Int) < (q : Int)) = true := decide_eq_true (by omega)
    clear hq HV
    go_enter Tryz.func186, Tryz.ntmps186
    go_wp2_with fail
    refine (HM.out _).mono ?_
    rintro e w' ⟨rfl, rfl⟩
    go_wp2_with fail
    refine (HDV.out _).mono ?_
    rintro e w' ⟨⟨r, rfl⟩, m, rfl⟩
    go_wp2_with fail
    go_ret2
    exact ⟨ret_pair HF.out, _, rfl⟩
  · have hq2 : decide ((999999999999999999 : Int) < (q : Int)) = false := decide_eq_false (by omega)
    have hq3 : (q : Int) ≤ 999999999999999999 := by omega
    cases n
    · have HF : Hid (V = ((q : Int), 0)) := by show _ = _; rw [HV.out, if_neg hq]; rfl
      clear hq HV
      go_enter Tryz.func186, Tryz.ntmps186
      go_wp2_with fail
      refine (HM.out _).mono ?_
      rintro e w' ⟨rfl, rfl⟩
      go_wp2_with fail
      refine (HDV.out _).mono ?_
      rintro e w' ⟨⟨r, rfl⟩, m, rfl⟩
      go_wp2_with fail
      go_ret2
      exact ⟨ret_pair HF.out, _, rfl⟩
    · have HF : Hid (V = (-(q : Int), 0)) := by show _ = _; rw [HV.out, if_neg hq]; rfl
      clear hq HV
      go_enter Tryz.func186, Tryz.ntmps186
      go_wp2_with fail
      refine (HM.out _).mono ?_
      rintro e w' ⟨rfl, rfl⟩
      go_wp2_with fail
      refine (HDV.out _).mono ?_
      rintro e w' ⟨⟨r, rfl⟩, m, rfl⟩
      go_wp2_with fail
      go_ret2
      exact ⟨ret_pair HF.out, _, rfl⟩
end Go.Proofs.YtkoagpeeohmokaaGreatDoor
