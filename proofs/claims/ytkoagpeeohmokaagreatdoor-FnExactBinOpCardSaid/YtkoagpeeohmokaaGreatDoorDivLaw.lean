/- MulNum and DivNum: the spec's quotient, and the two laws. -/
import Derived.Test.YtkoagpeeohmokaaGreatDoorMulNum
namespace Go.Proofs.YtkoagpeeohmokaaGreatDoor
open Go.RowKit
set_option linter.unusedVariables false

theorem quot_grow (x y i n : Nat) (hy : 0 < y) (hi : i < 6) (hn : n = x * 10 ^ i / y) : n * 10 ≤ x * 1000000 / y := by
  rw [Nat.le_div_iff_mul_le hy]
  have h1 : n * y ≤ x * 10 ^ i := by rw [hn]; exact Nat.div_mul_le_self _ _
  have h2 : (10 : Nat) ^ (i + 1) ≤ 10 ^ 6 := Nat.pow_le_pow_right (by decide) hi
  have h3 : x * 10 ^ (i + 1) ≤ x * 10 ^ 6 := Nat.mul_le_mul_left _ h2
  have h4 : n * 10 * y = n * y * 10 := by rw [Nat.mul_assoc, Nat.mul_comm 10 y, ← Nat.mul_assoc]
  have h5 : x * 10 ^ (i + 1) = x * 10 ^ i * 10 := by rw [Nat.pow_succ, Nat.mul_assoc]
  have h6 : (10 : Nat) ^ 6 = 1000000 := by decide
  rw [h6] at h3
  omega

/-- What the spec's digits give: the quotient, or anything too great where the quotient is. -/
def QuotOk (x y : Nat) (q : Int) : Prop := 0 ≤ q ∧ q ≤ 3000000000000000000 ∧ ((999999999999999999 < x * 1000000 / y ∧ 999999999999999999 < q) ∨ (x * 1000000 / y ≤ 999999999999999999 ∧ q = ((x * 1000000 / y : Nat) : Int)))

def GotQuot (x y : Nat) (e : Ending) : Prop := ∃ q : Int, e = .returned (.int .i64 q) ∧ QuotOk x y q

set_option maxHeartbeats 1000000 in
theorem l01Quot_any (x y : Nat) (w : World) (hx : (x : Int) ≤ 999999999999999999) (hy : (0 : Int) < y) (hy2 : (y : Int) ≤ 999999999999999999) :
    Calls Tryz.prog 143 #[.int .i64 x, .int .i64 y] w fun e w' => GotQuot x y e ∧ w = w' := by
  have HY : Hid (0 < y) := (show 0 < y by omega)
  have d1 : (x : Int) / (y : Int) = ((x / y : Nat) : Int) := (Int.natCast_ediv _ _).symm
  have d2 : (x : Int) % (y : Int) = ((x % y : Nat) : Int) := (Int.natCast_emod _ _).symm
  have hq := Nat.div_le_self x y
  have hr := Nat.mod_lt x HY.out
  have HQ : Hid (x / y = x * 10 ^ 0 / y ∧ x % y = x * 10 ^ 0 % y) := ⟨by rw [Nat.pow_zero, Nat.mul_one], by rw [Nat.pow_zero, Nat.mul_one]⟩
  generalize x / y = n0 at *
  generalize x % y = r0 at *
  have b1 : (n0 : Int) ≤ 999999999999999999 := by omega
  have b2 : (r0 : Int) < y := by omega
  have e1 : ¬ y = 0 := by omega
  clear hq hr
  go_enter Tryz.func143, Tryz.ntmps143
  go_wp2_with fail
  go_loop [5, 6, 7] (fun a b c => ∃ i n r : Nat, i ≤ 6 ∧ c = .int .i64 i ∧ a = .int .i64 n ∧ b = .int .u64 r ∧ (n : Int) ≤ 1000000000000000000 ∧ (r : Int) < y ∧ Hid (n = x * 10 ^ i / y ∧ r = x * 10 ^ i % y)) (fun _ _ c => 6 - (intOf c).toNat)
  case atStart => exact ⟨0, n0, r0, by omega, rfl, rfl, rfl, by omega, by omega, HQ.out⟩
  case round =>
    clear HQ d1 d2 b1 b2
    obtain ⟨i, n, r, hi, rfl, rfl, rfl, c1, c2, HI⟩ := hrel
    by_cases h6 : i < 6
    · obtain ⟨N, hN⟩ : ∃ N : Int, (n : Int) = N := ⟨_, rfl⟩
      rw [hN] at c1 ⊢
      by_cases hbig : 99999999999999999 < N
      · have HF : Hid (GotQuot x y (.returned (.int .i64 1000000000000000000))) := by
          refine ⟨_, rfl, by omega, by omega, .inl ⟨?_, by omega⟩⟩
          have := quot_grow x y i n HY.out h6 HI.out.1
          omega
        have t1 : decide (99999999999999999 < N) = true := decide_eq_true hbig
        clear hbig hN
        go_wp2_with fail
        go_ret
        exact ⟨HF.out, rfl⟩
      · have t1 : decide (99999999999999999 < N) = false := decide_eq_false hbig
        have hst := MM.quot_step (x * 10 ^ i) y n r HY.out HI.out.1 HI.out.2
        have hd9 : r * 10 / y ≤ 9 := by
          have : r * 10 / y < 10 := by rw [Nat.div_lt_iff_lt_mul HY.out]; omega
          omega
        have hrm := Nat.mod_lt (r * 10) HY.out
        have k1 : (r : Int) * 10 = ((r * 10 : Nat) : Int) := by omega
        have k2 : ((r * 10 : Nat) : Int) / (y : Int) = ((r * 10 / y : Nat) : Int) := (Int.natCast_ediv _ _).symm
        have k3 : ((r * 10 : Nat) : Int) % (y : Int) = ((r * 10 % y : Nat) : Int) := (Int.natCast_emod _ _).symm
        have b3 : ((r * 10 : Nat) : Int) ≤ 9999999999999999990 := by omega
        have HN2 : Hid (10 * n + r * 10 / y = x * 10 ^ (i + 1) / y ∧ r * 10 % y = x * 10 ^ (i + 1) % y) := by
          rw [Nat.pow_succ, ← Nat.mul_assoc]; exact ⟨hst.1.symm, hst.2.symm⟩
        clear hst
        generalize r * 10 / y = d at *
        generalize r * 10 % y = r2 at *
        generalize r * 10 = r10 at *
        have b4 : (d : Int) ≤ 9 := by omega
        have b5 : (0 : Int) ≤ N := by omega
        have b6 : N ≤ 99999999999999999 := by omega
        have b7 : (r2 : Int) < y := by omega
        obtain ⟨M, hM⟩ : ∃ M : Int, 10 * N + (d : Int) = M := ⟨_, rfl⟩
        have HM2 : Hid (M = ((10 * n + d : Nat) : Int)) := by show _ = _; omega
        have bM : M ≤ 1000000000000000000 := by omega
        have HNN := Lib.hid hN
        clear hbig hN hd9 hrm HI
        go_wp2_with fail
        refine ⟨⟨i + 1, 10 * n + d, r2, by omega, by go_num, by rw [HM2.out], by rw [k3], by have := HM2.out; omega, by omega, HN2.out⟩, by simp [intOf]; omega⟩
    · obtain rfl : i = 6 := by omega
      have HF : Hid (GotQuot x y (.returned (.int .i64 (n : Int)))) := by
        have h := HI.out.1
        rw [show (10 : Nat) ^ 6 = 1000000 by decide] at h
        refine ⟨_, rfl, by omega, by omega, ?_⟩
        rw [← h]
        by_cases hb : 999999999999999999 < n
        · exact .inl ⟨hb, by omega⟩
        · exact .inr ⟨by omega, rfl⟩
      obtain ⟨N, hN⟩ : ∃ N : Int, (n : Int) = N := ⟨_, rfl⟩
      rw [hN] at HF c1 ⊢
      clear hN HI
      go_wp2_with fail
      go_ret
      exact ⟨HF.out, rfl⟩

set_option maxHeartbeats 1000000 in
theorem l01Div_any (a b : Int) (w : World) : Calls Tryz.prog 97 #[.int .i64 a, .int .i64 b] w fun e w' => e = .returned (.tuple #[.int .i64 (divNum a b).1, .int .i64 (divNum a b).2]) ∧ w = w' := by
  rcases opCode_cases a b true with ⟨h, h2⟩ | ⟨h, ha, hb, _, hz⟩ | ⟨h, ha, hb, hz⟩
  · have HO := Lib.hid h
    clear h
    cases ha : isNumB a <;> cases hb : isNumB b <;> (try (exfalso; simp [ha, hb] at h2; done))
    all_goals
      clear h2
      go_enter Tryz.func97, Tryz.ntmps97
      go_wp2_with (go_at_call 139; refine (l01Is_any _ _).mono ?_; rintro e w' ⟨rfl, rfl⟩)
      go_ret2
      exact ⟨ret_pair (binNum_err HO.out (by decide)), rfl⟩
  · have HO := Lib.hid h
    have hz' : (b == 0) = true := by simp [hz]
    clear h hz
    go_enter Tryz.func97, Tryz.ntmps97
    go_wp2_with (go_at_call 139; refine (l01Is_any _ _).mono ?_; rintro e w' ⟨rfl, rfl⟩)
    go_ret2
    exact ⟨ret_pair (binNum_err HO.out (by decide)), rfl⟩
  · have HV := Lib.hid (binNum_ok (f := fun a b => ratioV a.natAbs 1000000 b.natAbs (decide (a < 0) != decide (b < 0))) h)
    have hb0 := hz rfl
    have hz' : (b == 0) = false := by simp [hb0]
    have ba := isNumB_true ha
    have bb := isNumB_true hb
    have HIA : Hid (∀ W, Calls Tryz.prog 139 #[.int .i64 a] W fun e w' => e = .returned (.bool true) ∧ W = w') := fun W => by have := l01Is_any a W; rw [ha] at this; exact this
    have HIB : Hid (∀ W, Calls Tryz.prog 139 #[.int .i64 b] W fun e w' => e = .returned (.bool true) ∧ W = w') := fun W => by have := l01Is_any b W; rw [hb] at this; exact this
    clear h ha hb hz
    obtain ⟨s, hs⟩ : ∃ s, (decide (a < 0) != decide (b < 0)) = s := ⟨_, rfl⟩
    rw [hs] at HV
    have HSG := Lib.hid (fun n W hn hn2 => l01Signed_any n a b W hn hn2 s hs)
    have HAA := Lib.hid (fun W => l01Abs_any a (a.natAbs : Int) (by omega) (by omega) W)
    have HAB := Lib.hid (fun W => l01Abs_any b (b.natAbs : Int) (by omega) (by omega) W)
    have HQU := Lib.hid (fun W => l01Quot_any a.natAbs b.natAbs W (by omega) (by omega) (by omega))
    have HV2 : Hid (divNum a b = ratioV a.natAbs 1000000 b.natAbs s) := HV.out
    clear hs ba bb hb0 HV
    generalize a.natAbs = x at *
    generalize b.natAbs = y at *
    go_enter Tryz.func97, Tryz.ntmps97
    go_wp2_with fail
    refine (HIA.out _).mono ?_
    rintro e w' ⟨rfl, rfl⟩
    go_wp2_with fail
    refine (HIB.out _).mono ?_
    rintro e w' ⟨rfl, rfl⟩
    go_wp2_with fail
    refine (HAA.out _).mono ?_
    rintro e w' ⟨rfl, rfl⟩
    go_wp2_with fail
    refine (HAB.out _).mono ?_
    rintro e w' ⟨rfl, rfl⟩
    go_wp2_with fail
    refine (HQU.out _).mono ?_
    rintro e w' ⟨⟨q, rfl, q0, q1, hq⟩, rfl⟩
    rcases hq with ⟨q2, q3⟩ | ⟨q2, q3⟩
    · have HF : Hid (divNum a b = (0, 7)) := by show _ = _; rw [HV2.out]; unfold ratioV; rw [if_pos q2]
      have t1 : decide ((999999999999999999 : Int) < q) = true := decide_eq_true q3
      clear q2 q3
      go_wp2_with fail
      go_ret2
      exact ⟨ret_pair HF.out, rfl⟩
    · have HF : Hid (divNum a b = (if s = true then -q else q, 0)) := by show _ = _; rw [HV2.out, q3]; unfold ratioV; rw [if_neg (by omega)]
      have t1 : decide ((999999999999999999 : Int) < q) = false := decide_eq_false (by omega)
      have HSQ := Lib.hid (fun W => HSG.out q W q0 (by omega))
      clear q2 q3 HSG
      go_wp2_with fail
      refine (HSQ.out _).mono ?_
      rintro e w' ⟨rfl, rfl⟩
      cases s
      all_goals
        go_wp2_with fail
        go_ret2
        exact ⟨ret_pair (by rw [HF.out]; rfl), rfl⟩

end Go.Proofs.YtkoagpeeohmokaaGreatDoor
