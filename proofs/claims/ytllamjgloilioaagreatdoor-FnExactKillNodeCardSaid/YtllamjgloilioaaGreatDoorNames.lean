/- impl.NameOk and spec.l02Name: each returns nameOk of the string. -/
import Derived.Test.YtllamjgloilioaaGreatDoorBase
namespace Go.Proofs.YtllamjgloilioaaGreatDoor
open Go.RowKit
set_option linter.unusedVariables false

def isLet (c : Nat) : Bool := decide (97 ≤ c ∧ c ≤ 122) || decide (65 ≤ c ∧ c ≤ 90)
def isDig (c : Nat) : Bool := decide (48 ≤ c ∧ c ≤ 57)
def nameGo : Bool → List UInt8 → Bool
  | _, [] => true
  | first, c :: r => (isLet c.toNat || (first && c.toNat == 37) || (!first && isDig c.toNat)) && nameGo false r

theorem nameGo_cons (c : UInt8) (f : Bool) (r : List UInt8) : nameGo f (c :: r) = ((isLet c.toNat || (f && (c.toNat : Int) == 37) || (!f && isDig c.toNat)) && nameGo false r) := by
  simp only [nameGo]; congr 3; rw [Bool.eq_iff_iff]; simp; omega
def nameOk (s : ByteArray) : Bool := nameGo true (sfx s 0) && decide (1 ≤ s.size ∧ s.size ≤ 8)

theorem isLetter_any (c : Nat) (w : World) : Calls Tryz.prog 54 #[.int .u8 c] w fun e w' => e = .returned (.bool (isLet c)) ∧ w = w' := by
    go_enter Tryz.func54, Tryz.ntmps54
    go_wp2
    all_goals (go_ret; refine ⟨ret_bool ?_, rfl⟩; rw [Bool.eq_iff_iff]; simp [isLet]; omega)

theorem isDigit_any (c : Nat) (w : World) : Calls Tryz.prog 55 #[.int .u8 c] w fun e w' => e = .returned (.bool (isDig c)) ∧ w = w' := by
    go_enter Tryz.func55, Tryz.ntmps55
    go_wp2
    all_goals (go_ret; refine ⟨ret_bool ?_, rfl⟩; rw [Bool.eq_iff_iff]; simp [isDig]; omega)

theorem l02Letter_any (c : Nat) (w : World) : Calls Tryz.prog 63 #[.int .u8 c] w fun e w' => e = .returned (.bool (isLet c)) ∧ w = w' := by
    go_enter Tryz.func63, Tryz.ntmps63
    go_wp2
    all_goals (go_ret; refine ⟨ret_bool ?_, rfl⟩; rw [Bool.eq_iff_iff]; simp [isLet]; omega)

theorem l01Digit_any (c : Nat) (w : World) : Calls Tryz.prog 64 #[.int .u8 c] w fun e w' => e = .returned (.bool (isDig c)) ∧ w = w' := by
    go_enter Tryz.func64, Tryz.ntmps64
    go_wp2
    all_goals (go_ret; refine ⟨ret_bool ?_, rfl⟩; rw [Bool.eq_iff_iff]; simp [isDig]; omega)

theorem NameOk_any (s : ByteArray) (w : World) (hs : s.size ≤ 1048576) : Calls Tryz.prog 38 #[.string s] w fun e w' => e = .returned (.bool (nameOk s)) ∧ w = w' := by
  go_enter Tryz.func38, Tryz.ntmps38
  go_wp2
  go_loop [2, 3, 4] (fun _ i _ => ∃ k : Nat, k ≤ s.size ∧ i = .int .i64 k ∧ nameGo true (sfx s 0) = nameGo (k == 0) (sfx s k)) (fun _ i _ => s.size - (intOf i).toNat)
  case atStart => exact ⟨0, Nat.zero_le _, rfl, rfl⟩
  case round =>
    obtain ⟨k, hk, rfl, hinv⟩ := hrel
    have HI := Lib.hid hinv; clear hinv
    by_cases hlt : k < s.size
    · have HS := Lib.hid (sfx_lt hlt)
      by_cases h0 : k = 0
      · subst h0
        rcases eqForms (s[0].toNat : Int) 37 with ⟨e1, e2, e3⟩ | ⟨e1, e2, e3⟩ <;> cases hL : isLet s[0].toNat
        all_goals
          go_wp2_with (first | (go_at_call 54; refine (isLetter_any _ _).mono ?_; rintro e w' ⟨rfl, rfl⟩) | (go_at_call 55; refine (isDigit_any _ _).mono ?_; rintro e w' ⟨rfl, rfl⟩))
          first
          | (refine ⟨⟨1, by omega, rfl, ?_⟩, by simp [intOf]; omega⟩; rw [HI.out, HS.out, nameGo_cons]; simp [hL, e1]; done)
          | (go_ret; refine ⟨ret_bool ?_, rfl⟩; unfold nameOk; rw [HI.out, HS.out, nameGo_cons]; simp [hL, e1]; done)
      · have h0' : ((k : Int) == 0) = false := by simp; omega
        cases hL : isLet s[k].toNat <;> cases hD : isDig s[k].toNat
        all_goals
          go_wp2_with (first | (go_at_call 54; refine (isLetter_any _ _).mono ?_; rintro e w' ⟨rfl, rfl⟩) | (go_at_call 55; refine (isDigit_any _ _).mono ?_; rintro e w' ⟨rfl, rfl⟩))
          first
          | (refine ⟨⟨k+1, by omega, by go_num, ?_⟩, by simp [intOf]; omega⟩; rw [HI.out, HS.out, nameGo_cons]; simp [hL, hD, h0]; done)
          | (go_ret; refine ⟨ret_bool ?_, rfl⟩; unfold nameOk; rw [HI.out, HS.out, nameGo_cons]; simp [hL, hD, h0]; done)
    · go_wp2
      all_goals
        go_ret
        refine ⟨ret_bool ?_, rfl⟩
        unfold nameOk
        rw [HI.out, sfx_ge (by omega), Bool.eq_iff_iff]; simp [nameGo]; omega

theorem l02Name_any (s : ByteArray) (w : World) (hs : s.size ≤ 1048576) : Calls Tryz.prog 47 #[.string s] w fun e w' => e = .returned (.bool (nameOk s)) ∧ w = w' := by
  by_cases h1 : s.size < 1
  · go_enter Tryz.func47, Tryz.ntmps47
    go_wp2_with fail
    go_ret
    exact ⟨ret_bool (by simp [nameOk]; omega), rfl⟩
  by_cases h2 : 8 < s.size
  · go_enter Tryz.func47, Tryz.ntmps47
    go_wp2_with fail
    go_ret
    exact ⟨ret_bool (by simp [nameOk]; omega), rfl⟩
  have H0 := Lib.hid (sfx_lt (s := s) (k := 0) (by omega))
  rcases eqForms (s[0].toNat : Int) 37 with ⟨e1, e2, e3⟩ | ⟨e1, e2, e3⟩ <;> cases hL : isLet s[0].toNat
  all_goals
    have HN : nameGo true (sfx s 0) = ((isLet s[0].toNat || ((s[0].toNat : Int) == 37)) && nameGo false (sfx s 1)) := by rw [H0.out, nameGo_cons]; simp
    rw [hL, e1] at HN
    simp only [Bool.or_true, Bool.true_or, Bool.or_self, Bool.false_and, Bool.true_and] at HN
    have HN' := Lib.hid HN
    clear HN
    go_enter Tryz.func47, Tryz.ntmps47
    go_wp2_with (first | (go_at_call 63; refine (l02Letter_any _ _).mono ?_; rintro e w' ⟨rfl, rfl⟩) | (go_at_call 64; refine (l01Digit_any _ _).mono ?_; rintro e w' ⟨rfl, rfl⟩))
    try (go_ret; exact ⟨ret_bool (by unfold nameOk; rw [HN'.out]; rfl), rfl⟩)
  all_goals
    go_loop [2, 3] (fun _ i => ∃ k : Nat, 1 ≤ k ∧ k ≤ s.size ∧ i = .int .i64 k ∧ nameGo true (sfx s 0) = nameGo false (sfx s k)) (fun _ i => s.size - (intOf i).toNat)
    case atStart => exact ⟨1, by omega, by omega, rfl, HN'.out⟩
    case round =>
      obtain ⟨k, hk1, hk, rfl, hinv⟩ := hrel
      have HI := Lib.hid hinv; clear hinv
      by_cases hlt : k < s.size
      · have HS := Lib.hid (sfx_lt hlt)
        cases hL : isLet s[k].toNat <;> cases hD : isDig s[k].toNat
        all_goals
          go_wp2_with (first | (go_at_call 63; refine (l02Letter_any _ _).mono ?_; rintro e w' ⟨rfl, rfl⟩) | (go_at_call 64; refine (l01Digit_any _ _).mono ?_; rintro e w' ⟨rfl, rfl⟩))
          first
          | (refine ⟨⟨k+1, by omega, by omega, by go_num, ?_⟩, by simp [intOf]; omega⟩; rw [HI.out, HS.out, nameGo_cons]; simp [hL, hD]; done)
          | (go_ret; refine ⟨ret_bool ?_, rfl⟩; unfold nameOk; rw [HI.out, HS.out, nameGo_cons]; simp [hL, hD]; done)
      · go_wp2
        go_ret
        refine ⟨ret_bool ?_, rfl⟩
        unfold nameOk
        rw [HI.out, sfx_ge (by omega)]; simp [nameGo]; omega
end Go.Proofs.YtllamjgloilioaaGreatDoor
