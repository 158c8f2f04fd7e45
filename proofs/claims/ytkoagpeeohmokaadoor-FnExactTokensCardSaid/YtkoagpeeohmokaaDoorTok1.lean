/- Tokens: how long names, numbers and signs are. -/
import Derived.Test.YtkoagpeeohmokaaDoorTokMath
import Derived.Test.YtkoagpeeohmokaaDoorNumOf
import Derived.Test.YtkoagpeeohmokaaDoorTranslate
import Derived.Test.YtkoagpeeohmokaaDoorPref
import Derived.Test.YtkoagpeeohmokaaDoorIdxB
import Derived.Test.YtkoagpeeohmokaaDoorPieces
import Derived.Test.YtkoagpeeohmokaaDoorFind
namespace Go.Proofs.YtkoagpeeohmokaaDoor
open Go.RowKit
set_option linter.unusedVariables false

def runN (p : UInt8 → Bool) (l : List UInt8) : Nat := (l.takeWhile p).length

theorem runN_yes {p : UInt8 → Bool} {c : UInt8} {r : List UInt8} (h : p c = true) : runN p (c :: r) = runN p r + 1 := by
  unfold runN; rw [List.takeWhile_cons_of_pos h]; rfl

theorem runN_no {p : UInt8 → Bool} {c : UInt8} {r : List UInt8} (h : p c = false) : runN p (c :: r) = 0 := by
  unfold runN; rw [List.takeWhile_cons_of_neg (by simp [h])]; rfl

theorem runN_nil (p : UInt8 → Bool) : runN p [] = 0 := rfl

theorem runN_le (p : UInt8 → Bool) (s : ByteArray) (k : Nat) (hk : k ≤ s.size) : runN p (sfx s k) + k ≤ s.size := by
  have h := (List.takeWhile_sublist (p := p) (l := sfx s k)).length_le
  unfold runN
  have : (sfx s k).length = s.size - k := by unfold sfx; rw [List.length_drop, ba_size]
  omega

theorem nameLength_any (s : ByteArray) (w : World) (hs : s.size ≤ 1048576) (h1 : 1 ≤ s.size) : Calls Tryd.prog 43 #[.string s] w fun e w' => e = .returned (.int .i64 ((1 + runN alnum (sfx s 1) : Nat) : Int)) ∧ w = w' := by
  go_enter Tryd.func43, Tryd.ntmps43
  go_wp2
  go_loop [3] (fun i => ∃ k : Nat, 1 ≤ k ∧ k ≤ s.size ∧ i = .int .i64 k ∧ 1 + runN alnum (sfx s 1) = k + runN alnum (sfx s k)) (fun i => s.size - (intOf i).toNat)
  case atStart => exact ⟨1, by omega, h1, rfl, rfl⟩
  case round =>
    obtain ⟨k, hk1, hk, rfl, hinv⟩ := hrel
    have HI := Lib.hid hinv; clear hinv
    by_cases hlt : k < s.size
    · have HS := Lib.hid (sfx_lt hlt)
      cases hL : isLet s[k].toNat <;> cases hD : isDig s[k].toNat
      all_goals
        go_wp2_with (first | (go_at_call 42; refine (isLetter_any _ _).mono ?_; rintro e w' ⟨rfl, rfl⟩) | (go_at_call 44; refine (isDigit_any _ _).mono ?_; rintro e w' ⟨rfl, rfl⟩))
        first
        | (refine ⟨⟨k+1, by omega, by omega, by go_num, ?_⟩, by simp [intOf]; omega⟩; rw [HI.out, HS.out, runN_yes (by simp [alnum, hL, hD])]; omega)
        | (go_ret; exact ⟨ret_int (by rw [HI.out, HS.out, runN_no (by simp [alnum, hL, hD])]; simp), rfl⟩)
    · go_wp2
      go_ret
      have hh := HI.out
      rw [sfx_ge (s := s) (k := k) (by omega), runN_nil] at hh
      exact ⟨ret_int (by omega), rfl⟩

theorem l05Run_any (s : ByteArray) (p : Nat) (w : World) (hs : s.size ≤ 1048576) (hp : p ≤ s.size) : Calls Tryd.prog 37 #[.string s, .int .i64 (p : Int)] w fun e w' => e = .returned (.int .i64 ((p + runN alnum (sfx s p) : Nat) : Int)) ∧ w = w' := by
  go_enter Tryd.func37, Tryd.ntmps37
  go_wp2
  go_loop [1] (fun i => ∃ k : Nat, p ≤ k ∧ k ≤ s.size ∧ i = .int .i64 k ∧ p + runN alnum (sfx s p) = k + runN alnum (sfx s k)) (fun i => s.size - (intOf i).toNat)
  case atStart => exact ⟨p, by omega, hp, rfl, rfl⟩
  case round =>
    obtain ⟨k, hk1, hk, rfl, hinv⟩ := hrel
    have HI := Lib.hid hinv; clear hinv
    by_cases hlt : k < s.size
    · have HS := Lib.hid (sfx_lt hlt)
      cases hL : isLet s[k].toNat <;> cases hD : isDig s[k].toNat
      all_goals
        go_wp2_with (first | (go_at_call 36; refine (l02Letter_any _ _).mono ?_; rintro e w' ⟨rfl, rfl⟩) | (go_at_call 34; refine (l01Digit_any _ _).mono ?_; rintro e w' ⟨rfl, rfl⟩))
        first
        | (refine ⟨⟨k+1, by omega, by omega, by go_num, ?_⟩, by simp [intOf]; omega⟩; rw [HI.out, HS.out, runN_yes (by simp [alnum, hL, hD])]; omega)
        | (go_ret; exact ⟨ret_int (by rw [HI.out, HS.out, runN_no (by simp [alnum, hL, hD])]; simp), rfl⟩)
    · go_wp2
      go_ret
      have hh := HI.out
      rw [sfx_ge (s := s) (k := k) (by omega), runN_nil] at hh
      exact ⟨ret_int (by omega), rfl⟩

theorem l05Digits_any (s : ByteArray) (p : Nat) (w : World) (hs : s.size ≤ 1048576) (hp : p ≤ s.size) : Calls Tryd.prog 38 #[.string s, .int .i64 (p : Int)] w fun e w' => e = .returned (.int .i64 ((p + runN NM.dg (sfx s p) : Nat) : Int)) ∧ w = w' := by
  go_enter Tryd.func38, Tryd.ntmps38
  go_wp2
  go_loop [1] (fun i => ∃ k : Nat, p ≤ k ∧ k ≤ s.size ∧ i = .int .i64 k ∧ p + runN NM.dg (sfx s p) = k + runN NM.dg (sfx s k)) (fun i => s.size - (intOf i).toNat)
  case atStart => exact ⟨p, by omega, hp, rfl, rfl⟩
  case round =>
    obtain ⟨k, hk1, hk, rfl, hinv⟩ := hrel
    have HI := Lib.hid hinv; clear hinv
    by_cases hlt : k < s.size
    · have HS := Lib.hid (sfx_lt hlt)
      cases hD : isDig s[k].toNat
      all_goals
        go_wp2_with (go_at_call 34; refine (l01Digit_any _ _).mono ?_; rintro e w' ⟨rfl, rfl⟩)
        first
        | (refine ⟨⟨k+1, by omega, by omega, by go_num, ?_⟩, by simp [intOf]; omega⟩; rw [HI.out, HS.out, runN_yes (by rw [← dig_dg, hD])]; omega)
        | (go_ret; exact ⟨ret_int (by rw [HI.out, HS.out, runN_no (by rw [← dig_dg, hD])]; simp), rfl⟩)
    · go_wp2
      go_ret
      have hh := HI.out
      rw [sfx_ge (s := s) (k := k) (by omega), runN_nil] at hh
      exact ⟨ret_int (by omega), rfl⟩

theorem digs_run (l : List UInt8) : (NM.digs l).length = runN NM.dg l := rfl

/-- How long the number at a place is, by the places. -/
theorem numN_at (s : ByteArray) (p k : Nat) (hp : p ≤ s.size) (hk : k = p + runN NM.dg (sfx s p)) : p + numN (sfx s p) = if h : k < s.size then (if s[k] = 46 then k + 1 + runN NM.dg (sfx s (k + 1)) else k) else k := by
  have e : NM.afterDigs (sfx s p) = sfx s k := by
    rw [← NM.drop_digs, digs_run]
    unfold sfx
    rw [List.drop_drop, hk]; rfl
  unfold numN
  rw [e, digs_run]
  split
  · rename_i h
    rw [sfx_lt h]
    unfold fracN
    simp only
    split
    · rw [digs_run]; omega
    · omega
  · rename_i h
    rw [sfx_ge (s := s) (k := k) (by omega)]
    show p + (_ + 0) = _
    omega

set_option maxHeartbeats 1000000 in
theorem numberLength_any (s : ByteArray) (w : World) (hs : s.size ≤ 1048576) : Calls Tryd.prog 45 #[.string s] w fun e w' => e = .returned (.int .i64 (numN (sfx s 0) : Int)) ∧ Below w.heap.size w w' := by
  have HC := Lib.hid (digitsOf_any s w hs)
  go_enter Tryd.func45, Tryd.ntmps45
  go_wp2_with fail
  refine HC.out.mono ?_
  rintro e w1 ⟨k, rfl, hks, hk, b1⟩
  have HN := Lib.hid (numN_at s 0 k (Nat.zero_le _) (by rw [hk.out]; show _ = _; rw [Nat.zero_add]; rfl))
  rw [Nat.zero_add] at HN
  clear hk
  have B1 := Lib.hid b1; clear b1
  by_cases hlt : k < s.size
  · have HN2 := Lib.hid (HN.out.trans (dif_pos hlt))
    clear HN
    rcases eqForms (s[k].toNat : Int) 46 with ⟨e1, e2, e3⟩ | ⟨e1, e2, e3⟩
    · have hc : s[k] = 46 := UInt8.toNat_inj.1 (by have := e3.out; show _ = 46; omega)
      have HN3 := Lib.hid (HN2.out.trans (if_pos hc))
      clear HN2 hc
      go_wp2_with fail
      have HD := Lib.hid (digitsOf_any (s.extract (k + 1) s.size) w1 (by simp; omega))
      refine HD.out.mono ?_
      rintro e w2 ⟨m, rfl, hm, hm2, b2⟩
      have b3 := below_trans B1.out b2
      have hme : m = runN NM.dg (sfx s (k + 1)) := by rw [hm2.out, extract_sfx]; rfl
      have hmz : m ≤ s.size := by simp at hm; omega
      clear hm hm2 HD
      go_wp2_with fail
      go_ret
      exact ⟨ret_int (by rw [HN3.out]; omega), b3⟩
    · have hc : ¬ s[k] = 46 := fun h => by have := e3.out; rw [h] at this; exact this rfl
      have HN3 := Lib.hid (HN2.out.trans (if_neg hc))
      clear HN2 hc
      go_wp2_with fail
      go_ret
      exact ⟨ret_int (by rw [HN3.out]), B1.out⟩
  · have HN2 := Lib.hid (HN.out.trans (dif_neg hlt))
    go_wp2_with fail
    go_ret
    exact ⟨ret_int (by rw [HN2.out]), B1.out⟩

end Go.Proofs.YtkoagpeeohmokaaDoor
