/- impl.Shared and spec.Shared: each returns the length of the common beginning; SubOk; the walks of the first small laws. -/
import Derived.Test.YthdnbdkofaaaeaaNames
namespace Go.Proofs.Ythdnbdkofaaaeaa
open Go.RowKit
set_option linter.unusedVariables false

def shared : List UInt8 → List UInt8 → Int
  | a :: r, b :: s => if a = b then shared r s + 1 else 0
  | _, _ => 0
theorem shared_nil_left (l : List UInt8) : shared [] l = 0 := by simp [shared]
theorem shared_nil_right (l : List UInt8) : shared l [] = 0 := by cases l <;> simp [shared]

theorem u8eq (a b : UInt8) : ((a.toNat : Int) = (b.toNat : Int)) ↔ a = b := by
  constructor
  · intro h; exact UInt8.toNat_inj.1 (by omega)
  · rintro rfl; rfl

theorem Shared_any (a b : ByteArray) (w : World) (ha : a.size ≤ 1048576) (hb : b.size ≤ 1048576) : Calls Try.prog 13 #[.string a, .string b] w fun e w' => e = .returned (.int .i64 (shared (sfx a 0) (sfx b 0))) ∧ ∃ n, w' = w.drewN n := by
  go_enter Try.func13, Try.ntmps13
  go_wp2
  go_loopw [5] (fun i wr => ∃ k : Nat, k ≤ a.size ∧ i = .int .i64 k ∧ shared (sfx a 0) (sfx b 0) = k + shared (sfx a k) (sfx b k) ∧ ∃ n, wr = w.drewN n) (fun i _ => a.size - (intOf i).toNat)
  case atStart => exact ⟨0, Nat.zero_le _, rfl, by simp, 0, rfl⟩
  case round =>
    obtain ⟨k, hk, rfl, hinv, n, rfl⟩ := hrel
    have HI := Lib.hid hinv; clear hinv
    by_cases hlt : k < a.size
    · have HS := Lib.hid (sfx_lt hlt)
      by_cases hlt2 : k < b.size
      · have HS2 := Lib.hid (sfx_lt hlt2)
        rcases eqForms (a[k].toNat : Int) (b[k].toNat : Int) with ⟨e1, e2, e3⟩ | ⟨e1, e2, e3⟩
        · go_wp2
          go_quiet (fail)
          go_wp2
          refine ⟨⟨k + 1, by omega, by go_num, ?_, _, rfl⟩, by simp [intOf]; omega⟩
          rw [HI.out, HS.out, HS2.out, shared, if_pos ((u8eq _ _).1 e3.out)]; omega
        · go_wp2
          go_quiet (fail)
          go_wp2
          go_ret
          refine ⟨ret_int ?_, _, World.drewN_drewN _ _ _⟩
          rw [HI.out, HS.out, HS2.out, shared, if_neg (fun h => e3.out ((u8eq _ _).2 h))]; omega
      · have hd : decide ((k : Int) < (b.size : Int)) = false := by simp; omega
        go_wp2
        go_quiet (fail)
        go_wp2
        go_ret
        refine ⟨ret_int ?_, _, World.drewN_drewN _ _ _⟩
        rw [HI.out, sfx_ge (s := b) (by omega), shared_nil_right]; omega
    · have hd : decide ((k : Int) < (a.size : Int)) = false := by simp; omega
      go_wp2
      go_quiet (fail)
      go_wp2
      go_ret
      refine ⟨ret_int ?_, _, World.drewN_drewN _ _ _⟩
      rw [HI.out, sfx_ge (s := a) (by omega), shared_nil_left]; omega

theorem sShared_any (a b : ByteArray) (w : World) (ha : a.size ≤ 1048576) (hb : b.size ≤ 1048576) : Calls Try.prog 12 #[.string a, .string b] w fun e w' => e = .returned (.int .i64 (shared (sfx a 0) (sfx b 0))) ∧ ∃ n, w' = w.drewN n := by
  go_enter Try.func12, Try.ntmps12
  go_wp2
  go_loopw [5] (fun i wr => ∃ k : Nat, k ≤ a.size ∧ i = .int .i64 k ∧ shared (sfx a 0) (sfx b 0) = k + shared (sfx a k) (sfx b k) ∧ ∃ n, wr = w.drewN n) (fun i _ => a.size - (intOf i).toNat)
  case atStart => exact ⟨0, Nat.zero_le _, rfl, by simp, 0, rfl⟩
  case round =>
    obtain ⟨k, hk, rfl, hinv, n, rfl⟩ := hrel
    have HI := Lib.hid hinv; clear hinv
    by_cases hlt : k < a.size
    · have HS := Lib.hid (sfx_lt hlt)
      by_cases hlt2 : k < b.size
      · have HS2 := Lib.hid (sfx_lt hlt2)
        rcases eqForms (a[k].toNat : Int) (b[k].toNat : Int) with ⟨e1, e2, e3⟩ | ⟨e1, e2, e3⟩
        · go_wp2
          go_quiet (fail)
          go_wp2
          refine ⟨⟨k + 1, by omega, by go_num, ?_, _, rfl⟩, by simp [intOf]; omega⟩
          rw [HI.out, HS.out, HS2.out, shared, if_pos ((u8eq _ _).1 e3.out)]; omega
        · go_wp2
          go_quiet (fail)
          go_wp2
          go_ret
          refine ⟨ret_int ?_, _, World.drewN_drewN _ _ _⟩
          rw [HI.out, HS.out, HS2.out, shared, if_neg (fun h => e3.out ((u8eq _ _).2 h))]; omega
      · have hd : decide ((k : Int) < (b.size : Int)) = false := by simp; omega
        go_wp2
        go_quiet (fail)
        go_wp2
        go_ret
        refine ⟨ret_int ?_, _, World.drewN_drewN _ _ _⟩
        rw [HI.out, sfx_ge (s := b) (by omega), shared_nil_right]; omega
    · have hd : decide ((k : Int) < (a.size : Int)) = false := by simp; omega
      go_wp2
      go_quiet (fail)
      go_wp2
      go_ret
      refine ⟨ret_int ?_, _, World.drewN_drewN _ _ _⟩
      rw [HI.out, sfx_ge (s := a) (by omega), shared_nil_left]; omega

theorem SubOk_any (s : ByteArray) (w : World) (hs : s.size ≤ 1048576) : Calls Try.prog 11 #[.string s] w fun e w' => e = .returned (.bool (decide (1 ≤ s.size ∧ s.size ≤ 24))) ∧ w = w' := by
  go_enter Try.func11, Try.ntmps11
  go_wp2
  all_goals (go_ret; refine ⟨ret_bool ?_, rfl⟩; rw [Bool.eq_iff_iff]; simp; omega)
theorem l02Sub_any (s : ByteArray) (w : World) (hs : s.size ≤ 1048576) : Calls Try.prog 22 #[.string s] w fun e w' => e = .returned (.bool (decide (1 ≤ s.size ∧ s.size ≤ 24))) ∧ w = w' := by
  go_enter Try.func22, Try.ntmps22
  go_wp2
  all_goals (go_ret; refine ⟨ret_bool ?_, rfl⟩; rw [Bool.eq_iff_iff]; simp; omega)

theorem SubOk_walk (s : ByteArray) (hs : s.size ≤ maxLen) (w : World) : Calls Try.prog 4 #[.string s] w fun e w' => e = .returned (.bool true) ∧ Below w.heap.size w w' := by
  unfold maxLen at hs
  by_cases h : s.size ≤ 1048576
  · go_enter Try.func4, Try.ntmps4
    go_wp2_with (first | (go_at_call 10; go_in) | (go_at_call 22; refine (l02Sub_any _ _ h).mono ?_; rintro e w' ⟨rfl, rfl⟩) | (go_at_call 11; refine (SubOk_any _ _ h).mono ?_; rintro e w' ⟨rfl, rfl⟩))
    go_ret
    exact ⟨rfl, below_refl _⟩
  · go_enter Try.func4, Try.ntmps4
    go_wp2_with fail
    go_ret
    exact ⟨rfl, below_refl _⟩
theorem Constants_walk (w : World) : Calls Try.prog 3 #[] w fun e w' => e = .returned (.bool true) ∧ Below w.heap.size w w' := by
  go_enter Try.func3, Try.ntmps3
  go_wp2
  go_ret
  exact ⟨rfl, below_refl _⟩
theorem NameOk_walk (s : ByteArray) (hs : s.size ≤ maxLen) (w : World) : Calls Try.prog 7 #[.string s] w fun e w' => e = .returned (.bool true) ∧ Below w.heap.size w w' := by
  unfold maxLen at hs
  by_cases h : s.size ≤ 1048576
  · go_enter Try.func7, Try.ntmps7
    go_wp2_with (first | (go_at_call 16; go_in) | (go_at_call 25; refine (l02Name_any _ _ h).mono ?_; rintro e w' ⟨rfl, rfl⟩) | (go_at_call 17; refine (NameOk_any _ _ h).mono ?_; rintro e w' ⟨rfl, rfl⟩))
    go_ret
    exact ⟨rfl, below_refl _⟩
  · go_enter Try.func7, Try.ntmps7
    go_wp2_with fail
    go_ret
    exact ⟨rfl, below_refl _⟩
theorem Shared_walk (a : ByteArray) (ha : a.size ≤ maxLen) (b : ByteArray) (hb : b.size ≤ maxLen) (w : World) : Calls Try.prog 5 #[.string a, .string b] w fun e w' => e = .returned (.bool true) ∧ Below w.heap.size w w' := by
  unfold maxLen at ha hb
  by_cases h : a.size ≤ 1048576
  · by_cases h2 : b.size ≤ 1048576
    · go_enter Try.func5, Try.ntmps5
      go_wp2_with (first | (go_at_call 12; refine (sShared_any _ _ _ h h2).mono ?_; rintro e w' ⟨rfl, n1, rfl⟩) | (go_at_call 13; refine (Shared_any _ _ _ h h2).mono ?_; rintro e w' ⟨rfl, n2, rfl⟩))
      go_ret
      exact ⟨rfl, below_drewN _ _⟩
    · go_enter Try.func5, Try.ntmps5
      go_wp2_with fail
      go_ret
      exact ⟨rfl, below_refl _⟩
  · go_enter Try.func5, Try.ntmps5
    go_wp2_with fail
    go_ret
    exact ⟨rfl, below_refl _⟩
end Go.Proofs.Ythdnbdkofaaaeaa
