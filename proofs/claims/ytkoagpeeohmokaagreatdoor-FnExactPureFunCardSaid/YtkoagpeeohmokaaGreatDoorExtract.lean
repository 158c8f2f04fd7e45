/- impl.ExtractOf and spec.l10Extract: each returns extractOf; l00Min, l00Max; the walk of the law. -/
import Derived.Test.YtkoagpeeohmokaaGreatDoorBase
namespace Go.Proofs.YtkoagpeeohmokaaGreatDoor
open Go.RowKit
set_option linter.unusedVariables false

def extractOf (s : ByteArray) (m n : Int) : ByteArray :=
  if (if (s.size : Int) < n then (s.size : Int) else n) < (if 1 < m then m else 1) then ⟨#[]⟩ else s.extract ((if 1 < m then m else 1).toNat - 1) (if (s.size : Int) < n then (s.size : Int) else n).toNat

theorem extract_cases (s : ByteArray) (m n : Int) : ∃ lo hi : Int, ((1 < m ∧ lo = m) ∨ (m ≤ 1 ∧ lo = 1)) ∧ (((s.size : Int) < n ∧ hi = s.size) ∨ (n ≤ (s.size : Int) ∧ hi = n)) ∧
    ((hi < lo ∧ Hid (extractOf s m n = ⟨#[]⟩)) ∨ (lo ≤ hi ∧ Hid (extractOf s m n = s.extract (lo.toNat - 1) hi.toNat))) := by
  refine ⟨if 1 < m then m else 1, if (s.size : Int) < n then (s.size : Int) else n, ?_, ?_, ?_⟩
  · split <;> omega
  · split <;> omega
  · by_cases h : (if (s.size : Int) < n then (s.size : Int) else n) < (if 1 < m then m else 1)
    · exact .inl ⟨h, if_pos h⟩
    · exact .inr ⟨by omega, if_neg h⟩

theorem ExtractOf_any (s : ByteArray) (m n : Int) (w : World) (hs : s.size ≤ 1048576) : Calls Tryz.prog 116 #[.string s, .int .i64 m, .int .i64 n] w fun e w' => e = .returned (.string (extractOf s m n)) ∧ w = w' := by
  obtain ⟨lo, hi, hlo, hhi, h3⟩ := extract_cases s m n
  have hmx : max 1 m = lo := by omega
  have hmn : min n (s.size : Int) = hi := by omega
  have b1 : 1 ≤ lo := by omega
  have b2 : hi ≤ (s.size : Int) := by omega
  clear hlo hhi
  rcases h3 with ⟨h3, HX⟩ | ⟨h3, HX⟩
  all_goals
    go_enter Tryz.func116, Tryz.ntmps116
    go_wp2
    go_ret
    refine ⟨ret_str ?_, rfl⟩; rw [HX.out]
    first | done | rfl | (simp; done)

theorem l00Min_any (a b c : Int) (h : (a ≤ b ∧ c = a) ∨ (b ≤ a ∧ c = b)) (w : World) : Calls Tryz.prog 111 #[.int .i64 a, .int .i64 b] w fun e w' => e = .returned (.int .i64 c) ∧ w = w' := by
  have H := Lib.hid h; clear h
  go_enter Tryz.func111, Tryz.ntmps111
  go_wp2
  all_goals (go_ret; exact ⟨ret_int (by have := H.out; omega), rfl⟩)

theorem l00Max_any (a b c : Int) (h : (a ≤ b ∧ c = b) ∨ (b ≤ a ∧ c = a)) (w : World) : Calls Tryz.prog 110 #[.int .i64 a, .int .i64 b] w fun e w' => e = .returned (.int .i64 c) ∧ w = w' := by
  have H := Lib.hid h; clear h
  go_enter Tryz.func110, Tryz.ntmps110
  go_wp2
  all_goals (go_ret; exact ⟨ret_int (by have := H.out; omega), rfl⟩)

theorem l10Extract_any (s : ByteArray) (m n : Int) (w : World) (hs : s.size ≤ 1048576) : Calls Tryz.prog 108 #[.string s, .int .i64 m, .int .i64 n] w fun e w' => e = .returned (.string (extractOf s m n)) ∧ w = w' := by
  obtain ⟨lo, hi, hlo, hhi, (⟨h3, HX⟩ | ⟨h3, HX⟩)⟩ := extract_cases s m n
  all_goals
    have Hlo : Hid ((m ≤ 1 ∧ lo = 1) ∨ (1 ≤ m ∧ lo = m)) := by show _ ∨ _; omega
    have Hhi : Hid ((n ≤ s.size ∧ hi = n) ∨ ((s.size : Int) ≤ n ∧ hi = s.size)) := by show _ ∨ _; omega
    have b1 : 1 ≤ lo := by omega
    have b2 : hi ≤ (s.size : Int) := by omega
    clear hlo hhi
    go_enter Tryz.func108, Tryz.ntmps108
    go_wp2_with (first | (go_at_call 110; refine (l00Max_any _ _ lo Hlo.out _).mono ?_; rintro e w' ⟨rfl, rfl⟩) | (go_at_call 111; refine (l00Min_any _ _ hi Hhi.out _).mono ?_; rintro e w' ⟨rfl, rfl⟩))
    go_ret
    refine ⟨ret_str ?_, rfl⟩; rw [HX.out]
    first | done | rfl | (simp; done)

end Go.Proofs.YtkoagpeeohmokaaGreatDoor
