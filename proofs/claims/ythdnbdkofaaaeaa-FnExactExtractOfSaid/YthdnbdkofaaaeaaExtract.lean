/- impl.ExtractOf and spec.l10Extract: each returns extractOf; l00Min, l00Max; the walk of the law. -/
import Derived.Test.YthdnbdkofaaaeaaBase
namespace Go.Proofs.Ythdnbdkofaaaeaa
open Go.RowKit
set_option linter.unusedVariables false

def extractOf (s : ByteArray) (m n : Int) : ByteArray :=
  if (if (s.size : Int) < n then (s.size : Int) else n) < (if 1 < m then m else 1) then ⟨#[]⟩ else s.extract ((if 1 < m then m else 1).toNat - 1) (if (s.size : Int) < n then (s.size : Int) else n).toNat

theorem extract_cases (s : ByteArray) (m n : Int) : ∃ lo hi : Int, ((1 < m ∧ lo = m) ∨ (m ≤ 1 ∧ lo = 1)) ∧ (((s.size : Int) < n ∧ hi = s.size) ∨ (n ≤ (s.size : Int) ∧ hi = n)) ∧
    ((hi < lo ∧ Hid (extractOf s m n = ⟨#[]⟩)) ∨ (lo ≤ hi ∧ Hid (extractOf s m n = s.extract (lo.toNat - 1) hi.toNat))) := by
  refine ⟨if 1 < m then m else 1, if (s.size : Int) < n then (s.size : Int) else n, ?_, ?_, ?_⟩
  · split <;> omega
  · split <;> omega
  · by_cases h : (if (s.size : Int) < n then (s.size : Int) else n) < (if 1 < m then m else 1)
    · exact .inl ⟨h, if_pos h⟩
    · exact .inr ⟨by omega, if_neg h⟩

theorem ExtractOf_any (s : ByteArray) (m n : Int) (w : World) (hs : s.size ≤ 1048576) : Calls Try.prog 19 #[.string s, .int .i64 m, .int .i64 n] w fun e w' => e = .returned (.string (extractOf s m n)) ∧ w = w' := by
  obtain ⟨lo, hi, (⟨h1, rfl⟩ | ⟨h1, rfl⟩), (⟨h2, rfl⟩ | ⟨h2, rfl⟩), (⟨h3, HX⟩ | ⟨h3, HX⟩)⟩ := extract_cases s m n
  all_goals
    go_enter Try.func19, Try.ntmps19
    go_wp2
    go_ret
    refine ⟨ret_str ?_, rfl⟩; rw [HX.out]
    first | done | rfl | (simp; done)

theorem l00Min_any (a b c : Int) (h : (a ≤ b ∧ c = a) ∨ (b ≤ a ∧ c = b)) (w : World) : Calls Try.prog 35 #[.int .i64 a, .int .i64 b] w fun e w' => e = .returned (.int .i64 c) ∧ w = w' := by
  have H := Lib.hid h; clear h
  go_enter Try.func35, Try.ntmps35
  go_wp2
  all_goals (go_ret; exact ⟨ret_int (by have := H.out; omega), rfl⟩)

theorem l00Max_any (a b c : Int) (h : (a ≤ b ∧ c = b) ∨ (b ≤ a ∧ c = a)) (w : World) : Calls Try.prog 34 #[.int .i64 a, .int .i64 b] w fun e w' => e = .returned (.int .i64 c) ∧ w = w' := by
  have H := Lib.hid h; clear h
  go_enter Try.func34, Try.ntmps34
  go_wp2
  all_goals (go_ret; exact ⟨ret_int (by have := H.out; omega), rfl⟩)

theorem l10Extract_any (s : ByteArray) (m n : Int) (w : World) (hs : s.size ≤ 1048576) : Calls Try.prog 28 #[.string s, .int .i64 m, .int .i64 n] w fun e w' => e = .returned (.string (extractOf s m n)) ∧ w = w' := by
  obtain ⟨lo, hi, hlo, hhi, (⟨h3, HX⟩ | ⟨h3, HX⟩)⟩ := extract_cases s m n
  all_goals
    have Hlo : Hid ((m ≤ 1 ∧ lo = 1) ∨ (1 ≤ m ∧ lo = m)) := by show _ ∨ _; omega
    have Hhi : Hid ((n ≤ s.size ∧ hi = n) ∨ ((s.size : Int) ≤ n ∧ hi = s.size)) := by show _ ∨ _; omega
    have b1 : 1 ≤ lo := by omega
    have b2 : hi ≤ (s.size : Int) := by omega
    clear hlo hhi
    go_enter Try.func28, Try.ntmps28
    go_wp2_with (first | (go_at_call 34; refine (l00Max_any _ _ lo Hlo.out _).mono ?_; rintro e w' ⟨rfl, rfl⟩) | (go_at_call 35; refine (l00Min_any _ _ hi Hhi.out _).mono ?_; rintro e w' ⟨rfl, rfl⟩))
    go_ret
    refine ⟨ret_str ?_, rfl⟩; rw [HX.out]
    first | done | rfl | (simp; done)

theorem ExtractOf_walk (s : ByteArray) (hs : s.size ≤ maxLen) (m : Int) (hm : (Lit.int .i64 m).wf = true) (n : Int) (hn : (Lit.int .i64 n).wf = true) (w : World) : Calls Try.prog 8 #[.string s, .int .i64 m, .int .i64 n] w fun e w' => e = .returned (.bool true) ∧ Below w.heap.size w w' := by
  unfold maxLen at hs
  clear hm hn
  by_cases h : s.size ≤ 1048576
  · go_enter Try.func8, Try.ntmps8
    go_wp2_with (first | (go_at_call 18; go_in) | (go_at_call 28; refine (l10Extract_any s m n _ h).mono ?_; rintro e w1 ⟨rfl, rfl⟩) | (go_at_call 19; refine (ExtractOf_any s m n _ h).mono ?_; rintro e w2 ⟨rfl, rfl⟩))
    go_ret
    exact ⟨rfl, below_refl _⟩
  · go_enter Try.func8, Try.ntmps8
    go_wp2_with fail
    go_ret
    exact ⟨rfl, below_refl _⟩

end Go.Proofs.Ythdnbdkofaaaeaa
