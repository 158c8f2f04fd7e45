/- impl.ExtractOf and spec.l10Extract: each returns extractOf; l00Min, l00Max; the walk of the law. -/
import Derived.Test.YtkoagpeeohmokaaDoorBase
namespace Go.Proofs.YtkoagpeeohmokaaDoor
open Go.RowKit
set_option linter.unusedVariables false

def extractOf (s : ByteArray) (m n : Int) : ByteArray :=
  if (if (s.size : Int) < n then (s.size : Int) else n) < (if 1 < m then m else 1) then ⟨#[]⟩ else s.extract ((if 1 < m then m else 1).toNat - 1) (if (s.size : Int) < n then (s.size : Int) else n).toNat

theorem extract_cases (s : ByteArray) (m n : Int) : ∃ lo hi : Int, ((1 < m ∧ lo = m) ∨ (m ≤ 1 ∧ lo = 1)) ∧ (((s.size : Int) < n ∧ hi = s.size) ∨ (n ≤ (s.size : Int) ∧ hi = n)) ∧
    ((hi < lo ∧ Hid (extractOf s m n = ⟨#[]⟩)) ∨ (lo ≤ hi ∧ Hid (extractOf s m n = s.extract (lo.toNat - 1) hi.toNat))) := by
  refine ⟨if 1 < m then m else 1, if (s.size : Int) < n then (s.size : Int) else n, ?_, ?_, ?_⟩
  · split <;> omega
  · split <;> omega
  · by_cases h : (if (s.size : Int) < n then (s.size : Int) else n) < (if 1 < m then m else 1)
    · exact .inl ⟨h, if_pos h⟩
    · exact .inr ⟨by omega, if_neg h⟩

theorem ExtractOf_any (s : ByteArray) (m n : Int) (w : World) (hs : s.size ≤ 1048576) : Calls Tryd.prog 91 #[.string s, .int .i64 m, .int .i64 n] w fun e w' => e = .returned (.string (extractOf s m n)) ∧ w = w' := by
  obtain ⟨lo, hi, hlo, hhi, h3⟩ := extract_cases s m n
  have hmx : max 1 m = lo := by omega
  have hmn : min n (s.size : Int) = hi := by omega
  have b1 : 1 ≤ lo := by omega
  have b2 : hi ≤ (s.size : Int) := by omega
  clear hlo hhi
  rcases h3 with ⟨h3, HX⟩ | ⟨h3, HX⟩
  all_goals
    go_enter Tryd.func91, Tryd.ntmps91
    go_wp2
    go_ret
    refine ⟨ret_str ?_, rfl⟩; rw [HX.out]
    first | done | rfl | (simp; done)

theorem l00Min_any (a b c : Int) (h : (a ≤ b ∧ c = a) ∨ (b ≤ a ∧ c = b)) (w : World) : Calls Tryd.prog 50 #[.int .i64 a, .int .i64 b] w fun e w' => e = .returned (.int .i64 c) ∧ w = w' := by
  have H := Lib.hid h; clear h
  go_enter Tryd.func50, Tryd.ntmps50
  go_wp2
  all_goals (go_ret; exact ⟨ret_int (by have := H.out; omega), rfl⟩)

end Go.Proofs.YtkoagpeeohmokaaDoor
