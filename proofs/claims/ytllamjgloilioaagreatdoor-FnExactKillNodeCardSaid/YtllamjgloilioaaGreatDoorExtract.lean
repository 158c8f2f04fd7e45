/- impl.ExtractOf and spec.l10Extract: each returns extractOf; l00Min, l00Max; the walk of the law. -/
import Derived.Test.YtllamjgloilioaaGreatDoorBase
namespace Go.Proofs.YtllamjgloilioaaGreatDoor
open Go.RowKit
set_option linter.unusedVariables false

def extractOf (s : ByteArray) (m n : Int) : ByteArray :=
  if (if (s.size : Int) < n then (s.size : Int) else n) < (if 1 < m then m else 1) then ⟨#[]⟩ else s.extract ((if 1 < m then m else 1).toNat - 1) (if (s.size : Int) < n then (s.size : Int) else n).toNat

theorem extract_cases (s : ByteArray) (m n : Int) : ∃ lo hi : Int, ((1 < m ∧ lo = m) ∨ (m ≤ 1 ∧ lo = 1)) ∧ (((s.size : Int) < n ∧ hi = s.size) ∨ (n ≤ (s.size : Int) ∧ hi = n)) ∧
    ((hi < lo ∧ Hid (extractOf s m n = ⟨#[]⟩)) ∨ (lo ≤ hi ∧ Hid (extractOf s m n = s.extract (lo.toNat - 1) hi.toNat))) := by
  refine ⟨if 1 < m then m else 1, if (s.size : Int) < n then (s.size : Int) else n, ?_, ?_, ?_⟩
  · split <;> omega
  · split <;> omega
  · by_cases h : (if (s.size : Int) < n then (s.size : Int) else n) < (if 1 < m then m else 1)
    · exact .inl ⟨h, if_pos h⟩
    · exact .inr ⟨by omega, if_neg h⟩

theorem l00Min_any (a b c : Int) (h : (a ≤ b ∧ c = a) ∨ (b ≤ a ∧ c = b)) (w : World) : Calls Tryz.prog 87 #[.int .i64 a, .int .i64 b] w fun e w' => e = .returned (.int .i64 c) ∧ w = w' := by
  have H := Lib.hid h; clear h
  go_enter Tryz.func87, Tryz.ntmps87
  go_wp2
  all_goals (go_ret; exact ⟨ret_int (by have := H.out; omega), rfl⟩)

end Go.Proofs.YtllamjgloilioaaGreatDoor
