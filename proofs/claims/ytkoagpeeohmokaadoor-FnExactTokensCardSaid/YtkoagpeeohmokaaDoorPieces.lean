/- impl.pieces and spec.l10Pieces: each gives the pieces. -/
import Derived.Test.YtkoagpeeohmokaaDoorPieceMath
import Derived.Test.YtkoagpeeohmokaaDoorAppendStr
import Derived.Test.YtkoagpeeohmokaaDoorGlob
namespace Go.Proofs.YtkoagpeeohmokaaDoor
open Go.RowKit
set_option linter.unusedVariables false

theorem ext_list (s : ByteArray) (j k : Nat) : (s.extract j k).data.toList = (s.data.toList.take k).drop j := by
  simp [List.extract_eq_take_drop, List.drop_take]

theorem ext_step (s : ByteArray) (j k : Nat) (hjk : j ≤ k) (hk : k ≤ s.size) : (s.extract j k).data.toList ++ (s.data.toList.drop k).take 1 = (s.extract j (k + 1)).data.toList := by
  have hl : s.data.toList.length = s.size := by simp
  rw [ext_list, ext_list, List.take_add, List.drop_append, List.length_take, show j - min k s.data.toList.length = 0 by omega, List.drop_zero]

theorem ext_end (s : ByteArray) (j k : Nat) (hjk : j ≤ k) (hk : k ≤ s.size) : (s.extract j k).data.toList ++ s.data.toList.drop k = (s.extract j s.size).data.toList := by
  have hl : s.data.toList.length = s.size := by simp
  rw [ext_list, ext_list]
  conv => rhs; rw [← hl, List.take_length, ← List.take_append_drop k s.data.toList]
  rw [List.drop_append, List.length_take, show j - min k s.data.toList.length = 0 by omega, List.drop_zero]

theorem pcs_end (t : List UInt8) (f : Nat) (cur l : List UInt8) (h : l.length < t.length) : PM.pcs t f cur l = [cur ++ l] := by
  cases f with
  | zero => rfl
  | succ f => rw [PM.pcs_succ, if_pos h]

theorem sfx_len (s : ByteArray) (k : Nat) : (sfx s k).length = s.size - k := by unfold sfx; simp

end Go.Proofs.YtkoagpeeohmokaaDoor
