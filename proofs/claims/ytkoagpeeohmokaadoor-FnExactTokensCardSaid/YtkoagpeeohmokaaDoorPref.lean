/- strings.HasPrefix. -/
import Derived.Test.YtkoagpeeohmokaaDoorBase
namespace Go.Proofs.YtkoagpeeohmokaaDoor
open Go.RowKit
set_option linter.unusedVariables false

theorem eq_piece (s t : ByteArray) (p : Nat) (h : p + t.size ≤ s.size) : ((s.extract p (p + t.size)).toList == t.toList) = (sfx t 0).isPrefixOf (sfx s p) := by
  rw [ba_toList, ba_toList, Bool.eq_iff_iff, beq_iff_eq, List.isPrefixOf_iff_prefix, List.prefix_iff_eq_take]
  have e1 : (s.extract p (p + t.size)).data.toList = (sfx s p).take (sfx t 0).length := by
    rw [ByteArray.data_extract, Array.toList_extract, List.extract_eq_take_drop]
    have e2 : (sfx t 0).length = t.size := by simp [sfx]
    have e3 : p + t.size - p = t.size := by omega
    rw [e2, e3]; rfl
  rw [e1]
  exact eq_comm

theorem prefix_long {s t : ByteArray} (h : s.size < t.size) : (sfx t 0).isPrefixOf (sfx s 0) = false := by
  cases hp : (sfx t 0).isPrefixOf (sfx s 0)
  · rfl
  · rw [List.isPrefixOf_iff_prefix] at hp
    have := hp.length_le
    simp [sfx] at this; omega

theorem HasPrefix_any (s t : ByteArray) (w : World) (hs : s.size ≤ 1048576) (ht : t.size ≤ 1048576) : Calls Tryd.prog 77 #[.string s, .string t] w fun e w' => e = .returned (.bool ((sfx t 0).isPrefixOf (sfx s 0))) ∧ w = w' := by
  by_cases h : t.size ≤ s.size
  · have HE := eq_piece s t 0 (by omega)
    rw [Nat.zero_add] at HE
    generalize (sfx t 0).isPrefixOf (sfx s 0) = z at *
    go_enter Tryd.func77, Tryd.ntmps77
    go_wp2
    go_ret
    exact ⟨rfl, rfl⟩
  · have HE := Lib.hid (prefix_long (s := s) (t := t) (by omega))
    go_enter Tryd.func77, Tryd.ntmps77
    go_wp2
    go_ret
    exact ⟨ret_bool HE.out.symm, rfl⟩

end Go.Proofs.YtkoagpeeohmokaaDoor
