/- impl.IsCanon and spec.l01Canon: each returns canon of the string. -/
import Derived.Test.YtkoagpeeohmokaaDoorNumText3
namespace Go.Proofs.YtkoagpeeohmokaaDoor
open Go.RowKit
set_option linter.unusedVariables false

def canon (s : ByteArray) : Bool := decide (numTextB (NM.numOf s.data.toList) = s.data.toList)

theorem trim_len (l : List UInt8) : (Lib.trimRightB l 48).length ≤ l.length := by
  unfold Lib.trimRightB
  rw [List.length_reverse]
  have := (List.dropWhile_suffix (l := l.reverse) (· == (48 : UInt8))).length_le
  simpa using this

theorem numTextB_len (n : Int) (h0 : -999999999999999999 ≤ n) (h1 : n ≤ 999999999999999999) : 1 ≤ (numTextB n).length ∧ (numTextB n).length ≤ 21 := by
  unfold numTextB NT.numText
  rw [isNumB_of h0 h1, if_pos rfl]
  by_cases hz : n = 0
  · rw [if_pos hz]; decide
  rw [if_neg hz]
  have hm : (NT.magT n.natAbs).length ≤ 19 := by
    unfold NT.magT
    rw [List.length_append]
    have ha := NT.dd_len 12 (n.natAbs / 1000000) (by omega)
    by_cases hb : n.natAbs % 1000000 = 0
    · rw [if_pos hb]; simp; omega
    · rw [if_neg hb, List.length_cons]
      have h7 := NT.dd_seven (r := n.natAbs % 1000000) (by omega)
      have := trim_len ((NT.dd (1000000 + n.natAbs % 1000000)).drop 1)
      rw [List.length_drop] at this
      unfold NT.fr
      omega
  have hm1 : NT.magT n.natAbs ≠ [] := fun e => by rw [NT.magT_nil] at e; omega
  have hm2 := List.length_pos_iff.mpr hm1
  split
  · rw [List.length_cons]; omega
  · omega

/-- Two strings of which one text is the other's, or not, as the walk asks. -/
theorem str_cases (r s : ByteArray) (L : List UInt8) (H : Hid (r.data.toList = L)) (c : Bool) (hc : decide (L = s.data.toList) = c) : (c = true ∧ r = s) ∨ (c = false ∧ (r.toList == s.toList) = false ∧ r ≠ s) := by
  cases c
  · right
    have hne : r ≠ s := fun e => by rw [← H.out, e] at hc; simp at hc
    refine ⟨rfl, ?_, hne⟩
    rw [ba_toList, ba_toList]
    rw [beq_eq_false_iff_ne]
    exact fun e => hne (ba_ext e)
  · left
    exact ⟨rfl, ba_ext (by rw [H.out]; simpa using hc)⟩

end Go.Proofs.YtkoagpeeohmokaaDoor
