/- impl.IsCanon and spec.l01Canon: each returns canon of the string. -/
import Derived.Test.YtllamjgloilioaaGreatDoorNumText3
namespace Go.Proofs.YtllamjgloilioaaGreatDoor
open Go.RowKit
set_option linter.unusedVariables false

def canon (s : ByteArray) : Bool := decide (numTextB (NM.numOf s.data.toList) = s.data.toList)

theorem trim_len (l : List UInt8) : (Lib.trimRightB l 48).length ≤ l.length := by
  unfold Lib.trimRightB
  rw [List.length_reverse]
  have := (List.dropWhile_suffix (l := l.reverse) (· == (48 : UInt8))).length_le
  simpa using this

theorem numTextB_len (n : Int) (h0 : -999999999999999999 ≤ n) (h1 : n ≤ 999999999999999999) : 1 ≤ (numTextB n).length ∧ (numTextB n).length ≤ 21 := by
  unfold numTextB NT.numText
  rw [isNumB_of h0 h1, if_pos rfl]
  by_cases hz : n = 0
  · rw [if_pos hz]; decide
  rw [if_neg hz]
  have hm : (NT.magT n.natAbs).length ≤ 19 := by
    unfold NT.magT
    rw [List.length_append]
    have ha := NT.dd_len 12 (n.natAbs / 1000000) (by omega)
    by_cases hb : n.natAbs % 1000000 = 0
    · rw [if_pos hb]; simp; omega
    · rw [if_neg hb, List.length_cons]
      have h7 := NT.dd_seven (r := n.natAbs % 1000000) (by omega)
      have := trim_len ((NT.dd (1000000 + n.natAbs % 1000000)).drop 1)
      rw [List.length_drop] at this
      unfold NT.fr
      omega
  have hm1 : NT.magT n.natAbs ≠ [] := fun e => by rw [NT.magT_nil] at e; omega
  have hm2 := List.length_pos_iff.mpr hm1
  split
  · rw [List.length_cons]; omega
  · omega

/-- Two strings of which one text is the other's, or not, as the walk asks. -/
theorem str_cases (r s : ByteArray) (L : List UInt8) (H : Hid (r.data.toList = L)) (c : Bool) (hc : decide (L = s.data.toList) = c) : (c = true ∧ r = s) ∨ (c = false ∧ (r.toList == s.toList) = false ∧ r ≠ s) := by
  cases c
  · right
    have hne : r ≠ s := fun e => by rw [← H.out, e] at hc; simp at hc
    refine ⟨rfl, ?_, hne⟩
    rw [ba_toList, ba_toList]
    rw [beq_eq_false_iff_ne]
    exact fun e => hne (ba_ext e)
  · left
    exact ⟨rfl, ba_ext (by rw [H.out]; simpa using hc)⟩

set_option maxRecDepth 8000 in
theorem IsCanon_any (s : ByteArray) (w : World) (hT : T10 w) (hs : s.size ≤ 1048576) : Calls Tryz.prog 74 #[.string s] w fun e w' => e = .returned (.bool (canon s)) ∧ Below w.heap.size w w' := by
  have HT := Lib.hid hT; clear hT
  go_enter Tryz.func74, Tryz.ntmps74
  go_wp2_with fail
  refine (NumOf_any s _ hs).mono ?_
  rintro e w1 ⟨n, rfl, HN, hb1⟩
  go_wp2_with fail
  refine (NumText_any n _ (HT.out.below hb1)).mono ?_
  rintro e w2 ⟨r, rfl, hr, HL, hb2⟩
  obtain ⟨c, hc⟩ : ∃ c, canon s = c := ⟨_, rfl⟩
  rcases str_cases r s (numTextB n) HL c (by rw [HN.out]; exact hc) with ⟨rfl, rfl⟩ | ⟨rfl, hne, hne2⟩
  · go_wp2_with fail
    go_ret
    exact ⟨ret_bool (by first | rfl | rw [hc]), below_trans hb1 hb2⟩
  · go_wp2_with fail
    go_ret
    exact ⟨ret_bool (by first | rfl | rw [hc]), below_trans hb1 hb2⟩

set_option maxRecDepth 8000 in
theorem l01Canon_any (s : ByteArray) (w : World) (hs : s.size ≤ 1048576) : Calls Tryz.prog 77 #[.string s] w fun e w' => e = .returned (.bool (canon s)) ∧ Below w.heap.size w w' := by
  obtain ⟨b0, b1⟩ := NM.numOf_bd s.data.toList
  have hlen := numTextB_len _ b0 b1
  by_cases hz : s.size = 0
  · have he : s.toList.isEmpty = true := empty_of hz
    have hc : canon s = false := by
      unfold canon; rw [decide_eq_false_iff_not]; intro e; rw [e, ← ba_size] at hlen; omega
    clear hlen b0 b1
    go_enter Tryz.func77, Tryz.ntmps77
    go_wp2_with fail
    go_ret
    exact ⟨ret_bool (by first | rfl | rw [hc]), below_refl _⟩
  by_cases h21 : 21 < s.size
  · have he : s.toList.isEmpty = false := nonempty_of hz
    have hc : canon s = false := by
      unfold canon; rw [decide_eq_false_iff_not]; intro e; rw [e, ← ba_size] at hlen; omega
    clear hlen b0 b1
    go_enter Tryz.func77, Tryz.ntmps77
    go_wp2_with fail
    go_ret
    exact ⟨ret_bool (by first | rfl | rw [hc]), below_refl _⟩
  have he : s.toList.isEmpty = false := nonempty_of hz
  clear hlen
  have HB := Lib.hid b0; have HB1 := Lib.hid b1; clear b0 b1
  go_enter Tryz.func77, Tryz.ntmps77
  go_wp2_with fail
  refine (l01Of_any s _ hs).mono ?_
  rintro e w1 ⟨n, rfl, HN, rfl⟩
  go_wp2_with fail
  refine (l01Text_any n (by rw [HN.out]; exact HB.out) (by rw [HN.out]; exact HB1.out) _).mono ?_
  rintro e w2 ⟨r, rfl, hr, HL, hb2⟩
  obtain ⟨c, hc⟩ : ∃ c, canon s = c := ⟨_, rfl⟩
  rcases str_cases r s (numTextB n) HL c (by rw [HN.out]; exact hc) with ⟨rfl, rfl⟩ | ⟨rfl, hne, hne2⟩
  · go_wp2_with fail
    go_ret
    exact ⟨ret_bool (by first | rfl | rw [hc]), hb2⟩
  · go_wp2_with fail
    go_ret
    exact ⟨ret_bool (by first | rfl | rw [hc]), hb2⟩

end Go.Proofs.YtllamjgloilioaaGreatDoor
