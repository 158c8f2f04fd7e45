/- impl.NumText and spec.l01Text: each returns numText of the number. -/
import Derived.Test.YtllamjgloilioaaGreatDoorNumText
import Derived.Test.YtllamjgloilioaaGreatDoorNum
import Derived.Test.YtllamjgloilioaaGreatDoorRows
namespace Go.Proofs.YtllamjgloilioaaGreatDoor
open Go.RowKit
set_option linter.unusedVariables false

/-- The library's table of the powers of 10. -/
def T10 (w : World) : Prop := Lib.TabIs Tryz.prog w "internal/strconv.uint64pow10" .u64 Lib.pow10Tab

theorem T10.below {w w' : World} (h : T10 w) (hb : Below w.heap.size w w') : T10 w' :=
  Joins.var_stays (g := 1) (by kernel_rfl) h hb (Nat.le_refl _)

theorem FormatInt_any (x : Int) (m : Nat) (hx : x = m) (hm : m ≠ 0) (hm2 : m ≤ 1000000000000000000) (w : World) (hT : T10 w) : Calls Tryz.prog 89 #[.int .i64 x, .int .i64 10] w fun e w' => ∃ r : ByteArray, e = .returned (.string r) ∧ r.size ≤ 20 ∧ Hid (r.data.toList = NT.dd m) ∧ Below w.heap.size w w' := by
  subst hx
  refine (Tryz.strconv_FormatInt_10 (m : Int) (by omega) (by omega) w hT).mono fun e w' ⟨he, k, os, hw⟩ => ⟨_, he, ?_, ?_, ?_⟩
  · rw [ba_size]
    show (Lib.itoa m).length ≤ 20
    rw [Lib.itoa_nonneg, ← NT.dd_pos hm]
    exact NT.dd_len 20 m (by omega)
  · show Lib.itoa m = _
    rw [Lib.itoa_nonneg, NT.dd_pos hm]
  · subst hw; exact ⟨rfl, rfl, rfl, by show w.heap.size ≤ (w.heap ++ os).size; rw [Array.size_append]; omega, fun j hj => by show (w.heap ++ os)[j]? = _; rw [Array.getElem?_append_left hj]⟩

theorem TrimRight_any (s : ByteArray) (w : World) (hs : s.size ≤ 1000) : Calls Tryz.prog 90 #[.string s, .string ⟨#[48]⟩] w fun e w' => ∃ r : ByteArray, e = .returned (.string r) ∧ r.size ≤ s.size ∧ Hid (r.data.toList = Lib.trimRightB s.data.toList 48) ∧ w = w' := by
  refine (Tryz.strings_TrimRight_one s 48 (by decide) w (by omega)).mono fun e w' ⟨he, hw⟩ => ⟨_, he, ?_, rfl, hw.symm⟩
  rw [ba_size, ba_size s]
  show (Lib.trimRightB _ _).length ≤ _
  unfold Lib.trimRightB
  rw [List.length_reverse]
  have := (List.dropWhile_suffix (l := s.data.toList.reverse) (· == (48 : UInt8))).length_le
  simpa using this

def numTextB (n : Int) : List UInt8 := if isNumB n then NT.numText n else []

theorem numText_of (n x : Int) (hn : (n = x ∨ n = -x) ∧ 1 ≤ x ∧ x ≤ 999999999999999999) (L : List UInt8) (a b : Nat) (ha : x / 1000000 = a) (hb : x % 1000000 = b)
    (h : L = (if n < 0 then [45] else []) ++ (NT.dd a ++ if b = 0 then [] else 46 :: NT.fr b)) : L = numTextB n := by
  obtain ⟨m, rfl⟩ : ∃ m : Nat, x = m := ⟨x.toNat, by omega⟩
  have e : NT.magT m = NT.dd a ++ if b = 0 then [] else 46 :: NT.fr b := by
    unfold NT.magT; rw [show m / 1000000 = a by omega, show m % 1000000 = b by omega]
  rw [h, ← e]
  unfold numTextB NT.numText
  rw [isNumB_of (by omega) (by omega), if_pos rfl, if_neg (show ¬ n = 0 by omega)]
  have : n.natAbs = m := by omega
  rw [this]
  by_cases hn0 : n < 0
  · rw [if_pos hn0, if_pos hn0]; rfl
  · rw [if_neg hn0, if_neg hn0]; rfl

theorem tail_fr (r : ByteArray) (b : Nat) (HL : Hid (r.data.toList = NT.dd (1000000 + b))) (h7 : r.size = 7) : (r.extract 1 7).data.toList = (NT.dd (1000000 + b)).drop 1 := by
  rw [← HL.out]
  have : r.data.toList.length = 7 := by rw [← ba_size]; exact h7
  simp [List.extract_eq_take_drop]
  exact List.take_of_length_le (by rw [List.length_tail]; omega)

theorem sz_nil : (⟨#[]⟩ : ByteArray).size = 0 := rfl

theorem sz_one (c : UInt8) : (⟨#[c]⟩ : ByteArray).size = 1 := rfl

set_option maxRecDepth 8000 in
set_option maxHeartbeats 2000000 in
theorem NumText_any (n : Int) (w : World) (hT : T10 w) : Calls Tryz.prog 79 #[.int .i64 n] w fun e w' => ∃ r : ByteArray, e = .returned (.string r) ∧ r.size ≤ 64 ∧ Hid (r.data.toList = numTextB n) ∧ Below w.heap.size w w' := by
  cases hN : isNumB n
  · go_enter Tryz.func79, Tryz.ntmps79
    go_wp2_with (go_at_call 88; refine (isNum_any _ _).mono ?_; rintro e w' ⟨rfl, rfl⟩)
    go_ret
    exact ⟨_, rfl, by decide, by show _ = _; unfold numTextB; rw [hN]; rfl, below_refl _⟩
  have hbd := isNumB_true hN
  by_cases h0 : n = 0
  · subst h0
    go_enter Tryz.func79, Tryz.ntmps79
    go_wp2_with (go_at_call 88; refine (isNum_any _ _).mono ?_; rintro e w' ⟨rfl, rfl⟩)
    go_ret
    exact ⟨_, rfl, by decide, rfl, below_refl _⟩
  obtain ⟨x, hm, hm1, hm2⟩ : ∃ x : Int, (n = x ∨ n = -x) ∧ 1 ≤ x ∧ x ≤ 999999999999999999 := ⟨n.natAbs, by omega, by omega, by omega⟩
  obtain ⟨a, ha⟩ : ∃ a : Nat, x / 1000000 = a := ⟨(x / 1000000).toNat, by omega⟩
  obtain ⟨b, hb⟩ : ∃ b : Nat, x % 1000000 = b := ⟨(x % 1000000).toNat, by omega⟩
  have HF := Lib.hid (fun L => numText_of n x ⟨hm, hm1, hm2⟩ L a b ha hb)
  have hb6 : b < 1000000 := by omega
  have HFA := Lib.hid (fun (ha0 : a ≠ 0) (W : World) (hW : T10 W) => FormatInt_any (a : Int) a rfl ha0 (by omega) W hW)
  have HFB := Lib.hid (fun (W : World) (hW : T10 W) => FormatInt_any (1000000 + (b : Int)) (1000000 + b) (by omega) (by omega) (by omega) W hW)
  have H7 := Lib.hid (NT.dd_seven hb6)
  have HT := Lib.hid hT; clear hT
  have HN := Lib.hid hN; clear hN
  have hb0 : (0 : Int) ≤ b ∧ (b : Int) < 1000000 := by omega
  clear hb6
  rcases hm with hm | hm
  all_goals
    have hm := hm.symm
    first | subst hm | (have hm := hm.symm; subst hm)
    by_cases hA : 1000000 ≤ x <;> by_cases hB : b = 0
  all_goals
    have ha0 : (x < 1000000 ∧ a = 0) ∨ (1000000 ≤ x ∧ a ≠ 0) := by omega
    have hB' : (0 < (b : Int) ∧ b ≠ 0) ∨ ((b : Int) = 0 ∧ b = 0) := by omega
    rcases ha0 with ⟨ha1, ha0⟩ | ⟨ha1, ha0⟩
    all_goals rcases hB' with ⟨hB1, hB2⟩ | ⟨hB1, hB2⟩
    all_goals first | omega | skip
    all_goals clear hA hB
  all_goals
    have HB2 := Lib.hid hB2; have HA0 := Lib.hid ha0; clear hB2 ha0
    go_enter Tryz.func79, Tryz.ntmps79
    go_wp2_with fail
    refine (isNum_any _ _).mono ?_
    rintro e w' ⟨rfl, rfl⟩
    rw [HN.out]
    go_wp2_with fail
  · refine (HFA.out HA0.out _ HT.out).mono ?_
    rintro e w1 ⟨r1, rfl, hs1, HL1, hb1⟩
    go_wp2_with fail
    go_ret
    refine ⟨_, rfl, by have := sz_nil; have := sz_one 45; have := sz_one 46; simp only [ByteArray.size_append]; omega, ?_, hb1⟩
    apply HF.out
    rw [if_pos HB2.out, ← HL1.out, if_neg (show ¬ x < 0 by omega)]
    simp
  · refine (HFA.out HA0.out _ HT.out).mono ?_
    rintro e w1 ⟨r1, rfl, hs1, HL1, hb1⟩
    go_wp2_with fail
    refine (HFB.out _ (HT.out.below hb1)).mono ?_
    rintro e w2 ⟨r2, rfl, hs2, HL2, hb2⟩
    have h7 : r2.size = 7 := by rw [ba_size, HL2.out]; exact H7.out
    go_wp2_with fail
    refine (TrimRight_any _ _ (by simp; omega)).mono ?_
    rintro e w3 ⟨r3, rfl, hs3, HL3, rfl⟩
    have hs3' : r3.size ≤ 7 := Nat.le_trans hs3 (by simp; omega)
    go_wp2_with fail
    go_ret
    refine ⟨_, rfl, by have := sz_nil; have := sz_one 45; have := sz_one 46; simp only [ByteArray.size_append]; omega, ?_, below_trans hb1 hb2⟩
    apply HF.out
    rw [if_neg HB2.out, ← HL1.out, if_neg (show ¬ x < 0 by omega)]
    unfold NT.fr
    rw [← tail_fr r2 b HL2 h7, ← HL3.out]
    simp
  · refine (HFB.out _ HT.out).mono ?_
    rintro e w2 ⟨r2, rfl, hs2, HL2, hb2⟩
    have h7 : r2.size = 7 := by rw [ba_size, HL2.out]; exact H7.out
    go_wp2_with fail
    refine (TrimRight_any _ _ (by simp; omega)).mono ?_
    rintro e w3 ⟨r3, rfl, hs3, HL3, rfl⟩
    have hs3' : r3.size ≤ 7 := Nat.le_trans hs3 (by simp; omega)
    go_wp2_with fail
    go_ret
    refine ⟨_, rfl, by have := sz_nil; have := sz_one 45; have := sz_one 46; simp only [ByteArray.size_append]; omega, ?_, hb2⟩
    apply HF.out
    rw [if_neg HB2.out, HA0.out, NT.dd_zero, if_neg (show ¬ x < 0 by omega)]
    unfold NT.fr
    rw [← tail_fr r2 b HL2 h7, ← HL3.out]
    simp
  · refine (HFA.out HA0.out _ HT.out).mono ?_
    rintro e w1 ⟨r1, rfl, hs1, HL1, hb1⟩
    go_wp2_with fail
    go_ret
    refine ⟨_, rfl, by have := sz_nil; have := sz_one 45; have := sz_one 46; simp only [ByteArray.size_append]; omega, ?_, hb1⟩
    apply HF.out
    rw [if_pos HB2.out, ← HL1.out, if_pos (show -x < 0 by omega)]
    simp
  · refine (HFA.out HA0.out _ HT.out).mono ?_
    rintro e w1 ⟨r1, rfl, hs1, HL1, hb1⟩
    go_wp2_with fail
    refine (HFB.out _ (HT.out.below hb1)).mono ?_
    rintro e w2 ⟨r2, rfl, hs2, HL2, hb2⟩
    have h7 : r2.size = 7 := by rw [ba_size, HL2.out]; exact H7.out
    go_wp2_with fail
    refine (TrimRight_any _ _ (by simp; omega)).mono ?_
    rintro e w3 ⟨r3, rfl, hs3, HL3, rfl⟩
    have hs3' : r3.size ≤ 7 := Nat.le_trans hs3 (by simp; omega)
    go_wp2_with fail
    go_ret
    refine ⟨_, rfl, by have := sz_nil; have := sz_one 45; have := sz_one 46; simp only [ByteArray.size_append]; omega, ?_, below_trans hb1 hb2⟩
    apply HF.out
    rw [if_neg HB2.out, ← HL1.out, if_pos (show -x < 0 by omega)]
    unfold NT.fr
    rw [← tail_fr r2 b HL2 h7, ← HL3.out]
    simp
  · refine (HFB.out _ HT.out).mono ?_
    rintro e w2 ⟨r2, rfl, hs2, HL2, hb2⟩
    have h7 : r2.size = 7 := by rw [ba_size, HL2.out]; exact H7.out
    go_wp2_with fail
    refine (TrimRight_any _ _ (by simp; omega)).mono ?_
    rintro e w3 ⟨r3, rfl, hs3, HL3, rfl⟩
    have hs3' : r3.size ≤ 7 := Nat.le_trans hs3 (by simp; omega)
    go_wp2_with fail
    go_ret
    refine ⟨_, rfl, by have := sz_nil; have := sz_one 45; have := sz_one 46; simp only [ByteArray.size_append]; omega, ?_, hb2⟩
    apply HF.out
    rw [if_neg HB2.out, HA0.out, NT.dd_zero, if_pos (show -x < 0 by omega)]
    unfold NT.fr
    rw [← tail_fr r2 b HL2 h7, ← HL3.out]
    simp

end Go.Proofs.YtllamjgloilioaaGreatDoor
