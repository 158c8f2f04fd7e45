/- impl.FindOf and spec.l10Find: each returns findOf; the walk of the law. -/
import Derived.Test.YtkoagpeeohmokaaDoorExtract
import Derived.Test.YtkoagpeeohmokaaDoorPref
import Derived.Test.YtkoagpeeohmokaaDoorShelf
import Derived.Test.YtkoagpeeohmokaaDoorGlob
import Derived.Lib.IndexLaws
import Derived.Lib.IndexBytes
namespace Go.Proofs.YtkoagpeeohmokaaDoor
open Go.RowKit
set_option linter.unusedVariables false

def idxS (l t : List UInt8) : Int := Lib.index l t

theorem idxS_ge (l t : List UInt8) : -1 ≤ idxS l t := Lib.index_ge l t

theorem idxS_le (l t : List UInt8) : idxS l t ≤ l.length := Lib.index_le l t

theorem idxS_hit {l t : List UInt8} (h : t.isPrefixOf l = true) : idxS l t = 0 := by
  unfold idxS
  cases l with
  | nil => cases t <;> simp_all [Lib.index]
  | cons b l => simp only [Lib.index, h, if_true]

theorem idxS_miss {b : UInt8} {l t : List UInt8} (h : t.isPrefixOf (b :: l) = false) : idxS (b :: l) t = if idxS l t < 0 then -1 else idxS l t + 1 := by
  have := Lib.index_ge l t
  unfold idxS
  simp only [Lib.index, h, Bool.false_eq_true, if_false, beq_iff_eq]
  split <;> split <;> omega

theorem prefix_short {l t : List UInt8} (h : l.length < t.length) : t.isPrefixOf l = false := by
  cases hp : t.isPrefixOf l
  · rfl
  · rw [List.isPrefixOf_iff_prefix] at hp
    have := hp.length_le; omega

theorem idxS_short : ∀ {l t : List UInt8}, l.length < t.length → idxS l t = -1
  | [], t, h => by cases t <;> simp_all [idxS, Lib.index]
  | b :: l, t, h => by
    rw [idxS_miss (prefix_short h), idxS_short (l := l) (by simp at h; omega)]; simp

/-- Where t is found in s from place p on (counted from 0): the place behind it, counted from 1; 0 if nowhere. -/
def findFrom (s t : ByteArray) (p : Nat) : Int := if idxS (sfx s p) (sfx t 0) < 0 then 0 else p + 1 + idxS (sfx s p) (sfx t 0) + t.size

def findOf (s t : ByteArray) (m : Int) : Int := if (s.size : Int) + 1 < (if 1 < m then m else 1) then 0 else findFrom s t ((if 1 < m then m else 1).toNat - 1)

theorem find_cases (s t : ByteArray) (m : Int) : ∃ lo : Int, ((1 < m ∧ lo = m) ∨ (m ≤ 1 ∧ lo = 1)) ∧ (((s.size : Int) + 1 < lo ∧ Hid (findOf s t m = 0)) ∨ (lo ≤ (s.size : Int) + 1 ∧ Hid (findOf s t m = findFrom s t (lo.toNat - 1)))) := by
  refine ⟨if 1 < m then m else 1, by split <;> omega, ?_⟩
  by_cases h : (s.size : Int) + 1 < (if 1 < m then m else 1)
  · exact .inl ⟨h, if_pos h⟩
  · exact .inr ⟨by omega, if_neg h⟩

theorem extract_sfx (s : ByteArray) (p : Nat) : (s.extract p s.size).data.toList = sfx s p := by
  simp [sfx, ByteArray.data_extract, List.take_of_length_le]

theorem Index_any (s t : ByteArray) (w : World) (hml : ML w) (hs : s.size ≤ 1048576) : Calls Tryd.prog 93 #[.string s, .string t] w fun e w' => e = .returned (.int .i64 (idxS (sfx s 0) (sfx t 0))) ∧ w = w' := by
  obtain ⟨m, hm⟩ := hml
  exact (Tryd.strings_Index s t m w (by omega) hm).mono fun e w' ⟨he, hw⟩ => ⟨he, hw.symm⟩

theorem findFrom_neg {s t : ByteArray} {p : Nat} (h : idxS (sfx s p) (sfx t 0) < 0) : findFrom s t p = 0 := if_pos h

theorem findFrom_pos {s t : ByteArray} {p : Nat} (h : ¬ idxS (sfx s p) (sfx t 0) < 0) : findFrom s t p = p + 1 + idxS (sfx s p) (sfx t 0) + t.size := if_neg h

theorem FindOf_any (s t : ByteArray) (m : Int) (w : World) (hml : ML w) (hs : s.size ≤ 1048576) (ht : t.size ≤ 1048576) : Calls Tryd.prog 68 #[.string s, .string t, .int .i64 m] w fun e w' => e = .returned (.int .i64 (findOf s t m)) ∧ w = w' := by
  have SH := Lib.hid hml; clear hml
  obtain ⟨lo, (⟨h1, rfl⟩ | ⟨h1, rfl⟩), (⟨h2, HX⟩ | ⟨h2, HX⟩)⟩ := find_cases s t m
  · have hmx : max 1 lo = lo := by omega
    go_enter Tryd.func68, Tryd.ntmps68
    go_wp2_with fail
    go_ret
    exact ⟨ret_int HX.out.symm, rfl⟩
  · have hmx : max 1 lo = lo := by omega
    have g1 := idxS_ge (sfx s (lo.toNat - 1)) (sfx t 0)
    have g2 := idxS_le (sfx s (lo.toNat - 1)) (sfx t 0)
    have g3 : (sfx s (lo.toNat - 1)).length ≤ 1048576 := by simp [sfx]; omega
    have HC := Lib.hid (Index_any (s.extract (lo.toNat - 1) s.size) t w SH.out (by simp; omega))
    rw [sfx_zero, extract_sfx] at HC
    have HN := Lib.hid (@findFrom_neg s t (lo.toNat - 1))
    have HP := Lib.hid (@findFrom_pos s t (lo.toNat - 1))
    generalize idxS (sfx s (lo.toNat - 1)) (sfx t 0) = z at *
    by_cases hz : z < 0
    · go_enter Tryd.func68, Tryd.ntmps68
      go_wp2_with fail
      refine HC.out.mono ?_
      rintro e w' ⟨rfl, rfl⟩
      go_wp2_with fail
      go_ret
      exact ⟨ret_int (by rw [HX.out, HN.out hz]), rfl⟩
    · go_enter Tryd.func68, Tryd.ntmps68
      go_wp2_with fail
      refine HC.out.mono ?_
      rintro e w' ⟨rfl, rfl⟩
      go_wp2_with fail
      go_ret
      exact ⟨ret_int (by rw [HX.out, HP.out hz]; omega), rfl⟩
  · omega
  · have hmx : max 1 m = 1 := by omega
    have g1 := idxS_ge (sfx s 0) (sfx t 0)
    have g2 := idxS_le (sfx s 0) (sfx t 0)
    have g3 : (sfx s 0).length ≤ 1048576 := by simp [sfx]; omega
    have HC := Lib.hid (Index_any s t w SH.out hs)
    have HN := Lib.hid (@findFrom_neg s t 0)
    have HP := Lib.hid (@findFrom_pos s t 0)
    generalize idxS (sfx s 0) (sfx t 0) = z at *
    by_cases hz : z < 0
    · go_enter Tryd.func68, Tryd.ntmps68
      go_wp2_with fail
      refine HC.out.mono ?_
      rintro e w' ⟨rfl, rfl⟩
      go_wp2_with fail
      go_ret
      exact ⟨ret_int (by rw [HX.out]; exact (HN.out hz).symm), rfl⟩
    · go_enter Tryd.func68, Tryd.ntmps68
      go_wp2_with fail
      refine HC.out.mono ?_
      rintro e w' ⟨rfl, rfl⟩
      go_wp2_with fail
      go_ret
      exact ⟨ret_int (by rw [HX.out]; refine Eq.trans ?_ (HP.out hz).symm; simp; omega), rfl⟩

theorem findFrom_step {s t : ByteArray} {p : Nat} (h : p + t.size ≤ s.size) (hp : (sfx t 0).isPrefixOf (sfx s p) = false) : p < s.size ∧ findFrom s t p = findFrom s t (p + 1) := by
  have hlt : p < s.size := by
    rcases Nat.lt_or_ge p s.size with h1 | h1
    · exact h1
    · have ht : t.size = 0 := by omega
      have : sfx t 0 = [] := sfx_ge (by omega)
      rw [this] at hp; simp at hp
  refine ⟨hlt, ?_⟩
  have g := idxS_ge (sfx s (p + 1)) (sfx t 0)
  rw [sfx_lt hlt] at hp
  unfold findFrom
  rw [sfx_lt hlt, idxS_miss hp]
  generalize idxS (sfx s (p + 1)) (sfx t 0) = z at *
  by_cases hz : z < 0
  · rw [if_pos hz, if_pos hz, if_pos (by omega)]
  · rw [if_neg hz, if_neg hz, if_neg (by omega)]; omega

end Go.Proofs.YtkoagpeeohmokaaDoor
