/- impl.NumText and spec.l01Text: each returns numText of the number. -/
import Derived.Test.YtcjlokojppicnaaDoorNumText
import Derived.Test.YtcjlokojppicnaaDoorNum
import Derived.Test.YtcjlokojppicnaaDoorRows
namespace Go.Proofs.YtcjlokojppicnaaDoor
open Go.RowKit
set_option linter.unusedVariables false

/-- The library's table of the powers of 10. -/
def T10 (w : World) : Prop := Lib.TabIs Tryd.prog w "internal/strconv.uint64pow10" .u64 Lib.pow10Tab

theorem T10.below {w w' : World} (h : T10 w) (hb : Below w.heap.size w w') : T10 w' :=
  Joins.var_stays (g := 0) (by kernel_rfl) h hb (Nat.le_refl _)

theorem FormatInt_any (x : Int) (m : Nat) (hx : x = m) (hm : m ≠ 0) (hm2 : m ≤ 1000000000000000000) (w : World) (hT : T10 w) : Calls Tryd.prog 36 #[.int .i64 x, .int .i64 10] w fun e w' => ∃ r : ByteArray, e = .returned (.string r) ∧ r.size ≤ 20 ∧ Hid (r.data.toList = NT.dd m) ∧ Below w.heap.size w w' := by
  subst hx
  refine (Tryd.strconv_FormatInt_10 (m : Int) (by omega) (by omega) w hT).mono fun e w' ⟨he, k, os, hw⟩ => ⟨_, he, ?_, ?_, ?_⟩
  · rw [ba_size]
    show (Lib.itoa m).length ≤ 20
    rw [Lib.itoa_nonneg, ← NT.dd_pos hm]
    exact NT.dd_len 20 m (by omega)
  · show Lib.itoa m = _
    rw [Lib.itoa_nonneg, NT.dd_pos hm]
  · subst hw; exact ⟨rfl, rfl, rfl, by show w.heap.size ≤ (w.heap ++ os).size; rw [Array.size_append]; omega, fun j hj => by show (w.heap ++ os)[j]? = _; rw [Array.getElem?_append_left hj]⟩

def numTextB (n : Int) : List UInt8 := if isNumB n then NT.numText n else []

theorem numText_of (n x : Int) (hn : (n = x ∨ n = -x) ∧ 1 ≤ x ∧ x ≤ 999999999999999999) (L : List UInt8) (a b : Nat) (ha : x / 1000000 = a) (hb : x % 1000000 = b)
    (h : L = (if n < 0 then [45] else []) ++ (NT.dd a ++ if b = 0 then [] else 46 :: NT.fr b)) : L = numTextB n := by
  obtain ⟨m, rfl⟩ : ∃ m : Nat, x = m := ⟨x.toNat, by omega⟩
  have e : NT.magT m = NT.dd a ++ if b = 0 then [] else 46 :: NT.fr b := by
    unfold NT.magT; rw [show m / 1000000 = a by omega, show m % 1000000 = b by omega]
  rw [h, ← e]
  unfold numTextB NT.numText
  rw [isNumB_of (by omega) (by omega), if_pos rfl, if_neg (show ¬ n = 0 by omega)]
  have : n.natAbs = m := by omega
  rw [this]
  by_cases hn0 : n < 0
  · rw [if_pos hn0, if_pos hn0]; rfl
  · rw [if_neg hn0, if_neg hn0]; rfl

theorem tail_fr (r : ByteArray) (b : Nat) (HL : Hid (r.data.toList = NT.dd (1000000 + b))) (h7 : r.size = 7) : (r.extract 1 7).data.toList = (NT.dd (1000000 + b)).drop 1 := by
  rw [← HL.out]
  have : r.data.toList.length = 7 := by rw [← ba_size]; exact h7
  simp [List.extract_eq_take_drop]
  exact List.take_of_length_le (by rw [List.length_tail]; omega)

theorem sz_nil : (⟨#[]⟩ : ByteArray).size = 0 := rfl

theorem sz_one (c : UInt8) : (⟨#[c]⟩ : ByteArray).size = 1 := rfl

end Go.Proofs.YtcjlokojppicnaaDoor
