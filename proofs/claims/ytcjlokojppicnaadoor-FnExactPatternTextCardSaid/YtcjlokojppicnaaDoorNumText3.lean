/- spec.l01Text; the walk of NumText. -/
import Derived.Test.YtcjlokojppicnaaDoorNumText2
namespace Go.Proofs.YtcjlokojppicnaaDoor
open Go.RowKit
set_option linter.unusedVariables false

def posText (x : Int) (a b : Nat) : List UInt8 := if x = 0 then [48] else NT.dd a ++ if b = 0 then [] else 46 :: NT.fr b

def szOf : Value → Nat
  | .string s => s.size
  | _ => 0

theorem fr_round (f : ByteArray) (b : Nat) (h1 : 1 ≤ f.size) (HF : Hid (NT.fr b = Lib.trimRightB f.data.toList 48)) (hne : NT.fr b ≠ []) (hlt : f.size - 1 < f.size) :
    (((f[f.size - 1].toNat : Int) == 48) = true ∧ 2 ≤ f.size ∧ Hid (NT.fr b = Lib.trimRightB (f.extract 0 (f.size - 1)).data.toList 48)) ∨
    (((f[f.size - 1].toNat : Int) == 48) = false ∧ Hid (NT.fr b = f.data.toList)) := by
  have hl : f.data.toList.length = f.size := (ba_size f).symm
  have hd : f.data.toList.drop (f.size - 1) = [f[f.size - 1]] := by
    rw [List.drop_eq_getElem_cons (by omega), List.drop_eq_nil_of_le (by omega)]; rfl
  have hs : f.data.toList = f.data.toList.take (f.size - 1) ++ [f[f.size - 1]] := by
    rw [← hd, List.take_append_drop]
  have he : (f.extract 0 (f.size - 1)).data.toList = f.data.toList.take (f.size - 1) := by simp; rw [List.dropLast_eq_take, hl]
  have ht : NT.fr b = if f[f.size - 1] = 48 then Lib.trimRightB (f.data.toList.take (f.size - 1)) 48 else f.data.toList := by
    rw [HF.out, hs, NT.trim_snoc, ← hs]
  rcases eqForms (f[f.size - 1].toNat : Int) 48 with ⟨e1, e2, e3⟩ | ⟨e1, e2, e3⟩
  · left
    have hc : f[f.size - 1] = 48 := u8_of_nat (n := 48) (by simpa using e1) (by omega)
    rw [if_pos hc] at ht
    refine ⟨e1, ?_, by show _ = _; rw [he]; exact ht⟩
    rcases Nat.lt_or_ge 1 f.size with h | h
    · exact h
    · exfalso; apply hne; rw [ht, show f.size - 1 = 0 by omega]; rfl
  · right
    have hc : f[f.size - 1] ≠ 48 := fun e => by rw [e] at e1; cases e1
    rw [if_neg hc] at ht
    exact ⟨e1, ht⟩

theorem numText_pos (x : Int) (hx0 : 0 ≤ x) (hx1 : x ≤ 999999999999999999) (a b : Nat) (ha : x / 1000000 = a) (hb : x % 1000000 = b) : posText x a b = numTextB x := by
  unfold posText
  by_cases h : x = 0
  · subst h; rw [if_pos rfl]; rfl
  · rw [if_neg h]
    exact numText_of x x ⟨.inl rfl, by omega, hx1⟩ _ a b ha hb (by rw [if_neg (show ¬ x < 0 by omega), List.nil_append])

theorem numText_neg (x : Int) (hx0 : 0 < x) (hx1 : x ≤ 999999999999999999) (a b : Nat) (ha : x / 1000000 = a) (hb : x % 1000000 = b) (L : List UInt8) (hL : L = 45 :: posText x a b) : L = numTextB (-x) := by
  rw [hL]
  unfold posText
  rw [if_neg (show ¬ x = 0 by omega)]
  exact numText_of (-x) x ⟨.inr rfl, by omega, hx1⟩ _ a b ha hb (by rw [if_pos (show -x < 0 by omega)]; rfl)

theorem T10.of_laid {w : World} (hL : laidMetH Tryd.prog Rows.fnExactPatternTextRow.laid w) : T10 w := by
  have h : laidMet Tryd.prog Rows.fnExactPatternTextRow.laid w := hL
  have h3 := laidMet.tail (laidMet.tail h)
  exact Lib.tabIs_of_head (k := .u64) (zs := Lib.pow10Tab) (g := 0) (by kernel_rfl) (by kernel_rfl) Tryd.underlying90 Tryd.underlying79 (by kernel_rfl) (by kernel_rfl) h3

end Go.Proofs.YtcjlokojppicnaaDoor
