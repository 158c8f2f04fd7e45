/- PatternText: small plain lemmas for both sides. -/
import Derived.Test.YtcjlokojppicnaaDoorPtMath
namespace Go.Proofs.YtcjlokojppicnaaDoor
open Go.RowKit
set_option linter.unusedVariables false

theorem txtNe {a b : ByteArray} (h : ¬ a = b) : (a.toList == b.toList) = false := by
  rw [ba_toList, ba_toList]; exact beq_eq_false_iff_ne.2 (fun e => h (ba_ext e))

theorem parG_snoc : ∀ (b : Bool) (ts : List (List UInt8)) (t : List UInt8), parG b (ts ++ [t]) = parG b ts ++ ((if ts = [] ∧ b = true then 40 else 44) :: t)
  | b, [], t => by cases b <;> simp [parG]
  | b, s :: r, t => by
    rw [List.cons_append, parG, parG_snoc false r t, parG]
    simp

theorem take_flat {α : Type} (f : α → List UInt8) (xs : List α) (k : Nat) (hk : k < xs.length) : (xs.take (k + 1)).flatMap f = (xs.take k).flatMap f ++ f xs[k] := by
  rw [List.take_succ_eq_append_getElem hk, List.flatMap_append]; simp

end Go.Proofs.YtcjlokojppicnaaDoor
