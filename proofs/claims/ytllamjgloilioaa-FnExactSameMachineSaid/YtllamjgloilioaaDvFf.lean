/- A chain of 'and's whose rest is passed over once a part of it is false: the rest of a region as one reckoning. -/
import Derived.Test.YtllamjgloilioaaBase
namespace Go.Proofs.Ytllamjgloilioaa
open Go.RowKit
set_option linter.unusedVariables false

/-- The frame behind operations that only hand values on or are shut. -/
def quick (ops : Array Oper) : List Oper → Act → Option Act
  | [], a => some a
  | o :: rest, a =>
    match Region.wanted o (yielded ops a.tmps) with
    | false => quick ops rest (a.put o.dst undef)
    | true =>
      match o.op with
      | .move x => quick ops rest (a.put o.dst (a.eval x))
      | .assign x => quick ops rest (a.put o.dst (a.eval x))
      | .pick c x y =>
        match a.eval c with
        | .bool true => quick ops rest (a.put o.dst (a.eval x))
        | .bool false => quick ops rest (a.put o.dst (a.eval y))
        | _ => none
      | _ => none

theorem wpList_quick {P : Program} {ops : Array Oper} {Q : Exit → Act → World → Prop} {w : World} : ∀ (rest : List Oper) (a a' : Act), quick ops rest a = some a' → Q .normal a' w → wpList P ops Q rest a w
  | [], a, a', h, hQ => by
    injection h with h
    subst h
    exact hQ
  | o :: rest, a, a', h, hQ => by
    unfold quick at h
    cases hw : Region.wanted o (yielded ops a.tmps) with
    | false =>
      rw [hw] at h
      exact wpList_skip hw (wpList_quick rest _ _ h hQ)
    | true =>
      rw [hw] at h
      simp only at h
      unfold wpList
      rw [if_pos hw]
      left
      unfold Oper.wp
      cases ho : o.op <;> rw [ho] at h <;> try (simp only [reduceCtorEq] at h)
      case move x =>
        have e : (execOp a.eval o).run P w = .ok (.value (a.eval x)) w := by simp [execOp, ho]
        rw [e]
        exact wpList_quick rest _ _ h hQ
      case assign x =>
        have e : (execOp a.eval o).run P w = .ok (.value (a.eval x)) w := by simp [execOp, ho]
        rw [e]
        exact wpList_quick rest _ _ h hQ
      case pick c x y =>
        cases hc : a.eval c <;> rw [hc] at h <;> try (simp only [reduceCtorEq] at h)
        case bool b =>
          cases b
          · have e : (execOp a.eval o).run P w = .ok (.value (a.eval y)) w := by simp [execOp, ho, hc, asBool]
            rw [e]
            exact wpList_quick rest _ _ h hQ
          · have e : (execOp a.eval o).run P w = .ok (.value (a.eval x)) w := by simp [execOp, ho, hc, asBool]
            rw [e]
            exact wpList_quick rest _ _ h hQ

/-- The rest of a region reckoned: slot k holds v, nothing is put off. -/
theorem wpList_ff {P : Program} {ops : Array Oper} {Q : Exit → Act → World → Prop} {w : World} {rest : List Oper} {a : Act} {k : Nat} {v : Value} (hq : (quick ops rest a).map (fun a => (a.tmps.getD k undef, a.defers)) = some (v, []))
    (hQ : ∀ a' : Act, a'.tmps.getD k undef = v → a'.defers = [] → Q .normal a' w) : wpList P ops Q rest a w := by
  cases h : quick ops rest a with
  | none => rw [h] at hq; cases hq
  | some a' =>
    rw [h] at hq
    simp only [Option.map_some, Option.some.injEq, Prod.mk.injEq] at hq
    exact wpList_quick rest a a' h (hQ a' hq.1 hq.2)

end Go.Proofs.Ytllamjgloilioaa
