/- Patterns, nested at most n deep, as plain data: valid ones, equal ones. -/
import Derived.Test.YtcjlokojppicnaaDoorBase
namespace Go.Proofs.YtcjlokojppicnaaDoor
open Go.RowKit
set_option linter.unusedVariables false

/-- An item: how often, its codes, its text, its other patterns. -/
structure PatC (α : Type) where
  low : Int
  high : Int
  codes : ByteArray
  text : ByteArray
  alts : List α

/-- An item nested at most n deep. -/
def Pat : Nat → Type
  | 0 => Empty
  | n + 1 => PatC (List (Pat n))

theorem pats_zero (xs : List (Pat 0)) : xs = [] := by
  cases xs with
  | nil => rfl
  | cons x r => exact nomatch (show Empty from x)

/-- Lengths of all that it holds are at most M. -/
def PatsOk : (n : Nat) → Nat → List (Pat n) → Prop
  | 0, _, _ => True
  | n + 1, M, xs => xs.length ≤ M ∧ ∀ x : PatC (List (Pat n)), x ∈ (show List (PatC (List (Pat n))) from xs) → x.codes.size ≤ M ∧ x.text.size ≤ M ∧ x.alts.length ≤ M ∧ ∀ ys ∈ x.alts, PatsOk n M ys

def isCode (c : UInt8) : Bool := [65, 67, 69, 76, 78, 80, 85].contains c

/-- The codes rise, behind the code p. -/
def riseGo : UInt8 → List UInt8 → Bool
  | _, [] => true
  | p, c :: r => isCode c && decide (p.toNat < c.toNat) && riseGo c r

def riseB : List UInt8 → Bool
  | [] => true
  | c :: r => isCode c && riseGo c r

/-- How often an item may stand. -/
def timesB (low high : Int) : Bool := decide (0 ≤ low ∧ low ≤ 99) && (decide (high = -1) || decide (low ≤ high ∧ high ≤ 99))

/-- The rest of an item; what its other patterns tell is given. -/
def kindB (codes text : List UInt8) (k : Nat) (deep : Nat) (al : Bool) : Bool :=
  if codes ≠ [] then riseB codes && decide (text = []) && decide (k = 0)
  else if text ≠ [] then decide (text.length ≤ 24) && decide (k = 0)
  else decide (1 ≤ k ∧ k ≤ 8) && decide (0 < deep) && al

/-- A pattern within so many others is valid. -/
def patsB : (n : Nat) → Nat → List (Pat n) → Bool
  | 0, _, _ => false
  | n + 1, deep, xs => decide (1 ≤ xs.length ∧ xs.length ≤ 8) && (show List (PatC (List (Pat n))) from xs).all fun x => timesB x.low x.high && kindB x.codes.data.toList x.text.data.toList x.alts.length deep (x.alts.all (patsB n (deep - 1)))

def patB {n : Nat} (deep : Nat) (x : PatC (List (Pat n))) : Bool := timesB x.low x.high && kindB x.codes.data.toList x.text.data.toList x.alts.length deep (x.alts.all (patsB n (deep - 1)))

theorem patsB_succ {n : Nat} (deep : Nat) (xs : List (PatC (List (Pat n)))) : patsB (n + 1) deep xs = (decide (1 ≤ xs.length ∧ xs.length ≤ 8) && xs.all (patB deep)) := rfl

theorem patsB_nil (n deep : Nat) : patsB n deep [] = false := by cases n <;> rfl

/-- Two lists agree under a test of their elements. -/
def allEq {α : Type} (p : α → α → Bool) : List α → List α → Bool
  | [], [] => true
  | x :: r, y :: s => p x y && allEq p r s
  | _, _ => false

theorem allEq_len {α : Type} {p : α → α → Bool} : ∀ {xs ys : List α}, allEq p xs ys = true → xs.length = ys.length
  | [], [], _ => rfl
  | x :: r, y :: s, h => by
    unfold allEq at h
    rw [Bool.and_eq_true] at h
    simp [allEq_len h.2]
  | [], _ :: _, h => by cases h
  | _ :: _, [], h => by cases h

theorem allEq_ne {α : Type} {p : α → α → Bool} {xs ys : List α} (h : ¬ xs.length = ys.length) : allEq p xs ys = false := by
  cases e : allEq p xs ys
  · rfl
  · exact absurd (allEq_len e) h

theorem allEq_self {α : Type} {p : α → α → Bool} : ∀ {xs : List α}, (∀ x ∈ xs, p x x = true) → allEq p xs xs = true
  | [], _ => rfl
  | x :: r, h => by
    rw [allEq, h x List.mem_cons_self, allEq_self fun y hy => h y (List.mem_cons_of_mem _ hy)]; rfl

/-- Two patterns hold the same. -/
def sameC {n : Nat} (s : List (Pat n) → List (Pat n) → Bool) (x y : PatC (List (Pat n))) : Bool :=
  decide (x.low = y.low) && (decide (x.high = y.high) && (decide (x.codes = y.codes) && (decide (x.text = y.text) && allEq s x.alts y.alts)))

def sameP : (n : Nat) → List (Pat n) → List (Pat n) → Bool
  | 0, _, _ => true
  | n + 1, xs, ys => allEq (α := PatC (List (Pat n))) (sameC (sameP n)) xs ys

theorem sameP_self : ∀ (n : Nat) (xs : List (Pat n)), sameP n xs xs = true
  | 0, _ => rfl
  | n + 1, xs => allEq_self fun x _ => by
    unfold sameC
    rw [decide_eq_true rfl, decide_eq_true rfl, decide_eq_true rfl, decide_eq_true rfl, allEq_self fun y _ => sameP_self n y]; rfl

end Go.Proofs.YtcjlokojppicnaaDoor
