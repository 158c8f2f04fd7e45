/- A struct in memory: its size, its copy, equality; printed by gen_struct.py. -/
import Derived.Test.YtjedmpkjopgklaaGreatDoorStructArgs
import Derived.Test.YtjedmpkjopgklaaGreatDoorStructTools
namespace Go.Proofs.YtjedmpkjopgklaaGreatDoor
open Go.RowKit Go.ChangeShapes Go.WideShapes Go.ChangeAt Go.Deep
set_option linter.unusedVariables false

structure EventV where
  kind : Int
  name : ByteArray
  subsv : Value
  subs : List ByteArray
  value : ByteArray
  n : Int

def EventV.cells (x : EventV) : Array Value := #[.int .i64 x.kind, .string x.name, x.subsv, .string x.value, .int .i64 x.n]

def EventV.At (x : EventV) (w : World) : Prop := StrsAt w w.heap.size x.subsv x.subs ∧ True

def EventV.Own (x : EventV) (w : World) (base : Nat) : Prop := Strs w base x.subsv x.subs ∧ True

def EventV.Ok (x : EventV) (M : Nat) : Prop := x.name.size ≤ M ∧ (x.subs.length ≤ M ∧ ∀ s ∈ x.subs, s.size ≤ M) ∧ x.value.size ≤ M ∧ True

def EventV.dat (x : EventV) : Int × ByteArray × List ByteArray × ByteArray × Int := (x.kind, x.name, x.subs, x.value, x.n)

theorem EventV.At.on {x : EventV} {w w' : World} (h : x.At w) (hb : Below w.heap.size w w') : x.At w' := by
  obtain ⟨hsubs, _⟩ := h
  exact ⟨hsubs.on hb, trivial⟩

theorem EventV.Own.at_ {x : EventV} {w : World} {base : Nat} (h : x.Own w base) : x.At w := by
  obtain ⟨hsubs, _⟩ := h
  exact ⟨hsubs.at_, trivial⟩


end Go.Proofs.YtjedmpkjopgklaaGreatDoor
