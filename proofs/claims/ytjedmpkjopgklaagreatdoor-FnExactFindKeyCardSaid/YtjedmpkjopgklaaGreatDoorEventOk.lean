/- EventOk: impl's side. -/
import Derived.Test.YtjedmpkjopgklaaGreatDoorEventS
import Derived.Test.YtjedmpkjopgklaaGreatDoorOrdb
import Derived.Test.YtjedmpkjopgklaaGreatDoorLoc
import Derived.Test.YtjedmpkjopgklaaGreatDoorGetB
namespace Go.Proofs.YtjedmpkjopgklaaGreatDoor
open Go.RowKit Go.ChangeShapes Go.WideShapes Go.ChangeAt Go.Deep
set_option linter.unusedVariables false

def inB3 (n a b : Int) : Bool := decide (a ≤ n ∧ n ≤ b)

theorem within_any (n a b : Int) (w : World) : Calls Tryz.prog 63 #[.int .i64 n, .int .i64 a, .int .i64 b] w fun e w' => e = .returned (.bool (inB3 n a b)) ∧ w = w' := by
  have HV : Hid (inB3 n a b = (decide (a ≤ n) && decide (n ≤ b))) := by show _ = _; unfold inB3; simp
  by_cases h1 : a ≤ n
  · have HH : Hid (a ≤ n) := h1
    go_enter Tryz.func63, Tryz.ntmps63
    go_wp2
    go_ret
    exact ⟨ret_bool (by rw [HV.out, decide_eq_true HH.out]; simp), rfl⟩
  · have HH : Hid (¬ a ≤ n) := h1
    go_enter Tryz.func63, Tryz.ntmps63
    go_wp2
    go_ret
    exact ⟨ret_bool (by rw [HV.out, show decide (a ≤ n) = false from decide_eq_false (by have := HH.out; omega)]; rfl), rfl⟩

def cntB (n : Int) : Bool := (n == 0) || ((n == 1) || ((n == 10) || (n == 11)))

/-- Whether there are no subscripts, in the walk's spellings. -/
theorem lenForms (xs : List ByteArray) : (((xs.length : Int) == 0) = true ∧ (xs.length == 0) = true ∧ Hid (xs.isEmpty = true)) ∨ (((xs.length : Int) == 0) = false ∧ (xs.length == 0) = false ∧ Hid (xs.isEmpty = false)) := by
  cases xs with
  | nil => exact .inl ⟨rfl, rfl, rfl⟩
  | cons a r => exact .inr ⟨by simp; omega, by simp, rfl⟩

def empB (s : ByteArray) : Bool := decide (s.size = 0)

def noFB (x : EventV) : Bool := empB x.name && (x.subs.isEmpty && empB x.value)

def whB (s : ByteArray) : Bool := canon s && (decide (0 ≤ NM.numOf s.data.toList) && (NM.numOf s.data.toList % 1000000 == 0))

def qryB (x : EventV) : Bool := locOk x.name x.subs && (((x.n == 1) && (getB x.value.data.toList).isSome) || ((x.n == 0) && empB x.value))

end Go.Proofs.YtjedmpkjopgklaaGreatDoor
