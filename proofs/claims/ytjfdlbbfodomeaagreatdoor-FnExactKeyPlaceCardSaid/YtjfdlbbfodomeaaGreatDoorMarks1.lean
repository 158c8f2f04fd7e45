/- Marks from one on. -/
import Derived.Test.YtjfdlbbfodomeaaGreatDoorMarks
namespace Go.Proofs.YtjfdlbbfodomeaaGreatDoor
open Go.RowKit
set_option linter.unusedVariables false

theorem mark1 (v : Value) (xs : List ByteArray) (w : World) (base : Nat) (h : Strs w base v xs) (hl : (xs.length : Int) ≤ 1048576) (hbw : base ≤ w.heap.size) :
    Calls Tryz.prog 29 #[v, .int .i64 1] w fun e w' => e = .returned (.int .i64 (1 + xs.length)) ∧ Strs w' base v ((List.range xs.length).map fun i => mtB (1 + i)) ∧ Below base w w' := markStringS_any v xs 1 (by omega) (by decide) w base h hl hbw

theorem held1 (v : Value) (n : Nat) (w : World) (base : Nat) (h : Strs w base v ((List.range n).map fun i => mtB (1 + i))) (hl : (n : Int) ≤ 1048576) :
    Calls Tryz.prog 30 #[v, .int .i64 1] w fun e w' => e = .returned (.int .i64 (1 + n)) ∧ Below w.heap.size w w' := heldStringS_any v n 1 (by omega) (by decide) w base h hl

end Go.Proofs.YtjfdlbbfodomeaaGreatDoor
