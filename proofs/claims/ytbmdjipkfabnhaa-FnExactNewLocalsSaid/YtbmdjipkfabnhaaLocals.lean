/- NewLocals: nothing is in it: each list of the law's own functions is nil. -/
import Derived.Test.YtbmdjipkfabnhaaStructArgs
import Derived.Lib.SmallJoins
import Derived.Laws.Rows
namespace Go.Proofs.Ytbmdjipkfabnhaa
open Go.RowKit
set_option linter.unusedVariables false

theorem eqBindS_nil (w : World) : Calls Try.prog 33 #[.slice none 0 0, .slice none 0 0] w fun e w' => e = .returned (.bool true) ∧ w = w' := by
  go_enter Try.func33, Try.ntmps33
  go_wp2
  go_loop [5] (fun i => i = .int .i64 0) (fun _ => 0)
  case atStart => rfl
  case round =>
    subst hrel
    go_wp2
    go_ret
    exact ⟨rfl, rfl⟩

theorem eqCellS_nil (w : World) : Calls Try.prog 34 #[.slice none 0 0, .slice none 0 0] w fun e w' => e = .returned (.bool true) ∧ w = w' := by
  go_enter Try.func34, Try.ntmps34
  go_wp2
  go_loop [5] (fun i => i = .int .i64 0) (fun _ => 0)
  case atStart => rfl
  case round =>
    subst hrel
    go_wp2
    go_ret
    exact ⟨rfl, rfl⟩

theorem eqLevelS_nil (w : World) : Calls Try.prog 35 #[.slice none 0 0, .slice none 0 0] w fun e w' => e = .returned (.bool true) ∧ w = w' := by
  go_enter Try.func35, Try.ntmps35
  go_wp2
  go_loop [5] (fun i => i = .int .i64 0) (fun _ => 0)
  case atStart => rfl
  case round =>
    subst hrel
    go_wp2
    go_ret
    exact ⟨rfl, rfl⟩

theorem markBindS_nil (w : World) : Calls Try.prog 36 #[.slice none 0 0, .int .i64 1] w fun e w' => e = .returned (.int .i64 1) ∧ w = w' := by
  go_enter Try.func36, Try.ntmps36
  go_wp2
  go_loop [1, 5] (fun k i => k = .int .i64 1 ∧ i = .int .i64 0) (fun _ _ => 0)
  case atStart => exact ⟨rfl, rfl⟩
  case round =>
    obtain ⟨rfl, rfl⟩ := hrel
    go_wp2
    go_ret
    exact ⟨rfl, rfl⟩

theorem markCellS_nil (w : World) : Calls Try.prog 37 #[.slice none 0 0, .int .i64 1] w fun e w' => e = .returned (.int .i64 1) ∧ w = w' := by
  go_enter Try.func37, Try.ntmps37
  go_wp2
  go_loop [1, 5] (fun k i => k = .int .i64 1 ∧ i = .int .i64 0) (fun _ _ => 0)
  case atStart => exact ⟨rfl, rfl⟩
  case round =>
    obtain ⟨rfl, rfl⟩ := hrel
    go_wp2
    go_ret
    exact ⟨rfl, rfl⟩

theorem markLevelS_nil (w : World) : Calls Try.prog 38 #[.slice none 0 0, .int .i64 1] w fun e w' => e = .returned (.int .i64 1) ∧ w = w' := by
  go_enter Try.func38, Try.ntmps38
  go_wp2
  go_loop [1, 5] (fun k i => k = .int .i64 1 ∧ i = .int .i64 0) (fun _ _ => 0)
  case atStart => exact ⟨rfl, rfl⟩
  case round =>
    obtain ⟨rfl, rfl⟩ := hrel
    go_wp2
    go_ret
    exact ⟨rfl, rfl⟩

theorem heldBindS_nil (w : World) : Calls Try.prog 39 #[.slice none 0 0, .int .i64 1] w fun e w' => e = .returned (.int .i64 1) ∧ w = w' := by
  go_enter Try.func39, Try.ntmps39
  go_wp2
  go_loop [1, 5] (fun k i => k = .int .i64 1 ∧ i = .int .i64 0) (fun _ _ => 0)
  case atStart => exact ⟨rfl, rfl⟩
  case round =>
    obtain ⟨rfl, rfl⟩ := hrel
    go_wp2
    go_ret
    exact ⟨rfl, rfl⟩

theorem heldCellS_nil (w : World) : Calls Try.prog 40 #[.slice none 0 0, .int .i64 1] w fun e w' => e = .returned (.int .i64 1) ∧ w = w' := by
  go_enter Try.func40, Try.ntmps40
  go_wp2
  go_loop [1, 5] (fun k i => k = .int .i64 1 ∧ i = .int .i64 0) (fun _ _ => 0)
  case atStart => exact ⟨rfl, rfl⟩
  case round =>
    obtain ⟨rfl, rfl⟩ := hrel
    go_wp2
    go_ret
    exact ⟨rfl, rfl⟩

theorem heldLevelS_nil (w : World) : Calls Try.prog 41 #[.slice none 0 0, .int .i64 1] w fun e w' => e = .returned (.int .i64 1) ∧ w = w' := by
  go_enter Try.func41, Try.ntmps41
  go_wp2
  go_loop [1, 5] (fun k i => k = .int .i64 1 ∧ i = .int .i64 0) (fun _ _ => 0)
  case atStart => exact ⟨rfl, rfl⟩
  case round =>
    obtain ⟨rfl, rfl⟩ := hrel
    go_wp2
    go_ret
    exact ⟨rfl, rfl⟩

theorem sNewLocals_any (w : World) : Calls Try.prog 8 #[] w fun e w' => e = .returned (.agg #[.int .i64 1, .slice none 0 0, .slice none 0 0, .slice none 0 0]) ∧ Below w.heap.size w w' := by
  go_enter Try.func8, Try.ntmps8
  go_wp2
  refine bodyPost_ret (results_cell_row rfl _ _ w.heap.size 26 #[.int .i64 1, .slice none 0 0, .slice none 0 0, .slice none 0 0] (0, 0) _ rfl ?_ Try.underlying26 rfl (by kernel_rfl)) rfl ⟨rfl, Joins.below_alloc1 w _⟩
  exact heap_alloc_new _ _

theorem iNewLocals_any (w : World) : Calls Try.prog 9 #[] w fun e w' => e = .returned (.agg #[.int .i64 1, .slice none 0 0, .slice none 0 0, .slice none 0 0]) ∧ Below w.heap.size w w' := by
  go_enter Try.func9, Try.ntmps9
  go_wp2
  refine bodyPost_ret (results_cell_row rfl _ _ w.heap.size 26 #[.int .i64 1, .slice none 0 0, .slice none 0 0, .slice none 0 0] (0, 0) _ rfl ?_ Try.underlying26 rfl (by kernel_rfl)) rfl ⟨rfl, Joins.below_alloc1 w _⟩
  exact heap_alloc_new _ _

theorem eqLocals_nil (w : World) : Calls Try.prog 10 #[.agg #[.int .i64 1, .slice none 0 0, .slice none 0 0, .slice none 0 0], .agg #[.int .i64 1, .slice none 0 0, .slice none 0 0, .slice none 0 0]] w fun e w' => e = .returned (.bool true) ∧ Below w.heap.size w w' := by
  go_enter Try.func10, Try.ntmps10
  go_wp2_with (first | (go_at_call 33; refine (eqBindS_nil _).mono ?_; rintro e w' ⟨rfl, rfl⟩) | (go_at_call 34; refine (eqCellS_nil _).mono ?_; rintro e w' ⟨rfl, rfl⟩) | (go_at_call 35; refine (eqLevelS_nil _).mono ?_; rintro e w' ⟨rfl, rfl⟩))
  go_ret
  exact ⟨rfl, Joins.below_alloc2 w _ _⟩

theorem markLocals_nil (w : World) : Calls Try.prog 11 #[.agg #[.int .i64 1, .slice none 0 0, .slice none 0 0, .slice none 0 0], .int .i64 1] w fun e w' => e = .returned (.int .i64 1) ∧ Below w.heap.size w w' := by
  go_enter Try.func11, Try.ntmps11
  go_wp2_with (first | (go_at_call 36; refine (markBindS_nil _).mono ?_; rintro e w' ⟨rfl, rfl⟩) | (go_at_call 37; refine (markCellS_nil _).mono ?_; rintro e w' ⟨rfl, rfl⟩) | (go_at_call 38; refine (markLevelS_nil _).mono ?_; rintro e w' ⟨rfl, rfl⟩))
  go_ret
  exact ⟨rfl, Joins.below_alloc1 w _⟩

theorem heldLocals_nil (w : World) : Calls Try.prog 12 #[.agg #[.int .i64 1, .slice none 0 0, .slice none 0 0, .slice none 0 0], .int .i64 1] w fun e w' => e = .returned (.int .i64 1) ∧ Below w.heap.size w w' := by
  go_enter Try.func12, Try.ntmps12
  go_wp2_with (first | (go_at_call 39; refine (heldBindS_nil _).mono ?_; rintro e w' ⟨rfl, rfl⟩) | (go_at_call 40; refine (heldCellS_nil _).mono ?_; rintro e w' ⟨rfl, rfl⟩) | (go_at_call 41; refine (heldLevelS_nil _).mono ?_; rintro e w' ⟨rfl, rfl⟩))
  go_ret
  exact ⟨rfl, Joins.below_alloc1 w _⟩

abbrev locV : Array Value := #[.int .i64 1, .slice none 0 0, .slice none 0 0, .slice none 0 0]

def LocAt (w : World) (g : Nat) : Prop := CellsAt w g locV.toList

theorem LocAt.four {w : World} {g : Nat} (h : LocAt w g) : w.cell? ⟨g, 0, none⟩ = some (.int .i64 1) ∧ w.cell? ⟨g, 1, none⟩ = some (.slice none 0 0) ∧ w.cell? ⟨g, 2, none⟩ = some (.slice none 0 0) ∧ w.cell? ⟨g, 3, none⟩ = some (.slice none 0 0) :=
  ⟨h.2 0 _ rfl, h.2 1 _ rfl, h.2 2 _ rfl, h.2 3 _ rfl⟩

theorem LocAt.new (w : World) : LocAt (w.alloc (.cells #[.int .i64 1, .slice none 0 0, .slice none 0 0, .slice none 0 0] 26)) w.heap.size := CellsAt.new w _ _

theorem NewLocals_walk (w : World) : Calls Try.prog 3 #[] w fun e w' => e = .returned (.bool true) ∧ Below w.heap.size w w' := by
  go_enter Try.func3, Try.ntmps3
  go_wp2_with fail
  refine (sNewLocals_any _).mono ?_
  rintro e w1 ⟨rfl, b1⟩
  have L1 := Lib.hid (LocAt.new w1)
  have B1 : Below w.heap.size w (w1.alloc (.cells #[.int .i64 1, .slice none 0 0, .slice none 0 0, .slice none 0 0] 26)) := below_trans b1 (Joins.below_alloc1 w1 _)
  clear b1
  go_wp2_with fail
  refine (iNewLocals_any _).mono ?_
  rintro e w2 ⟨rfl, b2⟩
  have L2 := Lib.hid (LocAt.new w2)
  have L1b := Lib.hid ((L1.out.below b2).below (Joins.below_alloc1 w2 (.cells #[.int .i64 1, .slice none 0 0, .slice none 0 0, .slice none 0 0] 26)))
  have B2 := below_trans B1 (below_trans b2 (Joins.below_alloc1 w2 (.cells #[.int .i64 1, .slice none 0 0, .slice none 0 0, .slice none 0 0] 26)))
  clear b2 L1 B1
  obtain ⟨c0, c1, c2, c3⟩ := LocAt.four L2.out
  obtain ⟨d0, d1, d2, d3⟩ := LocAt.four L1b.out
  go_wp2_with fail
  refine (eqLocals_nil _).mono ?_
  rintro e w3 ⟨rfl, b3⟩
  have L3 := Lib.hid (L2.out.below b3)
  have L1c := Lib.hid (L1b.out.below b3)
  have B3 := below_trans B2 b3
  clear b3 c0 c1 c2 c3 d0 d1 d2 d3 L2 L1b B2
  obtain ⟨c0, c1, c2, c3⟩ := LocAt.four L3.out
  go_wp2_with fail
  refine (markLocals_nil _).mono ?_
  rintro e w4 ⟨rfl, b4⟩
  have L4 := Lib.hid (L3.out.below b4)
  have L1d := Lib.hid (L1c.out.below b4)
  have B4 := below_trans B3 b4
  clear b4 c0 c1 c2 c3 L3 L1c B3
  obtain ⟨c0, c1, c2, c3⟩ := LocAt.four L4.out
  go_wp2_with fail
  refine (heldLocals_nil _).mono ?_
  rintro e w5 ⟨rfl, b5⟩
  have L5 := Lib.hid (L4.out.below b5)
  have L1e := Lib.hid (L1d.out.below b5)
  have B5 := below_trans B4 b5
  clear b5 c0 c1 c2 c3 L4 L1d B4
  go_wp2_with fail
  refine (iNewLocals_any _).mono ?_
  rintro e w6 ⟨rfl, b6⟩
  have L6 := Lib.hid ((L5.out.below b6).below (Joins.below_alloc1 w6 (.cells #[.int .i64 1, .slice none 0 0, .slice none 0 0, .slice none 0 0] 26)))
  have L1f := Lib.hid ((L1e.out.below b6).below (Joins.below_alloc1 w6 (.cells #[.int .i64 1, .slice none 0 0, .slice none 0 0, .slice none 0 0] 26)))
  have LH := Lib.hid (LocAt.new w6)
  have B6 := below_trans B5 (below_trans b6 (Joins.below_alloc1 w6 (.cells #[.int .i64 1, .slice none 0 0, .slice none 0 0, .slice none 0 0] 26)))
  clear b6 L5 L1e B5
  obtain ⟨c0, c1, c2, c3⟩ := LocAt.four LH.out
  obtain ⟨d0, d1, d2, d3⟩ := LocAt.four L1f.out
  go_wp2_with fail
  refine (eqLocals_nil _).mono ?_
  rintro e w7 ⟨rfl, b7⟩
  have L7 := Lib.hid (L6.out.below b7)
  have B7 := below_trans B6 b7
  clear b7 c0 c1 c2 c3 d0 d1 d2 d3 L6 L1f LH B6
  obtain ⟨c0, c1, c2, c3⟩ := LocAt.four L7.out
  go_wp2_with fail
  refine (heldLocals_nil _).mono ?_
  rintro e w8 ⟨rfl, b8⟩
  clear c0 c1 c2 c3
  go_wp2_with fail
  go_ret
  exact ⟨rfl, below_trans B7 b8⟩

end Go.Proofs.Ytbmdjipkfabnhaa
