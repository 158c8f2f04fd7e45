/- Flat structs: their copies. (printed by gen_dv.py) -/
import Derived.Test.YtllamjgloilioaaDvFlat
import Derived.Test.YtllamjgloilioaaDv3
namespace Go.Proofs.Ytllamjgloilioaa
open Go.RowKit Go.ChangeShapes Go.WideShapes Go.ChangeAt Go.Deep
set_option linter.unusedVariables false
set_option linter.unusedSimpArgs false

set_option maxHeartbeats 4000000 in
set_option maxRecDepth 8000 in
theorem toBind_dv (cs : List Value) (d : DV) (w : World) (h : At w tyBind cs d) (hf : Fits 1048576 d) :
    Calls Try.prog 70 #[.agg cs.toArray] w fun e w' => ∃ cs' : List Value, e = .returned (.agg cs'.toArray) ∧ Rd w' w.heap.size w'.heap.size tyBind cs' d ∧ Below w.heap.size w w' := by
  obtain ⟨name, cell, rfl, rfl⟩ := Rd.invBind h
  clear hf
  have hba : Hid (Below w.heap.size w (((w.alloc (.cells #[.string name, .int .i64 cell] 116)).alloc (.cells #[.string name, .int .i64 cell] 106)).alloc (.cells #[.string name, .int .i64 cell] 106))) := Joins.below_alloc3 w _ _ _
  go_enter Try.func70, Try.ntmps70
  go_wp2_with fail
  refine bodyPost_ret (results_cell_row rfl _ _ (w.heap.size + 1) 106 #[.string name, .int .i64 cell] (0, 0) _ rfl ?_ Try.underlying106 rfl (by kernel_rfl)) rfl ⟨[.string name, .int .i64 cell], rfl, Rd.mkBind, hba.out⟩
  rw [Below.heap_alloc _ _ _ (by simp), show w.heap.size + 1 = (w.alloc (.cells #[.string name, .int .i64 cell] 116)).heap.size by simp]
  exact heap_alloc_new _ _

set_option maxHeartbeats 4000000 in
set_option maxRecDepth 8000 in
theorem toGiven_dv (cs : List Value) (d : DV) (w : World) (h : At w tyGiven cs d) (hf : Fits 1048576 d) :
    Calls Try.prog 47 #[.agg cs.toArray] w fun e w' => ∃ cs' : List Value, e = .returned (.agg cs'.toArray) ∧ Rd w' w.heap.size w'.heap.size tyGiven cs' d ∧ Below w.heap.size w w' := by
  obtain ⟨byref, text, rfl, rfl⟩ := Rd.invGiven h
  clear hf
  have hba : Hid (Below w.heap.size w (((w.alloc (.cells #[.bool byref, .string text] 81)).alloc (.cells #[.bool byref, .string text] 71)).alloc (.cells #[.bool byref, .string text] 71))) := Joins.below_alloc3 w _ _ _
  go_enter Try.func47, Try.ntmps47
  go_wp2_with fail
  refine bodyPost_ret (results_cell_row rfl _ _ (w.heap.size + 1) 71 #[.bool byref, .string text] (0, 0) _ rfl ?_ Try.underlying71 rfl (by kernel_rfl)) rfl ⟨[.bool byref, .string text], rfl, Rd.mkGiven, hba.out⟩
  rw [Below.heap_alloc _ _ _ (by simp), show w.heap.size + 1 = (w.alloc (.cells #[.bool byref, .string text] 81)).heap.size by simp]
  exact heap_alloc_new _ _

set_option maxHeartbeats 4000000 in
set_option maxRecDepth 8000 in
theorem toLoop_dv (cs : List Value) (d : DV) (w : World) (h : At w tyLoop cs d) (hf : Fits 1048576 d) :
    Calls Try.prog 48 #[.agg cs.toArray] w fun e w' => ∃ cs' : List Value, e = .returned (.agg cs'.toArray) ∧ Rd w' w.heap.size w'.heap.size tyLoop cs' d ∧ Below w.heap.size w w' := by
  obtain ⟨name, step, limit, has, next, fin, rfl, rfl⟩ := Rd.invLoop h
  clear hf
  have hba : Hid (Below w.heap.size w (((w.alloc (.cells #[.string name, .int .i64 step, .int .i64 limit, .bool has, .int .i64 next, .int .i64 fin] 83)).alloc (.cells #[.string name, .int .i64 step, .int .i64 limit, .bool has, .int .i64 next, .int .i64 fin] 74)).alloc (.cells #[.string name, .int .i64 step, .int .i64 limit, .bool has, .int .i64 next, .int .i64 fin] 74))) := Joins.below_alloc3 w _ _ _
  go_enter Try.func48, Try.ntmps48
  go_wp2_with fail
  refine bodyPost_ret (results_cell_row rfl _ _ (w.heap.size + 1) 74 #[.string name, .int .i64 step, .int .i64 limit, .bool has, .int .i64 next, .int .i64 fin] (0, 0) _ rfl ?_ Try.underlying74 rfl (by kernel_rfl)) rfl ⟨[.string name, .int .i64 step, .int .i64 limit, .bool has, .int .i64 next, .int .i64 fin], rfl, Rd.mkLoop, hba.out⟩
  rw [Below.heap_alloc _ _ _ (by simp), show w.heap.size + 1 = (w.alloc (.cells #[.string name, .int .i64 step, .int .i64 limit, .bool has, .int .i64 next, .int .i64 fin] 83)).heap.size by simp]
  exact heap_alloc_new _ _

set_option maxHeartbeats 4000000 in
set_option maxRecDepth 8000 in
theorem toFrame_dv (cs : List Value) (d : DV) (w : World) (h : At w tyFrame cs d) (hf : Fits 1048576 d) :
    Calls Try.prog 49 #[.agg cs.toArray] w fun e w' => ∃ cs' : List Value, e = .returned (.agg cs'.toArray) ∧ Rd w' w.heap.size w'.heap.size tyFrame cs' d ∧ Below w.heap.size w w' := by
  obtain ⟨ret, value, test, stack, refs, args, loops, trap, routine, rfl, rfl⟩ := Rd.invFrame h
  clear hf
  have hba : Hid (Below w.heap.size w (((w.alloc (.cells #[.int .i64 ret, .bool value, .bool test, .int .i64 stack, .int .i64 refs, .int .i64 args, .int .i64 loops, .string trap, .string routine] 85)).alloc (.cells #[.int .i64 ret, .bool value, .bool test, .int .i64 stack, .int .i64 refs, .int .i64 args, .int .i64 loops, .string trap, .string routine] 77)).alloc (.cells #[.int .i64 ret, .bool value, .bool test, .int .i64 stack, .int .i64 refs, .int .i64 args, .int .i64 loops, .string trap, .string routine] 77))) := Joins.below_alloc3 w _ _ _
  go_enter Try.func49, Try.ntmps49
  go_wp2_with fail
  refine bodyPost_ret (results_cell_row rfl _ _ (w.heap.size + 1) 77 #[.int .i64 ret, .bool value, .bool test, .int .i64 stack, .int .i64 refs, .int .i64 args, .int .i64 loops, .string trap, .string routine] (0, 0) _ rfl ?_ Try.underlying77 rfl (by kernel_rfl)) rfl ⟨[.int .i64 ret, .bool value, .bool test, .int .i64 stack, .int .i64 refs, .int .i64 args, .int .i64 loops, .string trap, .string routine], rfl, Rd.mkFrame, hba.out⟩
  rw [Below.heap_alloc _ _ _ (by simp), show w.heap.size + 1 = (w.alloc (.cells #[.int .i64 ret, .bool value, .bool test, .int .i64 stack, .int .i64 refs, .int .i64 args, .int .i64 loops, .string trap, .string routine] 85)).heap.size by simp]
  exact heap_alloc_new _ _

end Go.Proofs.Ytllamjgloilioaa
