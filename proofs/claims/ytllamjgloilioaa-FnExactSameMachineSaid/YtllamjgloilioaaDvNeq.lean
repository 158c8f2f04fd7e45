/- Flat structs held against each other; slices.Equal of them. (printed by gen_dv.py) -/
import Derived.Test.YtllamjgloilioaaDvFlatS
import Derived.Laws.StructEq
namespace Go.Proofs.Ytllamjgloilioaa
open Go.RowKit Go.ChangeShapes Go.WideShapes Go.ChangeAt Go.Deep
set_option linter.unusedVariables false
set_option linter.unusedSimpArgs false

set_option maxRecDepth 8000 in
set_option maxHeartbeats 1000000 in
theorem neqBind_run (name name2 : ByteArray) (cell cell2 : Int) (w : World) : (binOp .neq 106 (.agg #[.string name, .int .i64 cell]) (.agg #[.string name2, .int .i64 cell2])).run Try.prog w = .ok (.bool (!(decide (name = name2 ∧ cell = cell2)))) w := by
  by_cases h_name : name = name2
  rotate_left
  · have e1 : (name.toList == name2.toList) = false := by rw [ba_toList, ba_toList]; exact beq_eq_false_iff_ne.2 (fun h => h_name (ba_ext h))
    simp only [run_neq_struct]
    go_simp
    all_goals (first | done | (repeat' split) <;> simp_all)
  subst h_name
  simp only [run_neq_struct]
  go_simp
  all_goals (first | done | (repeat' split) <;> simp_all)

set_option maxRecDepth 8000 in
set_option maxHeartbeats 1000000 in
theorem eqlBind_run (name name2 : ByteArray) (cell cell2 : Int) (w : World) : (binOp .eql 106 (.agg #[.string name, .int .i64 cell]) (.agg #[.string name2, .int .i64 cell2])).run Try.prog w = .ok (.bool ((decide (name = name2 ∧ cell = cell2)))) w := by
  by_cases h_name : name = name2
  rotate_left
  · have e1 : (name.toList == name2.toList) = false := by rw [ba_toList, ba_toList]; exact beq_eq_false_iff_ne.2 (fun h => h_name (ba_ext h))
    simp only [run_eql_struct]
    go_simp
    all_goals (first | done | (repeat' split) <;> simp_all)
  subst h_name
  simp only [run_eql_struct]
  go_simp
  all_goals (first | done | (repeat' split) <;> simp_all)

set_option maxRecDepth 8000 in
set_option maxHeartbeats 1000000 in
theorem neqGiven_run (byref byref2 : Bool) (text text2 : ByteArray) (w : World) : (binOp .neq 71 (.agg #[.bool byref, .string text]) (.agg #[.bool byref2, .string text2])).run Try.prog w = .ok (.bool (!(decide (byref = byref2 ∧ text = text2)))) w := by
  by_cases h_text : text = text2
  rotate_left
  · have e1 : (text.toList == text2.toList) = false := by rw [ba_toList, ba_toList]; exact beq_eq_false_iff_ne.2 (fun h => h_text (ba_ext h))
    simp only [run_neq_struct]
    go_simp
    all_goals (first | done | (repeat' split) <;> simp_all)
  subst h_text
  simp only [run_neq_struct]
  go_simp
  all_goals (first | done | (repeat' split) <;> simp_all)

set_option maxRecDepth 8000 in
set_option maxHeartbeats 1000000 in
theorem eqlGiven_run (byref byref2 : Bool) (text text2 : ByteArray) (w : World) : (binOp .eql 71 (.agg #[.bool byref, .string text]) (.agg #[.bool byref2, .string text2])).run Try.prog w = .ok (.bool ((decide (byref = byref2 ∧ text = text2)))) w := by
  by_cases h_text : text = text2
  rotate_left
  · have e1 : (text.toList == text2.toList) = false := by rw [ba_toList, ba_toList]; exact beq_eq_false_iff_ne.2 (fun h => h_text (ba_ext h))
    simp only [run_eql_struct]
    go_simp
    all_goals (first | done | (repeat' split) <;> simp_all)
  subst h_text
  simp only [run_eql_struct]
  go_simp
  all_goals (first | done | (repeat' split) <;> simp_all)

set_option maxRecDepth 8000 in
set_option maxHeartbeats 1000000 in
theorem neqLoop_run (name name2 : ByteArray) (step step2 : Int) (limit limit2 : Int) (has has2 : Bool) (next next2 : Int) (fin fin2 : Int) (w : World) : (binOp .neq 74 (.agg #[.string name, .int .i64 step, .int .i64 limit, .bool has, .int .i64 next, .int .i64 fin]) (.agg #[.string name2, .int .i64 step2, .int .i64 limit2, .bool has2, .int .i64 next2, .int .i64 fin2])).run Try.prog w = .ok (.bool (!(decide (name = name2 ∧ step = step2 ∧ limit = limit2 ∧ has = has2 ∧ next = next2 ∧ fin = fin2)))) w := by
  by_cases h_name : name = name2
  rotate_left
  · have e1 : (name.toList == name2.toList) = false := by rw [ba_toList, ba_toList]; exact beq_eq_false_iff_ne.2 (fun h => h_name (ba_ext h))
    simp only [run_neq_struct]
    go_simp
    all_goals (first | done | (repeat' split) <;> simp_all)
  subst h_name
  simp only [run_neq_struct]
  go_simp
  all_goals (first | done | (repeat' split) <;> simp_all)

set_option maxRecDepth 8000 in
set_option maxHeartbeats 1000000 in
theorem eqlLoop_run (name name2 : ByteArray) (step step2 : Int) (limit limit2 : Int) (has has2 : Bool) (next next2 : Int) (fin fin2 : Int) (w : World) : (binOp .eql 74 (.agg #[.string name, .int .i64 step, .int .i64 limit, .bool has, .int .i64 next, .int .i64 fin]) (.agg #[.string name2, .int .i64 step2, .int .i64 limit2, .bool has2, .int .i64 next2, .int .i64 fin2])).run Try.prog w = .ok (.bool ((decide (name = name2 ∧ step = step2 ∧ limit = limit2 ∧ has = has2 ∧ next = next2 ∧ fin = fin2)))) w := by
  by_cases h_name : name = name2
  rotate_left
  · have e1 : (name.toList == name2.toList) = false := by rw [ba_toList, ba_toList]; exact beq_eq_false_iff_ne.2 (fun h => h_name (ba_ext h))
    simp only [run_eql_struct]
    go_simp
    all_goals (first | done | (repeat' split) <;> simp_all)
  subst h_name
  simp only [run_eql_struct]
  go_simp
  all_goals (first | done | (repeat' split) <;> simp_all)

set_option maxRecDepth 8000 in
set_option maxHeartbeats 1000000 in
theorem neqFrame_run (ret ret2 : Int) (value value2 : Bool) (test test2 : Bool) (stack stack2 : Int) (refs refs2 : Int) (args args2 : Int) (loops loops2 : Int) (trap trap2 : ByteArray) (routine routine2 : ByteArray) (w : World) : (binOp .neq 77 (.agg #[.int .i64 ret, .bool value, .bool test, .int .i64 stack, .int .i64 refs, .int .i64 args, .int .i64 loops, .string trap, .string routine]) (.agg #[.int .i64 ret2, .bool value2, .bool test2, .int .i64 stack2, .int .i64 refs2, .int .i64 args2, .int .i64 loops2, .string trap2, .string routine2])).run Try.prog w = .ok (.bool (!(decide (ret = ret2 ∧ value = value2 ∧ test = test2 ∧ stack = stack2 ∧ refs = refs2 ∧ args = args2 ∧ loops = loops2 ∧ trap = trap2 ∧ routine = routine2)))) w := by
  by_cases h_trap : trap = trap2
  rotate_left
  · have e1 : (trap.toList == trap2.toList) = false := by rw [ba_toList, ba_toList]; exact beq_eq_false_iff_ne.2 (fun h => h_trap (ba_ext h))
    simp only [run_neq_struct]
    go_simp
    all_goals (first | done | (repeat' split) <;> simp_all)
  subst h_trap
  by_cases h_routine : routine = routine2
  rotate_left
  · have e1 : (routine.toList == routine2.toList) = false := by rw [ba_toList, ba_toList]; exact beq_eq_false_iff_ne.2 (fun h => h_routine (ba_ext h))
    simp only [run_neq_struct]
    go_simp
    all_goals (first | done | (repeat' split) <;> simp_all)
  subst h_routine
  simp only [run_neq_struct]
  go_simp
  all_goals (first | done | (repeat' split) <;> simp_all)

set_option maxRecDepth 8000 in
set_option maxHeartbeats 1000000 in
theorem eqlFrame_run (ret ret2 : Int) (value value2 : Bool) (test test2 : Bool) (stack stack2 : Int) (refs refs2 : Int) (args args2 : Int) (loops loops2 : Int) (trap trap2 : ByteArray) (routine routine2 : ByteArray) (w : World) : (binOp .eql 77 (.agg #[.int .i64 ret, .bool value, .bool test, .int .i64 stack, .int .i64 refs, .int .i64 args, .int .i64 loops, .string trap, .string routine]) (.agg #[.int .i64 ret2, .bool value2, .bool test2, .int .i64 stack2, .int .i64 refs2, .int .i64 args2, .int .i64 loops2, .string trap2, .string routine2])).run Try.prog w = .ok (.bool ((decide (ret = ret2 ∧ value = value2 ∧ test = test2 ∧ stack = stack2 ∧ refs = refs2 ∧ args = args2 ∧ loops = loops2 ∧ trap = trap2 ∧ routine = routine2)))) w := by
  by_cases h_trap : trap = trap2
  rotate_left
  · have e1 : (trap.toList == trap2.toList) = false := by rw [ba_toList, ba_toList]; exact beq_eq_false_iff_ne.2 (fun h => h_trap (ba_ext h))
    simp only [run_eql_struct]
    go_simp
    all_goals (first | done | (repeat' split) <;> simp_all)
  subst h_trap
  by_cases h_routine : routine = routine2
  rotate_left
  · have e1 : (routine.toList == routine2.toList) = false := by rw [ba_toList, ba_toList]; exact beq_eq_false_iff_ne.2 (fun h => h_routine (ba_ext h))
    simp only [run_eql_struct]
    go_simp
    all_goals (first | done | (repeat' split) <;> simp_all)
  subst h_routine
  simp only [run_eql_struct]
  go_simp
  all_goals (first | done | (repeat' split) <;> simp_all)

end Go.Proofs.Ytllamjgloilioaa
