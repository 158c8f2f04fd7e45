/- Machines: impl's equality. (printed by gen_dv.py) -/
import Derived.Test.YtllamjgloilioaaDvMach
import Derived.Test.YtllamjgloilioaaDvFf
namespace Go.Proofs.Ytllamjgloilioaa
open Go.RowKit Go.ChangeShapes Go.WideShapes Go.ChangeAt Go.Deep
set_option linter.unusedVariables false
set_option linter.unusedSimpArgs false

set_option maxHeartbeats 20000000 in
set_option maxRecDepth 8000 in
theorem iSameMachine_dv (cs cs2 : List Value) (d d2 : DV) (w : World) (h : At w tyMachine cs d) (h2 : At w tyMachine cs2 d2) (hf : Fits 1048576 d) :
    Calls Try.prog 7 #[.agg cs.toArray, .agg cs2.toArray] w fun e w' => GotB e d d2 ∧ Below w.heap.size w w' := by
  obtain ⟨status, pc, Astack, cstack, stack, Arefs, crefs, refs, Aargs, cargs, args, Aloops, cloops, loops, Aframes, cframes, frames, locals_next, Alocals_binds, clocals_binds, locals_binds, Alocals_cells, clocals_cells, locals_cells, Alocals_levels, clocals_levels, locals_levels, dlocals, test, nakedon, naked_glob, naked_name, Anaked_subs, cnaked_subs, naked_subs, dnaked, code, trans, fault, wait, input, rfl, rfl, Hstack, Hrefs, Hargs, Hloops, Hframes, Hlocals, Hnaked⟩ := Rd.invMachine h
  obtain ⟨status2, pc2, Astack2, cstack2, stack2, Arefs2, crefs2, refs2, Aargs2, cargs2, args2, Aloops2, cloops2, loops2, Aframes2, cframes2, frames2, locals_next2, Alocals_binds2, clocals_binds2, locals_binds2, Alocals_cells2, clocals_cells2, locals_cells2, Alocals_levels2, clocals_levels2, locals_levels2, dlocals2, test2, nakedon2, naked_glob2, naked_name2, Anaked_subs2, cnaked_subs2, naked_subs2, dnaked2, code2, trans2, fault2, wait2, input2, rfl, rfl, Hstack2, Hrefs2, Hargs2, Hloops2, Hframes2, Hlocals2, Hnaked2⟩ := Rd.invMachine h2
  have hba : Hid (Below w.heap.size w ((w.alloc (.cells #[.int .i64 status, .int .i64 pc, .slice Astack stack.length cstack, .slice Arefs refs.length crefs, .slice Aargs args.length cargs, .slice Aloops loops.length cloops, .slice Aframes frames.length cframes, .int .i64 locals_next, .slice Alocals_binds locals_binds.length clocals_binds, .slice Alocals_cells locals_cells.length clocals_cells, .slice Alocals_levels locals_levels.length clocals_levels, .bool test, .bool nakedon, .bool naked_glob, .string naked_name, .slice Anaked_subs naked_subs.length cnaked_subs, .int .i64 code, .int .i64 trans, .int .i64 fault, .int .i64 wait, .string input] 49)).alloc (.cells #[.int .i64 status2, .int .i64 pc2, .slice Astack2 stack2.length cstack2, .slice Arefs2 refs2.length crefs2, .slice Aargs2 args2.length cargs2, .slice Aloops2 loops2.length cloops2, .slice Aframes2 frames2.length cframes2, .int .i64 locals_next2, .slice Alocals_binds2 locals_binds2.length clocals_binds2, .slice Alocals_cells2 locals_cells2.length clocals_cells2, .slice Alocals_levels2 locals_levels2.length clocals_levels2, .bool test2, .bool nakedon2, .bool naked_glob2, .string naked_name2, .slice Anaked_subs2 naked_subs2.length cnaked_subs2, .int .i64 code2, .int .i64 trans2, .int .i64 fault2, .int .i64 wait2, .string input2] 49))) := Joins.below_alloc2 w _ _
  have HHstack : Hid (At w (.sl .str) [.slice Astack stack.length cstack] (.sl stack)) := Hstack; clear Hstack
  have HHstack2 : Hid (At w (.sl .str) [.slice Astack2 stack2.length cstack2] (.sl stack2)) := Hstack2; clear Hstack2
  have HFstack := Lib.hid hf.snd.snd.fst
  have HHrefs : Hid (At w (.sl tyRef) [.slice Arefs refs.length crefs] (.sl refs)) := Hrefs; clear Hrefs
  have HHrefs2 : Hid (At w (.sl tyRef) [.slice Arefs2 refs2.length crefs2] (.sl refs2)) := Hrefs2; clear Hrefs2
  have HFrefs := Lib.hid hf.snd.snd.snd.fst
  have HHargs : Hid (At w (.sl tyGiven) [.slice Aargs args.length cargs] (.sl args)) := Hargs; clear Hargs
  have HHargs2 : Hid (At w (.sl tyGiven) [.slice Aargs2 args2.length cargs2] (.sl args2)) := Hargs2; clear Hargs2
  have HFargs := Lib.hid hf.snd.snd.snd.snd.fst
  have HHloops : Hid (At w (.sl tyLoop) [.slice Aloops loops.length cloops] (.sl loops)) := Hloops; clear Hloops
  have HHloops2 : Hid (At w (.sl tyLoop) [.slice Aloops2 loops2.length cloops2] (.sl loops2)) := Hloops2; clear Hloops2
  have HFloops := Lib.hid hf.snd.snd.snd.snd.snd.fst
  have HHframes : Hid (At w (.sl tyFrame) [.slice Aframes frames.length cframes] (.sl frames)) := Hframes; clear Hframes
  have HHframes2 : Hid (At w (.sl tyFrame) [.slice Aframes2 frames2.length cframes2] (.sl frames2)) := Hframes2; clear Hframes2
  have HFframes := Lib.hid hf.snd.snd.snd.snd.snd.snd.fst
  have HHlocals : Hid (At w tyLocals [.int .i64 locals_next, .slice Alocals_binds locals_binds.length clocals_binds, .slice Alocals_cells locals_cells.length clocals_cells, .slice Alocals_levels locals_levels.length clocals_levels] dlocals) := Hlocals; clear Hlocals
  have HHlocals2 : Hid (At w tyLocals [.int .i64 locals_next2, .slice Alocals_binds2 locals_binds2.length clocals_binds2, .slice Alocals_cells2 locals_cells2.length clocals_cells2, .slice Alocals_levels2 locals_levels2.length clocals_levels2] dlocals2) := Hlocals2; clear Hlocals2
  have HFlocals := Lib.hid hf.snd.snd.snd.snd.snd.snd.snd.fst
  have HHnaked : Hid (At w tyRef [.bool naked_glob, .string naked_name, .slice Anaked_subs naked_subs.length cnaked_subs] dnaked) := Hnaked; clear Hnaked
  have HHnaked2 : Hid (At w tyRef [.bool naked_glob2, .string naked_name2, .slice Anaked_subs2 naked_subs2.length cnaked_subs2] dnaked2) := Hnaked2; clear Hnaked2
  have HFnaked := Lib.hid hf.snd.snd.snd.snd.snd.snd.snd.snd.snd.snd.fst
  clear hf
  have HV : Hid (∀ b : Bool, (b = true ↔ status = status2 ∧ pc = pc2 ∧ DV.sl stack = DV.sl stack2 ∧ DV.sl refs = DV.sl refs2 ∧ DV.sl args = DV.sl args2 ∧ DV.sl loops = DV.sl loops2 ∧ DV.sl frames = DV.sl frames2 ∧ dlocals = dlocals2 ∧ test = test2 ∧ nakedon = nakedon2 ∧ dnaked = dnaked2 ∧ code = code2 ∧ trans = trans2 ∧ fault = fault2 ∧ wait = wait2 ∧ input = input2) → EqB b (.pair (.num status) (.pair (.num pc) (.pair (.sl stack) (.pair (.sl refs) (.pair (.sl args) (.pair (.sl loops) (.pair (.sl frames) (.pair dlocals (.pair (.bool test) (.pair (.bool nakedon) (.pair dnaked (.pair (.num code) (.pair (.num trans) (.pair (.num fault) (.pair (.num wait) (.pair (.str input) .unit)))))))))))))))) (.pair (.num status2) (.pair (.num pc2) (.pair (.sl stack2) (.pair (.sl refs2) (.pair (.sl args2) (.pair (.sl loops2) (.pair (.sl frames2) (.pair dlocals2 (.pair (.bool test2) (.pair (.bool nakedon2) (.pair dnaked2 (.pair (.num code2) (.pair (.num trans2) (.pair (.num fault2) (.pair (.num wait2) (.pair (.str input2) .unit))))))))))))))))) := fun b hb => by
    unfold EqB; rw [hb]; simp only [DV.pair.injEq, DV.num.injEq, DV.bool.injEq, DV.str.injEq, and_true]
  have C0 := Lib.hid ((CellsAt.new w #[.int .i64 status, .int .i64 pc, .slice Astack stack.length cstack, .slice Arefs refs.length crefs, .slice Aargs args.length cargs, .slice Aloops loops.length cloops, .slice Aframes frames.length cframes, .int .i64 locals_next, .slice Alocals_binds locals_binds.length clocals_binds, .slice Alocals_cells locals_cells.length clocals_cells, .slice Alocals_levels locals_levels.length clocals_levels, .bool test, .bool nakedon, .bool naked_glob, .string naked_name, .slice Anaked_subs naked_subs.length cnaked_subs, .int .i64 code, .int .i64 trans, .int .i64 fault, .int .i64 wait, .string input] 49).below (Joins.below_alloc1 _ (.cells #[.int .i64 status2, .int .i64 pc2, .slice Astack2 stack2.length cstack2, .slice Arefs2 refs2.length crefs2, .slice Aargs2 args2.length cargs2, .slice Aloops2 loops2.length cloops2, .slice Aframes2 frames2.length cframes2, .int .i64 locals_next2, .slice Alocals_binds2 locals_binds2.length clocals_binds2, .slice Alocals_cells2 locals_cells2.length clocals_cells2, .slice Alocals_levels2 locals_levels2.length clocals_levels2, .bool test2, .bool nakedon2, .bool naked_glob2, .string naked_name2, .slice Anaked_subs2 naked_subs2.length cnaked_subs2, .int .i64 code2, .int .i64 trans2, .int .i64 fault2, .int .i64 wait2, .string input2] 49)))
  have D0 := Lib.hid (CellsAt.new (w.alloc (.cells #[.int .i64 status, .int .i64 pc, .slice Astack stack.length cstack, .slice Arefs refs.length crefs, .slice Aargs args.length cargs, .slice Aloops loops.length cloops, .slice Aframes frames.length cframes, .int .i64 locals_next, .slice Alocals_binds locals_binds.length clocals_binds, .slice Alocals_cells locals_cells.length clocals_cells, .slice Alocals_levels locals_levels.length clocals_levels, .bool test, .bool nakedon, .bool naked_glob, .string naked_name, .slice Anaked_subs naked_subs.length cnaked_subs, .int .i64 code, .int .i64 trans, .int .i64 fault, .int .i64 wait, .string input] 49)) #[.int .i64 status2, .int .i64 pc2, .slice Astack2 stack2.length cstack2, .slice Arefs2 refs2.length crefs2, .slice Aargs2 args2.length cargs2, .slice Aloops2 loops2.length cloops2, .slice Aframes2 frames2.length cframes2, .int .i64 locals_next2, .slice Alocals_binds2 locals_binds2.length clocals_binds2, .slice Alocals_cells2 locals_cells2.length clocals_cells2, .slice Alocals_levels2 locals_levels2.length clocals_levels2, .bool test2, .bool nakedon2, .bool naked_glob2, .string naked_name2, .slice Anaked_subs2 naked_subs2.length cnaked_subs2, .int .i64 code2, .int .i64 trans2, .int .i64 fault2, .int .i64 wait2, .string input2] 49)
  have hz1 : (w.alloc (.cells #[.int .i64 status, .int .i64 pc, .slice Astack stack.length cstack, .slice Arefs refs.length crefs, .slice Aargs args.length cargs, .slice Aloops loops.length cloops, .slice Aframes frames.length cframes, .int .i64 locals_next, .slice Alocals_binds locals_binds.length clocals_binds, .slice Alocals_cells locals_cells.length clocals_cells, .slice Alocals_levels locals_levels.length clocals_levels, .bool test, .bool nakedon, .bool naked_glob, .string naked_name, .slice Anaked_subs naked_subs.length cnaked_subs, .int .i64 code, .int .i64 trans, .int .i64 fault, .int .i64 wait, .string input] 49)).heap.size = w.heap.size + 1 := by simp
  rw [hz1] at D0; clear hz1
  have C00 : Hid (CellsAt _ w.heap.size ([.int .i64 status, .int .i64 pc, .slice Astack stack.length cstack, .slice Arefs refs.length crefs, .slice Aargs args.length cargs, .slice Aloops loops.length cloops, .slice Aframes frames.length cframes, .int .i64 locals_next, .slice Alocals_binds locals_binds.length clocals_binds, .slice Alocals_cells locals_cells.length clocals_cells, .slice Alocals_levels locals_levels.length clocals_levels, .bool test, .bool nakedon, .bool naked_glob, .string naked_name, .slice Anaked_subs naked_subs.length cnaked_subs, .int .i64 code, .int .i64 trans, .int .i64 fault, .int .i64 wait, .string input] : List Value)) := C0
  have D00 : Hid (CellsAt _ (w.heap.size + 1) ([.int .i64 status2, .int .i64 pc2, .slice Astack2 stack2.length cstack2, .slice Arefs2 refs2.length crefs2, .slice Aargs2 args2.length cargs2, .slice Aloops2 loops2.length cloops2, .slice Aframes2 frames2.length cframes2, .int .i64 locals_next2, .slice Alocals_binds2 locals_binds2.length clocals_binds2, .slice Alocals_cells2 locals_cells2.length clocals_cells2, .slice Alocals_levels2 locals_levels2.length clocals_levels2, .bool test2, .bool nakedon2, .bool naked_glob2, .string naked_name2, .slice Anaked_subs2 naked_subs2.length cnaked_subs2, .int .i64 code2, .int .i64 trans2, .int .i64 fault2, .int .i64 wait2, .string input2] : List Value)) := D0
  clear C0 D0
  have C0 := C00; have D0 := D00
  clear C00 D00
  have k0_status := C0.out.2 0 _ rfl
  have m0_status := D0.out.2 0 _ rfl
  have k0_pc := C0.out.2 1 _ rfl
  have m0_pc := D0.out.2 1 _ rfl
  have k0_stack := C0.out.2 2 _ rfl
  have m0_stack := D0.out.2 2 _ rfl
  generalize (#[.int .i64 status, .int .i64 pc, .slice Astack stack.length cstack, .slice Arefs refs.length crefs, .slice Aargs args.length cargs, .slice Aloops loops.length cloops, .slice Aframes frames.length cframes, .int .i64 locals_next, .slice Alocals_binds locals_binds.length clocals_binds, .slice Alocals_cells locals_cells.length clocals_cells, .slice Alocals_levels locals_levels.length clocals_levels, .bool test, .bool nakedon, .bool naked_glob, .string naked_name, .slice Anaked_subs naked_subs.length cnaked_subs, .int .i64 code, .int .i64 trans, .int .i64 fault, .int .i64 wait, .string input] : Array Value) = c at *
  generalize (#[.int .i64 status2, .int .i64 pc2, .slice Astack2 stack2.length cstack2, .slice Arefs2 refs2.length crefs2, .slice Aargs2 args2.length cargs2, .slice Aloops2 loops2.length cloops2, .slice Aframes2 frames2.length cframes2, .int .i64 locals_next2, .slice Alocals_binds2 locals_binds2.length clocals_binds2, .slice Alocals_cells2 locals_cells2.length clocals_cells2, .slice Alocals_levels2 locals_levels2.length clocals_levels2, .bool test2, .bool nakedon2, .bool naked_glob2, .string naked_name2, .slice Anaked_subs2 naked_subs2.length cnaked_subs2, .int .i64 code2, .int .i64 trans2, .int .i64 fault2, .int .i64 wait2, .string input2] : Array Value) = c2 at *
  go_enter Try.func7, Try.ntmps7
  rcases eqForms status status2 with ⟨e1, e2, Estatus⟩ | ⟨e1, e2, Estatus⟩
  rotate_left
  · have hne := Estatus.out
    go_wp2_with fail
    go_ret
    exact ⟨⟨false, rfl, HV.out false (by simp [hne])⟩, hba.out⟩
  rcases eqForms pc pc2 with ⟨e1, e2, Epc⟩ | ⟨e1, e2, Epc⟩
  rotate_left
  · have hne := Epc.out
    go_wp2_with fail
    go_ret
    exact ⟨⟨false, rfl, HV.out false (by simp [hne])⟩, hba.out⟩
  go_wp2_with fail
  refine (slicesEqualS_dv _ _ _ _ _ (HHstack.out.on hba.out) (HHstack2.out.on hba.out) HFstack.out).mono ?_
  rintro e w1 ⟨⟨r1, rfl, HE1⟩, b1⟩
  have B1 := Lib.hid (below_trans hba.out b1)
  have C1 := Lib.hid (C0.out.below b1)
  have D1 := Lib.hid (D0.out.below b1)
  have k1_refs := C1.out.2 3 _ rfl
  have m1_refs := D1.out.2 3 _ rfl
  clear C0 D0 b1
  rename_i hK1
  cases r1
  · have hne : ¬ DV.sl stack = .sl stack2 := fun h => by have := HE1.2 h; cases this
    dsimp only
    refine hK1 _ _ (wpList_ff (k := 4) (v := .bool false) (by kernel_rfl) ?_)
    intro a' ha' hd'
    go_wp2_with fail
    exact bodyPost_ret (results_tmp rfl _ _ _) hd' ⟨⟨false, by rw [ha'], HV.out false (by simp [hne])⟩, B1.out⟩
  have Estack := Lib.hid (HE1.1 rfl); clear HE1
  go_wp2_with fail
  refine (EqualRef_dv _ _ _ _ _ (HHrefs.out.on B1.out) (HHrefs2.out.on B1.out) HFrefs.out).mono ?_
  rintro e w2 ⟨⟨r2, rfl, HE2⟩, b2⟩
  have B2 := Lib.hid (below_trans B1.out b2)
  have C2 := Lib.hid (C1.out.below b2)
  have D2 := Lib.hid (D1.out.below b2)
  have k2_args := C2.out.2 4 _ rfl
  have m2_args := D2.out.2 4 _ rfl
  clear C1 D1 b2 k1_refs m1_refs
  rename_i hK2
  cases r2
  · have hne : ¬ DV.sl refs = .sl refs2 := fun h => by have := HE2.2 h; cases this
    dsimp only
    refine hK2 _ _ (wpList_ff (k := 4) (v := .bool false) (by kernel_rfl) ?_)
    intro a' ha' hd'
    go_wp2_with fail
    exact bodyPost_ret (results_tmp rfl _ _ _) hd' ⟨⟨false, by rw [ha'], HV.out false (by simp [hne])⟩, B2.out⟩
  have Erefs := Lib.hid (HE2.1 rfl); clear HE2
  go_wp2_with fail
  refine (EqualGiven_dv _ _ _ _ _ (HHargs.out.on B2.out) (HHargs2.out.on B2.out) HFargs.out).mono ?_
  rintro e w3 ⟨⟨r3, rfl, HE3⟩, b3⟩
  have B3 := Lib.hid (below_trans B2.out b3)
  have C3 := Lib.hid (C2.out.below b3)
  have D3 := Lib.hid (D2.out.below b3)
  have k3_loops := C3.out.2 5 _ rfl
  have m3_loops := D3.out.2 5 _ rfl
  clear C2 D2 b3 k2_args m2_args
  rename_i hK3
  cases r3
  · have hne : ¬ DV.sl args = .sl args2 := fun h => by have := HE3.2 h; cases this
    dsimp only
    refine hK3 _ _ (wpList_ff (k := 4) (v := .bool false) (by kernel_rfl) ?_)
    intro a' ha' hd'
    go_wp2_with fail
    exact bodyPost_ret (results_tmp rfl _ _ _) hd' ⟨⟨false, by rw [ha'], HV.out false (by simp [hne])⟩, B3.out⟩
  have Eargs := Lib.hid (HE3.1 rfl); clear HE3
  go_wp2_with fail
  refine (EqualLoop_dv _ _ _ _ _ (HHloops.out.on B3.out) (HHloops2.out.on B3.out) HFloops.out).mono ?_
  rintro e w4 ⟨⟨r4, rfl, HE4⟩, b4⟩
  have B4 := Lib.hid (below_trans B3.out b4)
  have C4 := Lib.hid (C3.out.below b4)
  have D4 := Lib.hid (D3.out.below b4)
  have k4_frames := C4.out.2 6 _ rfl
  have m4_frames := D4.out.2 6 _ rfl
  clear C3 D3 b4 k3_loops m3_loops
  rename_i hK4
  cases r4
  · have hne : ¬ DV.sl loops = .sl loops2 := fun h => by have := HE4.2 h; cases this
    dsimp only
    refine hK4 _ _ (wpList_ff (k := 4) (v := .bool false) (by kernel_rfl) ?_)
    intro a' ha' hd'
    go_wp2_with fail
    exact bodyPost_ret (results_tmp rfl _ _ _) hd' ⟨⟨false, by rw [ha'], HV.out false (by simp [hne])⟩, B4.out⟩
  have Eloops := Lib.hid (HE4.1 rfl); clear HE4
  go_wp2_with fail
  refine (EqualFrame_dv _ _ _ _ _ (HHframes.out.on B4.out) (HHframes2.out.on B4.out) HFframes.out).mono ?_
  rintro e w5 ⟨⟨r5, rfl, HE5⟩, b5⟩
  have B5 := Lib.hid (below_trans B4.out b5)
  have C5 := Lib.hid (C4.out.below b5)
  have D5 := Lib.hid (D4.out.below b5)
  have k5_locals_next := C5.out.2 7 _ rfl
  have m5_locals_next := D5.out.2 7 _ rfl
  have k5_locals_binds := C5.out.2 8 _ rfl
  have m5_locals_binds := D5.out.2 8 _ rfl
  have k5_locals_cells := C5.out.2 9 _ rfl
  have m5_locals_cells := D5.out.2 9 _ rfl
  have k5_locals_levels := C5.out.2 10 _ rfl
  have m5_locals_levels := D5.out.2 10 _ rfl
  clear C4 D4 b5 k4_frames m4_frames
  rename_i hK5
  cases r5
  · have hne : ¬ DV.sl frames = .sl frames2 := fun h => by have := HE5.2 h; cases this
    dsimp only
    refine hK5 _ _ (wpList_ff (k := 4) (v := .bool false) (by kernel_rfl) ?_)
    intro a' ha' hd'
    go_wp2_with fail
    exact bodyPost_ret (results_tmp rfl _ _ _) hd' ⟨⟨false, by rw [ha'], HV.out false (by simp [hne])⟩, B5.out⟩
  have Eframes := Lib.hid (HE5.1 rfl); clear HE5
  go_wp2_with fail
  refine (sameLocals_dv _ _ _ _ _ (HHlocals.out.on B5.out) (HHlocals2.out.on B5.out) HFlocals.out).mono ?_
  rintro e w6 ⟨⟨r6, rfl, HE6⟩, b6⟩
  have B6 := Lib.hid (below_trans B5.out b6)
  have C6 := Lib.hid (C5.out.below b6)
  have D6 := Lib.hid (D5.out.below b6)
  have k6_test := C6.out.2 11 _ rfl
  have m6_test := D6.out.2 11 _ rfl
  have k6_nakedon := C6.out.2 12 _ rfl
  have m6_nakedon := D6.out.2 12 _ rfl
  have k6_naked_glob := C6.out.2 13 _ rfl
  have m6_naked_glob := D6.out.2 13 _ rfl
  have k6_naked_name := C6.out.2 14 _ rfl
  have m6_naked_name := D6.out.2 14 _ rfl
  have k6_naked_subs := C6.out.2 15 _ rfl
  have m6_naked_subs := D6.out.2 15 _ rfl
  clear C5 D5 b6 k5_locals_next m5_locals_next k5_locals_binds m5_locals_binds k5_locals_cells m5_locals_cells k5_locals_levels m5_locals_levels
  rename_i hK6
  cases r6
  · have hne : ¬ dlocals = dlocals2 := fun h => by have := HE6.2 h; cases this
    dsimp only
    refine hK6 _ _ (wpList_ff (k := 4) (v := .bool false) (by kernel_rfl) ?_)
    intro a' ha' hd'
    go_wp2_with fail
    exact bodyPost_ret (results_tmp rfl _ _ _) hd' ⟨⟨false, by rw [ha'], HV.out false (by simp [hne])⟩, B6.out⟩
  have Elocals := Lib.hid (HE6.1 rfl); clear HE6
  by_cases hne : test = test2
  rotate_left
  · have e1 : (test == test2) = false := by simpa using hne
    have e2 : (test != test2) = true := by simpa using hne
    go_wp2_with fail
    go_ret
    exact ⟨⟨false, rfl, HV.out false (by simp [hne])⟩, B6.out⟩
  subst hne
  by_cases hne : nakedon = nakedon2
  rotate_left
  · have e1 : (nakedon == nakedon2) = false := by simpa using hne
    have e2 : (nakedon != nakedon2) = true := by simpa using hne
    go_wp2_with fail
    go_ret
    exact ⟨⟨false, rfl, HV.out false (by simp [hne])⟩, B6.out⟩
  subst hne
  go_wp2_with fail
  refine (sameRef_dv _ _ _ _ _ (HHnaked.out.on B6.out) (HHnaked2.out.on B6.out) HFnaked.out).mono ?_
  rintro e w7 ⟨⟨r7, rfl, HE7⟩, b7⟩
  have B7 := Lib.hid (below_trans B6.out b7)
  have C7 := Lib.hid (C6.out.below b7)
  have D7 := Lib.hid (D6.out.below b7)
  have k7_code := C7.out.2 16 _ rfl
  have m7_code := D7.out.2 16 _ rfl
  have k7_trans := C7.out.2 17 _ rfl
  have m7_trans := D7.out.2 17 _ rfl
  have k7_fault := C7.out.2 18 _ rfl
  have m7_fault := D7.out.2 18 _ rfl
  have k7_wait := C7.out.2 19 _ rfl
  have m7_wait := D7.out.2 19 _ rfl
  have k7_input := C7.out.2 20 _ rfl
  have m7_input := D7.out.2 20 _ rfl
  clear C6 D6 b7 k6_test m6_test k6_nakedon m6_nakedon k6_naked_glob m6_naked_glob k6_naked_name m6_naked_name k6_naked_subs m6_naked_subs
  rename_i hK7
  cases r7
  · have hne : ¬ dnaked = dnaked2 := fun h => by have := HE7.2 h; cases this
    dsimp only
    refine hK7 _ _ (wpList_ff (k := 4) (v := .bool false) (by kernel_rfl) ?_)
    intro a' ha' hd'
    go_wp2_with fail
    exact bodyPost_ret (results_tmp rfl _ _ _) hd' ⟨⟨false, by rw [ha'], HV.out false (by simp [hne])⟩, B7.out⟩
  have Enaked := Lib.hid (HE7.1 rfl); clear HE7
  rcases eqForms code code2 with ⟨e1, e2, Ecode⟩ | ⟨e1, e2, Ecode⟩
  rotate_left
  · have hne := Ecode.out
    go_wp2_with fail
    go_ret
    exact ⟨⟨false, rfl, HV.out false (by simp [hne])⟩, B7.out⟩
  rcases eqForms trans trans2 with ⟨e1, e2, Etrans⟩ | ⟨e1, e2, Etrans⟩
  rotate_left
  · have hne := Etrans.out
    go_wp2_with fail
    go_ret
    exact ⟨⟨false, rfl, HV.out false (by simp [hne])⟩, B7.out⟩
  rcases eqForms fault fault2 with ⟨e1, e2, Efault⟩ | ⟨e1, e2, Efault⟩
  rotate_left
  · have hne := Efault.out
    go_wp2_with fail
    go_ret
    exact ⟨⟨false, rfl, HV.out false (by simp [hne])⟩, B7.out⟩
  rcases eqForms wait wait2 with ⟨e1, e2, Ewait⟩ | ⟨e1, e2, Ewait⟩
  rotate_left
  · have hne := Ewait.out
    go_wp2_with fail
    go_ret
    exact ⟨⟨false, rfl, HV.out false (by simp [hne])⟩, B7.out⟩
  by_cases hne : input = input2
  rotate_left
  · have e1 : (input.toList == input2.toList) = false := by rw [ba_toList, ba_toList]; exact beq_eq_false_iff_ne.2 (fun h => hne (ba_ext h))
    go_wp2_with fail
    go_ret
    exact ⟨⟨false, rfl, HV.out false (by simp [hne])⟩, B7.out⟩
  subst hne
  go_wp2_with fail
  go_ret
  exact ⟨⟨true, rfl, HV.out true (by simp [Estatus.out, Epc.out, Estack.out, Erefs.out, Eargs.out, Eloops.out, Eframes.out, Elocals.out, Enaked.out, Ecode.out, Etrans.out, Efault.out, Ewait.out])⟩, B7.out⟩

end Go.Proofs.Ytllamjgloilioaa
