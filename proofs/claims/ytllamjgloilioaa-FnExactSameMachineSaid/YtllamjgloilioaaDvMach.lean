/- Machines: their shape, size, copy. (printed by gen_dv.py) -/
import Derived.Test.YtllamjgloilioaaDvLocals
namespace Go.Proofs.Ytllamjgloilioaa
open Go.RowKit Go.ChangeShapes Go.WideShapes Go.ChangeAt Go.Deep
set_option linter.unusedVariables false
set_option linter.unusedSimpArgs false

@[reducible] def tyMachine : Ty := .pair .num (.pair .num (.pair (.sl .str) (.pair (.sl tyRef) (.pair (.sl tyGiven) (.pair (.sl tyLoop) (.pair (.sl tyFrame) (.pair tyLocals (.pair .bool (.pair .bool (.pair tyRef (.pair .num (.pair .num (.pair .num (.pair .num (.pair .str .unit)))))))))))))))

theorem Rd.invMachine {w : World} {lo hi : Nat} {cs : List Value} {d : DV} (h : Rd w lo hi tyMachine cs d) : ∃ (status : Int) (pc : Int) (Astack : Option Addr) (cstack : Nat) (stack : List DV) (Arefs : Option Addr) (crefs : Nat) (refs : List DV) (Aargs : Option Addr) (cargs : Nat) (args : List DV) (Aloops : Option Addr) (cloops : Nat) (loops : List DV) (Aframes : Option Addr) (cframes : Nat) (frames : List DV) (locals_next : Int) (Alocals_binds : Option Addr) (clocals_binds : Nat) (locals_binds : List DV) (Alocals_cells : Option Addr) (clocals_cells : Nat) (locals_cells : List DV) (Alocals_levels : Option Addr) (clocals_levels : Nat) (locals_levels : List DV) (dlocals : DV) (test : Bool) (nakedon : Bool) (naked_glob : Bool) (naked_name : ByteArray) (Anaked_subs : Option Addr) (cnaked_subs : Nat) (naked_subs : List DV) (dnaked : DV) (code : Int) (trans : Int) (fault : Int) (wait : Int) (input : ByteArray), cs = [.int .i64 status, .int .i64 pc, .slice Astack stack.length cstack, .slice Arefs refs.length crefs, .slice Aargs args.length cargs, .slice Aloops loops.length cloops, .slice Aframes frames.length cframes, .int .i64 locals_next, .slice Alocals_binds locals_binds.length clocals_binds, .slice Alocals_cells locals_cells.length clocals_cells, .slice Alocals_levels locals_levels.length clocals_levels, .bool test, .bool nakedon, .bool naked_glob, .string naked_name, .slice Anaked_subs naked_subs.length cnaked_subs, .int .i64 code, .int .i64 trans, .int .i64 fault, .int .i64 wait, .string input] ∧ d = .pair (.num status) (.pair (.num pc) (.pair (.sl stack) (.pair (.sl refs) (.pair (.sl args) (.pair (.sl loops) (.pair (.sl frames) (.pair dlocals (.pair (.bool test) (.pair (.bool nakedon) (.pair dnaked (.pair (.num code) (.pair (.num trans) (.pair (.num fault) (.pair (.num wait) (.pair (.str input) .unit))))))))))))))) ∧ Rd w lo hi (.sl .str) [.slice Astack stack.length cstack] (.sl stack) ∧ Rd w lo hi (.sl tyRef) [.slice Arefs refs.length crefs] (.sl refs) ∧ Rd w lo hi (.sl tyGiven) [.slice Aargs args.length cargs] (.sl args) ∧ Rd w lo hi (.sl tyLoop) [.slice Aloops loops.length cloops] (.sl loops) ∧ Rd w lo hi (.sl tyFrame) [.slice Aframes frames.length cframes] (.sl frames) ∧ Rd w lo hi tyLocals [.int .i64 locals_next, .slice Alocals_binds locals_binds.length clocals_binds, .slice Alocals_cells locals_cells.length clocals_cells, .slice Alocals_levels locals_levels.length clocals_levels] dlocals ∧ Rd w lo hi tyRef [.bool naked_glob, .string naked_name, .slice Anaked_subs naked_subs.length cnaked_subs] dnaked := by
  obtain ⟨status, s1, e1, rfl, rfl, h1⟩ := Rd.inv_num_ h
  obtain ⟨pc, s2, e2, rfl, rfl, h2⟩ := Rd.inv_num_ h1
  obtain ⟨Astack, cstack, stack, s3, e3, rfl, rfl, Hstack, h3⟩ := Rd.inv_sl_ h2
  obtain ⟨Arefs, crefs, refs, s4, e4, rfl, rfl, Hrefs, h4⟩ := Rd.inv_sl_ h3
  obtain ⟨Aargs, cargs, args, s5, e5, rfl, rfl, Hargs, h5⟩ := Rd.inv_sl_ h4
  obtain ⟨Aloops, cloops, loops, s6, e6, rfl, rfl, Hloops, h6⟩ := Rd.inv_sl_ h5
  obtain ⟨Aframes, cframes, frames, s7, e7, rfl, rfl, Hframes, h7⟩ := Rd.inv_sl_ h6
  obtain ⟨c8, s8, dlocals, e8, rfl, rfl, Hlocals, h8⟩ := Rd.inv_pair h7
  obtain ⟨locals_next, Alocals_binds, clocals_binds, locals_binds, Alocals_cells, clocals_cells, locals_cells, Alocals_levels, clocals_levels, locals_levels, rfl⟩ := Rd.cellsLocals Hlocals
  obtain ⟨test, s9, e9, rfl, rfl, h9⟩ := Rd.inv_bool_ h8
  obtain ⟨nakedon, s10, e10, rfl, rfl, h10⟩ := Rd.inv_bool_ h9
  obtain ⟨c11, s11, dnaked, e11, rfl, rfl, Hnaked, h11⟩ := Rd.inv_pair h10
  obtain ⟨naked_glob, naked_name, Anaked_subs, cnaked_subs, naked_subs, rfl⟩ := Rd.cellsRef Hnaked
  obtain ⟨code, s12, e12, rfl, rfl, h12⟩ := Rd.inv_num_ h11
  obtain ⟨trans, s13, e13, rfl, rfl, h13⟩ := Rd.inv_num_ h12
  obtain ⟨fault, s14, e14, rfl, rfl, h14⟩ := Rd.inv_num_ h13
  obtain ⟨wait, s15, e15, rfl, rfl, h15⟩ := Rd.inv_num_ h14
  obtain ⟨input, s16, e16, rfl, rfl, h16⟩ := Rd.inv_str_ h15
  obtain ⟨rfl, rfl⟩ := Rd.inv_unit h16
  exact ⟨_, _, _, _, _, _, _, _, _, _, _, _, _, _, _, _, _, _, _, _, _, _, _, _, _, _, _, _, _, _, _, _, _, _, _, _, _, _, _, _, _, rfl, rfl, Hstack, Hrefs, Hargs, Hloops, Hframes, Hlocals, Hnaked⟩

theorem Rd.cellsMachine {w : World} {lo hi : Nat} {cs : List Value} {d : DV} (h : Rd w lo hi tyMachine cs d) : ∃ (status : Int) (pc : Int) (Astack : Option Addr) (cstack : Nat) (stack : List DV) (Arefs : Option Addr) (crefs : Nat) (refs : List DV) (Aargs : Option Addr) (cargs : Nat) (args : List DV) (Aloops : Option Addr) (cloops : Nat) (loops : List DV) (Aframes : Option Addr) (cframes : Nat) (frames : List DV) (locals_next : Int) (Alocals_binds : Option Addr) (clocals_binds : Nat) (locals_binds : List DV) (Alocals_cells : Option Addr) (clocals_cells : Nat) (locals_cells : List DV) (Alocals_levels : Option Addr) (clocals_levels : Nat) (locals_levels : List DV) (test : Bool) (nakedon : Bool) (naked_glob : Bool) (naked_name : ByteArray) (Anaked_subs : Option Addr) (cnaked_subs : Nat) (naked_subs : List DV) (code : Int) (trans : Int) (fault : Int) (wait : Int) (input : ByteArray), cs = [.int .i64 status, .int .i64 pc, .slice Astack stack.length cstack, .slice Arefs refs.length crefs, .slice Aargs args.length cargs, .slice Aloops loops.length cloops, .slice Aframes frames.length cframes, .int .i64 locals_next, .slice Alocals_binds locals_binds.length clocals_binds, .slice Alocals_cells locals_cells.length clocals_cells, .slice Alocals_levels locals_levels.length clocals_levels, .bool test, .bool nakedon, .bool naked_glob, .string naked_name, .slice Anaked_subs naked_subs.length cnaked_subs, .int .i64 code, .int .i64 trans, .int .i64 fault, .int .i64 wait, .string input] := by
  obtain ⟨y0, y1, y2, y3, y4, y5, y6, y7, y8, y9, y10, y11, y12, y13, y14, y15, y16, y17, y18, y19, y20, y21, y22, y23, y24, y25, y26, y27, y28, y29, y30, y31, y32, y33, y34, y35, y36, y37, y38, y39, y40, e1, _⟩ := Rd.invMachine h
  exact ⟨y0, y1, y2, y3, y4, y5, y6, y7, y8, y9, y10, y11, y12, y13, y14, y15, y16, y17, y18, y19, y20, y21, y22, y23, y24, y25, y26, y28, y29, y30, y31, y32, y33, y34, y36, y37, y38, y39, y40, e1⟩

theorem Rd.mkMachine {w : World} {lo hi : Nat} {status : Int} {pc : Int} {Astack : Option Addr} {cstack : Nat} {stack : List DV} {Arefs : Option Addr} {crefs : Nat} {refs : List DV} {Aargs : Option Addr} {cargs : Nat} {args : List DV} {Aloops : Option Addr} {cloops : Nat} {loops : List DV} {Aframes : Option Addr} {cframes : Nat} {frames : List DV} {locals_next : Int} {Alocals_binds : Option Addr} {clocals_binds : Nat} {locals_binds : List DV} {Alocals_cells : Option Addr} {clocals_cells : Nat} {locals_cells : List DV} {Alocals_levels : Option Addr} {clocals_levels : Nat} {locals_levels : List DV} {dlocals : DV} {test : Bool} {nakedon : Bool} {naked_glob : Bool} {naked_name : ByteArray} {Anaked_subs : Option Addr} {cnaked_subs : Nat} {naked_subs : List DV} {dnaked : DV} {code : Int} {trans : Int} {fault : Int} {wait : Int} {input : ByteArray} (Hstack : Rd w lo hi (.sl .str) [.slice Astack stack.length cstack] (.sl stack)) (Hrefs : Rd w lo hi (.sl tyRef) [.slice Arefs refs.length crefs] (.sl refs)) (Hargs : Rd w lo hi (.sl tyGiven) [.slice Aargs args.length cargs] (.sl args)) (Hloops : Rd w lo hi (.sl tyLoop) [.slice Aloops loops.length cloops] (.sl loops)) (Hframes : Rd w lo hi (.sl tyFrame) [.slice Aframes frames.length cframes] (.sl frames)) (Hlocals : Rd w lo hi tyLocals [.int .i64 locals_next, .slice Alocals_binds locals_binds.length clocals_binds, .slice Alocals_cells locals_cells.length clocals_cells, .slice Alocals_levels locals_levels.length clocals_levels] dlocals) (Hnaked : Rd w lo hi tyRef [.bool naked_glob, .string naked_name, .slice Anaked_subs naked_subs.length cnaked_subs] dnaked) : Rd w lo hi tyMachine [.int .i64 status, .int .i64 pc, .slice Astack stack.length cstack, .slice Arefs refs.length crefs, .slice Aargs args.length cargs, .slice Aloops loops.length cloops, .slice Aframes frames.length cframes, .int .i64 locals_next, .slice Alocals_binds locals_binds.length clocals_binds, .slice Alocals_cells locals_cells.length clocals_cells, .slice Alocals_levels locals_levels.length clocals_levels, .bool test, .bool nakedon, .bool naked_glob, .string naked_name, .slice Anaked_subs naked_subs.length cnaked_subs, .int .i64 code, .int .i64 trans, .int .i64 fault, .int .i64 wait, .string input] (.pair (.num status) (.pair (.num pc) (.pair (.sl stack) (.pair (.sl refs) (.pair (.sl args) (.pair (.sl loops) (.pair (.sl frames) (.pair dlocals (.pair (.bool test) (.pair (.bool nakedon) (.pair dnaked (.pair (.num code) (.pair (.num trans) (.pair (.num fault) (.pair (.num wait) (.pair (.str input) .unit)))))))))))))))) :=
  (.pair (.num _) (.pair (.num _) (.pair Hstack (.pair Hrefs (.pair Hargs (.pair Hloops (.pair Hframes (.pair Hlocals (.pair (.bool _) (.pair (.bool _) (.pair Hnaked (.pair (.num _) (.pair (.num _) (.pair (.num _) (.pair (.num _) (.pair (.str _) .unit))))))))))))))))

set_option maxHeartbeats 1000000 in
set_option maxRecDepth 8000 in
theorem szMachine_dv (cs : List Value) (d : DV) (left : Int) (w : World) (h : At w tyMachine cs d) (hf : Fits maxLen d) (h0 : 0 ≤ left) (h1 : left ≤ 1048576) :
    Calls Try.prog 4 #[.agg cs.toArray, .int .i64 left] w fun e w' => (∃ q : Int, e = .returned (.int .i64 q) ∧ -1 ≤ q ∧ q ≤ left ∧ Hid (0 ≤ q → Fits 1048576 d)) ∧ Below w.heap.size w w' := by
  obtain ⟨status, pc, Astack, cstack, stack, Arefs, crefs, refs, Aargs, cargs, args, Aloops, cloops, loops, Aframes, cframes, frames, locals_next, Alocals_binds, clocals_binds, locals_binds, Alocals_cells, clocals_cells, locals_cells, Alocals_levels, clocals_levels, locals_levels, dlocals, test, nakedon, naked_glob, naked_name, Anaked_subs, cnaked_subs, naked_subs, dnaked, code, trans, fault, wait, input, rfl, rfl, Hstack, Hrefs, Hargs, Hloops, Hframes, Hlocals, Hnaked⟩ := Rd.invMachine h
  have hba : Hid (Below w.heap.size w (w.alloc (.cells #[.int .i64 status, .int .i64 pc, .slice Astack stack.length cstack, .slice Arefs refs.length crefs, .slice Aargs args.length cargs, .slice Aloops loops.length cloops, .slice Aframes frames.length cframes, .int .i64 locals_next, .slice Alocals_binds locals_binds.length clocals_binds, .slice Alocals_cells locals_cells.length clocals_cells, .slice Alocals_levels locals_levels.length clocals_levels, .bool test, .bool nakedon, .bool naked_glob, .string naked_name, .slice Anaked_subs naked_subs.length cnaked_subs, .int .i64 code, .int .i64 trans, .int .i64 fault, .int .i64 wait, .string input] 35))) := Joins.below_alloc1 w _
  have HHstack : Hid (At w (.sl .str) [.slice Astack stack.length cstack] (.sl stack)) := Hstack; clear Hstack
  have HHrefs : Hid (At w (.sl tyRef) [.slice Arefs refs.length crefs] (.sl refs)) := Hrefs; clear Hrefs
  have HHargs : Hid (At w (.sl tyGiven) [.slice Aargs args.length cargs] (.sl args)) := Hargs; clear Hargs
  have HHloops : Hid (At w (.sl tyLoop) [.slice Aloops loops.length cloops] (.sl loops)) := Hloops; clear Hloops
  have HHframes : Hid (At w (.sl tyFrame) [.slice Aframes frames.length cframes] (.sl frames)) := Hframes; clear Hframes
  have HHlocals : Hid (At w tyLocals [.int .i64 locals_next, .slice Alocals_binds locals_binds.length clocals_binds, .slice Alocals_cells locals_cells.length clocals_cells, .slice Alocals_levels locals_levels.length clocals_levels] dlocals) := Hlocals; clear Hlocals
  have HHnaked : Hid (At w tyRef [.bool naked_glob, .string naked_name, .slice Anaked_subs naked_subs.length cnaked_subs] dnaked) := Hnaked; clear Hnaked
  have HFstack := Lib.hid hf.snd.snd.fst
  have HFrefs := Lib.hid hf.snd.snd.snd.fst
  have HFargs := Lib.hid hf.snd.snd.snd.snd.fst
  have HFloops := Lib.hid hf.snd.snd.snd.snd.snd.fst
  have HFframes := Lib.hid hf.snd.snd.snd.snd.snd.snd.fst
  have HFlocals := Lib.hid hf.snd.snd.snd.snd.snd.snd.snd.fst
  have HFnaked := Lib.hid hf.snd.snd.snd.snd.snd.snd.snd.snd.snd.snd.fst
  have ninput := hf.snd.snd.snd.snd.snd.snd.snd.snd.snd.snd.snd.snd.snd.snd.snd.fst.str_
  unfold maxLen at ninput
  clear hf
  have C0 := Lib.hid (CellsAt.new w #[.int .i64 status, .int .i64 pc, .slice Astack stack.length cstack, .slice Arefs refs.length crefs, .slice Aargs args.length cargs, .slice Aloops loops.length cloops, .slice Aframes frames.length cframes, .int .i64 locals_next, .slice Alocals_binds locals_binds.length clocals_binds, .slice Alocals_cells locals_cells.length clocals_cells, .slice Alocals_levels locals_levels.length clocals_levels, .bool test, .bool nakedon, .bool naked_glob, .string naked_name, .slice Anaked_subs naked_subs.length cnaked_subs, .int .i64 code, .int .i64 trans, .int .i64 fault, .int .i64 wait, .string input] 35)
  go_enter Try.func4, Try.ntmps4
  go_wp2_with fail
  refine (szStringS_dv _ _ left _ (HHstack.out.on hba.out) HFstack.out (by omega) (by omega)).mono ?_
  rintro e w1 ⟨⟨q1, rfl, qa1, qb1, Q1⟩, b1⟩
  have B1 := Lib.hid (below_trans hba.out b1)
  have C1 := Lib.hid (C0.out.below b1)
  have k1_refs := C1.out.2 3 _ rfl
  clear C0 b1
  by_cases zstack : q1 < 0
  · go_wp2_with fail
    go_ret
    exact ⟨⟨_, rfl, by omega, by omega, fun hq => by omega⟩, B1.out⟩
  go_wp2_with fail
  refine (szRefS_dv _ _ q1 _ (HHrefs.out.on B1.out) HFrefs.out (by omega) (by omega)).mono ?_
  rintro e w2 ⟨⟨q2, rfl, qa2, qb2, Q2⟩, b2⟩
  have B2 := Lib.hid (below_trans B1.out b2)
  have C2 := Lib.hid (C1.out.below b2)
  have k2_args := C2.out.2 4 _ rfl
  clear C1 b2 k1_refs
  by_cases zrefs : q2 < 0
  · go_wp2_with fail
    go_ret
    exact ⟨⟨_, rfl, by omega, by omega, fun hq => by omega⟩, B2.out⟩
  go_wp2_with fail
  refine (szGivenS_dv _ _ q2 _ (HHargs.out.on B2.out) HFargs.out (by omega) (by omega)).mono ?_
  rintro e w3 ⟨⟨q3, rfl, qa3, qb3, Q3⟩, b3⟩
  have B3 := Lib.hid (below_trans B2.out b3)
  have C3 := Lib.hid (C2.out.below b3)
  have k3_loops := C3.out.2 5 _ rfl
  clear C2 b3 k2_args
  by_cases zargs : q3 < 0
  · go_wp2_with fail
    go_ret
    exact ⟨⟨_, rfl, by omega, by omega, fun hq => by omega⟩, B3.out⟩
  go_wp2_with fail
  refine (szLoopS_dv _ _ q3 _ (HHloops.out.on B3.out) HFloops.out (by omega) (by omega)).mono ?_
  rintro e w4 ⟨⟨q4, rfl, qa4, qb4, Q4⟩, b4⟩
  have B4 := Lib.hid (below_trans B3.out b4)
  have C4 := Lib.hid (C3.out.below b4)
  have k4_frames := C4.out.2 6 _ rfl
  clear C3 b4 k3_loops
  by_cases zloops : q4 < 0
  · go_wp2_with fail
    go_ret
    exact ⟨⟨_, rfl, by omega, by omega, fun hq => by omega⟩, B4.out⟩
  go_wp2_with fail
  refine (szFrameS_dv _ _ q4 _ (HHframes.out.on B4.out) HFframes.out (by omega) (by omega)).mono ?_
  rintro e w5 ⟨⟨q5, rfl, qa5, qb5, Q5⟩, b5⟩
  have B5 := Lib.hid (below_trans B4.out b5)
  have C5 := Lib.hid (C4.out.below b5)
  have k5_locals_next := C5.out.2 7 _ rfl
  have k5_locals_binds := C5.out.2 8 _ rfl
  have k5_locals_cells := C5.out.2 9 _ rfl
  have k5_locals_levels := C5.out.2 10 _ rfl
  clear C4 b5 k4_frames
  by_cases zframes : q5 < 0
  · go_wp2_with fail
    go_ret
    exact ⟨⟨_, rfl, by omega, by omega, fun hq => by omega⟩, B5.out⟩
  go_wp2_with fail
  refine (szLocals_dv _ _ q5 _ (HHlocals.out.on B5.out) HFlocals.out (by omega) (by omega)).mono ?_
  rintro e w6 ⟨⟨q6, rfl, qa6, qb6, Q6⟩, b6⟩
  have B6 := Lib.hid (below_trans B5.out b6)
  have C6 := Lib.hid (C5.out.below b6)
  have k6_naked_glob := C6.out.2 13 _ rfl
  have k6_naked_name := C6.out.2 14 _ rfl
  have k6_naked_subs := C6.out.2 15 _ rfl
  clear C5 b6 k5_locals_next k5_locals_binds k5_locals_cells k5_locals_levels
  by_cases zlocals : q6 < 0
  · go_wp2_with fail
    go_ret
    exact ⟨⟨_, rfl, by omega, by omega, fun hq => by omega⟩, B6.out⟩
  go_wp2_with fail
  refine (szRef_dv _ _ q6 _ (HHnaked.out.on B6.out) HFnaked.out (by omega) (by omega)).mono ?_
  rintro e w7 ⟨⟨q7, rfl, qa7, qb7, Q7⟩, b7⟩
  have B7 := Lib.hid (below_trans B6.out b7)
  have C7 := Lib.hid (C6.out.below b7)
  have k7_input := C7.out.2 20 _ rfl
  clear C6 b7 k6_naked_glob k6_naked_name k6_naked_subs
  by_cases znaked : q7 < 0
  · go_wp2_with fail
    go_ret
    exact ⟨⟨_, rfl, by omega, by omega, fun hq => by omega⟩, B7.out⟩
  by_cases zinput : q7 - input.size < 0
  · go_wp2_with fail
    go_ret
    exact ⟨⟨_, rfl, by omega, by omega, fun hq => by omega⟩, B7.out⟩
  go_wp2_with fail
  go_ret
  exact ⟨⟨_, rfl, by omega, by omega, fun _ => (.pair (.num _) (.pair (.num _) (.pair (Q1.out (by omega)) (.pair (Q2.out (by omega)) (.pair (Q3.out (by omega)) (.pair (Q4.out (by omega)) (.pair (Q5.out (by omega)) (.pair (Q6.out (by omega)) (.pair (.bool _) (.pair (.bool _) (.pair (Q7.out (by omega)) (.pair (.num _) (.pair (.num _) (.pair (.num _) (.pair (.num _) (.pair (.str _ (show input.size ≤ 1048576 by omega)) .unit))))))))))))))))⟩, B7.out⟩

end Go.Proofs.Ytllamjgloilioaa
