/- Machines: spec's equality. (printed by gen_dv.py) -/
import Derived.Test.YtllamjgloilioaaDvMach
import Derived.Test.YtllamjgloilioaaDvLocals2
namespace Go.Proofs.Ytllamjgloilioaa
open Go.RowKit Go.ChangeShapes Go.WideShapes Go.ChangeAt Go.Deep
set_option linter.unusedVariables false
set_option linter.unusedSimpArgs false

set_option maxHeartbeats 4000000 in
set_option maxRecDepth 8000 in
theorem l14Same_dv (cs cs2 : List Value) (d d2 : DV) (w : World) (h : At w tyMachine cs d) (h2 : At w tyMachine cs2 d2) (hf : Fits 1048576 d) :
    Calls Try.prog 16 #[.agg cs.toArray, .agg cs2.toArray] w fun e w' => GotB e d d2 ∧ Below w.heap.size w w' := by
  obtain ⟨status, pc, Astack, cstack, stack, Arefs, crefs, refs, Aargs, cargs, args, Aloops, cloops, loops, Aframes, cframes, frames, locals_next, Alocals_binds, clocals_binds, locals_binds, Alocals_cells, clocals_cells, locals_cells, Alocals_levels, clocals_levels, locals_levels, dlocals, test, nakedon, naked_glob, naked_name, Anaked_subs, cnaked_subs, naked_subs, dnaked, code, trans, fault, wait, input, rfl, rfl, Hstack, Hrefs, Hargs, Hloops, Hframes, Hlocals, Hnaked⟩ := Rd.invMachine h
  obtain ⟨status2, pc2, Astack2, cstack2, stack2, Arefs2, crefs2, refs2, Aargs2, cargs2, args2, Aloops2, cloops2, loops2, Aframes2, cframes2, frames2, locals_next2, Alocals_binds2, clocals_binds2, locals_binds2, Alocals_cells2, clocals_cells2, locals_cells2, Alocals_levels2, clocals_levels2, locals_levels2, dlocals2, test2, nakedon2, naked_glob2, naked_name2, Anaked_subs2, cnaked_subs2, naked_subs2, dnaked2, code2, trans2, fault2, wait2, input2, rfl, rfl, Hstack2, Hrefs2, Hargs2, Hloops2, Hframes2, Hlocals2, Hnaked2⟩ := Rd.invMachine h2
  have hba : Hid (Below w.heap.size w ((w.alloc (.cells #[.int .i64 status, .int .i64 pc, .slice Astack stack.length cstack, .slice Arefs refs.length crefs, .slice Aargs args.length cargs, .slice Aloops loops.length cloops, .slice Aframes frames.length cframes, .int .i64 locals_next, .slice Alocals_binds locals_binds.length clocals_binds, .slice Alocals_cells locals_cells.length clocals_cells, .slice Alocals_levels locals_levels.length clocals_levels, .bool test, .bool nakedon, .bool naked_glob, .string naked_name, .slice Anaked_subs naked_subs.length cnaked_subs, .int .i64 code, .int .i64 trans, .int .i64 fault, .int .i64 wait, .string input] 49)).alloc (.cells #[.int .i64 status2, .int .i64 pc2, .slice Astack2 stack2.length cstack2, .slice Arefs2 refs2.length crefs2, .slice Aargs2 args2.length cargs2, .slice Aloops2 loops2.length cloops2, .slice Aframes2 frames2.length cframes2, .int .i64 locals_next2, .slice Alocals_binds2 locals_binds2.length clocals_binds2, .slice Alocals_cells2 locals_cells2.length clocals_cells2, .slice Alocals_levels2 locals_levels2.length clocals_levels2, .bool test2, .bool nakedon2, .bool naked_glob2, .string naked_name2, .slice Anaked_subs2 naked_subs2.length cnaked_subs2, .int .i64 code2, .int .i64 trans2, .int .i64 fault2, .int .i64 wait2, .string input2] 49))) := Joins.below_alloc2 w _ _
  have HHstack : Hid (At w (.sl .str) [.slice Astack stack.length cstack] (.sl stack)) := Hstack; clear Hstack
  have HHstack2 : Hid (At w (.sl .str) [.slice Astack2 stack2.length cstack2] (.sl stack2)) := Hstack2; clear Hstack2
  have HFstack := Lib.hid hf.snd.snd.fst
  have hlstack := HFstack.out.len
  have HHrefs : Hid (At w (.sl tyRef) [.slice Arefs refs.length crefs] (.sl refs)) := Hrefs; clear Hrefs
  have HHrefs2 : Hid (At w (.sl tyRef) [.slice Arefs2 refs2.length crefs2] (.sl refs2)) := Hrefs2; clear Hrefs2
  have HFrefs := Lib.hid hf.snd.snd.snd.fst
  have hlrefs := HFrefs.out.len
  have HHargs : Hid (At w (.sl tyGiven) [.slice Aargs args.length cargs] (.sl args)) := Hargs; clear Hargs
  have HHargs2 : Hid (At w (.sl tyGiven) [.slice Aargs2 args2.length cargs2] (.sl args2)) := Hargs2; clear Hargs2
  have HFargs := Lib.hid hf.snd.snd.snd.snd.fst
  have hlargs := HFargs.out.len
  have HHloops : Hid (At w (.sl tyLoop) [.slice Aloops loops.length cloops] (.sl loops)) := Hloops; clear Hloops
  have HHloops2 : Hid (At w (.sl tyLoop) [.slice Aloops2 loops2.length cloops2] (.sl loops2)) := Hloops2; clear Hloops2
  have HFloops := Lib.hid hf.snd.snd.snd.snd.snd.fst
  have hlloops := HFloops.out.len
  have HHframes : Hid (At w (.sl tyFrame) [.slice Aframes frames.length cframes] (.sl frames)) := Hframes; clear Hframes
  have HHframes2 : Hid (At w (.sl tyFrame) [.slice Aframes2 frames2.length cframes2] (.sl frames2)) := Hframes2; clear Hframes2
  have HFframes := Lib.hid hf.snd.snd.snd.snd.snd.snd.fst
  have hlframes := HFframes.out.len
  have HHlocals : Hid (At w tyLocals [.int .i64 locals_next, .slice Alocals_binds locals_binds.length clocals_binds, .slice Alocals_cells locals_cells.length clocals_cells, .slice Alocals_levels locals_levels.length clocals_levels] dlocals) := Hlocals; clear Hlocals
  have HHlocals2 : Hid (At w tyLocals [.int .i64 locals_next2, .slice Alocals_binds2 locals_binds2.length clocals_binds2, .slice Alocals_cells2 locals_cells2.length clocals_cells2, .slice Alocals_levels2 locals_levels2.length clocals_levels2] dlocals2) := Hlocals2; clear Hlocals2
  have HFlocals := Lib.hid hf.snd.snd.snd.snd.snd.snd.snd.fst
  have HHnaked : Hid (At w tyRef [.bool naked_glob, .string naked_name, .slice Anaked_subs naked_subs.length cnaked_subs] dnaked) := Hnaked; clear Hnaked
  have HHnaked2 : Hid (At w tyRef [.bool naked_glob2, .string naked_name2, .slice Anaked_subs2 naked_subs2.length cnaked_subs2] dnaked2) := Hnaked2; clear Hnaked2
  have HFnaked := Lib.hid hf.snd.snd.snd.snd.snd.snd.snd.snd.snd.snd.fst
  clear hf
  have HV : Hid (∀ b : Bool, (b = true ↔ status = status2 ∧ pc = pc2 ∧ DV.sl stack = DV.sl stack2 ∧ DV.sl refs = DV.sl refs2 ∧ DV.sl args = DV.sl args2 ∧ DV.sl loops = DV.sl loops2 ∧ DV.sl frames = DV.sl frames2 ∧ dlocals = dlocals2 ∧ test = test2 ∧ nakedon = nakedon2 ∧ dnaked = dnaked2 ∧ code = code2 ∧ trans = trans2 ∧ fault = fault2 ∧ wait = wait2 ∧ input = input2) → EqB b (.pair (.num status) (.pair (.num pc) (.pair (.sl stack) (.pair (.sl refs) (.pair (.sl args) (.pair (.sl loops) (.pair (.sl frames) (.pair dlocals (.pair (.bool test) (.pair (.bool nakedon) (.pair dnaked (.pair (.num code) (.pair (.num trans) (.pair (.num fault) (.pair (.num wait) (.pair (.str input) .unit)))))))))))))))) (.pair (.num status2) (.pair (.num pc2) (.pair (.sl stack2) (.pair (.sl refs2) (.pair (.sl args2) (.pair (.sl loops2) (.pair (.sl frames2) (.pair dlocals2 (.pair (.bool test2) (.pair (.bool nakedon2) (.pair dnaked2 (.pair (.num code2) (.pair (.num trans2) (.pair (.num fault2) (.pair (.num wait2) (.pair (.str input2) .unit))))))))))))))))) := fun b hb => by
    unfold EqB; rw [hb]; simp only [DV.pair.injEq, DV.num.injEq, DV.bool.injEq, DV.str.injEq, and_true]
  have C0 := Lib.hid ((CellsAt.new w #[.int .i64 status, .int .i64 pc, .slice Astack stack.length cstack, .slice Arefs refs.length crefs, .slice Aargs args.length cargs, .slice Aloops loops.length cloops, .slice Aframes frames.length cframes, .int .i64 locals_next, .slice Alocals_binds locals_binds.length clocals_binds, .slice Alocals_cells locals_cells.length clocals_cells, .slice Alocals_levels locals_levels.length clocals_levels, .bool test, .bool nakedon, .bool naked_glob, .string naked_name, .slice Anaked_subs naked_subs.length cnaked_subs, .int .i64 code, .int .i64 trans, .int .i64 fault, .int .i64 wait, .string input] 49).below (Joins.below_alloc1 _ (.cells #[.int .i64 status2, .int .i64 pc2, .slice Astack2 stack2.length cstack2, .slice Arefs2 refs2.length crefs2, .slice Aargs2 args2.length cargs2, .slice Aloops2 loops2.length cloops2, .slice Aframes2 frames2.length cframes2, .int .i64 locals_next2, .slice Alocals_binds2 locals_binds2.length clocals_binds2, .slice Alocals_cells2 locals_cells2.length clocals_cells2, .slice Alocals_levels2 locals_levels2.length clocals_levels2, .bool test2, .bool nakedon2, .bool naked_glob2, .string naked_name2, .slice Anaked_subs2 naked_subs2.length cnaked_subs2, .int .i64 code2, .int .i64 trans2, .int .i64 fault2, .int .i64 wait2, .string input2] 49)))
  have D0 := Lib.hid (CellsAt.new (w.alloc (.cells #[.int .i64 status, .int .i64 pc, .slice Astack stack.length cstack, .slice Arefs refs.length crefs, .slice Aargs args.length cargs, .slice Aloops loops.length cloops, .slice Aframes frames.length cframes, .int .i64 locals_next, .slice Alocals_binds locals_binds.length clocals_binds, .slice Alocals_cells locals_cells.length clocals_cells, .slice Alocals_levels locals_levels.length clocals_levels, .bool test, .bool nakedon, .bool naked_glob, .string naked_name, .slice Anaked_subs naked_subs.length cnaked_subs, .int .i64 code, .int .i64 trans, .int .i64 fault, .int .i64 wait, .string input] 49)) #[.int .i64 status2, .int .i64 pc2, .slice Astack2 stack2.length cstack2, .slice Arefs2 refs2.length crefs2, .slice Aargs2 args2.length cargs2, .slice Aloops2 loops2.length cloops2, .slice Aframes2 frames2.length cframes2, .int .i64 locals_next2, .slice Alocals_binds2 locals_binds2.length clocals_binds2, .slice Alocals_cells2 locals_cells2.length clocals_cells2, .slice Alocals_levels2 locals_levels2.length clocals_levels2, .bool test2, .bool nakedon2, .bool naked_glob2, .string naked_name2, .slice Anaked_subs2 naked_subs2.length cnaked_subs2, .int .i64 code2, .int .i64 trans2, .int .i64 fault2, .int .i64 wait2, .string input2] 49)
  have hz1 : (w.alloc (.cells #[.int .i64 status, .int .i64 pc, .slice Astack stack.length cstack, .slice Arefs refs.length crefs, .slice Aargs args.length cargs, .slice Aloops loops.length cloops, .slice Aframes frames.length cframes, .int .i64 locals_next, .slice Alocals_binds locals_binds.length clocals_binds, .slice Alocals_cells locals_cells.length clocals_cells, .slice Alocals_levels locals_levels.length clocals_levels, .bool test, .bool nakedon, .bool naked_glob, .string naked_name, .slice Anaked_subs naked_subs.length cnaked_subs, .int .i64 code, .int .i64 trans, .int .i64 fault, .int .i64 wait, .string input] 49)).heap.size = w.heap.size + 1 := by simp
  rw [hz1] at D0; clear hz1
  go_enter Try.func16, Try.ntmps16
  rcases eqForms status status2 with ⟨e1status, e2status, Estatus⟩ | ⟨e1, e2, Estatus⟩
  rotate_left
  · have hne := Estatus.out
    go_wp2_with fail
    go_ret
    exact ⟨⟨false, rfl, HV.out false (by simp [hne])⟩, hba.out⟩
  rcases eqForms pc pc2 with ⟨e1pc, e2pc, Epc⟩ | ⟨e1, e2, Epc⟩
  rotate_left
  · have hne := Epc.out
    go_wp2_with fail
    go_ret
    exact ⟨⟨false, rfl, HV.out false (by simp [hne])⟩, hba.out⟩
  go_wp2_with fail
  refine (l02Same_dv _ _ _ _ _ (HHstack.out.on hba.out) (HHstack2.out.on hba.out) HFstack.out).mono ?_
  rintro e w1 ⟨⟨r1, rfl, HE1⟩, b1⟩
  have B1 := Lib.hid (below_trans hba.out b1)
  have C1 := Lib.hid (C0.out.below b1)
  have D1 := Lib.hid (D0.out.below b1)
  have k1_refs := C1.out.2 3 _ rfl
  have m1_refs := D1.out.2 3 _ rfl
  have k1_args := C1.out.2 4 _ rfl
  have m1_args := D1.out.2 4 _ rfl
  have k1_loops := C1.out.2 5 _ rfl
  have m1_loops := D1.out.2 5 _ rfl
  have k1_frames := C1.out.2 6 _ rfl
  have m1_frames := D1.out.2 6 _ rfl
  clear C0 D0 b1
  cases r1
  · have hne : ¬ DV.sl stack = .sl stack2 := fun h => by have := HE1.2 h; cases this
    go_wp2_with fail
    go_ret
    exact ⟨⟨false, rfl, HV.out false (by simp [hne])⟩, B1.out⟩
  have Estack := Lib.hid (HE1.1 rfl); clear HE1
  rcases eqForms (refs.length : Int) (refs2.length : Int) with ⟨l1refs, l2refs, l3⟩ | ⟨l1refs, l2refs, l3⟩
  rotate_left
  · have hne : ¬ DV.sl refs = .sl refs2 := fun h => l3.out (by rw [sl_len h])
    have e4 : (refs.length == refs2.length) = false := by have := l3.out; simp; omega
    have e5 : (refs.length != refs2.length) = true := by have := l3.out; simp; omega
    go_wp2_with fail
    go_ret
    exact ⟨⟨false, rfl, HV.out false (by simp [hne])⟩, B1.out⟩
  have hlenrefs : refs.length = refs2.length := by have := l3.out; omega
  have m4refs : (refs.length == refs2.length) = true := by simp [hlenrefs]
  have m5refs : (refs.length != refs2.length) = false := by simp [hlenrefs]
  have HLrefs := Lib.hid hlenrefs; clear hlenrefs l3
  rcases eqForms (args.length : Int) (args2.length : Int) with ⟨l1args, l2args, l3⟩ | ⟨l1args, l2args, l3⟩
  rotate_left
  · have hne : ¬ DV.sl args = .sl args2 := fun h => l3.out (by rw [sl_len h])
    have e4 : (args.length == args2.length) = false := by have := l3.out; simp; omega
    have e5 : (args.length != args2.length) = true := by have := l3.out; simp; omega
    go_wp2_with fail
    go_ret
    exact ⟨⟨false, rfl, HV.out false (by simp [hne])⟩, B1.out⟩
  have hlenargs : args.length = args2.length := by have := l3.out; omega
  have m4args : (args.length == args2.length) = true := by simp [hlenargs]
  have m5args : (args.length != args2.length) = false := by simp [hlenargs]
  have HLargs := Lib.hid hlenargs; clear hlenargs l3
  rcases eqForms (loops.length : Int) (loops2.length : Int) with ⟨l1loops, l2loops, l3⟩ | ⟨l1loops, l2loops, l3⟩
  rotate_left
  · have hne : ¬ DV.sl loops = .sl loops2 := fun h => l3.out (by rw [sl_len h])
    have e4 : (loops.length == loops2.length) = false := by have := l3.out; simp; omega
    have e5 : (loops.length != loops2.length) = true := by have := l3.out; simp; omega
    go_wp2_with fail
    go_ret
    exact ⟨⟨false, rfl, HV.out false (by simp [hne])⟩, B1.out⟩
  have hlenloops : loops.length = loops2.length := by have := l3.out; omega
  have m4loops : (loops.length == loops2.length) = true := by simp [hlenloops]
  have m5loops : (loops.length != loops2.length) = false := by simp [hlenloops]
  have HLloops := Lib.hid hlenloops; clear hlenloops l3
  rcases eqForms (frames.length : Int) (frames2.length : Int) with ⟨l1frames, l2frames, l3⟩ | ⟨l1frames, l2frames, l3⟩
  rotate_left
  · have hne : ¬ DV.sl frames = .sl frames2 := fun h => l3.out (by rw [sl_len h])
    have e4 : (frames.length == frames2.length) = false := by have := l3.out; simp; omega
    have e5 : (frames.length != frames2.length) = true := by have := l3.out; simp; omega
    go_wp2_with fail
    go_ret
    exact ⟨⟨false, rfl, HV.out false (by simp [hne])⟩, B1.out⟩
  have hlenframes : frames.length = frames2.length := by have := l3.out; omega
  have m4frames : (frames.length == frames2.length) = true := by simp [hlenframes]
  have m5frames : (frames.length != frames2.length) = false := by simp [hlenframes]
  have HLframes := Lib.hid hlenframes; clear hlenframes l3
  go_wp2_with fail
  clear k1_refs m1_refs k1_args m1_args k1_loops m1_loops k1_frames m1_frames
  go_loopw [5] (fun i wr => ∃ k : Nat, k ≤ refs.length ∧ i = .int .i64 k ∧ Hid (DV.sl refs = .sl refs2 ↔ DV.sl (refs.drop k) = .sl (refs2.drop k)) ∧ Below w1.heap.size w1 wr) (fun i _ => refs.length - (intOf i).toNat)
  case atStart => exact ⟨0, Nat.zero_le _, rfl, by show _ ↔ _; rw [List.drop_zero, List.drop_zero], below_refl _⟩
  case round =>
    obtain ⟨k, hk, rfl, HI, hbel⟩ := hrel
    have Crefs := Lib.hid (C1.out.below hbel)
    have Drefs := Lib.hid (D1.out.below hbel)
    have Brefs := Lib.hid (below_trans B1.out hbel)
    have kA := Crefs.out.2 3 _ rfl
    have kB := Drefs.out.2 3 _ rfl
    by_cases hlt : k < refs.length
    · have hlt2 : k < refs2.length := by rw [← HLrefs.out]; exact hlt
      have HB : Hid (Below w.heap.size w wr.drew) := Brefs.out.drew
      have HD := Lib.hid (List.drop_eq_getElem_cons hlt)
      have HD2 := Lib.hid (List.drop_eq_getElem_cons hlt2)
      have i0 : (0 : Int) ≤ k := by omega
      have i1 : (k : Int) < refs.length := by omega
      have i2 : (k : Int) < refs2.length := by omega
      obtain ⟨ad, globq, nameq, Asubsq, csubsq, subsq, rfl, hbl, hat, a0, a1, a2⟩ := (HHrefs.out.on Brefs.out).getRef hlt
      obtain ⟨ad2, globr, namer, Asubsr, csubsr, subsr, rfl, hbl2, hat2, b0, b1, b2⟩ := (HHrefs2.out.on Brefs.out).getRef hlt2
      have HX := Lib.hid (HFrefs.out.mem _ (List.getElem_mem hlt))
      have HA3 : Hid (At wr.drew tyRef [.bool globq, .string nameq, .slice Asubsq subsq.length csubsq] refs[k]) := hat.on ((below_refl wr).drew); clear hat
      have HA4 : Hid (At wr.drew tyRef [.bool globr, .string namer, .slice Asubsr subsr.length csubsr] refs2[k]) := hat2.on ((below_refl wr).drew); clear hat2
      generalize refs[k] = x at *
      generalize refs2[k] = y at *
      go_wp2_with fail
      have kA' : World.cell? { heap := wr.heap, tape := wr.tape, drawn := wr.drawn + 1, os := wr.os, output := wr.output } ⟨w.heap.size, 3, none⟩ = some (.slice (some ad) refs.length crefs) := kA
      have kB' : World.cell? { heap := wr.heap, tape := wr.tape, drawn := wr.drawn + 1, os := wr.os, output := wr.output } ⟨w.heap.size + 1, 3, none⟩ = some (.slice (some ad2) refs2.length crefs2) := kB
      have a0' : World.cell? { heap := wr.heap, tape := wr.tape, drawn := wr.drawn + 1, os := wr.os, output := wr.output } (ad.add (k * 3)) = some (.bool globq) := a0
      have b0' : World.cell? { heap := wr.heap, tape := wr.tape, drawn := wr.drawn + 1, os := wr.os, output := wr.output } (ad2.add (k * 3)) = some (.bool globr) := b0
      have a1' : World.cell? { heap := wr.heap, tape := wr.tape, drawn := wr.drawn + 1, os := wr.os, output := wr.output } ⟨(ad.add (k * 3)).block, (ad.add (k * 3)).off + 1, none⟩ = some (.string nameq) := a1
      have b1' : World.cell? { heap := wr.heap, tape := wr.tape, drawn := wr.drawn + 1, os := wr.os, output := wr.output } ⟨(ad2.add (k * 3)).block, (ad2.add (k * 3)).off + 1, none⟩ = some (.string namer) := b1
      have a2' : World.cell? { heap := wr.heap, tape := wr.tape, drawn := wr.drawn + 1, os := wr.os, output := wr.output } ⟨(ad.add (k * 3)).block, (ad.add (k * 3)).off + 2, none⟩ = some (.slice Asubsq subsq.length csubsq) := a2
      have b2' : World.cell? { heap := wr.heap, tape := wr.tape, drawn := wr.drawn + 1, os := wr.os, output := wr.output } ⟨(ad2.add (k * 3)).block, (ad2.add (k * 3)).off + 2, none⟩ = some (.slice Asubsr subsr.length csubsr) := b2
      go_still_tail 10, (by kernel_rfl)
      change wpList _ _ _ _ _ wr.drew
      have hbd : Below w1.heap.size w1 wr.drew := hbel.drew
      generalize wr.drew = w5 at *
      clear kA kB kA' kB' a0 b0 a0' b0' a1 b1 a1' b1' a2 b2 a2' b2'
      go_wp2_with fail
      refine (l14SameRef_dv _ _ x y _ HA3.out HA4.out HX.out).mono ?_
      rintro e w6 ⟨⟨r, rfl, HE⟩, b6⟩
      have HB6 := Lib.hid (below_trans HB.out b6)
      have HB7 := Lib.hid (below_trans hbd b6)
      have HEE := Lib.hid HE; clear HE b6 hbd
      cases r
      · have hq : ¬ DV.sl refs = .sl refs2 := fun h => by
          rw [HI.out, HD.out, HD2.out, sl_cons] at h
          have := HEE.out.2 h.1
          cases this
        go_wp2_with fail
        go_ret
        exact ⟨⟨false, rfl, HV.out false (by simp [hq])⟩, HB6.out⟩
      · go_wp2_with fail
        refine ⟨⟨k + 1, by omega, by go_num, ?_, HB7.out⟩, by simp [intOf]; omega⟩
        show _ ↔ _
        rw [HI.out, HD.out, HD2.out, sl_cons]
        exact ⟨fun h => h.2, fun h => ⟨HEE.out.1 rfl, h⟩⟩
    · obtain rfl : k = refs.length := by omega
      have Erefs : Hid (DV.sl refs = .sl refs2) := by
        show _ = _
        rw [HI.out, List.drop_eq_nil_of_le (by omega), List.drop_eq_nil_of_le (by rw [← HLrefs.out]; omega)]
      clear HI
      obtain ⟨wrefs, rfl⟩ : ∃ wrefs : World, wrefs = wr := ⟨_, rfl⟩
      clear hbel
      go_wp2_with fail
      clear kA kB
      go_loopw [6] (fun i wr => ∃ k : Nat, k ≤ args.length ∧ i = .int .i64 k ∧ Hid (DV.sl args = .sl args2 ↔ DV.sl (args.drop k) = .sl (args2.drop k)) ∧ Below wrefs.heap.size wrefs wr) (fun i _ => args.length - (intOf i).toNat)
      case atStart => exact ⟨0, Nat.zero_le _, rfl, by show _ ↔ _; rw [List.drop_zero, List.drop_zero], below_refl _⟩
      case round =>
        obtain ⟨k, hk, rfl, HI, hbel⟩ := hrel
        have Cargs := Lib.hid (Crefs.out.below hbel)
        have Dargs := Lib.hid (Drefs.out.below hbel)
        have Bargs := Lib.hid (below_trans Brefs.out hbel)
        have kA := Cargs.out.2 4 _ rfl
        have kB := Dargs.out.2 4 _ rfl
        by_cases hlt : k < args.length
        · have hlt2 : k < args2.length := by rw [← HLargs.out]; exact hlt
          have HB : Hid (Below w.heap.size w wr.drew) := Bargs.out.drew
          have HD := Lib.hid (List.drop_eq_getElem_cons hlt)
          have HD2 := Lib.hid (List.drop_eq_getElem_cons hlt2)
          have i0 : (0 : Int) ≤ k := by omega
          have i1 : (k : Int) < args.length := by omega
          have i2 : (k : Int) < args2.length := by omega
          obtain ⟨ad, byrefq, textq, rfl, hbl, hat, a0, a1⟩ := (HHargs.out.on Bargs.out).getGiven hlt
          obtain ⟨ad2, byrefr, textr, rfl, hbl2, hat2, b0, b1⟩ := (HHargs2.out.on Bargs.out).getGiven hlt2
          have HXq : Hid (args[k] = .pair (.bool byrefq) (.pair (.str textq) .unit)) := by
            obtain ⟨y0, y1, e1, e2⟩ := Rd.invGiven hat
            simp only [List.cons.injEq, Value.int.injEq, Value.bool.injEq, Value.string.injEq, and_true, true_and] at e1
            obtain ⟨rfl, rfl⟩ := e1
            exact e2
          rw [HXq.out] at HD
          have HXr : Hid (args2[k] = .pair (.bool byrefr) (.pair (.str textr) .unit)) := by
            obtain ⟨y0, y1, e1, e2⟩ := Rd.invGiven hat2
            simp only [List.cons.injEq, Value.int.injEq, Value.bool.injEq, Value.string.injEq, and_true, true_and] at e1
            obtain ⟨rfl, rfl⟩ := e1
            exact e2
          rw [HXr.out] at HD2
          clear hat hat2 HXq HXr
          have HC := Lib.hid (conj_Given byrefq byrefr textq textr)
          have hne := fun W => neqGiven_run byrefq byrefr textq textr W
          obtain ⟨r, hr⟩ : ∃ r : Bool, decide (byrefq = byrefr ∧ textq = textr) = r := ⟨_, rfl⟩
          rw [hr] at hne
          have HR := Lib.hid hr; clear hr
          have hfalse : r = false → ¬ DV.sl args = .sl args2 := fun hr h => by
            rw [HI.out, HD.out, HD2.out, sl_cons] at h
            rw [hr] at HR
            exact absurd (HC.out.2 h.1) (of_decide_eq_false HR.out)
          have HF := Lib.hid hfalse; clear hfalse
          cases r
          · have hq := HF.out rfl
            go_wp2
            go_quiet (fail)
            go_wp2
            go_ret
            exact ⟨⟨false, rfl, HV.out false (by simp [hq])⟩, below_trans Bargs.out (below_drewN _ _)⟩
          · go_wp2
            go_quiet (fail)
            go_wp2
            refine ⟨⟨k + 1, by omega, by go_num, ?_, below_trans hbel (below_drewN _ _)⟩, by simp [intOf]; omega⟩
            show _ ↔ _
            rw [HI.out, HD.out, HD2.out, sl_cons]
            exact ⟨fun h => h.2, fun h => ⟨HC.out.1 (of_decide_eq_true HR.out), h⟩⟩
        · obtain rfl : k = args.length := by omega
          have Eargs : Hid (DV.sl args = .sl args2) := by
            show _ = _
            rw [HI.out, List.drop_eq_nil_of_le (by omega), List.drop_eq_nil_of_le (by rw [← HLargs.out]; omega)]
          clear HI
          obtain ⟨wargs, rfl⟩ : ∃ wargs : World, wargs = wr := ⟨_, rfl⟩
          clear hbel
          go_wp2_with fail
          clear kA kB
          go_loopw [7] (fun i wr => ∃ k : Nat, k ≤ loops.length ∧ i = .int .i64 k ∧ Hid (DV.sl loops = .sl loops2 ↔ DV.sl (loops.drop k) = .sl (loops2.drop k)) ∧ Below wargs.heap.size wargs wr) (fun i _ => loops.length - (intOf i).toNat)
          case atStart => exact ⟨0, Nat.zero_le _, rfl, by show _ ↔ _; rw [List.drop_zero, List.drop_zero], below_refl _⟩
          case round =>
            obtain ⟨k, hk, rfl, HI, hbel⟩ := hrel
            have Cloops := Lib.hid (Cargs.out.below hbel)
            have Dloops := Lib.hid (Dargs.out.below hbel)
            have Bloops := Lib.hid (below_trans Bargs.out hbel)
            have kA := Cloops.out.2 5 _ rfl
            have kB := Dloops.out.2 5 _ rfl
            by_cases hlt : k < loops.length
            · have hlt2 : k < loops2.length := by rw [← HLloops.out]; exact hlt
              have HB : Hid (Below w.heap.size w wr.drew) := Bloops.out.drew
              have HD := Lib.hid (List.drop_eq_getElem_cons hlt)
              have HD2 := Lib.hid (List.drop_eq_getElem_cons hlt2)
              have i0 : (0 : Int) ≤ k := by omega
              have i1 : (k : Int) < loops.length := by omega
              have i2 : (k : Int) < loops2.length := by omega
              obtain ⟨ad, nameq, stepq, limitq, hasq, nextq, finq, rfl, hbl, hat, a0, a1, a2, a3, a4, a5⟩ := (HHloops.out.on Bloops.out).getLoop hlt
              obtain ⟨ad2, namer, stepr, limitr, hasr, nextr, finr, rfl, hbl2, hat2, b0, b1, b2, b3, b4, b5⟩ := (HHloops2.out.on Bloops.out).getLoop hlt2
              have HXq : Hid (loops[k] = .pair (.str nameq) (.pair (.num stepq) (.pair (.num limitq) (.pair (.bool hasq) (.pair (.num nextq) (.pair (.num finq) .unit)))))) := by
                obtain ⟨y0, y1, y2, y3, y4, y5, e1, e2⟩ := Rd.invLoop hat
                simp only [List.cons.injEq, Value.int.injEq, Value.bool.injEq, Value.string.injEq, and_true, true_and] at e1
                obtain ⟨rfl, rfl, rfl, rfl, rfl, rfl⟩ := e1
                exact e2
              rw [HXq.out] at HD
              have HXr : Hid (loops2[k] = .pair (.str namer) (.pair (.num stepr) (.pair (.num limitr) (.pair (.bool hasr) (.pair (.num nextr) (.pair (.num finr) .unit)))))) := by
                obtain ⟨y0, y1, y2, y3, y4, y5, e1, e2⟩ := Rd.invLoop hat2
                simp only [List.cons.injEq, Value.int.injEq, Value.bool.injEq, Value.string.injEq, and_true, true_and] at e1
                obtain ⟨rfl, rfl, rfl, rfl, rfl, rfl⟩ := e1
                exact e2
              rw [HXr.out] at HD2
              clear hat hat2 HXq HXr
              have HC := Lib.hid (conj_Loop nameq namer stepq stepr limitq limitr hasq hasr nextq nextr finq finr)
              have hne := fun W => neqLoop_run nameq namer stepq stepr limitq limitr hasq hasr nextq nextr finq finr W
              obtain ⟨r, hr⟩ : ∃ r : Bool, decide (nameq = namer ∧ stepq = stepr ∧ limitq = limitr ∧ hasq = hasr ∧ nextq = nextr ∧ finq = finr) = r := ⟨_, rfl⟩
              rw [hr] at hne
              have HR := Lib.hid hr; clear hr
              have hfalse : r = false → ¬ DV.sl loops = .sl loops2 := fun hr h => by
                rw [HI.out, HD.out, HD2.out, sl_cons] at h
                rw [hr] at HR
                exact absurd (HC.out.2 h.1) (of_decide_eq_false HR.out)
              have HF := Lib.hid hfalse; clear hfalse
              cases r
              · have hq := HF.out rfl
                go_wp2
                go_quiet (fail)
                go_wp2
                go_ret
                exact ⟨⟨false, rfl, HV.out false (by simp [hq])⟩, below_trans Bloops.out (below_drewN _ _)⟩
              · go_wp2
                go_quiet (fail)
                go_wp2
                refine ⟨⟨k + 1, by omega, by go_num, ?_, below_trans hbel (below_drewN _ _)⟩, by simp [intOf]; omega⟩
                show _ ↔ _
                rw [HI.out, HD.out, HD2.out, sl_cons]
                exact ⟨fun h => h.2, fun h => ⟨HC.out.1 (of_decide_eq_true HR.out), h⟩⟩
            · obtain rfl : k = loops.length := by omega
              have Eloops : Hid (DV.sl loops = .sl loops2) := by
                show _ = _
                rw [HI.out, List.drop_eq_nil_of_le (by omega), List.drop_eq_nil_of_le (by rw [← HLloops.out]; omega)]
              clear HI
              obtain ⟨wloops, rfl⟩ : ∃ wloops : World, wloops = wr := ⟨_, rfl⟩
              clear hbel
              go_wp2_with fail
              clear kA kB
              go_loopw [8] (fun i wr => ∃ k : Nat, k ≤ frames.length ∧ i = .int .i64 k ∧ Hid (DV.sl frames = .sl frames2 ↔ DV.sl (frames.drop k) = .sl (frames2.drop k)) ∧ Below wloops.heap.size wloops wr) (fun i _ => frames.length - (intOf i).toNat)
              case atStart => exact ⟨0, Nat.zero_le _, rfl, by show _ ↔ _; rw [List.drop_zero, List.drop_zero], below_refl _⟩
              case round =>
                obtain ⟨k, hk, rfl, HI, hbel⟩ := hrel
                have Cframes := Lib.hid (Cloops.out.below hbel)
                have Dframes := Lib.hid (Dloops.out.below hbel)
                have Bframes := Lib.hid (below_trans Bloops.out hbel)
                have kA := Cframes.out.2 6 _ rfl
                have kB := Dframes.out.2 6 _ rfl
                by_cases hlt : k < frames.length
                · have hlt2 : k < frames2.length := by rw [← HLframes.out]; exact hlt
                  have HB : Hid (Below w.heap.size w wr.drew) := Bframes.out.drew
                  have HD := Lib.hid (List.drop_eq_getElem_cons hlt)
                  have HD2 := Lib.hid (List.drop_eq_getElem_cons hlt2)
                  have i0 : (0 : Int) ≤ k := by omega
                  have i1 : (k : Int) < frames.length := by omega
                  have i2 : (k : Int) < frames2.length := by omega
                  obtain ⟨ad, retq, valueq, testq, stackq, refsq, argsq, loopsq, trapq, routineq, rfl, hbl, hat, a0, a1, a2, a3, a4, a5, a6, a7, a8⟩ := (HHframes.out.on Bframes.out).getFrame hlt
                  obtain ⟨ad2, retr, valuer, testr, stackr, refsr, argsr, loopsr, trapr, routiner, rfl, hbl2, hat2, b0, b1, b2, b3, b4, b5, b6, b7, b8⟩ := (HHframes2.out.on Bframes.out).getFrame hlt2
                  have HXq : Hid (frames[k] = .pair (.num retq) (.pair (.bool valueq) (.pair (.bool testq) (.pair (.num stackq) (.pair (.num refsq) (.pair (.num argsq) (.pair (.num loopsq) (.pair (.str trapq) (.pair (.str routineq) .unit))))))))) := by
                    obtain ⟨y0, y1, y2, y3, y4, y5, y6, y7, y8, e1, e2⟩ := Rd.invFrame hat
                    simp only [List.cons.injEq, Value.int.injEq, Value.bool.injEq, Value.string.injEq, and_true, true_and] at e1
                    obtain ⟨rfl, rfl, rfl, rfl, rfl, rfl, rfl, rfl, rfl⟩ := e1
                    exact e2
                  rw [HXq.out] at HD
                  have HXr : Hid (frames2[k] = .pair (.num retr) (.pair (.bool valuer) (.pair (.bool testr) (.pair (.num stackr) (.pair (.num refsr) (.pair (.num argsr) (.pair (.num loopsr) (.pair (.str trapr) (.pair (.str routiner) .unit))))))))) := by
                    obtain ⟨y0, y1, y2, y3, y4, y5, y6, y7, y8, e1, e2⟩ := Rd.invFrame hat2
                    simp only [List.cons.injEq, Value.int.injEq, Value.bool.injEq, Value.string.injEq, and_true, true_and] at e1
                    obtain ⟨rfl, rfl, rfl, rfl, rfl, rfl, rfl, rfl, rfl⟩ := e1
                    exact e2
                  rw [HXr.out] at HD2
                  clear hat hat2 HXq HXr
                  have HC := Lib.hid (conj_Frame retq retr valueq valuer testq testr stackq stackr refsq refsr argsq argsr loopsq loopsr trapq trapr routineq routiner)
                  have hne := fun W => neqFrame_run retq retr valueq valuer testq testr stackq stackr refsq refsr argsq argsr loopsq loopsr trapq trapr routineq routiner W
                  obtain ⟨r, hr⟩ : ∃ r : Bool, decide (retq = retr ∧ valueq = valuer ∧ testq = testr ∧ stackq = stackr ∧ refsq = refsr ∧ argsq = argsr ∧ loopsq = loopsr ∧ trapq = trapr ∧ routineq = routiner) = r := ⟨_, rfl⟩
                  rw [hr] at hne
                  have HR := Lib.hid hr; clear hr
                  have hfalse : r = false → ¬ DV.sl frames = .sl frames2 := fun hr h => by
                    rw [HI.out, HD.out, HD2.out, sl_cons] at h
                    rw [hr] at HR
                    exact absurd (HC.out.2 h.1) (of_decide_eq_false HR.out)
                  have HF := Lib.hid hfalse; clear hfalse
                  cases r
                  · have hq := HF.out rfl
                    go_wp2
                    go_quiet (fail)
                    go_wp2
                    go_ret
                    exact ⟨⟨false, rfl, HV.out false (by simp [hq])⟩, below_trans Bframes.out (below_drewN _ _)⟩
                  · go_wp2
                    go_quiet (fail)
                    go_wp2
                    refine ⟨⟨k + 1, by omega, by go_num, ?_, below_trans hbel (below_drewN _ _)⟩, by simp [intOf]; omega⟩
                    show _ ↔ _
                    rw [HI.out, HD.out, HD2.out, sl_cons]
                    exact ⟨fun h => h.2, fun h => ⟨HC.out.1 (of_decide_eq_true HR.out), h⟩⟩
                · obtain rfl : k = frames.length := by omega
                  have Eframes : Hid (DV.sl frames = .sl frames2) := by
                    show _ = _
                    rw [HI.out, List.drop_eq_nil_of_le (by omega), List.drop_eq_nil_of_le (by rw [← HLframes.out]; omega)]
                  clear HI
                  obtain ⟨wframes, rfl⟩ : ∃ wframes : World, wframes = wr := ⟨_, rfl⟩
                  clear hbel
                  have k10_locals_next := Cframes.out.2 7 _ rfl
                  have m10_locals_next := Dframes.out.2 7 _ rfl
                  have k10_locals_binds := Cframes.out.2 8 _ rfl
                  have m10_locals_binds := Dframes.out.2 8 _ rfl
                  have k10_locals_cells := Cframes.out.2 9 _ rfl
                  have m10_locals_cells := Dframes.out.2 9 _ rfl
                  have k10_locals_levels := Cframes.out.2 10 _ rfl
                  have m10_locals_levels := Dframes.out.2 10 _ rfl
                  go_wp2_with fail
                  clear kA kB
                  go_wp2_with fail
                  refine (l09Same_dv _ _ _ _ _ (HHlocals.out.on Bframes.out) (HHlocals2.out.on Bframes.out) HFlocals.out).mono ?_
                  rintro e w11 ⟨⟨r11, rfl, HE11⟩, b11⟩
                  have B11 := Lib.hid (below_trans Bframes.out b11)
                  have C11 := Lib.hid (Cframes.out.below b11)
                  have D11 := Lib.hid (Dframes.out.below b11)
                  have k11_test := C11.out.2 11 _ rfl
                  have m11_test := D11.out.2 11 _ rfl
                  have k11_nakedon := C11.out.2 12 _ rfl
                  have m11_nakedon := D11.out.2 12 _ rfl
                  have k11_naked_glob := C11.out.2 13 _ rfl
                  have m11_naked_glob := D11.out.2 13 _ rfl
                  have k11_naked_name := C11.out.2 14 _ rfl
                  have m11_naked_name := D11.out.2 14 _ rfl
                  have k11_naked_subs := C11.out.2 15 _ rfl
                  have m11_naked_subs := D11.out.2 15 _ rfl
                  clear Cframes Dframes b11 k10_locals_next m10_locals_next k10_locals_binds m10_locals_binds k10_locals_cells m10_locals_cells k10_locals_levels m10_locals_levels
                  cases r11
                  · have hne : ¬ dlocals = dlocals2 := fun h => by have := HE11.2 h; cases this
                    go_wp2_with fail
                    go_ret
                    exact ⟨⟨false, rfl, HV.out false (by simp [hne])⟩, B11.out⟩
                  have Elocals := Lib.hid (HE11.1 rfl); clear HE11
                  by_cases hne : test = test2
                  rotate_left
                  · have e1 : (test == test2) = false := by simpa using hne
                    have e2 : (test != test2) = true := by simpa using hne
                    go_wp2_with fail
                    go_ret
                    exact ⟨⟨false, rfl, HV.out false (by simp [hne])⟩, B11.out⟩
                  subst hne
                  by_cases hne : nakedon = nakedon2
                  rotate_left
                  · have e1 : (nakedon == nakedon2) = false := by simpa using hne
                    have e2 : (nakedon != nakedon2) = true := by simpa using hne
                    go_wp2_with fail
                    go_ret
                    exact ⟨⟨false, rfl, HV.out false (by simp [hne])⟩, B11.out⟩
                  subst hne
                  go_wp2_with fail
                  refine (l14SameRef_dv _ _ _ _ _ (HHnaked.out.on B11.out) (HHnaked2.out.on B11.out) HFnaked.out).mono ?_
                  rintro e w12 ⟨⟨r12, rfl, HE12⟩, b12⟩
                  have B12 := Lib.hid (below_trans B11.out b12)
                  have C12 := Lib.hid (C11.out.below b12)
                  have D12 := Lib.hid (D11.out.below b12)
                  have k12_code := C12.out.2 16 _ rfl
                  have m12_code := D12.out.2 16 _ rfl
                  have k12_trans := C12.out.2 17 _ rfl
                  have m12_trans := D12.out.2 17 _ rfl
                  have k12_fault := C12.out.2 18 _ rfl
                  have m12_fault := D12.out.2 18 _ rfl
                  have k12_wait := C12.out.2 19 _ rfl
                  have m12_wait := D12.out.2 19 _ rfl
                  have k12_input := C12.out.2 20 _ rfl
                  have m12_input := D12.out.2 20 _ rfl
                  clear C11 D11 b12 k11_test m11_test k11_nakedon m11_nakedon k11_naked_glob m11_naked_glob k11_naked_name m11_naked_name k11_naked_subs m11_naked_subs
                  cases r12
                  · have hne : ¬ dnaked = dnaked2 := fun h => by have := HE12.2 h; cases this
                    go_wp2_with fail
                    go_ret
                    exact ⟨⟨false, rfl, HV.out false (by simp [hne])⟩, B12.out⟩
                  have Enaked := Lib.hid (HE12.1 rfl); clear HE12
                  rcases eqForms code code2 with ⟨e1, e2, Ecode⟩ | ⟨e1, e2, Ecode⟩
                  rotate_left
                  · have hne := Ecode.out
                    go_wp2_with fail
                    go_ret
                    exact ⟨⟨false, rfl, HV.out false (by simp [hne])⟩, B12.out⟩
                  rcases eqForms trans trans2 with ⟨e1, e2, Etrans⟩ | ⟨e1, e2, Etrans⟩
                  rotate_left
                  · have hne := Etrans.out
                    go_wp2_with fail
                    go_ret
                    exact ⟨⟨false, rfl, HV.out false (by simp [hne])⟩, B12.out⟩
                  rcases eqForms fault fault2 with ⟨e1, e2, Efault⟩ | ⟨e1, e2, Efault⟩
                  rotate_left
                  · have hne := Efault.out
                    go_wp2_with fail
                    go_ret
                    exact ⟨⟨false, rfl, HV.out false (by simp [hne])⟩, B12.out⟩
                  rcases eqForms wait wait2 with ⟨e1, e2, Ewait⟩ | ⟨e1, e2, Ewait⟩
                  rotate_left
                  · have hne := Ewait.out
                    go_wp2_with fail
                    go_ret
                    exact ⟨⟨false, rfl, HV.out false (by simp [hne])⟩, B12.out⟩
                  by_cases hne : input = input2
                  rotate_left
                  · have e1 : (input.toList == input2.toList) = false := by rw [ba_toList, ba_toList]; exact beq_eq_false_iff_ne.2 (fun h => hne (ba_ext h))
                    go_wp2_with fail
                    go_ret
                    exact ⟨⟨false, rfl, HV.out false (by simp [hne])⟩, B12.out⟩
                  subst hne
                  go_wp2_with fail
                  go_ret
                  exact ⟨⟨true, rfl, HV.out true (by simp [Estatus.out, Epc.out, Estack.out, Erefs.out, Eargs.out, Eloops.out, Eframes.out, Elocals.out, Enaked.out, Ecode.out, Etrans.out, Efault.out, Ewait.out])⟩, B12.out⟩

end Go.Proofs.Ytllamjgloilioaa
