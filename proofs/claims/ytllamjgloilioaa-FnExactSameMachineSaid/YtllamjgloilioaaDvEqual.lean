/- slices.Equal of flat structs. (printed by gen_dv.py) -/
import Derived.Test.YtllamjgloilioaaDvNeq
namespace Go.Proofs.Ytllamjgloilioaa
open Go.RowKit Go.ChangeShapes Go.WideShapes Go.ChangeAt Go.Deep
set_option linter.unusedVariables false
set_option linter.unusedSimpArgs false

theorem conj_Bind (name name2 : ByteArray) (cell cell2 : Int) : (name = name2 ∧ cell = cell2) ↔ (.pair (.str name) (.pair (.num cell) .unit) = (.pair (.str name2) (.pair (.num cell2) .unit) : DV)) := by simp

set_option maxHeartbeats 2000000 in
set_option maxRecDepth 8000 in
theorem EqualBind_dv (v v2 : Value) (d d2 : DV) (w : World) (h : At w (.sl tyBind) [v] d) (h2 : At w (.sl tyBind) [v2] d2) (hf : Fits 1048576 d) :
    Calls Try.prog 56 #[v, v2] w fun e w' => GotB e d d2 ∧ Below w.heap.size w w' := by
  obtain ⟨A, c, ds, hv, rfl, hc, hr⟩ := Rd.inv_sl h
  simp only [List.cons.injEq, and_true] at hv
  subst hv
  have H : Hid (At w (.sl tyBind) [.slice A ds.length c] (.sl ds)) := hr; clear h hr
  obtain ⟨A2, c2, es, hv, rfl, hc2, hr⟩ := Rd.inv_sl h2
  simp only [List.cons.injEq, and_true] at hv
  subst hv
  have H2 : Hid (At w (.sl tyBind) [.slice A2 es.length c2] (.sl es)) := hr; clear h2 hr
  have hl := hf.len
  have HOK := Lib.hid hf.mem; clear hf
  rcases eqForms (ds.length : Int) (es.length : Int) with ⟨e1, e2, e3⟩ | ⟨e1, e2, e3⟩
  · have hlen : ds.length = es.length := by have := e3.out; omega
    have e4 : (ds.length == es.length) = true := by simp [hlen]
    have e5 : (ds.length != es.length) = false := by simp [hlen]
    have HL := Lib.hid hlen; clear hlen
    go_enter Try.func56, Try.ntmps56
    go_wp2
    go_loopw [5, 13] (fun _ i wr => ∃ k : Nat, k ≤ ds.length ∧ i = .int .i64 k ∧ Hid (DV.sl ds = .sl es ↔ DV.sl (ds.drop k) = .sl (es.drop k)) ∧ Below w.heap.size w wr) (fun _ i _ => ds.length - (intOf i).toNat)
    case atStart => exact ⟨0, Nat.zero_le _, rfl, by show _ ↔ _; rw [List.drop_zero, List.drop_zero], below_refl _⟩
    case round =>
      obtain ⟨k, hk, rfl, HI, hbel⟩ := hrel
      by_cases hlt : k < ds.length
      · have hlt2 : k < es.length := by rw [← HL.out]; exact hlt
        have HB := Lib.hid hbel
        obtain ⟨ad, name, cell, rfl, hbl, hat, a0, a1⟩ := (H.out.on hbel).getBind hlt
        obtain ⟨ad2, name2, cell2, rfl, hbl2, hat2, b0, b1⟩ := (H2.out.on hbel).getBind hlt2
        have HD := Lib.hid (List.drop_eq_getElem_cons hlt)
        have HD2 := Lib.hid (List.drop_eq_getElem_cons hlt2)
        have HX : Hid (ds[k] = .pair (.str name) (.pair (.num cell) .unit)) := by
          obtain ⟨y0, y1, e1, e2⟩ := Rd.invBind hat
          simp only [List.cons.injEq, Value.int.injEq, Value.bool.injEq, Value.string.injEq, and_true, true_and] at e1
          obtain ⟨rfl, rfl⟩ := e1
          exact e2
        have HY : Hid (es[k] = .pair (.str name2) (.pair (.num cell2) .unit)) := by
          obtain ⟨y0, y1, e1, e2⟩ := Rd.invBind hat2
          simp only [List.cons.injEq, Value.int.injEq, Value.bool.injEq, Value.string.injEq, and_true, true_and] at e1
          obtain ⟨rfl, rfl⟩ := e1
          exact e2
        rw [HX.out] at HD
        rw [HY.out] at HD2
        clear hat hat2 HX HY
        have HC := Lib.hid (conj_Bind name name2 cell cell2)
        have hne := fun W => neqBind_run name name2 cell cell2 W
        obtain ⟨r, hr⟩ : ∃ r : Bool, decide (name = name2 ∧ cell = cell2) = r := ⟨_, rfl⟩
        rw [hr] at hne
        have HR := Lib.hid hr; clear hr
        have i0 : (0 : Int) ≤ k := by omega
        have i1 : (k : Int) < ds.length := by omega
        have i2 : (k : Int) < es.length := by omega
        cases r
        · go_wp2
          go_quiet (fail)
          go_wp2
          go_ret
          refine ⟨⟨false, rfl, ?_⟩, (below_trans HB.out (below_drewN _ _))⟩
          show _ ↔ _
          rw [HI.out, HD.out, HD2.out, sl_cons]
          exact ⟨fun h => (by cases h), fun h => absurd (HC.out.2 h.1) (of_decide_eq_false HR.out)⟩
        · go_wp2
          go_quiet (fail)
          go_wp2
          refine ⟨⟨k + 1, by omega, by go_num, ?_, (below_trans HB.out (below_drewN _ _))⟩, by simp [intOf]; omega⟩
          show _ ↔ _
          rw [HI.out, HD.out, HD2.out, sl_cons]
          exact ⟨fun h => h.2, fun h => ⟨HC.out.1 (of_decide_eq_true HR.out), h⟩⟩
      · go_wp2
        go_ret
        refine ⟨⟨true, rfl, ?_⟩, hbel⟩
        have := HL.out
        show _ ↔ _
        rw [HI.out, List.drop_eq_nil_of_le (by omega), List.drop_eq_nil_of_le (by omega)]; simp
  · have e4 : (ds.length == es.length) = false := by have := e3.out; simp; omega
    have e5 : (ds.length != es.length) = true := by have := e3.out; simp; omega
    go_enter Try.func56, Try.ntmps56
    go_wp2
    go_ret
    refine ⟨⟨false, rfl, ?_⟩, below_refl _⟩
    show _ ↔ _
    exact ⟨fun h => (by cases h), fun h => absurd (sl_len h) (by have := e3.out; omega)⟩

theorem conj_Given (byref byref2 : Bool) (text text2 : ByteArray) : (byref = byref2 ∧ text = text2) ↔ (.pair (.bool byref) (.pair (.str text) .unit) = (.pair (.bool byref2) (.pair (.str text2) .unit) : DV)) := by simp

set_option maxHeartbeats 2000000 in
set_option maxRecDepth 8000 in
theorem EqualGiven_dv (v v2 : Value) (d d2 : DV) (w : World) (h : At w (.sl tyGiven) [v] d) (h2 : At w (.sl tyGiven) [v2] d2) (hf : Fits 1048576 d) :
    Calls Try.prog 27 #[v, v2] w fun e w' => GotB e d d2 ∧ Below w.heap.size w w' := by
  obtain ⟨A, c, ds, hv, rfl, hc, hr⟩ := Rd.inv_sl h
  simp only [List.cons.injEq, and_true] at hv
  subst hv
  have H : Hid (At w (.sl tyGiven) [.slice A ds.length c] (.sl ds)) := hr; clear h hr
  obtain ⟨A2, c2, es, hv, rfl, hc2, hr⟩ := Rd.inv_sl h2
  simp only [List.cons.injEq, and_true] at hv
  subst hv
  have H2 : Hid (At w (.sl tyGiven) [.slice A2 es.length c2] (.sl es)) := hr; clear h2 hr
  have hl := hf.len
  have HOK := Lib.hid hf.mem; clear hf
  rcases eqForms (ds.length : Int) (es.length : Int) with ⟨e1, e2, e3⟩ | ⟨e1, e2, e3⟩
  · have hlen : ds.length = es.length := by have := e3.out; omega
    have e4 : (ds.length == es.length) = true := by simp [hlen]
    have e5 : (ds.length != es.length) = false := by simp [hlen]
    have HL := Lib.hid hlen; clear hlen
    go_enter Try.func27, Try.ntmps27
    go_wp2
    go_loopw [5, 13] (fun _ i wr => ∃ k : Nat, k ≤ ds.length ∧ i = .int .i64 k ∧ Hid (DV.sl ds = .sl es ↔ DV.sl (ds.drop k) = .sl (es.drop k)) ∧ Below w.heap.size w wr) (fun _ i _ => ds.length - (intOf i).toNat)
    case atStart => exact ⟨0, Nat.zero_le _, rfl, by show _ ↔ _; rw [List.drop_zero, List.drop_zero], below_refl _⟩
    case round =>
      obtain ⟨k, hk, rfl, HI, hbel⟩ := hrel
      by_cases hlt : k < ds.length
      · have hlt2 : k < es.length := by rw [← HL.out]; exact hlt
        have HB := Lib.hid hbel
        obtain ⟨ad, byref, text, rfl, hbl, hat, a0, a1⟩ := (H.out.on hbel).getGiven hlt
        obtain ⟨ad2, byref2, text2, rfl, hbl2, hat2, b0, b1⟩ := (H2.out.on hbel).getGiven hlt2
        have HD := Lib.hid (List.drop_eq_getElem_cons hlt)
        have HD2 := Lib.hid (List.drop_eq_getElem_cons hlt2)
        have HX : Hid (ds[k] = .pair (.bool byref) (.pair (.str text) .unit)) := by
          obtain ⟨y0, y1, e1, e2⟩ := Rd.invGiven hat
          simp only [List.cons.injEq, Value.int.injEq, Value.bool.injEq, Value.string.injEq, and_true, true_and] at e1
          obtain ⟨rfl, rfl⟩ := e1
          exact e2
        have HY : Hid (es[k] = .pair (.bool byref2) (.pair (.str text2) .unit)) := by
          obtain ⟨y0, y1, e1, e2⟩ := Rd.invGiven hat2
          simp only [List.cons.injEq, Value.int.injEq, Value.bool.injEq, Value.string.injEq, and_true, true_and] at e1
          obtain ⟨rfl, rfl⟩ := e1
          exact e2
        rw [HX.out] at HD
        rw [HY.out] at HD2
        clear hat hat2 HX HY
        have HC := Lib.hid (conj_Given byref byref2 text text2)
        have hne := fun W => neqGiven_run byref byref2 text text2 W
        obtain ⟨r, hr⟩ : ∃ r : Bool, decide (byref = byref2 ∧ text = text2) = r := ⟨_, rfl⟩
        rw [hr] at hne
        have HR := Lib.hid hr; clear hr
        have i0 : (0 : Int) ≤ k := by omega
        have i1 : (k : Int) < ds.length := by omega
        have i2 : (k : Int) < es.length := by omega
        cases r
        · go_wp2
          go_quiet (fail)
          go_wp2
          go_ret
          refine ⟨⟨false, rfl, ?_⟩, (below_trans HB.out (below_drewN _ _))⟩
          show _ ↔ _
          rw [HI.out, HD.out, HD2.out, sl_cons]
          exact ⟨fun h => (by cases h), fun h => absurd (HC.out.2 h.1) (of_decide_eq_false HR.out)⟩
        · go_wp2
          go_quiet (fail)
          go_wp2
          refine ⟨⟨k + 1, by omega, by go_num, ?_, (below_trans HB.out (below_drewN _ _))⟩, by simp [intOf]; omega⟩
          show _ ↔ _
          rw [HI.out, HD.out, HD2.out, sl_cons]
          exact ⟨fun h => h.2, fun h => ⟨HC.out.1 (of_decide_eq_true HR.out), h⟩⟩
      · go_wp2
        go_ret
        refine ⟨⟨true, rfl, ?_⟩, hbel⟩
        have := HL.out
        show _ ↔ _
        rw [HI.out, List.drop_eq_nil_of_le (by omega), List.drop_eq_nil_of_le (by omega)]; simp
  · have e4 : (ds.length == es.length) = false := by have := e3.out; simp; omega
    have e5 : (ds.length != es.length) = true := by have := e3.out; simp; omega
    go_enter Try.func27, Try.ntmps27
    go_wp2
    go_ret
    refine ⟨⟨false, rfl, ?_⟩, below_refl _⟩
    show _ ↔ _
    exact ⟨fun h => (by cases h), fun h => absurd (sl_len h) (by have := e3.out; omega)⟩

theorem conj_Loop (name name2 : ByteArray) (step step2 : Int) (limit limit2 : Int) (has has2 : Bool) (next next2 : Int) (fin fin2 : Int) : (name = name2 ∧ step = step2 ∧ limit = limit2 ∧ has = has2 ∧ next = next2 ∧ fin = fin2) ↔ (.pair (.str name) (.pair (.num step) (.pair (.num limit) (.pair (.bool has) (.pair (.num next) (.pair (.num fin) .unit))))) = (.pair (.str name2) (.pair (.num step2) (.pair (.num limit2) (.pair (.bool has2) (.pair (.num next2) (.pair (.num fin2) .unit))))) : DV)) := by simp

set_option maxHeartbeats 2000000 in
set_option maxRecDepth 8000 in
theorem EqualLoop_dv (v v2 : Value) (d d2 : DV) (w : World) (h : At w (.sl tyLoop) [v] d) (h2 : At w (.sl tyLoop) [v2] d2) (hf : Fits 1048576 d) :
    Calls Try.prog 28 #[v, v2] w fun e w' => GotB e d d2 ∧ Below w.heap.size w w' := by
  obtain ⟨A, c, ds, hv, rfl, hc, hr⟩ := Rd.inv_sl h
  simp only [List.cons.injEq, and_true] at hv
  subst hv
  have H : Hid (At w (.sl tyLoop) [.slice A ds.length c] (.sl ds)) := hr; clear h hr
  obtain ⟨A2, c2, es, hv, rfl, hc2, hr⟩ := Rd.inv_sl h2
  simp only [List.cons.injEq, and_true] at hv
  subst hv
  have H2 : Hid (At w (.sl tyLoop) [.slice A2 es.length c2] (.sl es)) := hr; clear h2 hr
  have hl := hf.len
  have HOK := Lib.hid hf.mem; clear hf
  rcases eqForms (ds.length : Int) (es.length : Int) with ⟨e1, e2, e3⟩ | ⟨e1, e2, e3⟩
  · have hlen : ds.length = es.length := by have := e3.out; omega
    have e4 : (ds.length == es.length) = true := by simp [hlen]
    have e5 : (ds.length != es.length) = false := by simp [hlen]
    have HL := Lib.hid hlen; clear hlen
    go_enter Try.func28, Try.ntmps28
    go_wp2
    go_loopw [5, 13] (fun _ i wr => ∃ k : Nat, k ≤ ds.length ∧ i = .int .i64 k ∧ Hid (DV.sl ds = .sl es ↔ DV.sl (ds.drop k) = .sl (es.drop k)) ∧ Below w.heap.size w wr) (fun _ i _ => ds.length - (intOf i).toNat)
    case atStart => exact ⟨0, Nat.zero_le _, rfl, by show _ ↔ _; rw [List.drop_zero, List.drop_zero], below_refl _⟩
    case round =>
      obtain ⟨k, hk, rfl, HI, hbel⟩ := hrel
      by_cases hlt : k < ds.length
      · have hlt2 : k < es.length := by rw [← HL.out]; exact hlt
        have HB := Lib.hid hbel
        obtain ⟨ad, name, step, limit, has, next, fin, rfl, hbl, hat, a0, a1, a2, a3, a4, a5⟩ := (H.out.on hbel).getLoop hlt
        obtain ⟨ad2, name2, step2, limit2, has2, next2, fin2, rfl, hbl2, hat2, b0, b1, b2, b3, b4, b5⟩ := (H2.out.on hbel).getLoop hlt2
        have HD := Lib.hid (List.drop_eq_getElem_cons hlt)
        have HD2 := Lib.hid (List.drop_eq_getElem_cons hlt2)
        have HX : Hid (ds[k] = .pair (.str name) (.pair (.num step) (.pair (.num limit) (.pair (.bool has) (.pair (.num next) (.pair (.num fin) .unit)))))) := by
          obtain ⟨y0, y1, y2, y3, y4, y5, e1, e2⟩ := Rd.invLoop hat
          simp only [List.cons.injEq, Value.int.injEq, Value.bool.injEq, Value.string.injEq, and_true, true_and] at e1
          obtain ⟨rfl, rfl, rfl, rfl, rfl, rfl⟩ := e1
          exact e2
        have HY : Hid (es[k] = .pair (.str name2) (.pair (.num step2) (.pair (.num limit2) (.pair (.bool has2) (.pair (.num next2) (.pair (.num fin2) .unit)))))) := by
          obtain ⟨y0, y1, y2, y3, y4, y5, e1, e2⟩ := Rd.invLoop hat2
          simp only [List.cons.injEq, Value.int.injEq, Value.bool.injEq, Value.string.injEq, and_true, true_and] at e1
          obtain ⟨rfl, rfl, rfl, rfl, rfl, rfl⟩ := e1
          exact e2
        rw [HX.out] at HD
        rw [HY.out] at HD2
        clear hat hat2 HX HY
        have HC := Lib.hid (conj_Loop name name2 step step2 limit limit2 has has2 next next2 fin fin2)
        have hne := fun W => neqLoop_run name name2 step step2 limit limit2 has has2 next next2 fin fin2 W
        obtain ⟨r, hr⟩ : ∃ r : Bool, decide (name = name2 ∧ step = step2 ∧ limit = limit2 ∧ has = has2 ∧ next = next2 ∧ fin = fin2) = r := ⟨_, rfl⟩
        rw [hr] at hne
        have HR := Lib.hid hr; clear hr
        have i0 : (0 : Int) ≤ k := by omega
        have i1 : (k : Int) < ds.length := by omega
        have i2 : (k : Int) < es.length := by omega
        cases r
        · go_wp2
          go_quiet (fail)
          go_wp2
          go_ret
          refine ⟨⟨false, rfl, ?_⟩, (below_trans HB.out (below_drewN _ _))⟩
          show _ ↔ _
          rw [HI.out, HD.out, HD2.out, sl_cons]
          exact ⟨fun h => (by cases h), fun h => absurd (HC.out.2 h.1) (of_decide_eq_false HR.out)⟩
        · go_wp2
          go_quiet (fail)
          go_wp2
          refine ⟨⟨k + 1, by omega, by go_num, ?_, (below_trans HB.out (below_drewN _ _))⟩, by simp [intOf]; omega⟩
          show _ ↔ _
          rw [HI.out, HD.out, HD2.out, sl_cons]
          exact ⟨fun h => h.2, fun h => ⟨HC.out.1 (of_decide_eq_true HR.out), h⟩⟩
      · go_wp2
        go_ret
        refine ⟨⟨true, rfl, ?_⟩, hbel⟩
        have := HL.out
        show _ ↔ _
        rw [HI.out, List.drop_eq_nil_of_le (by omega), List.drop_eq_nil_of_le (by omega)]; simp
  · have e4 : (ds.length == es.length) = false := by have := e3.out; simp; omega
    have e5 : (ds.length != es.length) = true := by have := e3.out; simp; omega
    go_enter Try.func28, Try.ntmps28
    go_wp2
    go_ret
    refine ⟨⟨false, rfl, ?_⟩, below_refl _⟩
    show _ ↔ _
    exact ⟨fun h => (by cases h), fun h => absurd (sl_len h) (by have := e3.out; omega)⟩

theorem conj_Frame (ret ret2 : Int) (value value2 : Bool) (test test2 : Bool) (stack stack2 : Int) (refs refs2 : Int) (args args2 : Int) (loops loops2 : Int) (trap trap2 : ByteArray) (routine routine2 : ByteArray) : (ret = ret2 ∧ value = value2 ∧ test = test2 ∧ stack = stack2 ∧ refs = refs2 ∧ args = args2 ∧ loops = loops2 ∧ trap = trap2 ∧ routine = routine2) ↔ (.pair (.num ret) (.pair (.bool value) (.pair (.bool test) (.pair (.num stack) (.pair (.num refs) (.pair (.num args) (.pair (.num loops) (.pair (.str trap) (.pair (.str routine) .unit)))))))) = (.pair (.num ret2) (.pair (.bool value2) (.pair (.bool test2) (.pair (.num stack2) (.pair (.num refs2) (.pair (.num args2) (.pair (.num loops2) (.pair (.str trap2) (.pair (.str routine2) .unit)))))))) : DV)) := by simp

set_option maxHeartbeats 2000000 in
set_option maxRecDepth 8000 in
theorem EqualFrame_dv (v v2 : Value) (d d2 : DV) (w : World) (h : At w (.sl tyFrame) [v] d) (h2 : At w (.sl tyFrame) [v2] d2) (hf : Fits 1048576 d) :
    Calls Try.prog 29 #[v, v2] w fun e w' => GotB e d d2 ∧ Below w.heap.size w w' := by
  obtain ⟨A, c, ds, hv, rfl, hc, hr⟩ := Rd.inv_sl h
  simp only [List.cons.injEq, and_true] at hv
  subst hv
  have H : Hid (At w (.sl tyFrame) [.slice A ds.length c] (.sl ds)) := hr; clear h hr
  obtain ⟨A2, c2, es, hv, rfl, hc2, hr⟩ := Rd.inv_sl h2
  simp only [List.cons.injEq, and_true] at hv
  subst hv
  have H2 : Hid (At w (.sl tyFrame) [.slice A2 es.length c2] (.sl es)) := hr; clear h2 hr
  have hl := hf.len
  have HOK := Lib.hid hf.mem; clear hf
  rcases eqForms (ds.length : Int) (es.length : Int) with ⟨e1, e2, e3⟩ | ⟨e1, e2, e3⟩
  · have hlen : ds.length = es.length := by have := e3.out; omega
    have e4 : (ds.length == es.length) = true := by simp [hlen]
    have e5 : (ds.length != es.length) = false := by simp [hlen]
    have HL := Lib.hid hlen; clear hlen
    go_enter Try.func29, Try.ntmps29
    go_wp2
    go_loopw [5, 13] (fun _ i wr => ∃ k : Nat, k ≤ ds.length ∧ i = .int .i64 k ∧ Hid (DV.sl ds = .sl es ↔ DV.sl (ds.drop k) = .sl (es.drop k)) ∧ Below w.heap.size w wr) (fun _ i _ => ds.length - (intOf i).toNat)
    case atStart => exact ⟨0, Nat.zero_le _, rfl, by show _ ↔ _; rw [List.drop_zero, List.drop_zero], below_refl _⟩
    case round =>
      obtain ⟨k, hk, rfl, HI, hbel⟩ := hrel
      by_cases hlt : k < ds.length
      · have hlt2 : k < es.length := by rw [← HL.out]; exact hlt
        have HB := Lib.hid hbel
        obtain ⟨ad, ret, value, test, stack, refs, args, loops, trap, routine, rfl, hbl, hat, a0, a1, a2, a3, a4, a5, a6, a7, a8⟩ := (H.out.on hbel).getFrame hlt
        obtain ⟨ad2, ret2, value2, test2, stack2, refs2, args2, loops2, trap2, routine2, rfl, hbl2, hat2, b0, b1, b2, b3, b4, b5, b6, b7, b8⟩ := (H2.out.on hbel).getFrame hlt2
        have HD := Lib.hid (List.drop_eq_getElem_cons hlt)
        have HD2 := Lib.hid (List.drop_eq_getElem_cons hlt2)
        have HX : Hid (ds[k] = .pair (.num ret) (.pair (.bool value) (.pair (.bool test) (.pair (.num stack) (.pair (.num refs) (.pair (.num args) (.pair (.num loops) (.pair (.str trap) (.pair (.str routine) .unit))))))))) := by
          obtain ⟨y0, y1, y2, y3, y4, y5, y6, y7, y8, e1, e2⟩ := Rd.invFrame hat
          simp only [List.cons.injEq, Value.int.injEq, Value.bool.injEq, Value.string.injEq, and_true, true_and] at e1
          obtain ⟨rfl, rfl, rfl, rfl, rfl, rfl, rfl, rfl, rfl⟩ := e1
          exact e2
        have HY : Hid (es[k] = .pair (.num ret2) (.pair (.bool value2) (.pair (.bool test2) (.pair (.num stack2) (.pair (.num refs2) (.pair (.num args2) (.pair (.num loops2) (.pair (.str trap2) (.pair (.str routine2) .unit))))))))) := by
          obtain ⟨y0, y1, y2, y3, y4, y5, y6, y7, y8, e1, e2⟩ := Rd.invFrame hat2
          simp only [List.cons.injEq, Value.int.injEq, Value.bool.injEq, Value.string.injEq, and_true, true_and] at e1
          obtain ⟨rfl, rfl, rfl, rfl, rfl, rfl, rfl, rfl, rfl⟩ := e1
          exact e2
        rw [HX.out] at HD
        rw [HY.out] at HD2
        clear hat hat2 HX HY
        have HC := Lib.hid (conj_Frame ret ret2 value value2 test test2 stack stack2 refs refs2 args args2 loops loops2 trap trap2 routine routine2)
        have hne := fun W => neqFrame_run ret ret2 value value2 test test2 stack stack2 refs refs2 args args2 loops loops2 trap trap2 routine routine2 W
        obtain ⟨r, hr⟩ : ∃ r : Bool, decide (ret = ret2 ∧ value = value2 ∧ test = test2 ∧ stack = stack2 ∧ refs = refs2 ∧ args = args2 ∧ loops = loops2 ∧ trap = trap2 ∧ routine = routine2) = r := ⟨_, rfl⟩
        rw [hr] at hne
        have HR := Lib.hid hr; clear hr
        have i0 : (0 : Int) ≤ k := by omega
        have i1 : (k : Int) < ds.length := by omega
        have i2 : (k : Int) < es.length := by omega
        cases r
        · go_wp2
          go_quiet (fail)
          go_wp2
          go_ret
          refine ⟨⟨false, rfl, ?_⟩, (below_trans HB.out (below_drewN _ _))⟩
          show _ ↔ _
          rw [HI.out, HD.out, HD2.out, sl_cons]
          exact ⟨fun h => (by cases h), fun h => absurd (HC.out.2 h.1) (of_decide_eq_false HR.out)⟩
        · go_wp2
          go_quiet (fail)
          go_wp2
          refine ⟨⟨k + 1, by omega, by go_num, ?_, (below_trans HB.out (below_drewN _ _))⟩, by simp [intOf]; omega⟩
          show _ ↔ _
          rw [HI.out, HD.out, HD2.out, sl_cons]
          exact ⟨fun h => h.2, fun h => ⟨HC.out.1 (of_decide_eq_true HR.out), h⟩⟩
      · go_wp2
        go_ret
        refine ⟨⟨true, rfl, ?_⟩, hbel⟩
        have := HL.out
        show _ ↔ _
        rw [HI.out, List.drop_eq_nil_of_le (by omega), List.drop_eq_nil_of_le (by omega)]; simp
  · have e4 : (ds.length == es.length) = false := by have := e3.out; simp; omega
    have e5 : (ds.length != es.length) = true := by have := e3.out; simp; omega
    go_enter Try.func29, Try.ntmps29
    go_wp2
    go_ret
    refine ⟨⟨false, rfl, ?_⟩, below_refl _⟩
    show _ ↔ _
    exact ⟨fun h => (by cases h), fun h => absurd (sl_len h) (by have := e3.out; omega)⟩

end Go.Proofs.Ytllamjgloilioaa
