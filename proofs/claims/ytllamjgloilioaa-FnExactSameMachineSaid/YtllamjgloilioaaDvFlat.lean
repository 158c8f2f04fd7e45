/- Flat structs: their shapes, sizes, equality. (printed by gen_dv.py) -/
import Derived.Test.YtllamjgloilioaaDv2
import Derived.Test.YtllamjgloilioaaStructArgs
import Derived.Test.YtllamjgloilioaaStructTools
namespace Go.Proofs.Ytllamjgloilioaa
open Go.RowKit Go.ChangeShapes Go.WideShapes Go.ChangeAt Go.Deep
set_option linter.unusedVariables false
set_option linter.unusedSimpArgs false

@[reducible] def tyBind : Ty := .pair .str (.pair .num .unit)

theorem Rd.invBind {w : World} {lo hi : Nat} {cs : List Value} {d : DV} (h : Rd w lo hi tyBind cs d) : ∃ (name : ByteArray) (cell : Int), cs = [.string name, .int .i64 cell] ∧ d = .pair (.str name) (.pair (.num cell) .unit) := by
  obtain ⟨name, s1, e1, rfl, rfl, h1⟩ := Rd.inv_str_ h
  obtain ⟨cell, s2, e2, rfl, rfl, h2⟩ := Rd.inv_num_ h1
  obtain ⟨rfl, rfl⟩ := Rd.inv_unit h2
  exact ⟨_, _, rfl, rfl⟩

theorem Rd.cellsBind {w : World} {lo hi : Nat} {cs : List Value} {d : DV} (h : Rd w lo hi tyBind cs d) : ∃ (name : ByteArray) (cell : Int), cs = [.string name, .int .i64 cell] := by
  obtain ⟨y0, y1, e1, _⟩ := Rd.invBind h
  exact ⟨y0, y1, e1⟩

theorem Rd.mkBind {w : World} {lo hi : Nat} {name : ByteArray} {cell : Int} : Rd w lo hi tyBind [.string name, .int .i64 cell] (.pair (.str name) (.pair (.num cell) .unit)) :=
  (.pair (.str _) (.pair (.num _) .unit))

set_option maxHeartbeats 1000000 in
set_option maxRecDepth 8000 in
theorem szBind_dv (cs : List Value) (d : DV) (left : Int) (w : World) (h : At w tyBind cs d) (hf : Fits maxLen d) (h0 : 0 ≤ left) (h1 : left ≤ 1048576) :
    Calls Try.prog 65 #[.agg cs.toArray, .int .i64 left] w fun e w' => (∃ q : Int, e = .returned (.int .i64 q) ∧ -1 ≤ q ∧ q ≤ left ∧ Hid (0 ≤ q → Fits 1048576 d)) ∧ Below w.heap.size w w' := by
  obtain ⟨name, cell, rfl, rfl⟩ := Rd.invBind h
  have hba : Hid (Below w.heap.size w (w.alloc (.cells #[.string name, .int .i64 cell] 116))) := Joins.below_alloc1 w _
  have nname := hf.fst.str_
  unfold maxLen at nname
  clear hf
  go_enter Try.func65, Try.ntmps65
  by_cases zname : left - name.size < 0
  · go_wp2_with fail
    go_ret
    exact ⟨⟨_, rfl, by omega, by omega, fun hq => by omega⟩, hba.out⟩
  go_wp2_with fail
  go_ret
  exact ⟨⟨_, rfl, by omega, by omega, fun _ => (.pair (.str _ (show name.size ≤ 1048576 by omega)) (.pair (.num _) .unit))⟩, hba.out⟩

set_option maxHeartbeats 2000000 in
set_option maxRecDepth 8000 in
theorem eqBind_dv (cs cs2 : List Value) (d d2 : DV) (w : World) (h : At w tyBind cs d) (h2 : At w tyBind cs2 d2) (hf : Fits 1048576 d) :
    Calls Try.prog 75 #[.agg cs.toArray, .agg cs2.toArray] w fun e w' => GotB e d d2 ∧ Below w.heap.size w w' := by
  obtain ⟨name, cell, rfl, rfl⟩ := Rd.invBind h
  obtain ⟨name2, cell2, rfl, rfl⟩ := Rd.invBind h2
  have hba : Hid (Below w.heap.size w ((w.alloc (.cells #[.string name, .int .i64 cell] 106)).alloc (.cells #[.string name2, .int .i64 cell2] 106))) := Joins.below_alloc2 w _ _
  clear hf
  have HV : Hid (∀ b : Bool, (b = true ↔ name = name2 ∧ cell = cell2) → EqB b (.pair (.str name) (.pair (.num cell) .unit)) (.pair (.str name2) (.pair (.num cell2) .unit))) := fun b hb => by
    unfold EqB; rw [hb]; simp only [DV.pair.injEq, DV.num.injEq, DV.bool.injEq, DV.str.injEq, and_true]
  go_enter Try.func75, Try.ntmps75
  by_cases hne : name = name2
  rotate_left
  · have e1 : (name.toList == name2.toList) = false := by rw [ba_toList, ba_toList]; exact beq_eq_false_iff_ne.2 (fun h => hne (ba_ext h))
    go_wp2_with fail
    go_ret
    exact ⟨⟨false, rfl, HV.out false (by simp [hne])⟩, hba.out⟩
  subst hne
  rcases eqForms cell cell2 with ⟨e1, e2, Ecell⟩ | ⟨e1, e2, Ecell⟩
  rotate_left
  · have hne := Ecell.out
    go_wp2_with fail
    go_ret
    exact ⟨⟨false, rfl, HV.out false (by simp [hne])⟩, hba.out⟩
  go_wp2_with fail
  go_ret
  exact ⟨⟨true, rfl, HV.out true (by simp [Ecell.out])⟩, hba.out⟩

@[reducible] def tyGiven : Ty := .pair .bool (.pair .str .unit)

theorem Rd.invGiven {w : World} {lo hi : Nat} {cs : List Value} {d : DV} (h : Rd w lo hi tyGiven cs d) : ∃ (byref : Bool) (text : ByteArray), cs = [.bool byref, .string text] ∧ d = .pair (.bool byref) (.pair (.str text) .unit) := by
  obtain ⟨byref, s1, e1, rfl, rfl, h1⟩ := Rd.inv_bool_ h
  obtain ⟨text, s2, e2, rfl, rfl, h2⟩ := Rd.inv_str_ h1
  obtain ⟨rfl, rfl⟩ := Rd.inv_unit h2
  exact ⟨_, _, rfl, rfl⟩

theorem Rd.cellsGiven {w : World} {lo hi : Nat} {cs : List Value} {d : DV} (h : Rd w lo hi tyGiven cs d) : ∃ (byref : Bool) (text : ByteArray), cs = [.bool byref, .string text] := by
  obtain ⟨y0, y1, e1, _⟩ := Rd.invGiven h
  exact ⟨y0, y1, e1⟩

theorem Rd.mkGiven {w : World} {lo hi : Nat} {byref : Bool} {text : ByteArray} : Rd w lo hi tyGiven [.bool byref, .string text] (.pair (.bool byref) (.pair (.str text) .unit)) :=
  (.pair (.bool _) (.pair (.str _) .unit))

set_option maxHeartbeats 1000000 in
set_option maxRecDepth 8000 in
theorem szGiven_dv (cs : List Value) (d : DV) (left : Int) (w : World) (h : At w tyGiven cs d) (hf : Fits maxLen d) (h0 : 0 ≤ left) (h1 : left ≤ 1048576) :
    Calls Try.prog 38 #[.agg cs.toArray, .int .i64 left] w fun e w' => (∃ q : Int, e = .returned (.int .i64 q) ∧ -1 ≤ q ∧ q ≤ left ∧ Hid (0 ≤ q → Fits 1048576 d)) ∧ Below w.heap.size w w' := by
  obtain ⟨byref, text, rfl, rfl⟩ := Rd.invGiven h
  have hba : Hid (Below w.heap.size w (w.alloc (.cells #[.bool byref, .string text] 81))) := Joins.below_alloc1 w _
  have ntext := hf.snd.fst.str_
  unfold maxLen at ntext
  clear hf
  go_enter Try.func38, Try.ntmps38
  by_cases ztext : left - text.size < 0
  · go_wp2_with fail
    go_ret
    exact ⟨⟨_, rfl, by omega, by omega, fun hq => by omega⟩, hba.out⟩
  go_wp2_with fail
  go_ret
  exact ⟨⟨_, rfl, by omega, by omega, fun _ => (.pair (.bool _) (.pair (.str _ (show text.size ≤ 1048576 by omega)) .unit))⟩, hba.out⟩

set_option maxHeartbeats 2000000 in
set_option maxRecDepth 8000 in
theorem eqGiven_dv (cs cs2 : List Value) (d d2 : DV) (w : World) (h : At w tyGiven cs d) (h2 : At w tyGiven cs2 d2) (hf : Fits 1048576 d) :
    Calls Try.prog 59 #[.agg cs.toArray, .agg cs2.toArray] w fun e w' => GotB e d d2 ∧ Below w.heap.size w w' := by
  obtain ⟨byref, text, rfl, rfl⟩ := Rd.invGiven h
  obtain ⟨byref2, text2, rfl, rfl⟩ := Rd.invGiven h2
  have hba : Hid (Below w.heap.size w ((w.alloc (.cells #[.bool byref, .string text] 71)).alloc (.cells #[.bool byref2, .string text2] 71))) := Joins.below_alloc2 w _ _
  clear hf
  have HV : Hid (∀ b : Bool, (b = true ↔ byref = byref2 ∧ text = text2) → EqB b (.pair (.bool byref) (.pair (.str text) .unit)) (.pair (.bool byref2) (.pair (.str text2) .unit))) := fun b hb => by
    unfold EqB; rw [hb]; simp only [DV.pair.injEq, DV.num.injEq, DV.bool.injEq, DV.str.injEq, and_true]
  go_enter Try.func59, Try.ntmps59
  by_cases hne : byref = byref2
  rotate_left
  · have e1 : (byref == byref2) = false := by simpa using hne
    have e2 : (byref != byref2) = true := by simpa using hne
    go_wp2_with fail
    go_ret
    exact ⟨⟨false, rfl, HV.out false (by simp [hne])⟩, hba.out⟩
  subst hne
  by_cases hne : text = text2
  rotate_left
  · have e1 : (text.toList == text2.toList) = false := by rw [ba_toList, ba_toList]; exact beq_eq_false_iff_ne.2 (fun h => hne (ba_ext h))
    go_wp2_with fail
    go_ret
    exact ⟨⟨false, rfl, HV.out false (by simp [hne])⟩, hba.out⟩
  subst hne
  go_wp2_with fail
  go_ret
  exact ⟨⟨true, rfl, HV.out true (by simp [])⟩, hba.out⟩

@[reducible] def tyLoop : Ty := .pair .str (.pair .num (.pair .num (.pair .bool (.pair .num (.pair .num .unit)))))

theorem Rd.invLoop {w : World} {lo hi : Nat} {cs : List Value} {d : DV} (h : Rd w lo hi tyLoop cs d) : ∃ (name : ByteArray) (step : Int) (limit : Int) (has : Bool) (next : Int) (fin : Int), cs = [.string name, .int .i64 step, .int .i64 limit, .bool has, .int .i64 next, .int .i64 fin] ∧ d = .pair (.str name) (.pair (.num step) (.pair (.num limit) (.pair (.bool has) (.pair (.num next) (.pair (.num fin) .unit))))) := by
  obtain ⟨name, s1, e1, rfl, rfl, h1⟩ := Rd.inv_str_ h
  obtain ⟨step, s2, e2, rfl, rfl, h2⟩ := Rd.inv_num_ h1
  obtain ⟨limit, s3, e3, rfl, rfl, h3⟩ := Rd.inv_num_ h2
  obtain ⟨has, s4, e4, rfl, rfl, h4⟩ := Rd.inv_bool_ h3
  obtain ⟨next, s5, e5, rfl, rfl, h5⟩ := Rd.inv_num_ h4
  obtain ⟨fin, s6, e6, rfl, rfl, h6⟩ := Rd.inv_num_ h5
  obtain ⟨rfl, rfl⟩ := Rd.inv_unit h6
  exact ⟨_, _, _, _, _, _, rfl, rfl⟩

theorem Rd.cellsLoop {w : World} {lo hi : Nat} {cs : List Value} {d : DV} (h : Rd w lo hi tyLoop cs d) : ∃ (name : ByteArray) (step : Int) (limit : Int) (has : Bool) (next : Int) (fin : Int), cs = [.string name, .int .i64 step, .int .i64 limit, .bool has, .int .i64 next, .int .i64 fin] := by
  obtain ⟨y0, y1, y2, y3, y4, y5, e1, _⟩ := Rd.invLoop h
  exact ⟨y0, y1, y2, y3, y4, y5, e1⟩

theorem Rd.mkLoop {w : World} {lo hi : Nat} {name : ByteArray} {step : Int} {limit : Int} {has : Bool} {next : Int} {fin : Int} : Rd w lo hi tyLoop [.string name, .int .i64 step, .int .i64 limit, .bool has, .int .i64 next, .int .i64 fin] (.pair (.str name) (.pair (.num step) (.pair (.num limit) (.pair (.bool has) (.pair (.num next) (.pair (.num fin) .unit)))))) :=
  (.pair (.str _) (.pair (.num _) (.pair (.num _) (.pair (.bool _) (.pair (.num _) (.pair (.num _) .unit))))))

set_option maxHeartbeats 1000000 in
set_option maxRecDepth 8000 in
theorem szLoop_dv (cs : List Value) (d : DV) (left : Int) (w : World) (h : At w tyLoop cs d) (hf : Fits maxLen d) (h0 : 0 ≤ left) (h1 : left ≤ 1048576) :
    Calls Try.prog 39 #[.agg cs.toArray, .int .i64 left] w fun e w' => (∃ q : Int, e = .returned (.int .i64 q) ∧ -1 ≤ q ∧ q ≤ left ∧ Hid (0 ≤ q → Fits 1048576 d)) ∧ Below w.heap.size w w' := by
  obtain ⟨name, step, limit, has, next, fin, rfl, rfl⟩ := Rd.invLoop h
  have hba : Hid (Below w.heap.size w (w.alloc (.cells #[.string name, .int .i64 step, .int .i64 limit, .bool has, .int .i64 next, .int .i64 fin] 83))) := Joins.below_alloc1 w _
  have nname := hf.fst.str_
  unfold maxLen at nname
  clear hf
  go_enter Try.func39, Try.ntmps39
  by_cases zname : left - name.size < 0
  · go_wp2_with fail
    go_ret
    exact ⟨⟨_, rfl, by omega, by omega, fun hq => by omega⟩, hba.out⟩
  go_wp2_with fail
  go_ret
  exact ⟨⟨_, rfl, by omega, by omega, fun _ => (.pair (.str _ (show name.size ≤ 1048576 by omega)) (.pair (.num _) (.pair (.num _) (.pair (.bool _) (.pair (.num _) (.pair (.num _) .unit))))))⟩, hba.out⟩

set_option maxHeartbeats 2000000 in
set_option maxRecDepth 8000 in
theorem eqLoop_dv (cs cs2 : List Value) (d d2 : DV) (w : World) (h : At w tyLoop cs d) (h2 : At w tyLoop cs2 d2) (hf : Fits 1048576 d) :
    Calls Try.prog 60 #[.agg cs.toArray, .agg cs2.toArray] w fun e w' => GotB e d d2 ∧ Below w.heap.size w w' := by
  obtain ⟨name, step, limit, has, next, fin, rfl, rfl⟩ := Rd.invLoop h
  obtain ⟨name2, step2, limit2, has2, next2, fin2, rfl, rfl⟩ := Rd.invLoop h2
  have hba : Hid (Below w.heap.size w ((w.alloc (.cells #[.string name, .int .i64 step, .int .i64 limit, .bool has, .int .i64 next, .int .i64 fin] 74)).alloc (.cells #[.string name2, .int .i64 step2, .int .i64 limit2, .bool has2, .int .i64 next2, .int .i64 fin2] 74))) := Joins.below_alloc2 w _ _
  clear hf
  have HV : Hid (∀ b : Bool, (b = true ↔ name = name2 ∧ step = step2 ∧ limit = limit2 ∧ has = has2 ∧ next = next2 ∧ fin = fin2) → EqB b (.pair (.str name) (.pair (.num step) (.pair (.num limit) (.pair (.bool has) (.pair (.num next) (.pair (.num fin) .unit)))))) (.pair (.str name2) (.pair (.num step2) (.pair (.num limit2) (.pair (.bool has2) (.pair (.num next2) (.pair (.num fin2) .unit))))))) := fun b hb => by
    unfold EqB; rw [hb]; simp only [DV.pair.injEq, DV.num.injEq, DV.bool.injEq, DV.str.injEq, and_true]
  go_enter Try.func60, Try.ntmps60
  by_cases hne : name = name2
  rotate_left
  · have e1 : (name.toList == name2.toList) = false := by rw [ba_toList, ba_toList]; exact beq_eq_false_iff_ne.2 (fun h => hne (ba_ext h))
    go_wp2_with fail
    go_ret
    exact ⟨⟨false, rfl, HV.out false (by simp [hne])⟩, hba.out⟩
  subst hne
  rcases eqForms step step2 with ⟨e1, e2, Estep⟩ | ⟨e1, e2, Estep⟩
  rotate_left
  · have hne := Estep.out
    go_wp2_with fail
    go_ret
    exact ⟨⟨false, rfl, HV.out false (by simp [hne])⟩, hba.out⟩
  rcases eqForms limit limit2 with ⟨e1, e2, Elimit⟩ | ⟨e1, e2, Elimit⟩
  rotate_left
  · have hne := Elimit.out
    go_wp2_with fail
    go_ret
    exact ⟨⟨false, rfl, HV.out false (by simp [hne])⟩, hba.out⟩
  by_cases hne : has = has2
  rotate_left
  · have e1 : (has == has2) = false := by simpa using hne
    have e2 : (has != has2) = true := by simpa using hne
    go_wp2_with fail
    go_ret
    exact ⟨⟨false, rfl, HV.out false (by simp [hne])⟩, hba.out⟩
  subst hne
  rcases eqForms next next2 with ⟨e1, e2, Enext⟩ | ⟨e1, e2, Enext⟩
  rotate_left
  · have hne := Enext.out
    go_wp2_with fail
    go_ret
    exact ⟨⟨false, rfl, HV.out false (by simp [hne])⟩, hba.out⟩
  rcases eqForms fin fin2 with ⟨e1, e2, Efin⟩ | ⟨e1, e2, Efin⟩
  rotate_left
  · have hne := Efin.out
    go_wp2_with fail
    go_ret
    exact ⟨⟨false, rfl, HV.out false (by simp [hne])⟩, hba.out⟩
  go_wp2_with fail
  go_ret
  exact ⟨⟨true, rfl, HV.out true (by simp [Estep.out, Elimit.out, Enext.out, Efin.out])⟩, hba.out⟩

@[reducible] def tyFrame : Ty := .pair .num (.pair .bool (.pair .bool (.pair .num (.pair .num (.pair .num (.pair .num (.pair .str (.pair .str .unit))))))))

theorem Rd.invFrame {w : World} {lo hi : Nat} {cs : List Value} {d : DV} (h : Rd w lo hi tyFrame cs d) : ∃ (ret : Int) (value : Bool) (test : Bool) (stack : Int) (refs : Int) (args : Int) (loops : Int) (trap : ByteArray) (routine : ByteArray), cs = [.int .i64 ret, .bool value, .bool test, .int .i64 stack, .int .i64 refs, .int .i64 args, .int .i64 loops, .string trap, .string routine] ∧ d = .pair (.num ret) (.pair (.bool value) (.pair (.bool test) (.pair (.num stack) (.pair (.num refs) (.pair (.num args) (.pair (.num loops) (.pair (.str trap) (.pair (.str routine) .unit)))))))) := by
  obtain ⟨ret, s1, e1, rfl, rfl, h1⟩ := Rd.inv_num_ h
  obtain ⟨value, s2, e2, rfl, rfl, h2⟩ := Rd.inv_bool_ h1
  obtain ⟨test, s3, e3, rfl, rfl, h3⟩ := Rd.inv_bool_ h2
  obtain ⟨stack, s4, e4, rfl, rfl, h4⟩ := Rd.inv_num_ h3
  obtain ⟨refs, s5, e5, rfl, rfl, h5⟩ := Rd.inv_num_ h4
  obtain ⟨args, s6, e6, rfl, rfl, h6⟩ := Rd.inv_num_ h5
  obtain ⟨loops, s7, e7, rfl, rfl, h7⟩ := Rd.inv_num_ h6
  obtain ⟨trap, s8, e8, rfl, rfl, h8⟩ := Rd.inv_str_ h7
  obtain ⟨routine, s9, e9, rfl, rfl, h9⟩ := Rd.inv_str_ h8
  obtain ⟨rfl, rfl⟩ := Rd.inv_unit h9
  exact ⟨_, _, _, _, _, _, _, _, _, rfl, rfl⟩

theorem Rd.cellsFrame {w : World} {lo hi : Nat} {cs : List Value} {d : DV} (h : Rd w lo hi tyFrame cs d) : ∃ (ret : Int) (value : Bool) (test : Bool) (stack : Int) (refs : Int) (args : Int) (loops : Int) (trap : ByteArray) (routine : ByteArray), cs = [.int .i64 ret, .bool value, .bool test, .int .i64 stack, .int .i64 refs, .int .i64 args, .int .i64 loops, .string trap, .string routine] := by
  obtain ⟨y0, y1, y2, y3, y4, y5, y6, y7, y8, e1, _⟩ := Rd.invFrame h
  exact ⟨y0, y1, y2, y3, y4, y5, y6, y7, y8, e1⟩

theorem Rd.mkFrame {w : World} {lo hi : Nat} {ret : Int} {value : Bool} {test : Bool} {stack : Int} {refs : Int} {args : Int} {loops : Int} {trap : ByteArray} {routine : ByteArray} : Rd w lo hi tyFrame [.int .i64 ret, .bool value, .bool test, .int .i64 stack, .int .i64 refs, .int .i64 args, .int .i64 loops, .string trap, .string routine] (.pair (.num ret) (.pair (.bool value) (.pair (.bool test) (.pair (.num stack) (.pair (.num refs) (.pair (.num args) (.pair (.num loops) (.pair (.str trap) (.pair (.str routine) .unit))))))))) :=
  (.pair (.num _) (.pair (.bool _) (.pair (.bool _) (.pair (.num _) (.pair (.num _) (.pair (.num _) (.pair (.num _) (.pair (.str _) (.pair (.str _) .unit)))))))))

set_option maxHeartbeats 1000000 in
set_option maxRecDepth 8000 in
theorem szFrame_dv (cs : List Value) (d : DV) (left : Int) (w : World) (h : At w tyFrame cs d) (hf : Fits maxLen d) (h0 : 0 ≤ left) (h1 : left ≤ 1048576) :
    Calls Try.prog 40 #[.agg cs.toArray, .int .i64 left] w fun e w' => (∃ q : Int, e = .returned (.int .i64 q) ∧ -1 ≤ q ∧ q ≤ left ∧ Hid (0 ≤ q → Fits 1048576 d)) ∧ Below w.heap.size w w' := by
  obtain ⟨ret, value, test, stack, refs, args, loops, trap, routine, rfl, rfl⟩ := Rd.invFrame h
  have hba : Hid (Below w.heap.size w (w.alloc (.cells #[.int .i64 ret, .bool value, .bool test, .int .i64 stack, .int .i64 refs, .int .i64 args, .int .i64 loops, .string trap, .string routine] 85))) := Joins.below_alloc1 w _
  have ntrap := hf.snd.snd.snd.snd.snd.snd.snd.fst.str_
  unfold maxLen at ntrap
  have nroutine := hf.snd.snd.snd.snd.snd.snd.snd.snd.fst.str_
  unfold maxLen at nroutine
  clear hf
  go_enter Try.func40, Try.ntmps40
  by_cases ztrap : left - trap.size < 0
  · go_wp2_with fail
    go_ret
    exact ⟨⟨_, rfl, by omega, by omega, fun hq => by omega⟩, hba.out⟩
  by_cases zroutine : (left - trap.size) - routine.size < 0
  · go_wp2_with fail
    go_ret
    exact ⟨⟨_, rfl, by omega, by omega, fun hq => by omega⟩, hba.out⟩
  go_wp2_with fail
  go_ret
  exact ⟨⟨_, rfl, by omega, by omega, fun _ => (.pair (.num _) (.pair (.bool _) (.pair (.bool _) (.pair (.num _) (.pair (.num _) (.pair (.num _) (.pair (.num _) (.pair (.str _ (show trap.size ≤ 1048576 by omega)) (.pair (.str _ (show routine.size ≤ 1048576 by omega)) .unit)))))))))⟩, hba.out⟩

set_option maxHeartbeats 2000000 in
set_option maxRecDepth 8000 in
theorem eqFrame_dv (cs cs2 : List Value) (d d2 : DV) (w : World) (h : At w tyFrame cs d) (h2 : At w tyFrame cs2 d2) (hf : Fits 1048576 d) :
    Calls Try.prog 61 #[.agg cs.toArray, .agg cs2.toArray] w fun e w' => GotB e d d2 ∧ Below w.heap.size w w' := by
  obtain ⟨ret, value, test, stack, refs, args, loops, trap, routine, rfl, rfl⟩ := Rd.invFrame h
  obtain ⟨ret2, value2, test2, stack2, refs2, args2, loops2, trap2, routine2, rfl, rfl⟩ := Rd.invFrame h2
  have hba : Hid (Below w.heap.size w ((w.alloc (.cells #[.int .i64 ret, .bool value, .bool test, .int .i64 stack, .int .i64 refs, .int .i64 args, .int .i64 loops, .string trap, .string routine] 77)).alloc (.cells #[.int .i64 ret2, .bool value2, .bool test2, .int .i64 stack2, .int .i64 refs2, .int .i64 args2, .int .i64 loops2, .string trap2, .string routine2] 77))) := Joins.below_alloc2 w _ _
  clear hf
  have HV : Hid (∀ b : Bool, (b = true ↔ ret = ret2 ∧ value = value2 ∧ test = test2 ∧ stack = stack2 ∧ refs = refs2 ∧ args = args2 ∧ loops = loops2 ∧ trap = trap2 ∧ routine = routine2) → EqB b (.pair (.num ret) (.pair (.bool value) (.pair (.bool test) (.pair (.num stack) (.pair (.num refs) (.pair (.num args) (.pair (.num loops) (.pair (.str trap) (.pair (.str routine) .unit))))))))) (.pair (.num ret2) (.pair (.bool value2) (.pair (.bool test2) (.pair (.num stack2) (.pair (.num refs2) (.pair (.num args2) (.pair (.num loops2) (.pair (.str trap2) (.pair (.str routine2) .unit)))))))))) := fun b hb => by
    unfold EqB; rw [hb]; simp only [DV.pair.injEq, DV.num.injEq, DV.bool.injEq, DV.str.injEq, and_true]
  go_enter Try.func61, Try.ntmps61
  rcases eqForms ret ret2 with ⟨e1, e2, Eret⟩ | ⟨e1, e2, Eret⟩
  rotate_left
  · have hne := Eret.out
    go_wp2_with fail
    go_ret
    exact ⟨⟨false, rfl, HV.out false (by simp [hne])⟩, hba.out⟩
  by_cases hne : value = value2
  rotate_left
  · have e1 : (value == value2) = false := by simpa using hne
    have e2 : (value != value2) = true := by simpa using hne
    go_wp2_with fail
    go_ret
    exact ⟨⟨false, rfl, HV.out false (by simp [hne])⟩, hba.out⟩
  subst hne
  by_cases hne : test = test2
  rotate_left
  · have e1 : (test == test2) = false := by simpa using hne
    have e2 : (test != test2) = true := by simpa using hne
    go_wp2_with fail
    go_ret
    exact ⟨⟨false, rfl, HV.out false (by simp [hne])⟩, hba.out⟩
  subst hne
  rcases eqForms stack stack2 with ⟨e1, e2, Estack⟩ | ⟨e1, e2, Estack⟩
  rotate_left
  · have hne := Estack.out
    go_wp2_with fail
    go_ret
    exact ⟨⟨false, rfl, HV.out false (by simp [hne])⟩, hba.out⟩
  rcases eqForms refs refs2 with ⟨e1, e2, Erefs⟩ | ⟨e1, e2, Erefs⟩
  rotate_left
  · have hne := Erefs.out
    go_wp2_with fail
    go_ret
    exact ⟨⟨false, rfl, HV.out false (by simp [hne])⟩, hba.out⟩
  rcases eqForms args args2 with ⟨e1, e2, Eargs⟩ | ⟨e1, e2, Eargs⟩
  rotate_left
  · have hne := Eargs.out
    go_wp2_with fail
    go_ret
    exact ⟨⟨false, rfl, HV.out false (by simp [hne])⟩, hba.out⟩
  rcases eqForms loops loops2 with ⟨e1, e2, Eloops⟩ | ⟨e1, e2, Eloops⟩
  rotate_left
  · have hne := Eloops.out
    go_wp2_with fail
    go_ret
    exact ⟨⟨false, rfl, HV.out false (by simp [hne])⟩, hba.out⟩
  by_cases hne : trap = trap2
  rotate_left
  · have e1 : (trap.toList == trap2.toList) = false := by rw [ba_toList, ba_toList]; exact beq_eq_false_iff_ne.2 (fun h => hne (ba_ext h))
    go_wp2_with fail
    go_ret
    exact ⟨⟨false, rfl, HV.out false (by simp [hne])⟩, hba.out⟩
  subst hne
  by_cases hne : routine = routine2
  rotate_left
  · have e1 : (routine.toList == routine2.toList) = false := by rw [ba_toList, ba_toList]; exact beq_eq_false_iff_ne.2 (fun h => hne (ba_ext h))
    go_wp2_with fail
    go_ret
    exact ⟨⟨false, rfl, HV.out false (by simp [hne])⟩, hba.out⟩
  subst hne
  go_wp2_with fail
  go_ret
  exact ⟨⟨true, rfl, HV.out true (by simp [Eret.out, Estack.out, Erefs.out, Eargs.out, Eloops.out])⟩, hba.out⟩

end Go.Proofs.Ytllamjgloilioaa
