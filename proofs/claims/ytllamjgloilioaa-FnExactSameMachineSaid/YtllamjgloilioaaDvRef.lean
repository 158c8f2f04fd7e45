/- Structs with a list of strings. (printed by gen_dv.py) -/
import Derived.Test.YtllamjgloilioaaDvFlat2
namespace Go.Proofs.Ytllamjgloilioaa
open Go.RowKit Go.ChangeShapes Go.WideShapes Go.ChangeAt Go.Deep
set_option linter.unusedVariables false
set_option linter.unusedSimpArgs false

@[reducible] def tyNode : Ty := .pair .str (.pair (.sl .str) (.pair .str .unit))

theorem Rd.invNode {w : World} {lo hi : Nat} {cs : List Value} {d : DV} (h : Rd w lo hi tyNode cs d) : ∃ (name : ByteArray) (Asubs : Option Addr) (csubs : Nat) (subs : List DV) (value : ByteArray), cs = [.string name, .slice Asubs subs.length csubs, .string value] ∧ d = .pair (.str name) (.pair (.sl subs) (.pair (.str value) .unit)) ∧ Rd w lo hi (.sl .str) [.slice Asubs subs.length csubs] (.sl subs) := by
  obtain ⟨name, s1, e1, rfl, rfl, h1⟩ := Rd.inv_str_ h
  obtain ⟨Asubs, csubs, subs, s2, e2, rfl, rfl, Hsubs, h2⟩ := Rd.inv_sl_ h1
  obtain ⟨value, s3, e3, rfl, rfl, h3⟩ := Rd.inv_str_ h2
  obtain ⟨rfl, rfl⟩ := Rd.inv_unit h3
  exact ⟨_, _, _, _, _, rfl, rfl, Hsubs⟩

theorem Rd.cellsNode {w : World} {lo hi : Nat} {cs : List Value} {d : DV} (h : Rd w lo hi tyNode cs d) : ∃ (name : ByteArray) (Asubs : Option Addr) (csubs : Nat) (subs : List DV) (value : ByteArray), cs = [.string name, .slice Asubs subs.length csubs, .string value] := by
  obtain ⟨y0, y1, y2, y3, y4, e1, _⟩ := Rd.invNode h
  exact ⟨y0, y1, y2, y3, y4, e1⟩

theorem Rd.mkNode {w : World} {lo hi : Nat} {name : ByteArray} {Asubs : Option Addr} {csubs : Nat} {subs : List DV} {value : ByteArray} (Hsubs : Rd w lo hi (.sl .str) [.slice Asubs subs.length csubs] (.sl subs)) : Rd w lo hi tyNode [.string name, .slice Asubs subs.length csubs, .string value] (.pair (.str name) (.pair (.sl subs) (.pair (.str value) .unit))) :=
  (.pair (.str _) (.pair Hsubs (.pair (.str _) .unit)))

set_option maxHeartbeats 1000000 in
set_option maxRecDepth 8000 in
theorem szNode_dv (cs : List Value) (d : DV) (left : Int) (w : World) (h : At w tyNode cs d) (hf : Fits maxLen d) (h0 : 0 ≤ left) (h1 : left ≤ 1048576) :
    Calls Try.prog 86 #[.agg cs.toArray, .int .i64 left] w fun e w' => (∃ q : Int, e = .returned (.int .i64 q) ∧ -1 ≤ q ∧ q ≤ left ∧ Hid (0 ≤ q → Fits 1048576 d)) ∧ Below w.heap.size w w' := by
  obtain ⟨name, Asubs, csubs, subs, value, rfl, rfl, Hsubs⟩ := Rd.invNode h
  have hba : Hid (Below w.heap.size w (w.alloc (.cells #[.string name, .slice Asubs subs.length csubs, .string value] 140))) := Joins.below_alloc1 w _
  have HHsubs : Hid (At w (.sl .str) [.slice Asubs subs.length csubs] (.sl subs)) := Hsubs; clear Hsubs
  have nname := hf.fst.str_
  unfold maxLen at nname
  have HFsubs := Lib.hid hf.snd.fst
  have nvalue := hf.snd.snd.fst.str_
  unfold maxLen at nvalue
  clear hf
  have C0 := Lib.hid (CellsAt.new w #[.string name, .slice Asubs subs.length csubs, .string value] 140)
  go_enter Try.func86, Try.ntmps86
  by_cases zname : left - name.size < 0
  · go_wp2_with fail
    go_ret
    exact ⟨⟨_, rfl, by omega, by omega, fun hq => by omega⟩, hba.out⟩
  go_wp2_with fail
  refine (szStringS_dv _ _ (left - name.size) _ (HHsubs.out.on hba.out) HFsubs.out (by omega) (by omega)).mono ?_
  rintro e w1 ⟨⟨q1, rfl, qa1, qb1, Q1⟩, b1⟩
  have B1 := Lib.hid (below_trans hba.out b1)
  have C1 := Lib.hid (C0.out.below b1)
  have k1_value := C1.out.2 2 _ rfl
  clear C0 b1
  by_cases zsubs : q1 < 0
  · go_wp2_with fail
    go_ret
    exact ⟨⟨_, rfl, by omega, by omega, fun hq => by omega⟩, B1.out⟩
  by_cases zvalue : q1 - value.size < 0
  · go_wp2_with fail
    go_ret
    exact ⟨⟨_, rfl, by omega, by omega, fun hq => by omega⟩, B1.out⟩
  go_wp2_with fail
  go_ret
  exact ⟨⟨_, rfl, by omega, by omega, fun _ => (.pair (.str _ (show name.size ≤ 1048576 by omega)) (.pair (Q1.out (by omega)) (.pair (.str _ (show value.size ≤ 1048576 by omega)) .unit)))⟩, B1.out⟩

set_option maxHeartbeats 2000000 in
set_option maxRecDepth 8000 in
theorem eqNode_dv (cs cs2 : List Value) (d d2 : DV) (w : World) (h : At w tyNode cs d) (h2 : At w tyNode cs2 d2) (hf : Fits 1048576 d) :
    Calls Try.prog 88 #[.agg cs.toArray, .agg cs2.toArray] w fun e w' => GotB e d d2 ∧ Below w.heap.size w w' := by
  obtain ⟨name, Asubs, csubs, subs, value, rfl, rfl, Hsubs⟩ := Rd.invNode h
  obtain ⟨name2, Asubs2, csubs2, subs2, value2, rfl, rfl, Hsubs2⟩ := Rd.invNode h2
  have hba : Hid (Below w.heap.size w ((w.alloc (.cells #[.string name, .slice Asubs subs.length csubs, .string value] 131)).alloc (.cells #[.string name2, .slice Asubs2 subs2.length csubs2, .string value2] 131))) := Joins.below_alloc2 w _ _
  have HHsubs : Hid (At w (.sl .str) [.slice Asubs subs.length csubs] (.sl subs)) := Hsubs; clear Hsubs
  have HHsubs2 : Hid (At w (.sl .str) [.slice Asubs2 subs2.length csubs2] (.sl subs2)) := Hsubs2; clear Hsubs2
  have HFsubs := Lib.hid hf.snd.fst
  clear hf
  have HV : Hid (∀ b : Bool, (b = true ↔ name = name2 ∧ DV.sl subs = DV.sl subs2 ∧ value = value2) → EqB b (.pair (.str name) (.pair (.sl subs) (.pair (.str value) .unit))) (.pair (.str name2) (.pair (.sl subs2) (.pair (.str value2) .unit)))) := fun b hb => by
    unfold EqB; rw [hb]; simp only [DV.pair.injEq, DV.num.injEq, DV.bool.injEq, DV.str.injEq, and_true]
  have C0 := Lib.hid ((CellsAt.new w #[.string name, .slice Asubs subs.length csubs, .string value] 131).below (Joins.below_alloc1 _ (.cells #[.string name2, .slice Asubs2 subs2.length csubs2, .string value2] 131)))
  have D0 := Lib.hid (CellsAt.new (w.alloc (.cells #[.string name, .slice Asubs subs.length csubs, .string value] 131)) #[.string name2, .slice Asubs2 subs2.length csubs2, .string value2] 131)
  have hz1 : (w.alloc (.cells #[.string name, .slice Asubs subs.length csubs, .string value] 131)).heap.size = w.heap.size + 1 := by simp
  rw [hz1] at D0; clear hz1
  go_enter Try.func88, Try.ntmps88
  by_cases hne : name = name2
  rotate_left
  · have e1 : (name.toList == name2.toList) = false := by rw [ba_toList, ba_toList]; exact beq_eq_false_iff_ne.2 (fun h => hne (ba_ext h))
    go_wp2_with fail
    go_ret
    exact ⟨⟨false, rfl, HV.out false (by simp [hne])⟩, hba.out⟩
  subst hne
  go_wp2_with fail
  refine (eqStringS_dv _ _ _ _ _ (HHsubs.out.on hba.out) (HHsubs2.out.on hba.out) HFsubs.out).mono ?_
  rintro e w1 ⟨⟨r1, rfl, HE1⟩, b1⟩
  have B1 := Lib.hid (below_trans hba.out b1)
  have C1 := Lib.hid (C0.out.below b1)
  have D1 := Lib.hid (D0.out.below b1)
  have k1_value := C1.out.2 2 _ rfl
  have m1_value := D1.out.2 2 _ rfl
  clear C0 D0 b1
  cases r1
  · have hne : ¬ DV.sl subs = .sl subs2 := fun h => by have := HE1.2 h; cases this
    go_wp2_with fail
    go_ret
    exact ⟨⟨false, rfl, HV.out false (by simp [hne])⟩, B1.out⟩
  have Esubs := Lib.hid (HE1.1 rfl); clear HE1
  by_cases hne : value = value2
  rotate_left
  · have e1 : (value.toList == value2.toList) = false := by rw [ba_toList, ba_toList]; exact beq_eq_false_iff_ne.2 (fun h => hne (ba_ext h))
    go_wp2_with fail
    go_ret
    exact ⟨⟨false, rfl, HV.out false (by simp [hne])⟩, B1.out⟩
  subst hne
  go_wp2_with fail
  go_ret
  exact ⟨⟨true, rfl, HV.out true (by simp [Esubs.out])⟩, B1.out⟩

set_option maxHeartbeats 4000000 in
set_option maxRecDepth 8000 in
theorem toNode_dv (cs : List Value) (d : DV) (w : World) (h : At w tyNode cs d) (hf : Fits 1048576 d) :
    Calls Try.prog 87 #[.agg cs.toArray] w fun e w' => ∃ cs' : List Value, e = .returned (.agg cs'.toArray) ∧ Rd w' w.heap.size w'.heap.size tyNode cs' d ∧ Below w.heap.size w w' := by
  obtain ⟨name, Asubs, csubs, subs, value, rfl, rfl, Hsubs⟩ := Rd.invNode h
  have HHsubs : Hid (At w (.sl .str) [.slice Asubs subs.length csubs] (.sl subs)) := Hsubs; clear Hsubs
  have HFsubs := Lib.hid hf.snd.fst
  clear hf
  have M0 : Hid (Mid w (((w.alloc (.cells #[.string name, .slice Asubs subs.length csubs, .string value] 140)).alloc (.cells #[.string ⟨#[]⟩, .slice none 0 0, .string ⟨#[]⟩] 131)).alloc (.cells #[.string name, .slice none 0 0, .string ⟨#[]⟩] 131)) [.string name, .slice Asubs subs.length csubs, .string value] #[.string name, .slice none 0 0, .string ⟨#[]⟩] #[.string ⟨#[]⟩, .slice none 0 0, .string ⟨#[]⟩] 131) := Mid.start w #[.string name, .slice Asubs subs.length csubs, .string value] #[.string name, .slice none 0 0, .string ⟨#[]⟩] #[.string ⟨#[]⟩, .slice none 0 0, .string ⟨#[]⟩] 140 131
  go_enter Try.func87, Try.ntmps87
  go_wp2_with fail
  refine (toStringS_dv _ _ _ (HHsubs.out.on M0.out.below) HFsubs.out).mono ?_
  rintro e w1 ⟨v1, rfl, R1, b1⟩
  have M1a := Lib.hid (M0.out.step b1)
  have N1 := Lib.hid (R1.got M0.out.lt)
  clear R1 b1 M0
  obtain ⟨Asubs', csubs', rfl⟩ := N1.out.slv
  have Nsubs := Lib.hid N1.out; clear N1
  have k1_2 := M1a.out.pcell 2 (.string value) rfl
  obtain ⟨d1_0, f1_0⟩ := M1a.out.ocell 0 (.string name) rfl
  obtain ⟨d1_1, f1_1⟩ := M1a.out.ocell 1 (.slice none 0 0) rfl
  obtain ⟨d1_2, f1_2⟩ := M1a.out.ocell 2 (.string ⟨#[]⟩) rfl
  obtain ⟨r0, g0⟩ := M1a.out.zcell 0 (.string ⟨#[]⟩) rfl
  obtain ⟨r1, g1⟩ := M1a.out.zcell 1 (.slice none 0 0) rfl
  obtain ⟨r2, g2⟩ := M1a.out.zcell 2 (.string ⟨#[]⟩) rfl
  have M1 : Hid (Mid w ((w1.setCell ⟨w.heap.size + 1 + 1, 1, none⟩ (.slice Asubs' subs.length csubs')).setCell ⟨w.heap.size + 1 + 1, 2, none⟩ (.string value)) [.string name, .slice Asubs subs.length csubs, .string value] #[.string name, .slice Asubs' subs.length csubs', .string value] #[.string ⟨#[]⟩, .slice none 0 0, .string ⟨#[]⟩] 131) := M1a.out.row 1 [.slice Asubs' subs.length csubs', .string value]
  have Nsubs : Hid (Rd ((w1.setCell ⟨w.heap.size + 1 + 1, 1, none⟩ (.slice Asubs' subs.length csubs')).setCell ⟨w.heap.size + 1 + 1, 2, none⟩ (.string value)) (w.heap.size + 1 + 1 + 1) (((w1.setCell ⟨w.heap.size + 1 + 1, 1, none⟩ (.slice Asubs' subs.length csubs')).setCell ⟨w.heap.size + 1 + 1, 2, none⟩ (.string value))).heap.size (.sl .str) [.slice Asubs' subs.length csubs'] (.sl subs)) := Nsubs.out.row (w.heap.size + 1 + 1) 1 [.slice Asubs' subs.length csubs', .string value] (by omega)
  clear M1a
  go_wp2_with fail
  refine bodyPost_ret (results_cell_row rfl _ _ (w.heap.size + 1) 131 #[.string name, .slice Asubs' subs.length csubs', .string value] (0, 0) _ rfl (M1.out.fin [.string name, .slice Asubs' subs.length csubs', .string value] rfl) Try.underlying131 rfl (by kernel_rfl)) rfl ⟨[.string name, .slice Asubs' subs.length csubs', .string value], rfl, ?_, M1.out.finBelow [.string name, .slice Asubs' subs.length csubs', .string value]⟩
  exact Rd.mkNode ((Nsubs.out.row (w.heap.size + 1) 0 [.string name, .slice Asubs' subs.length csubs', .string value] (by omega)).imp (fun _ _ _ => rfl) (by omega) (Nat.le_refl _))

@[reducible] def tyRef : Ty := .pair .bool (.pair .str (.pair (.sl .str) .unit))

theorem Rd.invRef {w : World} {lo hi : Nat} {cs : List Value} {d : DV} (h : Rd w lo hi tyRef cs d) : ∃ (glob : Bool) (name : ByteArray) (Asubs : Option Addr) (csubs : Nat) (subs : List DV), cs = [.bool glob, .string name, .slice Asubs subs.length csubs] ∧ d = .pair (.bool glob) (.pair (.str name) (.pair (.sl subs) .unit)) ∧ Rd w lo hi (.sl .str) [.slice Asubs subs.length csubs] (.sl subs) := by
  obtain ⟨glob, s1, e1, rfl, rfl, h1⟩ := Rd.inv_bool_ h
  obtain ⟨name, s2, e2, rfl, rfl, h2⟩ := Rd.inv_str_ h1
  obtain ⟨Asubs, csubs, subs, s3, e3, rfl, rfl, Hsubs, h3⟩ := Rd.inv_sl_ h2
  obtain ⟨rfl, rfl⟩ := Rd.inv_unit h3
  exact ⟨_, _, _, _, _, rfl, rfl, Hsubs⟩

theorem Rd.cellsRef {w : World} {lo hi : Nat} {cs : List Value} {d : DV} (h : Rd w lo hi tyRef cs d) : ∃ (glob : Bool) (name : ByteArray) (Asubs : Option Addr) (csubs : Nat) (subs : List DV), cs = [.bool glob, .string name, .slice Asubs subs.length csubs] := by
  obtain ⟨y0, y1, y2, y3, y4, e1, _⟩ := Rd.invRef h
  exact ⟨y0, y1, y2, y3, y4, e1⟩

theorem Rd.mkRef {w : World} {lo hi : Nat} {glob : Bool} {name : ByteArray} {Asubs : Option Addr} {csubs : Nat} {subs : List DV} (Hsubs : Rd w lo hi (.sl .str) [.slice Asubs subs.length csubs] (.sl subs)) : Rd w lo hi tyRef [.bool glob, .string name, .slice Asubs subs.length csubs] (.pair (.bool glob) (.pair (.str name) (.pair (.sl subs) .unit))) :=
  (.pair (.bool _) (.pair (.str _) (.pair Hsubs .unit)))

set_option maxHeartbeats 1000000 in
set_option maxRecDepth 8000 in
theorem szRef_dv (cs : List Value) (d : DV) (left : Int) (w : World) (h : At w tyRef cs d) (hf : Fits maxLen d) (h0 : 0 ≤ left) (h1 : left ≤ 1048576) :
    Calls Try.prog 15 #[.agg cs.toArray, .int .i64 left] w fun e w' => (∃ q : Int, e = .returned (.int .i64 q) ∧ -1 ≤ q ∧ q ≤ left ∧ Hid (0 ≤ q → Fits 1048576 d)) ∧ Below w.heap.size w w' := by
  obtain ⟨glob, name, Asubs, csubs, subs, rfl, rfl, Hsubs⟩ := Rd.invRef h
  have hba : Hid (Below w.heap.size w (w.alloc (.cells #[.bool glob, .string name, .slice Asubs subs.length csubs] 33))) := Joins.below_alloc1 w _
  have HHsubs : Hid (At w (.sl .str) [.slice Asubs subs.length csubs] (.sl subs)) := Hsubs; clear Hsubs
  have nname := hf.snd.fst.str_
  unfold maxLen at nname
  have HFsubs := Lib.hid hf.snd.snd.fst
  clear hf
  have C0 := Lib.hid (CellsAt.new w #[.bool glob, .string name, .slice Asubs subs.length csubs] 33)
  go_enter Try.func15, Try.ntmps15
  by_cases zname : left - name.size < 0
  · go_wp2_with fail
    go_ret
    exact ⟨⟨_, rfl, by omega, by omega, fun hq => by omega⟩, hba.out⟩
  go_wp2_with fail
  refine (szStringS_dv _ _ (left - name.size) _ (HHsubs.out.on hba.out) HFsubs.out (by omega) (by omega)).mono ?_
  rintro e w1 ⟨⟨q1, rfl, qa1, qb1, Q1⟩, b1⟩
  have B1 := Lib.hid (below_trans hba.out b1)
  by_cases zsubs : q1 < 0
  · go_wp2_with fail
    go_ret
    exact ⟨⟨_, rfl, by omega, by omega, fun hq => by omega⟩, B1.out⟩
  go_wp2_with fail
  go_ret
  exact ⟨⟨_, rfl, by omega, by omega, fun _ => (.pair (.bool _) (.pair (.str _ (show name.size ≤ 1048576 by omega)) (.pair (Q1.out (by omega)) .unit)))⟩, B1.out⟩

set_option maxHeartbeats 2000000 in
set_option maxRecDepth 8000 in
theorem eqRef_dv (cs cs2 : List Value) (d d2 : DV) (w : World) (h : At w tyRef cs d) (h2 : At w tyRef cs2 d2) (hf : Fits 1048576 d) :
    Calls Try.prog 37 #[.agg cs.toArray, .agg cs2.toArray] w fun e w' => GotB e d d2 ∧ Below w.heap.size w w' := by
  obtain ⟨glob, name, Asubs, csubs, subs, rfl, rfl, Hsubs⟩ := Rd.invRef h
  obtain ⟨glob2, name2, Asubs2, csubs2, subs2, rfl, rfl, Hsubs2⟩ := Rd.invRef h2
  have hba : Hid (Below w.heap.size w ((w.alloc (.cells #[.bool glob, .string name, .slice Asubs subs.length csubs] 47)).alloc (.cells #[.bool glob2, .string name2, .slice Asubs2 subs2.length csubs2] 47))) := Joins.below_alloc2 w _ _
  have HHsubs : Hid (At w (.sl .str) [.slice Asubs subs.length csubs] (.sl subs)) := Hsubs; clear Hsubs
  have HHsubs2 : Hid (At w (.sl .str) [.slice Asubs2 subs2.length csubs2] (.sl subs2)) := Hsubs2; clear Hsubs2
  have HFsubs := Lib.hid hf.snd.snd.fst
  clear hf
  have HV : Hid (∀ b : Bool, (b = true ↔ glob = glob2 ∧ name = name2 ∧ DV.sl subs = DV.sl subs2) → EqB b (.pair (.bool glob) (.pair (.str name) (.pair (.sl subs) .unit))) (.pair (.bool glob2) (.pair (.str name2) (.pair (.sl subs2) .unit)))) := fun b hb => by
    unfold EqB; rw [hb]; simp only [DV.pair.injEq, DV.num.injEq, DV.bool.injEq, DV.str.injEq, and_true]
  have C0 := Lib.hid ((CellsAt.new w #[.bool glob, .string name, .slice Asubs subs.length csubs] 47).below (Joins.below_alloc1 _ (.cells #[.bool glob2, .string name2, .slice Asubs2 subs2.length csubs2] 47)))
  have D0 := Lib.hid (CellsAt.new (w.alloc (.cells #[.bool glob, .string name, .slice Asubs subs.length csubs] 47)) #[.bool glob2, .string name2, .slice Asubs2 subs2.length csubs2] 47)
  have hz1 : (w.alloc (.cells #[.bool glob, .string name, .slice Asubs subs.length csubs] 47)).heap.size = w.heap.size + 1 := by simp
  rw [hz1] at D0; clear hz1
  go_enter Try.func37, Try.ntmps37
  by_cases hne : glob = glob2
  rotate_left
  · have e1 : (glob == glob2) = false := by simpa using hne
    have e2 : (glob != glob2) = true := by simpa using hne
    go_wp2_with fail
    go_ret
    exact ⟨⟨false, rfl, HV.out false (by simp [hne])⟩, hba.out⟩
  subst hne
  by_cases hne : name = name2
  rotate_left
  · have e1 : (name.toList == name2.toList) = false := by rw [ba_toList, ba_toList]; exact beq_eq_false_iff_ne.2 (fun h => hne (ba_ext h))
    go_wp2_with fail
    go_ret
    exact ⟨⟨false, rfl, HV.out false (by simp [hne])⟩, hba.out⟩
  subst hne
  go_wp2_with fail
  refine (eqStringS_dv _ _ _ _ _ (HHsubs.out.on hba.out) (HHsubs2.out.on hba.out) HFsubs.out).mono ?_
  rintro e w1 ⟨⟨r1, rfl, HE1⟩, b1⟩
  have B1 := Lib.hid (below_trans hba.out b1)
  have C1 := Lib.hid (C0.out.below b1)
  have D1 := Lib.hid (D0.out.below b1)
  clear C0 D0 b1
  cases r1
  · have hne : ¬ DV.sl subs = .sl subs2 := fun h => by have := HE1.2 h; cases this
    go_wp2_with fail
    go_ret
    exact ⟨⟨false, rfl, HV.out false (by simp [hne])⟩, B1.out⟩
  have Esubs := Lib.hid (HE1.1 rfl); clear HE1
  go_wp2_with fail
  go_ret
  exact ⟨⟨true, rfl, HV.out true (by simp [Esubs.out])⟩, B1.out⟩

set_option maxHeartbeats 4000000 in
set_option maxRecDepth 8000 in
theorem toRef_dv (cs : List Value) (d : DV) (w : World) (h : At w tyRef cs d) (hf : Fits 1048576 d) :
    Calls Try.prog 23 #[.agg cs.toArray] w fun e w' => ∃ cs' : List Value, e = .returned (.agg cs'.toArray) ∧ Rd w' w.heap.size w'.heap.size tyRef cs' d ∧ Below w.heap.size w w' := by
  obtain ⟨glob, name, Asubs, csubs, subs, rfl, rfl, Hsubs⟩ := Rd.invRef h
  have HHsubs : Hid (At w (.sl .str) [.slice Asubs subs.length csubs] (.sl subs)) := Hsubs; clear Hsubs
  have HFsubs := Lib.hid hf.snd.snd.fst
  clear hf
  have M0 : Hid (Mid w (((w.alloc (.cells #[.bool glob, .string name, .slice Asubs subs.length csubs] 33)).alloc (.cells #[.bool false, .string ⟨#[]⟩, .slice none 0 0] 47)).alloc (.cells #[.bool glob, .string name, .slice none 0 0] 47)) [.bool glob, .string name, .slice Asubs subs.length csubs] #[.bool glob, .string name, .slice none 0 0] #[.bool false, .string ⟨#[]⟩, .slice none 0 0] 47) := Mid.start w #[.bool glob, .string name, .slice Asubs subs.length csubs] #[.bool glob, .string name, .slice none 0 0] #[.bool false, .string ⟨#[]⟩, .slice none 0 0] 33 47
  go_enter Try.func23, Try.ntmps23
  go_wp2_with fail
  refine (toStringS_dv _ _ _ (HHsubs.out.on M0.out.below) HFsubs.out).mono ?_
  rintro e w1 ⟨v1, rfl, R1, b1⟩
  have M1a := Lib.hid (M0.out.step b1)
  have N1 := Lib.hid (R1.got M0.out.lt)
  clear R1 b1 M0
  obtain ⟨Asubs', csubs', rfl⟩ := N1.out.slv
  have Nsubs := Lib.hid N1.out; clear N1
  obtain ⟨d1_0, f1_0⟩ := M1a.out.ocell 0 (.bool glob) rfl
  obtain ⟨d1_1, f1_1⟩ := M1a.out.ocell 1 (.string name) rfl
  obtain ⟨d1_2, f1_2⟩ := M1a.out.ocell 2 (.slice none 0 0) rfl
  obtain ⟨r0, g0⟩ := M1a.out.zcell 0 (.bool false) rfl
  obtain ⟨r1, g1⟩ := M1a.out.zcell 1 (.string ⟨#[]⟩) rfl
  obtain ⟨r2, g2⟩ := M1a.out.zcell 2 (.slice none 0 0) rfl
  have M1 : Hid (Mid w (w1.setCell ⟨w.heap.size + 1 + 1, 2, none⟩ (.slice Asubs' subs.length csubs')) [.bool glob, .string name, .slice Asubs subs.length csubs] #[.bool glob, .string name, .slice Asubs' subs.length csubs'] #[.bool false, .string ⟨#[]⟩, .slice none 0 0] 47) := M1a.out.row 2 [.slice Asubs' subs.length csubs']
  have Nsubs : Hid (Rd (w1.setCell ⟨w.heap.size + 1 + 1, 2, none⟩ (.slice Asubs' subs.length csubs')) (w.heap.size + 1 + 1 + 1) ((w1.setCell ⟨w.heap.size + 1 + 1, 2, none⟩ (.slice Asubs' subs.length csubs'))).heap.size (.sl .str) [.slice Asubs' subs.length csubs'] (.sl subs)) := Nsubs.out.row (w.heap.size + 1 + 1) 2 [.slice Asubs' subs.length csubs'] (by omega)
  clear M1a
  go_wp2_with fail
  refine bodyPost_ret (results_cell_row rfl _ _ (w.heap.size + 1) 47 #[.bool glob, .string name, .slice Asubs' subs.length csubs'] (0, 0) _ rfl (M1.out.fin [.bool glob, .string name, .slice Asubs' subs.length csubs'] rfl) Try.underlying47 rfl (by kernel_rfl)) rfl ⟨[.bool glob, .string name, .slice Asubs' subs.length csubs'], rfl, ?_, M1.out.finBelow [.bool glob, .string name, .slice Asubs' subs.length csubs']⟩
  exact Rd.mkRef ((Nsubs.out.row (w.heap.size + 1) 0 [.bool glob, .string name, .slice Asubs' subs.length csubs'] (by omega)).imp (fun _ _ _ => rfl) (by omega) (Nat.le_refl _))

set_option maxHeartbeats 2000000 in
set_option maxRecDepth 8000 in
theorem sameRef_dv (cs cs2 : List Value) (d d2 : DV) (w : World) (h : At w tyRef cs d) (h2 : At w tyRef cs2 d2) (hf : Fits 1048576 d) :
    Calls Try.prog 26 #[.agg cs.toArray, .agg cs2.toArray] w fun e w' => GotB e d d2 ∧ Below w.heap.size w w' := by
  obtain ⟨glob, name, Asubs, csubs, subs, rfl, rfl, Hsubs⟩ := Rd.invRef h
  obtain ⟨glob2, name2, Asubs2, csubs2, subs2, rfl, rfl, Hsubs2⟩ := Rd.invRef h2
  have hba : Hid (Below w.heap.size w ((w.alloc (.cells #[.bool glob, .string name, .slice Asubs subs.length csubs] 47)).alloc (.cells #[.bool glob2, .string name2, .slice Asubs2 subs2.length csubs2] 47))) := Joins.below_alloc2 w _ _
  have HHsubs : Hid (At w (.sl .str) [.slice Asubs subs.length csubs] (.sl subs)) := Hsubs; clear Hsubs
  have HHsubs2 : Hid (At w (.sl .str) [.slice Asubs2 subs2.length csubs2] (.sl subs2)) := Hsubs2; clear Hsubs2
  have HFsubs := Lib.hid hf.snd.snd.fst
  clear hf
  have HV : Hid (∀ b : Bool, (b = true ↔ glob = glob2 ∧ name = name2 ∧ DV.sl subs = DV.sl subs2) → EqB b (.pair (.bool glob) (.pair (.str name) (.pair (.sl subs) .unit))) (.pair (.bool glob2) (.pair (.str name2) (.pair (.sl subs2) .unit)))) := fun b hb => by
    unfold EqB; rw [hb]; simp only [DV.pair.injEq, DV.num.injEq, DV.bool.injEq, DV.str.injEq, and_true]
  have C0 := Lib.hid ((CellsAt.new w #[.bool glob, .string name, .slice Asubs subs.length csubs] 47).below (Joins.below_alloc1 _ (.cells #[.bool glob2, .string name2, .slice Asubs2 subs2.length csubs2] 47)))
  have D0 := Lib.hid (CellsAt.new (w.alloc (.cells #[.bool glob, .string name, .slice Asubs subs.length csubs] 47)) #[.bool glob2, .string name2, .slice Asubs2 subs2.length csubs2] 47)
  have hz1 : (w.alloc (.cells #[.bool glob, .string name, .slice Asubs subs.length csubs] 47)).heap.size = w.heap.size + 1 := by simp
  rw [hz1] at D0; clear hz1
  go_enter Try.func26, Try.ntmps26
  by_cases hne : glob = glob2
  rotate_left
  · have e1 : (glob == glob2) = false := by simpa using hne
    have e2 : (glob != glob2) = true := by simpa using hne
    go_wp2_with fail
    go_ret
    exact ⟨⟨false, rfl, HV.out false (by simp [hne])⟩, hba.out⟩
  subst hne
  by_cases hne : name = name2
  rotate_left
  · have e1 : (name.toList == name2.toList) = false := by rw [ba_toList, ba_toList]; exact beq_eq_false_iff_ne.2 (fun h => hne (ba_ext h))
    go_wp2_with fail
    go_ret
    exact ⟨⟨false, rfl, HV.out false (by simp [hne])⟩, hba.out⟩
  subst hne
  go_wp2_with fail
  refine (slicesEqualS_dv _ _ _ _ _ (HHsubs.out.on hba.out) (HHsubs2.out.on hba.out) HFsubs.out).mono ?_
  rintro e w1 ⟨⟨r1, rfl, HE1⟩, b1⟩
  have B1 := Lib.hid (below_trans hba.out b1)
  have C1 := Lib.hid (C0.out.below b1)
  have D1 := Lib.hid (D0.out.below b1)
  clear C0 D0 b1
  cases r1
  · have hne : ¬ DV.sl subs = .sl subs2 := fun h => by have := HE1.2 h; cases this
    go_wp2_with fail
    go_ret
    exact ⟨⟨false, rfl, HV.out false (by simp [hne])⟩, B1.out⟩
  have Esubs := Lib.hid (HE1.1 rfl); clear HE1
  go_wp2_with fail
  go_ret
  exact ⟨⟨true, rfl, HV.out true (by simp [Esubs.out])⟩, B1.out⟩

set_option maxHeartbeats 2000000 in
set_option maxRecDepth 8000 in
theorem l14SameRef_dv (cs cs2 : List Value) (d d2 : DV) (w : World) (h : At w tyRef cs d) (h2 : At w tyRef cs2 d2) (hf : Fits 1048576 d) :
    Calls Try.prog 45 #[.agg cs.toArray, .agg cs2.toArray] w fun e w' => GotB e d d2 ∧ Below w.heap.size w w' := by
  obtain ⟨glob, name, Asubs, csubs, subs, rfl, rfl, Hsubs⟩ := Rd.invRef h
  obtain ⟨glob2, name2, Asubs2, csubs2, subs2, rfl, rfl, Hsubs2⟩ := Rd.invRef h2
  have hba : Hid (Below w.heap.size w ((w.alloc (.cells #[.bool glob, .string name, .slice Asubs subs.length csubs] 47)).alloc (.cells #[.bool glob2, .string name2, .slice Asubs2 subs2.length csubs2] 47))) := Joins.below_alloc2 w _ _
  have HHsubs : Hid (At w (.sl .str) [.slice Asubs subs.length csubs] (.sl subs)) := Hsubs; clear Hsubs
  have HHsubs2 : Hid (At w (.sl .str) [.slice Asubs2 subs2.length csubs2] (.sl subs2)) := Hsubs2; clear Hsubs2
  have HFsubs := Lib.hid hf.snd.snd.fst
  clear hf
  have HV : Hid (∀ b : Bool, (b = true ↔ glob = glob2 ∧ name = name2 ∧ DV.sl subs = DV.sl subs2) → EqB b (.pair (.bool glob) (.pair (.str name) (.pair (.sl subs) .unit))) (.pair (.bool glob2) (.pair (.str name2) (.pair (.sl subs2) .unit)))) := fun b hb => by
    unfold EqB; rw [hb]; simp only [DV.pair.injEq, DV.num.injEq, DV.bool.injEq, DV.str.injEq, and_true]
  have C0 := Lib.hid ((CellsAt.new w #[.bool glob, .string name, .slice Asubs subs.length csubs] 47).below (Joins.below_alloc1 _ (.cells #[.bool glob2, .string name2, .slice Asubs2 subs2.length csubs2] 47)))
  have D0 := Lib.hid (CellsAt.new (w.alloc (.cells #[.bool glob, .string name, .slice Asubs subs.length csubs] 47)) #[.bool glob2, .string name2, .slice Asubs2 subs2.length csubs2] 47)
  have hz1 : (w.alloc (.cells #[.bool glob, .string name, .slice Asubs subs.length csubs] 47)).heap.size = w.heap.size + 1 := by simp
  rw [hz1] at D0; clear hz1
  go_enter Try.func45, Try.ntmps45
  by_cases hne : glob = glob2
  rotate_left
  · have e1 : (glob == glob2) = false := by simpa using hne
    have e2 : (glob != glob2) = true := by simpa using hne
    go_wp2_with fail
    go_ret
    exact ⟨⟨false, rfl, HV.out false (by simp [hne])⟩, hba.out⟩
  subst hne
  by_cases hne : name = name2
  rotate_left
  · have e1 : (name.toList == name2.toList) = false := by rw [ba_toList, ba_toList]; exact beq_eq_false_iff_ne.2 (fun h => hne (ba_ext h))
    go_wp2_with fail
    go_ret
    exact ⟨⟨false, rfl, HV.out false (by simp [hne])⟩, hba.out⟩
  subst hne
  go_wp2_with fail
  refine (l02Same_dv _ _ _ _ _ (HHsubs.out.on hba.out) (HHsubs2.out.on hba.out) HFsubs.out).mono ?_
  rintro e w1 ⟨⟨r1, rfl, HE1⟩, b1⟩
  have B1 := Lib.hid (below_trans hba.out b1)
  have C1 := Lib.hid (C0.out.below b1)
  have D1 := Lib.hid (D0.out.below b1)
  clear C0 D0 b1
  cases r1
  · have hne : ¬ DV.sl subs = .sl subs2 := fun h => by have := HE1.2 h; cases this
    go_wp2_with fail
    go_ret
    exact ⟨⟨false, rfl, HV.out false (by simp [hne])⟩, B1.out⟩
  have Esubs := Lib.hid (HE1.1 rfl); clear HE1
  go_wp2_with fail
  go_ret
  exact ⟨⟨true, rfl, HV.out true (by simp [Esubs.out])⟩, B1.out⟩

set_option maxHeartbeats 2000000 in
set_option maxRecDepth 8000 in
theorem sameNode_dv (cs cs2 : List Value) (d d2 : DV) (w : World) (h : At w tyNode cs d) (h2 : At w tyNode cs2 d2) (hf : Fits 1048576 d) :
    Calls Try.prog 74 #[.agg cs.toArray, .agg cs2.toArray] w fun e w' => GotB e d d2 ∧ Below w.heap.size w w' := by
  obtain ⟨name, Asubs, csubs, subs, value, rfl, rfl, Hsubs⟩ := Rd.invNode h
  obtain ⟨name2, Asubs2, csubs2, subs2, value2, rfl, rfl, Hsubs2⟩ := Rd.invNode h2
  have hba : Hid (Below w.heap.size w ((w.alloc (.cells #[.string name, .slice Asubs subs.length csubs, .string value] 131)).alloc (.cells #[.string name2, .slice Asubs2 subs2.length csubs2, .string value2] 131))) := Joins.below_alloc2 w _ _
  have HHsubs : Hid (At w (.sl .str) [.slice Asubs subs.length csubs] (.sl subs)) := Hsubs; clear Hsubs
  have HHsubs2 : Hid (At w (.sl .str) [.slice Asubs2 subs2.length csubs2] (.sl subs2)) := Hsubs2; clear Hsubs2
  have HFsubs := Lib.hid hf.snd.fst
  clear hf
  have HV : Hid (∀ b : Bool, (b = true ↔ name = name2 ∧ DV.sl subs = DV.sl subs2 ∧ value = value2) → EqB b (.pair (.str name) (.pair (.sl subs) (.pair (.str value) .unit))) (.pair (.str name2) (.pair (.sl subs2) (.pair (.str value2) .unit)))) := fun b hb => by
    unfold EqB; rw [hb]; simp only [DV.pair.injEq, DV.num.injEq, DV.bool.injEq, DV.str.injEq, and_true]
  have C0 := Lib.hid ((CellsAt.new w #[.string name, .slice Asubs subs.length csubs, .string value] 131).below (Joins.below_alloc1 _ (.cells #[.string name2, .slice Asubs2 subs2.length csubs2, .string value2] 131)))
  have D0 := Lib.hid (CellsAt.new (w.alloc (.cells #[.string name, .slice Asubs subs.length csubs, .string value] 131)) #[.string name2, .slice Asubs2 subs2.length csubs2, .string value2] 131)
  have hz1 : (w.alloc (.cells #[.string name, .slice Asubs subs.length csubs, .string value] 131)).heap.size = w.heap.size + 1 := by simp
  rw [hz1] at D0; clear hz1
  go_enter Try.func74, Try.ntmps74
  by_cases hne : name = name2
  rotate_left
  · have e1 : (name.toList == name2.toList) = false := by rw [ba_toList, ba_toList]; exact beq_eq_false_iff_ne.2 (fun h => hne (ba_ext h))
    go_wp2_with fail
    go_ret
    exact ⟨⟨false, rfl, HV.out false (by simp [hne])⟩, hba.out⟩
  subst hne
  by_cases hne : value = value2
  rotate_left
  · have e1 : (value.toList == value2.toList) = false := by rw [ba_toList, ba_toList]; exact beq_eq_false_iff_ne.2 (fun h => hne (ba_ext h))
    go_wp2_with fail
    go_ret
    exact ⟨⟨false, rfl, HV.out false (by simp [hne])⟩, hba.out⟩
  subst hne
  go_wp2_with fail
  refine (slicesEqualS_dv _ _ _ _ _ (HHsubs.out.on hba.out) (HHsubs2.out.on hba.out) HFsubs.out).mono ?_
  rintro e w1 ⟨⟨r1, rfl, HE1⟩, b1⟩
  have B1 := Lib.hid (below_trans hba.out b1)
  have C1 := Lib.hid (C0.out.below b1)
  have D1 := Lib.hid (D0.out.below b1)
  clear C0 D0 b1
  cases r1
  · have hne : ¬ DV.sl subs = .sl subs2 := fun h => by have := HE1.2 h; cases this
    go_wp2_with fail
    go_ret
    exact ⟨⟨false, rfl, HV.out false (by simp [hne])⟩, B1.out⟩
  have Esubs := Lib.hid (HE1.1 rfl); clear HE1
  go_wp2_with fail
  go_ret
  exact ⟨⟨true, rfl, HV.out true (by simp [Esubs.out])⟩, B1.out⟩

set_option maxHeartbeats 2000000 in
set_option maxRecDepth 8000 in
theorem l03SameNode_dv (cs cs2 : List Value) (d d2 : DV) (w : World) (h : At w tyNode cs d) (h2 : At w tyNode cs2 d2) (hf : Fits 1048576 d) :
    Calls Try.prog 79 #[.agg cs.toArray, .agg cs2.toArray] w fun e w' => GotB e d d2 ∧ Below w.heap.size w w' := by
  obtain ⟨name, Asubs, csubs, subs, value, rfl, rfl, Hsubs⟩ := Rd.invNode h
  obtain ⟨name2, Asubs2, csubs2, subs2, value2, rfl, rfl, Hsubs2⟩ := Rd.invNode h2
  have hba : Hid (Below w.heap.size w ((w.alloc (.cells #[.string name, .slice Asubs subs.length csubs, .string value] 131)).alloc (.cells #[.string name2, .slice Asubs2 subs2.length csubs2, .string value2] 131))) := Joins.below_alloc2 w _ _
  have HHsubs : Hid (At w (.sl .str) [.slice Asubs subs.length csubs] (.sl subs)) := Hsubs; clear Hsubs
  have HHsubs2 : Hid (At w (.sl .str) [.slice Asubs2 subs2.length csubs2] (.sl subs2)) := Hsubs2; clear Hsubs2
  have HFsubs := Lib.hid hf.snd.fst
  clear hf
  have HV : Hid (∀ b : Bool, (b = true ↔ name = name2 ∧ DV.sl subs = DV.sl subs2 ∧ value = value2) → EqB b (.pair (.str name) (.pair (.sl subs) (.pair (.str value) .unit))) (.pair (.str name2) (.pair (.sl subs2) (.pair (.str value2) .unit)))) := fun b hb => by
    unfold EqB; rw [hb]; simp only [DV.pair.injEq, DV.num.injEq, DV.bool.injEq, DV.str.injEq, and_true]
  have C0 := Lib.hid ((CellsAt.new w #[.string name, .slice Asubs subs.length csubs, .string value] 131).below (Joins.below_alloc1 _ (.cells #[.string name2, .slice Asubs2 subs2.length csubs2, .string value2] 131)))
  have D0 := Lib.hid (CellsAt.new (w.alloc (.cells #[.string name, .slice Asubs subs.length csubs, .string value] 131)) #[.string name2, .slice Asubs2 subs2.length csubs2, .string value2] 131)
  have hz1 : (w.alloc (.cells #[.string name, .slice Asubs subs.length csubs, .string value] 131)).heap.size = w.heap.size + 1 := by simp
  rw [hz1] at D0; clear hz1
  go_enter Try.func79, Try.ntmps79
  by_cases hne : name = name2
  rotate_left
  · have e1 : (name.toList == name2.toList) = false := by rw [ba_toList, ba_toList]; exact beq_eq_false_iff_ne.2 (fun h => hne (ba_ext h))
    go_wp2_with fail
    go_ret
    exact ⟨⟨false, rfl, HV.out false (by simp [hne])⟩, hba.out⟩
  subst hne
  by_cases hne : value = value2
  rotate_left
  · have e1 : (value.toList == value2.toList) = false := by rw [ba_toList, ba_toList]; exact beq_eq_false_iff_ne.2 (fun h => hne (ba_ext h))
    go_wp2_with fail
    go_ret
    exact ⟨⟨false, rfl, HV.out false (by simp [hne])⟩, hba.out⟩
  subst hne
  go_wp2_with fail
  refine (SameSubs_dv _ _ _ _ _ (HHsubs.out.on hba.out) (HHsubs2.out.on hba.out) HFsubs.out).mono ?_
  rintro e w1 ⟨⟨r1, rfl, HE1⟩, b1⟩
  have B1 := Lib.hid (below_trans hba.out b1)
  have C1 := Lib.hid (C0.out.below b1)
  have D1 := Lib.hid (D0.out.below b1)
  clear C0 D0 b1
  cases r1
  · have hne : ¬ DV.sl subs = .sl subs2 := fun h => by have := HE1.2 h; cases this
    go_wp2_with fail
    go_ret
    exact ⟨⟨false, rfl, HV.out false (by simp [hne])⟩, B1.out⟩
  have Esubs := Lib.hid (HE1.1 rfl); clear HE1
  go_wp2_with fail
  go_ret
  exact ⟨⟨true, rfl, HV.out true (by simp [Esubs.out])⟩, B1.out⟩

end Go.Proofs.Ytllamjgloilioaa
