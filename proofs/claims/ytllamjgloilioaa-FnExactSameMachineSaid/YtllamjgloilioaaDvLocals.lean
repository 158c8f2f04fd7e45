/- Locals: their shape, size, copy, equality. (printed by gen_dv.py) -/
import Derived.Test.YtllamjgloilioaaDvCell
namespace Go.Proofs.Ytllamjgloilioaa
open Go.RowKit Go.ChangeShapes Go.WideShapes Go.ChangeAt Go.Deep
set_option linter.unusedVariables false
set_option linter.unusedSimpArgs false

@[reducible] def tyLocals : Ty := .pair .num (.pair (.sl tyBind) (.pair (.sl tyCell) (.pair (.sl tyLevel) .unit)))

theorem Rd.invLocals {w : World} {lo hi : Nat} {cs : List Value} {d : DV} (h : Rd w lo hi tyLocals cs d) : ∃ (next : Int) (Abinds : Option Addr) (cbinds : Nat) (binds : List DV) (Acells : Option Addr) (ccells : Nat) (cells : List DV) (Alevels : Option Addr) (clevels : Nat) (levels : List DV), cs = [.int .i64 next, .slice Abinds binds.length cbinds, .slice Acells cells.length ccells, .slice Alevels levels.length clevels] ∧ d = .pair (.num next) (.pair (.sl binds) (.pair (.sl cells) (.pair (.sl levels) .unit))) ∧ Rd w lo hi (.sl tyBind) [.slice Abinds binds.length cbinds] (.sl binds) ∧ Rd w lo hi (.sl tyCell) [.slice Acells cells.length ccells] (.sl cells) ∧ Rd w lo hi (.sl tyLevel) [.slice Alevels levels.length clevels] (.sl levels) := by
  obtain ⟨next, s1, e1, rfl, rfl, h1⟩ := Rd.inv_num_ h
  obtain ⟨Abinds, cbinds, binds, s2, e2, rfl, rfl, Hbinds, h2⟩ := Rd.inv_sl_ h1
  obtain ⟨Acells, ccells, cells, s3, e3, rfl, rfl, Hcells, h3⟩ := Rd.inv_sl_ h2
  obtain ⟨Alevels, clevels, levels, s4, e4, rfl, rfl, Hlevels, h4⟩ := Rd.inv_sl_ h3
  obtain ⟨rfl, rfl⟩ := Rd.inv_unit h4
  exact ⟨_, _, _, _, _, _, _, _, _, _, rfl, rfl, Hbinds, Hcells, Hlevels⟩

theorem Rd.cellsLocals {w : World} {lo hi : Nat} {cs : List Value} {d : DV} (h : Rd w lo hi tyLocals cs d) : ∃ (next : Int) (Abinds : Option Addr) (cbinds : Nat) (binds : List DV) (Acells : Option Addr) (ccells : Nat) (cells : List DV) (Alevels : Option Addr) (clevels : Nat) (levels : List DV), cs = [.int .i64 next, .slice Abinds binds.length cbinds, .slice Acells cells.length ccells, .slice Alevels levels.length clevels] := by
  obtain ⟨y0, y1, y2, y3, y4, y5, y6, y7, y8, y9, e1, _⟩ := Rd.invLocals h
  exact ⟨y0, y1, y2, y3, y4, y5, y6, y7, y8, y9, e1⟩

theorem Rd.mkLocals {w : World} {lo hi : Nat} {next : Int} {Abinds : Option Addr} {cbinds : Nat} {binds : List DV} {Acells : Option Addr} {ccells : Nat} {cells : List DV} {Alevels : Option Addr} {clevels : Nat} {levels : List DV} (Hbinds : Rd w lo hi (.sl tyBind) [.slice Abinds binds.length cbinds] (.sl binds)) (Hcells : Rd w lo hi (.sl tyCell) [.slice Acells cells.length ccells] (.sl cells)) (Hlevels : Rd w lo hi (.sl tyLevel) [.slice Alevels levels.length clevels] (.sl levels)) : Rd w lo hi tyLocals [.int .i64 next, .slice Abinds binds.length cbinds, .slice Acells cells.length ccells, .slice Alevels levels.length clevels] (.pair (.num next) (.pair (.sl binds) (.pair (.sl cells) (.pair (.sl levels) .unit)))) :=
  (.pair (.num _) (.pair Hbinds (.pair Hcells (.pair Hlevels .unit))))

set_option maxHeartbeats 1000000 in
set_option maxRecDepth 8000 in
theorem szLocals_dv (cs : List Value) (d : DV) (left : Int) (w : World) (h : At w tyLocals cs d) (hf : Fits maxLen d) (h0 : 0 ≤ left) (h1 : left ≤ 1048576) :
    Calls Try.prog 14 #[.agg cs.toArray, .int .i64 left] w fun e w' => (∃ q : Int, e = .returned (.int .i64 q) ∧ -1 ≤ q ∧ q ≤ left ∧ Hid (0 ≤ q → Fits 1048576 d)) ∧ Below w.heap.size w w' := by
  obtain ⟨next, Abinds, cbinds, binds, Acells, ccells, cells, Alevels, clevels, levels, rfl, rfl, Hbinds, Hcells, Hlevels⟩ := Rd.invLocals h
  have hba : Hid (Below w.heap.size w (w.alloc (.cells #[.int .i64 next, .slice Abinds binds.length cbinds, .slice Acells cells.length ccells, .slice Alevels levels.length clevels] 31))) := Joins.below_alloc1 w _
  have HHbinds : Hid (At w (.sl tyBind) [.slice Abinds binds.length cbinds] (.sl binds)) := Hbinds; clear Hbinds
  have HHcells : Hid (At w (.sl tyCell) [.slice Acells cells.length ccells] (.sl cells)) := Hcells; clear Hcells
  have HHlevels : Hid (At w (.sl tyLevel) [.slice Alevels levels.length clevels] (.sl levels)) := Hlevels; clear Hlevels
  have HFbinds := Lib.hid hf.snd.fst
  have HFcells := Lib.hid hf.snd.snd.fst
  have HFlevels := Lib.hid hf.snd.snd.snd.fst
  clear hf
  have C0 := Lib.hid (CellsAt.new w #[.int .i64 next, .slice Abinds binds.length cbinds, .slice Acells cells.length ccells, .slice Alevels levels.length clevels] 31)
  go_enter Try.func14, Try.ntmps14
  go_wp2_with fail
  refine (szBindS_dv _ _ left _ (HHbinds.out.on hba.out) HFbinds.out (by omega) (by omega)).mono ?_
  rintro e w1 ⟨⟨q1, rfl, qa1, qb1, Q1⟩, b1⟩
  have B1 := Lib.hid (below_trans hba.out b1)
  have C1 := Lib.hid (C0.out.below b1)
  have k1_cells := C1.out.2 2 _ rfl
  clear C0 b1
  by_cases zbinds : q1 < 0
  · go_wp2_with fail
    go_ret
    exact ⟨⟨_, rfl, by omega, by omega, fun hq => by omega⟩, B1.out⟩
  go_wp2_with fail
  refine (szCellS_dv _ _ q1 _ (HHcells.out.on B1.out) HFcells.out (by omega) (by omega)).mono ?_
  rintro e w2 ⟨⟨q2, rfl, qa2, qb2, Q2⟩, b2⟩
  have B2 := Lib.hid (below_trans B1.out b2)
  have C2 := Lib.hid (C1.out.below b2)
  have k2_levels := C2.out.2 3 _ rfl
  clear C1 b2 k1_cells
  by_cases zcells : q2 < 0
  · go_wp2_with fail
    go_ret
    exact ⟨⟨_, rfl, by omega, by omega, fun hq => by omega⟩, B2.out⟩
  go_wp2_with fail
  refine (szLevelS_dv _ _ q2 _ (HHlevels.out.on B2.out) HFlevels.out (by omega) (by omega)).mono ?_
  rintro e w3 ⟨⟨q3, rfl, qa3, qb3, Q3⟩, b3⟩
  have B3 := Lib.hid (below_trans B2.out b3)
  by_cases zlevels : q3 < 0
  · go_wp2_with fail
    go_ret
    exact ⟨⟨_, rfl, by omega, by omega, fun hq => by omega⟩, B3.out⟩
  go_wp2_with fail
  go_ret
  exact ⟨⟨_, rfl, by omega, by omega, fun _ => (.pair (.num _) (.pair (Q1.out (by omega)) (.pair (Q2.out (by omega)) (.pair (Q3.out (by omega)) .unit))))⟩, B3.out⟩

set_option maxHeartbeats 2000000 in
set_option maxRecDepth 8000 in
theorem eqLocals_dv (cs cs2 : List Value) (d d2 : DV) (w : World) (h : At w tyLocals cs d) (h2 : At w tyLocals cs2 d2) (hf : Fits 1048576 d) :
    Calls Try.prog 36 #[.agg cs.toArray, .agg cs2.toArray] w fun e w' => GotB e d d2 ∧ Below w.heap.size w w' := by
  obtain ⟨next, Abinds, cbinds, binds, Acells, ccells, cells, Alevels, clevels, levels, rfl, rfl, Hbinds, Hcells, Hlevels⟩ := Rd.invLocals h
  obtain ⟨next2, Abinds2, cbinds2, binds2, Acells2, ccells2, cells2, Alevels2, clevels2, levels2, rfl, rfl, Hbinds2, Hcells2, Hlevels2⟩ := Rd.invLocals h2
  have hba : Hid (Below w.heap.size w ((w.alloc (.cells #[.int .i64 next, .slice Abinds binds.length cbinds, .slice Acells cells.length ccells, .slice Alevels levels.length clevels] 46)).alloc (.cells #[.int .i64 next2, .slice Abinds2 binds2.length cbinds2, .slice Acells2 cells2.length ccells2, .slice Alevels2 levels2.length clevels2] 46))) := Joins.below_alloc2 w _ _
  have HHbinds : Hid (At w (.sl tyBind) [.slice Abinds binds.length cbinds] (.sl binds)) := Hbinds; clear Hbinds
  have HHbinds2 : Hid (At w (.sl tyBind) [.slice Abinds2 binds2.length cbinds2] (.sl binds2)) := Hbinds2; clear Hbinds2
  have HFbinds := Lib.hid hf.snd.fst
  have HHcells : Hid (At w (.sl tyCell) [.slice Acells cells.length ccells] (.sl cells)) := Hcells; clear Hcells
  have HHcells2 : Hid (At w (.sl tyCell) [.slice Acells2 cells2.length ccells2] (.sl cells2)) := Hcells2; clear Hcells2
  have HFcells := Lib.hid hf.snd.snd.fst
  have HHlevels : Hid (At w (.sl tyLevel) [.slice Alevels levels.length clevels] (.sl levels)) := Hlevels; clear Hlevels
  have HHlevels2 : Hid (At w (.sl tyLevel) [.slice Alevels2 levels2.length clevels2] (.sl levels2)) := Hlevels2; clear Hlevels2
  have HFlevels := Lib.hid hf.snd.snd.snd.fst
  clear hf
  have HV : Hid (∀ b : Bool, (b = true ↔ next = next2 ∧ DV.sl binds = DV.sl binds2 ∧ DV.sl cells = DV.sl cells2 ∧ DV.sl levels = DV.sl levels2) → EqB b (.pair (.num next) (.pair (.sl binds) (.pair (.sl cells) (.pair (.sl levels) .unit)))) (.pair (.num next2) (.pair (.sl binds2) (.pair (.sl cells2) (.pair (.sl levels2) .unit))))) := fun b hb => by
    unfold EqB; rw [hb]; simp only [DV.pair.injEq, DV.num.injEq, DV.bool.injEq, DV.str.injEq, and_true]
  have C0 := Lib.hid ((CellsAt.new w #[.int .i64 next, .slice Abinds binds.length cbinds, .slice Acells cells.length ccells, .slice Alevels levels.length clevels] 46).below (Joins.below_alloc1 _ (.cells #[.int .i64 next2, .slice Abinds2 binds2.length cbinds2, .slice Acells2 cells2.length ccells2, .slice Alevels2 levels2.length clevels2] 46)))
  have D0 := Lib.hid (CellsAt.new (w.alloc (.cells #[.int .i64 next, .slice Abinds binds.length cbinds, .slice Acells cells.length ccells, .slice Alevels levels.length clevels] 46)) #[.int .i64 next2, .slice Abinds2 binds2.length cbinds2, .slice Acells2 cells2.length ccells2, .slice Alevels2 levels2.length clevels2] 46)
  have hz1 : (w.alloc (.cells #[.int .i64 next, .slice Abinds binds.length cbinds, .slice Acells cells.length ccells, .slice Alevels levels.length clevels] 46)).heap.size = w.heap.size + 1 := by simp
  rw [hz1] at D0; clear hz1
  go_enter Try.func36, Try.ntmps36
  rcases eqForms next next2 with ⟨e1, e2, Enext⟩ | ⟨e1, e2, Enext⟩
  rotate_left
  · have hne := Enext.out
    go_wp2_with fail
    go_ret
    exact ⟨⟨false, rfl, HV.out false (by simp [hne])⟩, hba.out⟩
  go_wp2_with fail
  refine (eqBindS_dv _ _ _ _ _ (HHbinds.out.on hba.out) (HHbinds2.out.on hba.out) HFbinds.out).mono ?_
  rintro e w1 ⟨⟨r1, rfl, HE1⟩, b1⟩
  have B1 := Lib.hid (below_trans hba.out b1)
  have C1 := Lib.hid (C0.out.below b1)
  have D1 := Lib.hid (D0.out.below b1)
  have k1_cells := C1.out.2 2 _ rfl
  have m1_cells := D1.out.2 2 _ rfl
  clear C0 D0 b1
  cases r1
  · have hne : ¬ DV.sl binds = .sl binds2 := fun h => by have := HE1.2 h; cases this
    go_wp2_with fail
    go_ret
    exact ⟨⟨false, rfl, HV.out false (by simp [hne])⟩, B1.out⟩
  have Ebinds := Lib.hid (HE1.1 rfl); clear HE1
  go_wp2_with fail
  refine (eqCellS_dv _ _ _ _ _ (HHcells.out.on B1.out) (HHcells2.out.on B1.out) HFcells.out).mono ?_
  rintro e w2 ⟨⟨r2, rfl, HE2⟩, b2⟩
  have B2 := Lib.hid (below_trans B1.out b2)
  have C2 := Lib.hid (C1.out.below b2)
  have D2 := Lib.hid (D1.out.below b2)
  have k2_levels := C2.out.2 3 _ rfl
  have m2_levels := D2.out.2 3 _ rfl
  clear C1 D1 b2 k1_cells m1_cells
  cases r2
  · have hne : ¬ DV.sl cells = .sl cells2 := fun h => by have := HE2.2 h; cases this
    go_wp2_with fail
    go_ret
    exact ⟨⟨false, rfl, HV.out false (by simp [hne])⟩, B2.out⟩
  have Ecells := Lib.hid (HE2.1 rfl); clear HE2
  go_wp2_with fail
  refine (eqLevelS_dv _ _ _ _ _ (HHlevels.out.on B2.out) (HHlevels2.out.on B2.out) HFlevels.out).mono ?_
  rintro e w3 ⟨⟨r3, rfl, HE3⟩, b3⟩
  have B3 := Lib.hid (below_trans B2.out b3)
  have C3 := Lib.hid (C2.out.below b3)
  have D3 := Lib.hid (D2.out.below b3)
  clear C2 D2 b3 k2_levels m2_levels
  cases r3
  · have hne : ¬ DV.sl levels = .sl levels2 := fun h => by have := HE3.2 h; cases this
    go_wp2_with fail
    go_ret
    exact ⟨⟨false, rfl, HV.out false (by simp [hne])⟩, B3.out⟩
  have Elevels := Lib.hid (HE3.1 rfl); clear HE3
  go_wp2_with fail
  go_ret
  exact ⟨⟨true, rfl, HV.out true (by simp [Enext.out, Ebinds.out, Ecells.out, Elevels.out])⟩, B3.out⟩

set_option maxHeartbeats 4000000 in
set_option maxRecDepth 8000 in
theorem toLocals_dv (cs : List Value) (d : DV) (w : World) (h : At w tyLocals cs d) (hf : Fits 1048576 d) :
    Calls Try.prog 22 #[.agg cs.toArray] w fun e w' => ∃ cs' : List Value, e = .returned (.agg cs'.toArray) ∧ Rd w' w.heap.size w'.heap.size tyLocals cs' d ∧ Below w.heap.size w w' := by
  obtain ⟨next, Abinds, cbinds, binds, Acells, ccells, cells, Alevels, clevels, levels, rfl, rfl, Hbinds, Hcells, Hlevels⟩ := Rd.invLocals h
  have HHbinds : Hid (At w (.sl tyBind) [.slice Abinds binds.length cbinds] (.sl binds)) := Hbinds; clear Hbinds
  have HFbinds := Lib.hid hf.snd.fst
  have HHcells : Hid (At w (.sl tyCell) [.slice Acells cells.length ccells] (.sl cells)) := Hcells; clear Hcells
  have HFcells := Lib.hid hf.snd.snd.fst
  have HHlevels : Hid (At w (.sl tyLevel) [.slice Alevels levels.length clevels] (.sl levels)) := Hlevels; clear Hlevels
  have HFlevels := Lib.hid hf.snd.snd.snd.fst
  clear hf
  have M0 : Hid (Mid w (((w.alloc (.cells #[.int .i64 next, .slice Abinds binds.length cbinds, .slice Acells cells.length ccells, .slice Alevels levels.length clevels] 31)).alloc (.cells #[.int .i64 0, .slice none 0 0, .slice none 0 0, .slice none 0 0] 46)).alloc (.cells #[.int .i64 next, .slice none 0 0, .slice none 0 0, .slice none 0 0] 46)) [.int .i64 next, .slice Abinds binds.length cbinds, .slice Acells cells.length ccells, .slice Alevels levels.length clevels] #[.int .i64 next, .slice none 0 0, .slice none 0 0, .slice none 0 0] #[.int .i64 0, .slice none 0 0, .slice none 0 0, .slice none 0 0] 46) := Mid.start w #[.int .i64 next, .slice Abinds binds.length cbinds, .slice Acells cells.length ccells, .slice Alevels levels.length clevels] #[.int .i64 next, .slice none 0 0, .slice none 0 0, .slice none 0 0] #[.int .i64 0, .slice none 0 0, .slice none 0 0, .slice none 0 0] 31 46
  go_enter Try.func22, Try.ntmps22
  go_wp2_with fail
  refine (toBindS_dv _ _ _ (HHbinds.out.on M0.out.below) HFbinds.out).mono ?_
  rintro e w1 ⟨v1, rfl, R1, b1⟩
  have M1a := Lib.hid (M0.out.step b1)
  have N1 := Lib.hid (R1.got M0.out.lt)
  clear R1 b1 M0
  obtain ⟨Abinds', cbinds', rfl⟩ := N1.out.slv
  have Nbinds := Lib.hid N1.out; clear N1
  have k1_2 := M1a.out.pcell 2 (.slice Acells cells.length ccells) rfl
  obtain ⟨d1_1, f1_1⟩ := M1a.out.ocell 1 (.slice none 0 0) rfl
  have M1 : Hid (Mid w (w1.setCell ⟨w.heap.size + 1 + 1, 1, none⟩ (.slice Abinds' binds.length cbinds')) [.int .i64 next, .slice Abinds binds.length cbinds, .slice Acells cells.length ccells, .slice Alevels levels.length clevels] #[.int .i64 next, .slice Abinds' binds.length cbinds', .slice none 0 0, .slice none 0 0] #[.int .i64 0, .slice none 0 0, .slice none 0 0, .slice none 0 0] 46) := M1a.out.row 1 [.slice Abinds' binds.length cbinds']
  have Nbinds : Hid (Rd (w1.setCell ⟨w.heap.size + 1 + 1, 1, none⟩ (.slice Abinds' binds.length cbinds')) (w.heap.size + 1 + 1 + 1) ((w1.setCell ⟨w.heap.size + 1 + 1, 1, none⟩ (.slice Abinds' binds.length cbinds'))).heap.size (.sl tyBind) [.slice Abinds' binds.length cbinds'] (.sl binds)) := Nbinds.out.row (w.heap.size + 1 + 1) 1 [.slice Abinds' binds.length cbinds'] (by omega)
  clear M1a
  go_wp2_with fail
  refine (toCellS_dv _ _ _ (HHcells.out.on M1.out.below) HFcells.out).mono ?_
  rintro e w2 ⟨v2, rfl, R2, b2⟩
  have M2a := Lib.hid (M1.out.step b2)
  have N2 := Lib.hid (R2.got M1.out.lt)
  have Nbinds := Lib.hid (Nbinds.out.step b2)
  clear R2 b2 M1 k1_2 d1_1 f1_1
  obtain ⟨Acells', ccells', rfl⟩ := N2.out.slv
  have Ncells := Lib.hid N2.out; clear N2
  have k2_3 := M2a.out.pcell 3 (.slice Alevels levels.length clevels) rfl
  obtain ⟨d2_2, f2_2⟩ := M2a.out.ocell 2 (.slice none 0 0) rfl
  have M2 : Hid (Mid w (w2.setCell ⟨w.heap.size + 1 + 1, 2, none⟩ (.slice Acells' cells.length ccells')) [.int .i64 next, .slice Abinds binds.length cbinds, .slice Acells cells.length ccells, .slice Alevels levels.length clevels] #[.int .i64 next, .slice Abinds' binds.length cbinds', .slice Acells' cells.length ccells', .slice none 0 0] #[.int .i64 0, .slice none 0 0, .slice none 0 0, .slice none 0 0] 46) := M2a.out.row 2 [.slice Acells' cells.length ccells']
  have Nbinds : Hid (Rd (w2.setCell ⟨w.heap.size + 1 + 1, 2, none⟩ (.slice Acells' cells.length ccells')) (w.heap.size + 1 + 1 + 1) ((w2.setCell ⟨w.heap.size + 1 + 1, 2, none⟩ (.slice Acells' cells.length ccells'))).heap.size (.sl tyBind) [.slice Abinds' binds.length cbinds'] (.sl binds)) := Nbinds.out.row (w.heap.size + 1 + 1) 2 [.slice Acells' cells.length ccells'] (by omega)
  have Ncells : Hid (Rd (w2.setCell ⟨w.heap.size + 1 + 1, 2, none⟩ (.slice Acells' cells.length ccells')) (w.heap.size + 1 + 1 + 1) ((w2.setCell ⟨w.heap.size + 1 + 1, 2, none⟩ (.slice Acells' cells.length ccells'))).heap.size (.sl tyCell) [.slice Acells' cells.length ccells'] (.sl cells)) := Ncells.out.row (w.heap.size + 1 + 1) 2 [.slice Acells' cells.length ccells'] (by omega)
  clear M2a
  go_wp2_with fail
  refine (toLevelS_dv _ _ _ (HHlevels.out.on M2.out.below) HFlevels.out).mono ?_
  rintro e w3 ⟨v3, rfl, R3, b3⟩
  have M3a := Lib.hid (M2.out.step b3)
  have N3 := Lib.hid (R3.got M2.out.lt)
  have Nbinds := Lib.hid (Nbinds.out.step b3)
  have Ncells := Lib.hid (Ncells.out.step b3)
  clear R3 b3 M2 k2_3 d2_2 f2_2
  obtain ⟨Alevels', clevels', rfl⟩ := N3.out.slv
  have Nlevels := Lib.hid N3.out; clear N3
  obtain ⟨d3_0, f3_0⟩ := M3a.out.ocell 0 (.int .i64 next) rfl
  obtain ⟨d3_1, f3_1⟩ := M3a.out.ocell 1 (.slice Abinds' binds.length cbinds') rfl
  obtain ⟨d3_2, f3_2⟩ := M3a.out.ocell 2 (.slice Acells' cells.length ccells') rfl
  obtain ⟨d3_3, f3_3⟩ := M3a.out.ocell 3 (.slice none 0 0) rfl
  obtain ⟨r0, g0⟩ := M3a.out.zcell 0 (.int .i64 0) rfl
  obtain ⟨r1, g1⟩ := M3a.out.zcell 1 (.slice none 0 0) rfl
  obtain ⟨r2, g2⟩ := M3a.out.zcell 2 (.slice none 0 0) rfl
  obtain ⟨r3, g3⟩ := M3a.out.zcell 3 (.slice none 0 0) rfl
  have M3 : Hid (Mid w (w3.setCell ⟨w.heap.size + 1 + 1, 3, none⟩ (.slice Alevels' levels.length clevels')) [.int .i64 next, .slice Abinds binds.length cbinds, .slice Acells cells.length ccells, .slice Alevels levels.length clevels] #[.int .i64 next, .slice Abinds' binds.length cbinds', .slice Acells' cells.length ccells', .slice Alevels' levels.length clevels'] #[.int .i64 0, .slice none 0 0, .slice none 0 0, .slice none 0 0] 46) := M3a.out.row 3 [.slice Alevels' levels.length clevels']
  have Nbinds : Hid (Rd (w3.setCell ⟨w.heap.size + 1 + 1, 3, none⟩ (.slice Alevels' levels.length clevels')) (w.heap.size + 1 + 1 + 1) ((w3.setCell ⟨w.heap.size + 1 + 1, 3, none⟩ (.slice Alevels' levels.length clevels'))).heap.size (.sl tyBind) [.slice Abinds' binds.length cbinds'] (.sl binds)) := Nbinds.out.row (w.heap.size + 1 + 1) 3 [.slice Alevels' levels.length clevels'] (by omega)
  have Ncells : Hid (Rd (w3.setCell ⟨w.heap.size + 1 + 1, 3, none⟩ (.slice Alevels' levels.length clevels')) (w.heap.size + 1 + 1 + 1) ((w3.setCell ⟨w.heap.size + 1 + 1, 3, none⟩ (.slice Alevels' levels.length clevels'))).heap.size (.sl tyCell) [.slice Acells' cells.length ccells'] (.sl cells)) := Ncells.out.row (w.heap.size + 1 + 1) 3 [.slice Alevels' levels.length clevels'] (by omega)
  have Nlevels : Hid (Rd (w3.setCell ⟨w.heap.size + 1 + 1, 3, none⟩ (.slice Alevels' levels.length clevels')) (w.heap.size + 1 + 1 + 1) ((w3.setCell ⟨w.heap.size + 1 + 1, 3, none⟩ (.slice Alevels' levels.length clevels'))).heap.size (.sl tyLevel) [.slice Alevels' levels.length clevels'] (.sl levels)) := Nlevels.out.row (w.heap.size + 1 + 1) 3 [.slice Alevels' levels.length clevels'] (by omega)
  clear M3a
  go_wp2_with fail
  refine bodyPost_ret (results_cell_row rfl _ _ (w.heap.size + 1) 46 #[.int .i64 next, .slice Abinds' binds.length cbinds', .slice Acells' cells.length ccells', .slice Alevels' levels.length clevels'] (0, 0) _ rfl (M3.out.fin [.int .i64 next, .slice Abinds' binds.length cbinds', .slice Acells' cells.length ccells', .slice Alevels' levels.length clevels'] rfl) Try.underlying46 rfl (by kernel_rfl)) rfl ⟨[.int .i64 next, .slice Abinds' binds.length cbinds', .slice Acells' cells.length ccells', .slice Alevels' levels.length clevels'], rfl, ?_, M3.out.finBelow [.int .i64 next, .slice Abinds' binds.length cbinds', .slice Acells' cells.length ccells', .slice Alevels' levels.length clevels']⟩
  exact Rd.mkLocals ((Nbinds.out.row (w.heap.size + 1) 0 [.int .i64 next, .slice Abinds' binds.length cbinds', .slice Acells' cells.length ccells', .slice Alevels' levels.length clevels'] (by omega)).imp (fun _ _ _ => rfl) (by omega) (Nat.le_refl _)) ((Ncells.out.row (w.heap.size + 1) 0 [.int .i64 next, .slice Abinds' binds.length cbinds', .slice Acells' cells.length ccells', .slice Alevels' levels.length clevels'] (by omega)).imp (fun _ _ _ => rfl) (by omega) (Nat.le_refl _)) ((Nlevels.out.row (w.heap.size + 1) 0 [.int .i64 next, .slice Abinds' binds.length cbinds', .slice Acells' cells.length ccells', .slice Alevels' levels.length clevels'] (by omega)).imp (fun _ _ _ => rfl) (by omega) (Nat.le_refl _))

set_option maxHeartbeats 2000000 in
set_option maxRecDepth 8000 in
theorem sameLocals_dv (cs cs2 : List Value) (d d2 : DV) (w : World) (h : At w tyLocals cs d) (h2 : At w tyLocals cs2 d2) (hf : Fits 1048576 d) :
    Calls Try.prog 30 #[.agg cs.toArray, .agg cs2.toArray] w fun e w' => GotB e d d2 ∧ Below w.heap.size w w' := by
  obtain ⟨next, Abinds, cbinds, binds, Acells, ccells, cells, Alevels, clevels, levels, rfl, rfl, Hbinds, Hcells, Hlevels⟩ := Rd.invLocals h
  obtain ⟨next2, Abinds2, cbinds2, binds2, Acells2, ccells2, cells2, Alevels2, clevels2, levels2, rfl, rfl, Hbinds2, Hcells2, Hlevels2⟩ := Rd.invLocals h2
  have hba : Hid (Below w.heap.size w ((w.alloc (.cells #[.int .i64 next, .slice Abinds binds.length cbinds, .slice Acells cells.length ccells, .slice Alevels levels.length clevels] 46)).alloc (.cells #[.int .i64 next2, .slice Abinds2 binds2.length cbinds2, .slice Acells2 cells2.length ccells2, .slice Alevels2 levels2.length clevels2] 46))) := Joins.below_alloc2 w _ _
  have HHbinds : Hid (At w (.sl tyBind) [.slice Abinds binds.length cbinds] (.sl binds)) := Hbinds; clear Hbinds
  have HHbinds2 : Hid (At w (.sl tyBind) [.slice Abinds2 binds2.length cbinds2] (.sl binds2)) := Hbinds2; clear Hbinds2
  have HFbinds := Lib.hid hf.snd.fst
  have HHcells : Hid (At w (.sl tyCell) [.slice Acells cells.length ccells] (.sl cells)) := Hcells; clear Hcells
  have HHcells2 : Hid (At w (.sl tyCell) [.slice Acells2 cells2.length ccells2] (.sl cells2)) := Hcells2; clear Hcells2
  have HFcells := Lib.hid hf.snd.snd.fst
  have HHlevels : Hid (At w (.sl tyLevel) [.slice Alevels levels.length clevels] (.sl levels)) := Hlevels; clear Hlevels
  have HHlevels2 : Hid (At w (.sl tyLevel) [.slice Alevels2 levels2.length clevels2] (.sl levels2)) := Hlevels2; clear Hlevels2
  have HFlevels := Lib.hid hf.snd.snd.snd.fst
  clear hf
  have HV : Hid (∀ b : Bool, (b = true ↔ next = next2 ∧ DV.sl binds = DV.sl binds2 ∧ DV.sl cells = DV.sl cells2 ∧ DV.sl levels = DV.sl levels2) → EqB b (.pair (.num next) (.pair (.sl binds) (.pair (.sl cells) (.pair (.sl levels) .unit)))) (.pair (.num next2) (.pair (.sl binds2) (.pair (.sl cells2) (.pair (.sl levels2) .unit))))) := fun b hb => by
    unfold EqB; rw [hb]; simp only [DV.pair.injEq, DV.num.injEq, DV.bool.injEq, DV.str.injEq, and_true]
  have C0 := Lib.hid ((CellsAt.new w #[.int .i64 next, .slice Abinds binds.length cbinds, .slice Acells cells.length ccells, .slice Alevels levels.length clevels] 46).below (Joins.below_alloc1 _ (.cells #[.int .i64 next2, .slice Abinds2 binds2.length cbinds2, .slice Acells2 cells2.length ccells2, .slice Alevels2 levels2.length clevels2] 46)))
  have D0 := Lib.hid (CellsAt.new (w.alloc (.cells #[.int .i64 next, .slice Abinds binds.length cbinds, .slice Acells cells.length ccells, .slice Alevels levels.length clevels] 46)) #[.int .i64 next2, .slice Abinds2 binds2.length cbinds2, .slice Acells2 cells2.length ccells2, .slice Alevels2 levels2.length clevels2] 46)
  have hz1 : (w.alloc (.cells #[.int .i64 next, .slice Abinds binds.length cbinds, .slice Acells cells.length ccells, .slice Alevels levels.length clevels] 46)).heap.size = w.heap.size + 1 := by simp
  rw [hz1] at D0; clear hz1
  go_enter Try.func30, Try.ntmps30
  rcases eqForms next next2 with ⟨e1, e2, Enext⟩ | ⟨e1, e2, Enext⟩
  rotate_left
  · have hne := Enext.out
    go_wp2_with fail
    go_ret
    exact ⟨⟨false, rfl, HV.out false (by simp [hne])⟩, hba.out⟩
  go_wp2_with fail
  refine (EqualBind_dv _ _ _ _ _ (HHbinds.out.on hba.out) (HHbinds2.out.on hba.out) HFbinds.out).mono ?_
  rintro e w1 ⟨⟨r1, rfl, HE1⟩, b1⟩
  have B1 := Lib.hid (below_trans hba.out b1)
  have C1 := Lib.hid (C0.out.below b1)
  have D1 := Lib.hid (D0.out.below b1)
  have k1_cells := C1.out.2 2 _ rfl
  have m1_cells := D1.out.2 2 _ rfl
  clear C0 D0 b1
  cases r1
  · have hne : ¬ DV.sl binds = .sl binds2 := fun h => by have := HE1.2 h; cases this
    go_wp2_with fail
    go_ret
    exact ⟨⟨false, rfl, HV.out false (by simp [hne])⟩, B1.out⟩
  have Ebinds := Lib.hid (HE1.1 rfl); clear HE1
  go_wp2_with fail
  refine (EqualCell_dv _ _ _ _ _ (HHcells.out.on B1.out) (HHcells2.out.on B1.out) HFcells.out).mono ?_
  rintro e w2 ⟨⟨r2, rfl, HE2⟩, b2⟩
  have B2 := Lib.hid (below_trans B1.out b2)
  have C2 := Lib.hid (C1.out.below b2)
  have D2 := Lib.hid (D1.out.below b2)
  have k2_levels := C2.out.2 3 _ rfl
  have m2_levels := D2.out.2 3 _ rfl
  clear C1 D1 b2 k1_cells m1_cells
  cases r2
  · have hne : ¬ DV.sl cells = .sl cells2 := fun h => by have := HE2.2 h; cases this
    go_wp2_with fail
    go_ret
    exact ⟨⟨false, rfl, HV.out false (by simp [hne])⟩, B2.out⟩
  have Ecells := Lib.hid (HE2.1 rfl); clear HE2
  go_wp2_with fail
  refine (EqualLevel_dv _ _ _ _ _ (HHlevels.out.on B2.out) (HHlevels2.out.on B2.out) HFlevels.out).mono ?_
  rintro e w3 ⟨⟨r3, rfl, HE3⟩, b3⟩
  have B3 := Lib.hid (below_trans B2.out b3)
  have C3 := Lib.hid (C2.out.below b3)
  have D3 := Lib.hid (D2.out.below b3)
  clear C2 D2 b3 k2_levels m2_levels
  cases r3
  · have hne : ¬ DV.sl levels = .sl levels2 := fun h => by have := HE3.2 h; cases this
    go_wp2_with fail
    go_ret
    exact ⟨⟨false, rfl, HV.out false (by simp [hne])⟩, B3.out⟩
  have Elevels := Lib.hid (HE3.1 rfl); clear HE3
  go_wp2_with fail
  go_ret
  exact ⟨⟨true, rfl, HV.out true (by simp [Enext.out, Ebinds.out, Ecells.out, Elevels.out])⟩, B3.out⟩

end Go.Proofs.Ytllamjgloilioaa
