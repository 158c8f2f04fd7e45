/- Locals: spec's equality. (printed by gen_dv.py) -/
import Derived.Test.YtllamjgloilioaaDvLocals
namespace Go.Proofs.Ytllamjgloilioaa
open Go.RowKit Go.ChangeShapes Go.WideShapes Go.ChangeAt Go.Deep
set_option linter.unusedVariables false
set_option linter.unusedSimpArgs false

set_option maxHeartbeats 4000000 in
set_option maxRecDepth 8000 in
theorem l09Same_dv (cs cs2 : List Value) (d d2 : DV) (w : World) (h : At w tyLocals cs d) (h2 : At w tyLocals cs2 d2) (hf : Fits 1048576 d) :
    Calls Try.prog 46 #[.agg cs.toArray, .agg cs2.toArray] w fun e w' => GotB e d d2 ∧ Below w.heap.size w w' := by
  obtain ⟨next, Abinds, cbinds, binds, Acells, ccells, cells, Alevels, clevels, levels, rfl, rfl, Hbinds, Hcells, Hlevels⟩ := Rd.invLocals h
  obtain ⟨next2, Abinds2, cbinds2, binds2, Acells2, ccells2, cells2, Alevels2, clevels2, levels2, rfl, rfl, Hbinds2, Hcells2, Hlevels2⟩ := Rd.invLocals h2
  have hba : Hid (Below w.heap.size w ((w.alloc (.cells #[.int .i64 next, .slice Abinds binds.length cbinds, .slice Acells cells.length ccells, .slice Alevels levels.length clevels] 46)).alloc (.cells #[.int .i64 next2, .slice Abinds2 binds2.length cbinds2, .slice Acells2 cells2.length ccells2, .slice Alevels2 levels2.length clevels2] 46))) := Joins.below_alloc2 w _ _
  have HHbinds : Hid (At w (.sl tyBind) [.slice Abinds binds.length cbinds] (.sl binds)) := Hbinds; clear Hbinds
  have HHbinds2 : Hid (At w (.sl tyBind) [.slice Abinds2 binds2.length cbinds2] (.sl binds2)) := Hbinds2; clear Hbinds2
  have HFbinds := Lib.hid hf.snd.fst
  have hlbinds := HFbinds.out.len
  have HHcells : Hid (At w (.sl tyCell) [.slice Acells cells.length ccells] (.sl cells)) := Hcells; clear Hcells
  have HHcells2 : Hid (At w (.sl tyCell) [.slice Acells2 cells2.length ccells2] (.sl cells2)) := Hcells2; clear Hcells2
  have HFcells := Lib.hid hf.snd.snd.fst
  have hlcells := HFcells.out.len
  have HHlevels : Hid (At w (.sl tyLevel) [.slice Alevels levels.length clevels] (.sl levels)) := Hlevels; clear Hlevels
  have HHlevels2 : Hid (At w (.sl tyLevel) [.slice Alevels2 levels2.length clevels2] (.sl levels2)) := Hlevels2; clear Hlevels2
  have HFlevels := Lib.hid hf.snd.snd.snd.fst
  have hllevels := HFlevels.out.len
  clear hf
  have HV : Hid (∀ b : Bool, (b = true ↔ next = next2 ∧ DV.sl binds = DV.sl binds2 ∧ DV.sl cells = DV.sl cells2 ∧ DV.sl levels = DV.sl levels2) → EqB b (.pair (.num next) (.pair (.sl binds) (.pair (.sl cells) (.pair (.sl levels) .unit)))) (.pair (.num next2) (.pair (.sl binds2) (.pair (.sl cells2) (.pair (.sl levels2) .unit))))) := fun b hb => by
    unfold EqB; rw [hb]; simp only [DV.pair.injEq, DV.num.injEq, DV.bool.injEq, DV.str.injEq, and_true]
  have C0 := Lib.hid ((CellsAt.new w #[.int .i64 next, .slice Abinds binds.length cbinds, .slice Acells cells.length ccells, .slice Alevels levels.length clevels] 46).below (Joins.below_alloc1 _ (.cells #[.int .i64 next2, .slice Abinds2 binds2.length cbinds2, .slice Acells2 cells2.length ccells2, .slice Alevels2 levels2.length clevels2] 46)))
  have D0 := Lib.hid (CellsAt.new (w.alloc (.cells #[.int .i64 next, .slice Abinds binds.length cbinds, .slice Acells cells.length ccells, .slice Alevels levels.length clevels] 46)) #[.int .i64 next2, .slice Abinds2 binds2.length cbinds2, .slice Acells2 cells2.length ccells2, .slice Alevels2 levels2.length clevels2] 46)
  have hz1 : (w.alloc (.cells #[.int .i64 next, .slice Abinds binds.length cbinds, .slice Acells cells.length ccells, .slice Alevels levels.length clevels] 46)).heap.size = w.heap.size + 1 := by simp
  rw [hz1] at D0; clear hz1
  go_enter Try.func46, Try.ntmps46
  rcases eqForms next next2 with ⟨e1, e2, Enext⟩ | ⟨e1, e2, Enext⟩
  rotate_left
  · have hne := Enext.out
    go_wp2_with fail
    go_ret
    exact ⟨⟨false, rfl, HV.out false (by simp [hne])⟩, hba.out⟩
  go_wp2_with fail
  refine (l09SameBinds_dv _ _ _ _ _ (HHbinds.out.on hba.out) (HHbinds2.out.on hba.out) HFbinds.out).mono ?_
  rintro e w1 ⟨⟨r1, rfl, HE1⟩, b1⟩
  have B1 := Lib.hid (below_trans hba.out b1)
  have C1 := Lib.hid (C0.out.below b1)
  have D1 := Lib.hid (D0.out.below b1)
  have k1_cells := C1.out.2 2 _ rfl
  have m1_cells := D1.out.2 2 _ rfl
  have k1_levels := C1.out.2 3 _ rfl
  have m1_levels := D1.out.2 3 _ rfl
  clear C0 D0 b1
  cases r1
  · have hne : ¬ DV.sl binds = .sl binds2 := fun h => by have := HE1.2 h; cases this
    go_wp2_with fail
    go_ret
    exact ⟨⟨false, rfl, HV.out false (by simp [hne])⟩, B1.out⟩
  have Ebinds := Lib.hid (HE1.1 rfl); clear HE1
  rcases eqForms (cells.length : Int) (cells2.length : Int) with ⟨l1cells, l2cells, l3⟩ | ⟨l1cells, l2cells, l3⟩
  rotate_left
  · have hne : ¬ DV.sl cells = .sl cells2 := fun h => l3.out (by rw [sl_len h])
    have e4 : (cells.length == cells2.length) = false := by have := l3.out; simp; omega
    have e5 : (cells.length != cells2.length) = true := by have := l3.out; simp; omega
    go_wp2_with fail
    go_ret
    exact ⟨⟨false, rfl, HV.out false (by simp [hne])⟩, B1.out⟩
  have hlencells : cells.length = cells2.length := by have := l3.out; omega
  have m4cells : (cells.length == cells2.length) = true := by simp [hlencells]
  have m5cells : (cells.length != cells2.length) = false := by simp [hlencells]
  have HLcells := Lib.hid hlencells; clear hlencells l3
  rcases eqForms (levels.length : Int) (levels2.length : Int) with ⟨l1levels, l2levels, l3⟩ | ⟨l1levels, l2levels, l3⟩
  rotate_left
  · have hne : ¬ DV.sl levels = .sl levels2 := fun h => l3.out (by rw [sl_len h])
    have e4 : (levels.length == levels2.length) = false := by have := l3.out; simp; omega
    have e5 : (levels.length != levels2.length) = true := by have := l3.out; simp; omega
    go_wp2_with fail
    go_ret
    exact ⟨⟨false, rfl, HV.out false (by simp [hne])⟩, B1.out⟩
  have hlenlevels : levels.length = levels2.length := by have := l3.out; omega
  have m4levels : (levels.length == levels2.length) = true := by simp [hlenlevels]
  have m5levels : (levels.length != levels2.length) = false := by simp [hlenlevels]
  have HLlevels := Lib.hid hlenlevels; clear hlenlevels l3
  go_wp2_with fail
  clear k1_cells m1_cells k1_levels m1_levels
  go_loopw [5] (fun i wr => ∃ k : Nat, k ≤ cells.length ∧ i = .int .i64 k ∧ Hid (DV.sl cells = .sl cells2 ↔ DV.sl (cells.drop k) = .sl (cells2.drop k)) ∧ Below w1.heap.size w1 wr) (fun i _ => cells.length - (intOf i).toNat)
  case atStart => exact ⟨0, Nat.zero_le _, rfl, by show _ ↔ _; rw [List.drop_zero, List.drop_zero], below_refl _⟩
  case round =>
    obtain ⟨k, hk, rfl, HI, hbel⟩ := hrel
    have Ccells := Lib.hid (C1.out.below hbel)
    have Dcells := Lib.hid (D1.out.below hbel)
    have Bcells := Lib.hid (below_trans B1.out hbel)
    have kA := Ccells.out.2 2 _ rfl
    have kB := Dcells.out.2 2 _ rfl
    by_cases hlt : k < cells.length
    · have hlt2 : k < cells2.length := by rw [← HLcells.out]; exact hlt
      have HB : Hid (Below w.heap.size w wr.drew) := Bcells.out.drew
      have HD := Lib.hid (List.drop_eq_getElem_cons hlt)
      have HD2 := Lib.hid (List.drop_eq_getElem_cons hlt2)
      have i0 : (0 : Int) ≤ k := by omega
      have i1 : (k : Int) < cells.length := by omega
      have i2 : (k : Int) < cells2.length := by omega
      obtain ⟨ad, idq, Atree_nodesq, ctree_nodesq, tree_nodesq, dtreeq, rfl, hbl, hxd, hxt, a0, a1⟩ := (HHcells.out.on Bcells.out).getfCell hlt
      obtain ⟨ad2, idr, Atree_nodesr, ctree_nodesr, tree_nodesr, dtreer, rfl, hbl2, hyd, hyt, b0, b1⟩ := (HHcells2.out.on Bcells.out).getfCell hlt2
      have HX := HFcells.out.mem _ (List.getElem_mem hlt)
      rw [hxd] at HX HD
      rw [hyd] at HD2
      have HX2 := Lib.hid HX.snd.fst; clear HX hxd hyd
      have HA3 := Lib.hid (hxt.on ((below_refl wr).drew)); clear hxt
      have HA4 := Lib.hid (hyt.on ((below_refl wr).drew)); clear hyt
      rcases eqForms idq idr with ⟨e1, e2, Eid⟩ | ⟨e1, e2, Eid⟩
      rotate_left
      · have hq : ¬ DV.sl cells = .sl cells2 := fun h => by
          rw [HI.out, HD.out, HD2.out, sl_cons] at h
          have h := h.1
          injection h with h _
          injection h with h
          exact Eid.out h
        go_wp2_with fail
        go_quiet (fail)
        go_wp2_with fail
        go_ret
        exact ⟨⟨false, rfl, HV.out false (by simp [hq])⟩, below_trans Bcells.out (below_drewN _ _)⟩
      go_wp2_with fail
      have kA' : World.cell? { heap := wr.heap, tape := wr.tape, drawn := wr.drawn + 1, os := wr.os, output := wr.output } ⟨w.heap.size, 2, none⟩ = some (.slice (some ad) cells.length ccells) := kA
      have kB' : World.cell? { heap := wr.heap, tape := wr.tape, drawn := wr.drawn + 1, os := wr.os, output := wr.output } ⟨w.heap.size + 1, 2, none⟩ = some (.slice (some ad2) cells2.length ccells2) := kB
      have a0' : World.cell? { heap := wr.heap, tape := wr.tape, drawn := wr.drawn + 1, os := wr.os, output := wr.output } (ad.add (k * 2)) = some (.int .i64 idq) := a0
      have b0' : World.cell? { heap := wr.heap, tape := wr.tape, drawn := wr.drawn + 1, os := wr.os, output := wr.output } (ad2.add (k * 2)) = some (.int .i64 idr) := b0
      have a1' : World.cell? { heap := wr.heap, tape := wr.tape, drawn := wr.drawn + 1, os := wr.os, output := wr.output } ⟨(ad.add (k * 2)).block, (ad.add (k * 2)).off + 1, none⟩ = some (.slice Atree_nodesq tree_nodesq.length ctree_nodesq) := a1
      have b1' : World.cell? { heap := wr.heap, tape := wr.tape, drawn := wr.drawn + 1, os := wr.os, output := wr.output } ⟨(ad2.add (k * 2)).block, (ad2.add (k * 2)).off + 1, none⟩ = some (.slice Atree_nodesr tree_nodesr.length ctree_nodesr) := b1
      go_still_tail 26, (by kernel_rfl)
      change wpList _ _ _ _ _ wr.drew
      have hbd : Below w1.heap.size w1 wr.drew := hbel.drew
      generalize wr.drew = w5 at *
      clear kA kB kA' kB' a0 a1 b0 b1 a0' a1' b0' b1'
      go_wp2_with fail
      refine (sSameTree_dv _ _ _ _ _ HA3.out HA4.out HX2.out).mono ?_
      rintro e w6 ⟨⟨r, rfl, HE⟩, b6⟩
      have HB6 := Lib.hid (below_trans HB.out b6)
      have HB7 := Lib.hid (below_trans hbd b6)
      have HEE := Lib.hid HE; clear HE b6 hbd
      cases r
      · have hq : ¬ DV.sl cells = .sl cells2 := fun h => by
          rw [HI.out, HD.out, HD2.out, sl_cons] at h
          have h := h.1
          injection h with _ h
          injection h with h _
          have := HEE.out.2 h
          cases this
        go_wp2_with fail
        go_ret
        exact ⟨⟨false, rfl, HV.out false (by simp [hq])⟩, HB6.out⟩
      · go_wp2_with fail
        refine ⟨⟨k + 1, by omega, by go_num, ?_, HB7.out⟩, by simp [intOf]; omega⟩
        show _ ↔ _
        rw [HI.out, HD.out, HD2.out, sl_cons]
        exact ⟨fun h => h.2, fun h => ⟨by rw [Eid.out, HEE.out.1 rfl], h⟩⟩
    · obtain rfl : k = cells.length := by omega
      have Ecells : Hid (DV.sl cells = .sl cells2) := by
        show _ = _
        rw [HI.out, List.drop_eq_nil_of_le (by omega), List.drop_eq_nil_of_le (by rw [← HLcells.out]; omega)]
      clear HI
      obtain ⟨wcells, rfl⟩ : ∃ wcells : World, wcells = wr := ⟨_, rfl⟩
      clear hbel
      go_wp2_with fail
      clear kA kB
      go_loopw [6] (fun i wr => ∃ k : Nat, k ≤ levels.length ∧ i = .int .i64 k ∧ Hid (DV.sl levels = .sl levels2 ↔ DV.sl (levels.drop k) = .sl (levels2.drop k)) ∧ Below wcells.heap.size wcells wr) (fun i _ => levels.length - (intOf i).toNat)
      case atStart => exact ⟨0, Nat.zero_le _, rfl, by show _ ↔ _; rw [List.drop_zero, List.drop_zero], below_refl _⟩
      case round =>
        obtain ⟨k, hk, rfl, HI, hbel⟩ := hrel
        have Clevels := Lib.hid (Ccells.out.below hbel)
        have Dlevels := Lib.hid (Dcells.out.below hbel)
        have Blevels := Lib.hid (below_trans Bcells.out hbel)
        have kA := Clevels.out.2 3 _ rfl
        have kB := Dlevels.out.2 3 _ rfl
        by_cases hlt : k < levels.length
        · have hlt2 : k < levels2.length := by rw [← HLlevels.out]; exact hlt
          have HB : Hid (Below w.heap.size w wr.drew) := Blevels.out.drew
          have HD := Lib.hid (List.drop_eq_getElem_cons hlt)
          have HD2 := Lib.hid (List.drop_eq_getElem_cons hlt2)
          have i0 : (0 : Int) ≤ k := by omega
          have i1 : (k : Int) < levels.length := by omega
          have i2 : (k : Int) < levels2.length := by omega
          obtain ⟨ad, Asavedq, csavedq, savedq, rfl, hbl, hxd, hxt, a0⟩ := (HHlevels.out.on Blevels.out).getfLevel hlt
          obtain ⟨ad2, Asavedr, csavedr, savedr, rfl, hbl2, hyd, hyt, b0⟩ := (HHlevels2.out.on Blevels.out).getfLevel hlt2
          have HX := HFlevels.out.mem _ (List.getElem_mem hlt)
          rw [hxd] at HX HD
          rw [hyd] at HD2
          have HX2 := Lib.hid HX.fst; clear HX hxd hyd
          have HA3 := Lib.hid (hxt.on ((below_refl wr).drew)); clear hxt
          have HA4 := Lib.hid (hyt.on ((below_refl wr).drew)); clear hyt
          go_wp2_with fail
          have kA' : World.cell? { heap := wr.heap, tape := wr.tape, drawn := wr.drawn + 1, os := wr.os, output := wr.output } ⟨w.heap.size, 3, none⟩ = some (.slice (some ad) levels.length clevels) := kA
          have kB' : World.cell? { heap := wr.heap, tape := wr.tape, drawn := wr.drawn + 1, os := wr.os, output := wr.output } ⟨w.heap.size + 1, 3, none⟩ = some (.slice (some ad2) levels2.length clevels2) := kB
          have a0' : World.cell? { heap := wr.heap, tape := wr.tape, drawn := wr.drawn + 1, os := wr.os, output := wr.output } (ad.add k) = some (.slice Asavedq savedq.length csavedq) := a0
          have b0' : World.cell? { heap := wr.heap, tape := wr.tape, drawn := wr.drawn + 1, os := wr.os, output := wr.output } (ad2.add k) = some (.slice Asavedr savedr.length csavedr) := b0
          go_still_tail 12, (by kernel_rfl)
          change wpList _ _ _ _ _ wr.drew
          have hbd : Below wcells.heap.size wcells wr.drew := hbel.drew
          generalize wr.drew = w5 at *
          clear kA kB kA' kB' a0 b0 a0' b0'
          go_wp2_with fail
          refine (l09SameBinds_dv _ _ _ _ _ HA3.out HA4.out HX2.out).mono ?_
          rintro e w6 ⟨⟨r, rfl, HE⟩, b6⟩
          have HB6 := Lib.hid (below_trans HB.out b6)
          have HB7 := Lib.hid (below_trans hbd b6)
          have HEE := Lib.hid HE; clear HE b6 hbd
          cases r
          · have hq : ¬ DV.sl levels = .sl levels2 := fun h => by
              rw [HI.out, HD.out, HD2.out, sl_cons] at h
              have h := h.1
              injection h with h _
              have := HEE.out.2 h
              cases this
            go_wp2_with fail
            go_ret
            exact ⟨⟨false, rfl, HV.out false (by simp [hq])⟩, HB6.out⟩
          · go_wp2_with fail
            refine ⟨⟨k + 1, by omega, by go_num, ?_, HB7.out⟩, by simp [intOf]; omega⟩
            show _ ↔ _
            rw [HI.out, HD.out, HD2.out, sl_cons]
            exact ⟨fun h => h.2, fun h => ⟨by rw [HEE.out.1 rfl], h⟩⟩
        · obtain rfl : k = levels.length := by omega
          have Elevels : Hid (DV.sl levels = .sl levels2) := by
            show _ = _
            rw [HI.out, List.drop_eq_nil_of_le (by omega), List.drop_eq_nil_of_le (by rw [← HLlevels.out]; omega)]
          clear HI
          obtain ⟨wlevels, rfl⟩ : ∃ wlevels : World, wlevels = wr := ⟨_, rfl⟩
          clear hbel
          go_wp2_with fail
          clear kA kB
          go_ret
          exact ⟨⟨true, rfl, HV.out true (by simp [Enext.out, Ebinds.out, Ecells.out, Elevels.out])⟩, Blevels.out⟩

end Go.Proofs.Ytllamjgloilioaa
