/- Slices of flat structs: equality. (printed by gen_dv.py) -/
import Derived.Test.YtllamjgloilioaaDvFlatS
namespace Go.Proofs.Ytllamjgloilioaa
open Go.RowKit Go.ChangeShapes Go.WideShapes Go.ChangeAt Go.Deep
set_option linter.unusedVariables false
set_option linter.unusedSimpArgs false

set_option maxHeartbeats 2000000 in
set_option maxRecDepth 8000 in
theorem eqBindS_dv (v v2 : Value) (d d2 : DV) (w : World) (h : At w (.sl tyBind) [v] d) (h2 : At w (.sl tyBind) [v2] d2) (hf : Fits 1048576 d) :
    Calls Try.prog 62 #[v, v2] w fun e w' => GotB e d d2 ∧ Below w.heap.size w w' := by
  obtain ⟨A, c, ds, hv, rfl, hc, hr⟩ := Rd.inv_sl h
  simp only [List.cons.injEq, and_true] at hv
  subst hv
  have H : Hid (At w (.sl tyBind) [.slice A ds.length c] (.sl ds)) := hr; clear h hr
  obtain ⟨A2, c2, es, hv, rfl, hc2, hr⟩ := Rd.inv_sl h2
  simp only [List.cons.injEq, and_true] at hv
  subst hv
  have H2 : Hid (At w (.sl tyBind) [.slice A2 es.length c2] (.sl es)) := hr; clear h2 hr
  have hl := hf.len
  have HOK := Lib.hid hf.mem; clear hf
  rcases eqForms (ds.length : Int) (es.length : Int) with ⟨e1, e2, e3⟩ | ⟨e1, e2, e3⟩
  · have hlen : ds.length = es.length := by have := e3.out; omega
    have e4 : (ds.length == es.length) = true := by simp [hlen]
    have e5 : (ds.length != es.length) = false := by simp [hlen]
    have HL := Lib.hid hlen; clear hlen
    go_enter Try.func62, Try.ntmps62
    go_wp2
    go_loopw [5] (fun i wr => ∃ k : Nat, k ≤ ds.length ∧ i = .int .i64 k ∧ Hid (DV.sl ds = .sl es ↔ DV.sl (ds.drop k) = .sl (es.drop k)) ∧ Below w.heap.size w wr) (fun i _ => ds.length - (intOf i).toNat)
    case atStart => exact ⟨0, Nat.zero_le _, rfl, by show _ ↔ _; rw [List.drop_zero, List.drop_zero], below_refl _⟩
    case round =>
      obtain ⟨k, hk, rfl, HI, hbel⟩ := hrel
      by_cases hlt : k < ds.length
      · have hlt2 : k < es.length := by rw [← HL.out]; exact hlt
        have HB : Hid (Below w.heap.size w wr.drew) := hbel.drew
        obtain ⟨ad, name, cell, rfl, hbl, hat, a0, a1⟩ := (H.out.on hbel).getBind hlt
        obtain ⟨ad2, name2, cell2, rfl, hbl2, hat2, b0, b1⟩ := (H2.out.on hbel).getBind hlt2
        have HX := Lib.hid (HOK.out _ (List.getElem_mem hlt))
        have HD := Lib.hid (List.drop_eq_getElem_cons hlt)
        have HD2 := Lib.hid (List.drop_eq_getElem_cons hlt2)
        have HA3 : Hid (At wr.drew tyBind [.string name, .int .i64 cell] ds[k]) := hat.on ((below_refl wr).drew); clear hat
        have HA4 : Hid (At wr.drew tyBind [.string name2, .int .i64 cell2] es[k]) := hat2.on ((below_refl wr).drew); clear hat2
        generalize ds[k] = x at *
        generalize es[k] = y at *
        have i0 : (0 : Int) ≤ k := by omega
        have i1 : (k : Int) < ds.length := by omega
        have i2 : (k : Int) < es.length := by omega
        go_wp2_with fail
        have a0' : World.cell? { heap := wr.heap, tape := wr.tape, drawn := wr.drawn + 1, os := wr.os, output := wr.output } (ad.add (k * 2)) = some (.string name) := a0
        have b0' : World.cell? { heap := wr.heap, tape := wr.tape, drawn := wr.drawn + 1, os := wr.os, output := wr.output } (ad2.add (k * 2)) = some (.string name2) := b0
        have a1' : World.cell? { heap := wr.heap, tape := wr.tape, drawn := wr.drawn + 1, os := wr.os, output := wr.output } ⟨(ad.add (k * 2)).block, (ad.add (k * 2)).off + 1, none⟩ = some (.int .i64 cell) := a1
        have b1' : World.cell? { heap := wr.heap, tape := wr.tape, drawn := wr.drawn + 1, os := wr.os, output := wr.output } ⟨(ad2.add (k * 2)).block, (ad2.add (k * 2)).off + 1, none⟩ = some (.int .i64 cell2) := b1
        go_still_tail 8, (by kernel_rfl)
        change wpList _ _ _ _ _ wr.drew
        generalize wr.drew = w5 at *
        clear a0 b0 a0' b0' a1 b1 a1' b1'
        go_wp2_with fail
        refine (eqBind_dv _ _ x y _ HA3.out HA4.out HX.out).mono ?_
        rintro e w6 ⟨⟨r, rfl, HE⟩, b6⟩
        have HB6 := Lib.hid (below_trans HB.out b6)
        have HEE := Lib.hid HE; clear HE b6
        cases r
        · go_wp2_with fail
          go_ret
          refine ⟨⟨false, rfl, ?_⟩, HB6.out⟩
          show _ ↔ _
          rw [HI.out, HD.out, HD2.out, sl_cons]
          exact ⟨fun h => (by cases h), fun h => HEE.out.2 h.1⟩
        · go_wp2_with fail
          refine ⟨⟨k + 1, by omega, by go_num, ?_, HB6.out⟩, by simp [intOf]; omega⟩
          show _ ↔ _
          rw [HI.out, HD.out, HD2.out, sl_cons]
          exact ⟨fun h => h.2, fun h => ⟨HEE.out.1 rfl, h⟩⟩
      · go_wp2
        go_ret
        refine ⟨⟨true, rfl, ?_⟩, hbel⟩
        have := HL.out
        show _ ↔ _
        rw [HI.out, List.drop_eq_nil_of_le (by omega), List.drop_eq_nil_of_le (by omega)]; simp
  · have e4 : (ds.length == es.length) = false := by have := e3.out; simp; omega
    have e5 : (ds.length != es.length) = true := by have := e3.out; simp; omega
    go_enter Try.func62, Try.ntmps62
    go_wp2
    go_ret
    refine ⟨⟨false, rfl, ?_⟩, below_refl _⟩
    show _ ↔ _
    exact ⟨fun h => (by cases h), fun h => absurd (sl_len h) (by have := e3.out; omega)⟩

set_option maxHeartbeats 2000000 in
set_option maxRecDepth 8000 in
theorem eqGivenS_dv (v v2 : Value) (d d2 : DV) (w : World) (h : At w (.sl tyGiven) [v] d) (h2 : At w (.sl tyGiven) [v2] d2) (hf : Fits 1048576 d) :
    Calls Try.prog 33 #[v, v2] w fun e w' => GotB e d d2 ∧ Below w.heap.size w w' := by
  obtain ⟨A, c, ds, hv, rfl, hc, hr⟩ := Rd.inv_sl h
  simp only [List.cons.injEq, and_true] at hv
  subst hv
  have H : Hid (At w (.sl tyGiven) [.slice A ds.length c] (.sl ds)) := hr; clear h hr
  obtain ⟨A2, c2, es, hv, rfl, hc2, hr⟩ := Rd.inv_sl h2
  simp only [List.cons.injEq, and_true] at hv
  subst hv
  have H2 : Hid (At w (.sl tyGiven) [.slice A2 es.length c2] (.sl es)) := hr; clear h2 hr
  have hl := hf.len
  have HOK := Lib.hid hf.mem; clear hf
  rcases eqForms (ds.length : Int) (es.length : Int) with ⟨e1, e2, e3⟩ | ⟨e1, e2, e3⟩
  · have hlen : ds.length = es.length := by have := e3.out; omega
    have e4 : (ds.length == es.length) = true := by simp [hlen]
    have e5 : (ds.length != es.length) = false := by simp [hlen]
    have HL := Lib.hid hlen; clear hlen
    go_enter Try.func33, Try.ntmps33
    go_wp2
    go_loopw [5] (fun i wr => ∃ k : Nat, k ≤ ds.length ∧ i = .int .i64 k ∧ Hid (DV.sl ds = .sl es ↔ DV.sl (ds.drop k) = .sl (es.drop k)) ∧ Below w.heap.size w wr) (fun i _ => ds.length - (intOf i).toNat)
    case atStart => exact ⟨0, Nat.zero_le _, rfl, by show _ ↔ _; rw [List.drop_zero, List.drop_zero], below_refl _⟩
    case round =>
      obtain ⟨k, hk, rfl, HI, hbel⟩ := hrel
      by_cases hlt : k < ds.length
      · have hlt2 : k < es.length := by rw [← HL.out]; exact hlt
        have HB : Hid (Below w.heap.size w wr.drew) := hbel.drew
        obtain ⟨ad, byref, text, rfl, hbl, hat, a0, a1⟩ := (H.out.on hbel).getGiven hlt
        obtain ⟨ad2, byref2, text2, rfl, hbl2, hat2, b0, b1⟩ := (H2.out.on hbel).getGiven hlt2
        have HX := Lib.hid (HOK.out _ (List.getElem_mem hlt))
        have HD := Lib.hid (List.drop_eq_getElem_cons hlt)
        have HD2 := Lib.hid (List.drop_eq_getElem_cons hlt2)
        have HA3 : Hid (At wr.drew tyGiven [.bool byref, .string text] ds[k]) := hat.on ((below_refl wr).drew); clear hat
        have HA4 : Hid (At wr.drew tyGiven [.bool byref2, .string text2] es[k]) := hat2.on ((below_refl wr).drew); clear hat2
        generalize ds[k] = x at *
        generalize es[k] = y at *
        have i0 : (0 : Int) ≤ k := by omega
        have i1 : (k : Int) < ds.length := by omega
        have i2 : (k : Int) < es.length := by omega
        go_wp2_with fail
        have a0' : World.cell? { heap := wr.heap, tape := wr.tape, drawn := wr.drawn + 1, os := wr.os, output := wr.output } (ad.add (k * 2)) = some (.bool byref) := a0
        have b0' : World.cell? { heap := wr.heap, tape := wr.tape, drawn := wr.drawn + 1, os := wr.os, output := wr.output } (ad2.add (k * 2)) = some (.bool byref2) := b0
        have a1' : World.cell? { heap := wr.heap, tape := wr.tape, drawn := wr.drawn + 1, os := wr.os, output := wr.output } ⟨(ad.add (k * 2)).block, (ad.add (k * 2)).off + 1, none⟩ = some (.string text) := a1
        have b1' : World.cell? { heap := wr.heap, tape := wr.tape, drawn := wr.drawn + 1, os := wr.os, output := wr.output } ⟨(ad2.add (k * 2)).block, (ad2.add (k * 2)).off + 1, none⟩ = some (.string text2) := b1
        go_still_tail 8, (by kernel_rfl)
        change wpList _ _ _ _ _ wr.drew
        generalize wr.drew = w5 at *
        clear a0 b0 a0' b0' a1 b1 a1' b1'
        go_wp2_with fail
        refine (eqGiven_dv _ _ x y _ HA3.out HA4.out HX.out).mono ?_
        rintro e w6 ⟨⟨r, rfl, HE⟩, b6⟩
        have HB6 := Lib.hid (below_trans HB.out b6)
        have HEE := Lib.hid HE; clear HE b6
        cases r
        · go_wp2_with fail
          go_ret
          refine ⟨⟨false, rfl, ?_⟩, HB6.out⟩
          show _ ↔ _
          rw [HI.out, HD.out, HD2.out, sl_cons]
          exact ⟨fun h => (by cases h), fun h => HEE.out.2 h.1⟩
        · go_wp2_with fail
          refine ⟨⟨k + 1, by omega, by go_num, ?_, HB6.out⟩, by simp [intOf]; omega⟩
          show _ ↔ _
          rw [HI.out, HD.out, HD2.out, sl_cons]
          exact ⟨fun h => h.2, fun h => ⟨HEE.out.1 rfl, h⟩⟩
      · go_wp2
        go_ret
        refine ⟨⟨true, rfl, ?_⟩, hbel⟩
        have := HL.out
        show _ ↔ _
        rw [HI.out, List.drop_eq_nil_of_le (by omega), List.drop_eq_nil_of_le (by omega)]; simp
  · have e4 : (ds.length == es.length) = false := by have := e3.out; simp; omega
    have e5 : (ds.length != es.length) = true := by have := e3.out; simp; omega
    go_enter Try.func33, Try.ntmps33
    go_wp2
    go_ret
    refine ⟨⟨false, rfl, ?_⟩, below_refl _⟩
    show _ ↔ _
    exact ⟨fun h => (by cases h), fun h => absurd (sl_len h) (by have := e3.out; omega)⟩

set_option maxHeartbeats 2000000 in
set_option maxRecDepth 8000 in
theorem eqLoopS_dv (v v2 : Value) (d d2 : DV) (w : World) (h : At w (.sl tyLoop) [v] d) (h2 : At w (.sl tyLoop) [v2] d2) (hf : Fits 1048576 d) :
    Calls Try.prog 34 #[v, v2] w fun e w' => GotB e d d2 ∧ Below w.heap.size w w' := by
  obtain ⟨A, c, ds, hv, rfl, hc, hr⟩ := Rd.inv_sl h
  simp only [List.cons.injEq, and_true] at hv
  subst hv
  have H : Hid (At w (.sl tyLoop) [.slice A ds.length c] (.sl ds)) := hr; clear h hr
  obtain ⟨A2, c2, es, hv, rfl, hc2, hr⟩ := Rd.inv_sl h2
  simp only [List.cons.injEq, and_true] at hv
  subst hv
  have H2 : Hid (At w (.sl tyLoop) [.slice A2 es.length c2] (.sl es)) := hr; clear h2 hr
  have hl := hf.len
  have HOK := Lib.hid hf.mem; clear hf
  rcases eqForms (ds.length : Int) (es.length : Int) with ⟨e1, e2, e3⟩ | ⟨e1, e2, e3⟩
  · have hlen : ds.length = es.length := by have := e3.out; omega
    have e4 : (ds.length == es.length) = true := by simp [hlen]
    have e5 : (ds.length != es.length) = false := by simp [hlen]
    have HL := Lib.hid hlen; clear hlen
    go_enter Try.func34, Try.ntmps34
    go_wp2
    go_loopw [5] (fun i wr => ∃ k : Nat, k ≤ ds.length ∧ i = .int .i64 k ∧ Hid (DV.sl ds = .sl es ↔ DV.sl (ds.drop k) = .sl (es.drop k)) ∧ Below w.heap.size w wr) (fun i _ => ds.length - (intOf i).toNat)
    case atStart => exact ⟨0, Nat.zero_le _, rfl, by show _ ↔ _; rw [List.drop_zero, List.drop_zero], below_refl _⟩
    case round =>
      obtain ⟨k, hk, rfl, HI, hbel⟩ := hrel
      by_cases hlt : k < ds.length
      · have hlt2 : k < es.length := by rw [← HL.out]; exact hlt
        have HB : Hid (Below w.heap.size w wr.drew) := hbel.drew
        obtain ⟨ad, name, step, limit, has, next, fin, rfl, hbl, hat, a0, a1, a2, a3, a4, a5⟩ := (H.out.on hbel).getLoop hlt
        obtain ⟨ad2, name2, step2, limit2, has2, next2, fin2, rfl, hbl2, hat2, b0, b1, b2, b3, b4, b5⟩ := (H2.out.on hbel).getLoop hlt2
        have HX := Lib.hid (HOK.out _ (List.getElem_mem hlt))
        have HD := Lib.hid (List.drop_eq_getElem_cons hlt)
        have HD2 := Lib.hid (List.drop_eq_getElem_cons hlt2)
        have HA3 : Hid (At wr.drew tyLoop [.string name, .int .i64 step, .int .i64 limit, .bool has, .int .i64 next, .int .i64 fin] ds[k]) := hat.on ((below_refl wr).drew); clear hat
        have HA4 : Hid (At wr.drew tyLoop [.string name2, .int .i64 step2, .int .i64 limit2, .bool has2, .int .i64 next2, .int .i64 fin2] es[k]) := hat2.on ((below_refl wr).drew); clear hat2
        generalize ds[k] = x at *
        generalize es[k] = y at *
        have i0 : (0 : Int) ≤ k := by omega
        have i1 : (k : Int) < ds.length := by omega
        have i2 : (k : Int) < es.length := by omega
        go_wp2_with fail
        have a0' : World.cell? { heap := wr.heap, tape := wr.tape, drawn := wr.drawn + 1, os := wr.os, output := wr.output } (ad.add (k * 6)) = some (.string name) := a0
        have b0' : World.cell? { heap := wr.heap, tape := wr.tape, drawn := wr.drawn + 1, os := wr.os, output := wr.output } (ad2.add (k * 6)) = some (.string name2) := b0
        have a1' : World.cell? { heap := wr.heap, tape := wr.tape, drawn := wr.drawn + 1, os := wr.os, output := wr.output } ⟨(ad.add (k * 6)).block, (ad.add (k * 6)).off + 1, none⟩ = some (.int .i64 step) := a1
        have b1' : World.cell? { heap := wr.heap, tape := wr.tape, drawn := wr.drawn + 1, os := wr.os, output := wr.output } ⟨(ad2.add (k * 6)).block, (ad2.add (k * 6)).off + 1, none⟩ = some (.int .i64 step2) := b1
        have a2' : World.cell? { heap := wr.heap, tape := wr.tape, drawn := wr.drawn + 1, os := wr.os, output := wr.output } ⟨(ad.add (k * 6)).block, (ad.add (k * 6)).off + 2, none⟩ = some (.int .i64 limit) := a2
        have b2' : World.cell? { heap := wr.heap, tape := wr.tape, drawn := wr.drawn + 1, os := wr.os, output := wr.output } ⟨(ad2.add (k * 6)).block, (ad2.add (k * 6)).off + 2, none⟩ = some (.int .i64 limit2) := b2
        have a3' : World.cell? { heap := wr.heap, tape := wr.tape, drawn := wr.drawn + 1, os := wr.os, output := wr.output } ⟨(ad.add (k * 6)).block, (ad.add (k * 6)).off + 3, none⟩ = some (.bool has) := a3
        have b3' : World.cell? { heap := wr.heap, tape := wr.tape, drawn := wr.drawn + 1, os := wr.os, output := wr.output } ⟨(ad2.add (k * 6)).block, (ad2.add (k * 6)).off + 3, none⟩ = some (.bool has2) := b3
        have a4' : World.cell? { heap := wr.heap, tape := wr.tape, drawn := wr.drawn + 1, os := wr.os, output := wr.output } ⟨(ad.add (k * 6)).block, (ad.add (k * 6)).off + 4, none⟩ = some (.int .i64 next) := a4
        have b4' : World.cell? { heap := wr.heap, tape := wr.tape, drawn := wr.drawn + 1, os := wr.os, output := wr.output } ⟨(ad2.add (k * 6)).block, (ad2.add (k * 6)).off + 4, none⟩ = some (.int .i64 next2) := b4
        have a5' : World.cell? { heap := wr.heap, tape := wr.tape, drawn := wr.drawn + 1, os := wr.os, output := wr.output } ⟨(ad.add (k * 6)).block, (ad.add (k * 6)).off + 5, none⟩ = some (.int .i64 fin) := a5
        have b5' : World.cell? { heap := wr.heap, tape := wr.tape, drawn := wr.drawn + 1, os := wr.os, output := wr.output } ⟨(ad2.add (k * 6)).block, (ad2.add (k * 6)).off + 5, none⟩ = some (.int .i64 fin2) := b5
        go_still_tail 8, (by kernel_rfl)
        change wpList _ _ _ _ _ wr.drew
        generalize wr.drew = w5 at *
        clear a0 b0 a0' b0' a1 b1 a1' b1' a2 b2 a2' b2' a3 b3 a3' b3' a4 b4 a4' b4' a5 b5 a5' b5'
        go_wp2_with fail
        refine (eqLoop_dv _ _ x y _ HA3.out HA4.out HX.out).mono ?_
        rintro e w6 ⟨⟨r, rfl, HE⟩, b6⟩
        have HB6 := Lib.hid (below_trans HB.out b6)
        have HEE := Lib.hid HE; clear HE b6
        cases r
        · go_wp2_with fail
          go_ret
          refine ⟨⟨false, rfl, ?_⟩, HB6.out⟩
          show _ ↔ _
          rw [HI.out, HD.out, HD2.out, sl_cons]
          exact ⟨fun h => (by cases h), fun h => HEE.out.2 h.1⟩
        · go_wp2_with fail
          refine ⟨⟨k + 1, by omega, by go_num, ?_, HB6.out⟩, by simp [intOf]; omega⟩
          show _ ↔ _
          rw [HI.out, HD.out, HD2.out, sl_cons]
          exact ⟨fun h => h.2, fun h => ⟨HEE.out.1 rfl, h⟩⟩
      · go_wp2
        go_ret
        refine ⟨⟨true, rfl, ?_⟩, hbel⟩
        have := HL.out
        show _ ↔ _
        rw [HI.out, List.drop_eq_nil_of_le (by omega), List.drop_eq_nil_of_le (by omega)]; simp
  · have e4 : (ds.length == es.length) = false := by have := e3.out; simp; omega
    have e5 : (ds.length != es.length) = true := by have := e3.out; simp; omega
    go_enter Try.func34, Try.ntmps34
    go_wp2
    go_ret
    refine ⟨⟨false, rfl, ?_⟩, below_refl _⟩
    show _ ↔ _
    exact ⟨fun h => (by cases h), fun h => absurd (sl_len h) (by have := e3.out; omega)⟩

set_option maxHeartbeats 2000000 in
set_option maxRecDepth 8000 in
theorem eqFrameS_dv (v v2 : Value) (d d2 : DV) (w : World) (h : At w (.sl tyFrame) [v] d) (h2 : At w (.sl tyFrame) [v2] d2) (hf : Fits 1048576 d) :
    Calls Try.prog 35 #[v, v2] w fun e w' => GotB e d d2 ∧ Below w.heap.size w w' := by
  obtain ⟨A, c, ds, hv, rfl, hc, hr⟩ := Rd.inv_sl h
  simp only [List.cons.injEq, and_true] at hv
  subst hv
  have H : Hid (At w (.sl tyFrame) [.slice A ds.length c] (.sl ds)) := hr; clear h hr
  obtain ⟨A2, c2, es, hv, rfl, hc2, hr⟩ := Rd.inv_sl h2
  simp only [List.cons.injEq, and_true] at hv
  subst hv
  have H2 : Hid (At w (.sl tyFrame) [.slice A2 es.length c2] (.sl es)) := hr; clear h2 hr
  have hl := hf.len
  have HOK := Lib.hid hf.mem; clear hf
  rcases eqForms (ds.length : Int) (es.length : Int) with ⟨e1, e2, e3⟩ | ⟨e1, e2, e3⟩
  · have hlen : ds.length = es.length := by have := e3.out; omega
    have e4 : (ds.length == es.length) = true := by simp [hlen]
    have e5 : (ds.length != es.length) = false := by simp [hlen]
    have HL := Lib.hid hlen; clear hlen
    go_enter Try.func35, Try.ntmps35
    go_wp2
    go_loopw [5] (fun i wr => ∃ k : Nat, k ≤ ds.length ∧ i = .int .i64 k ∧ Hid (DV.sl ds = .sl es ↔ DV.sl (ds.drop k) = .sl (es.drop k)) ∧ Below w.heap.size w wr) (fun i _ => ds.length - (intOf i).toNat)
    case atStart => exact ⟨0, Nat.zero_le _, rfl, by show _ ↔ _; rw [List.drop_zero, List.drop_zero], below_refl _⟩
    case round =>
      obtain ⟨k, hk, rfl, HI, hbel⟩ := hrel
      by_cases hlt : k < ds.length
      · have hlt2 : k < es.length := by rw [← HL.out]; exact hlt
        have HB : Hid (Below w.heap.size w wr.drew) := hbel.drew
        obtain ⟨ad, ret, value, test, stack, refs, args, loops, trap, routine, rfl, hbl, hat, a0, a1, a2, a3, a4, a5, a6, a7, a8⟩ := (H.out.on hbel).getFrame hlt
        obtain ⟨ad2, ret2, value2, test2, stack2, refs2, args2, loops2, trap2, routine2, rfl, hbl2, hat2, b0, b1, b2, b3, b4, b5, b6, b7, b8⟩ := (H2.out.on hbel).getFrame hlt2
        have HX := Lib.hid (HOK.out _ (List.getElem_mem hlt))
        have HD := Lib.hid (List.drop_eq_getElem_cons hlt)
        have HD2 := Lib.hid (List.drop_eq_getElem_cons hlt2)
        have HA3 : Hid (At wr.drew tyFrame [.int .i64 ret, .bool value, .bool test, .int .i64 stack, .int .i64 refs, .int .i64 args, .int .i64 loops, .string trap, .string routine] ds[k]) := hat.on ((below_refl wr).drew); clear hat
        have HA4 : Hid (At wr.drew tyFrame [.int .i64 ret2, .bool value2, .bool test2, .int .i64 stack2, .int .i64 refs2, .int .i64 args2, .int .i64 loops2, .string trap2, .string routine2] es[k]) := hat2.on ((below_refl wr).drew); clear hat2
        generalize ds[k] = x at *
        generalize es[k] = y at *
        have i0 : (0 : Int) ≤ k := by omega
        have i1 : (k : Int) < ds.length := by omega
        have i2 : (k : Int) < es.length := by omega
        go_wp2_with fail
        have a0' : World.cell? { heap := wr.heap, tape := wr.tape, drawn := wr.drawn + 1, os := wr.os, output := wr.output } (ad.add (k * 9)) = some (.int .i64 ret) := a0
        have b0' : World.cell? { heap := wr.heap, tape := wr.tape, drawn := wr.drawn + 1, os := wr.os, output := wr.output } (ad2.add (k * 9)) = some (.int .i64 ret2) := b0
        have a1' : World.cell? { heap := wr.heap, tape := wr.tape, drawn := wr.drawn + 1, os := wr.os, output := wr.output } ⟨(ad.add (k * 9)).block, (ad.add (k * 9)).off + 1, none⟩ = some (.bool value) := a1
        have b1' : World.cell? { heap := wr.heap, tape := wr.tape, drawn := wr.drawn + 1, os := wr.os, output := wr.output } ⟨(ad2.add (k * 9)).block, (ad2.add (k * 9)).off + 1, none⟩ = some (.bool value2) := b1
        have a2' : World.cell? { heap := wr.heap, tape := wr.tape, drawn := wr.drawn + 1, os := wr.os, output := wr.output } ⟨(ad.add (k * 9)).block, (ad.add (k * 9)).off + 2, none⟩ = some (.bool test) := a2
        have b2' : World.cell? { heap := wr.heap, tape := wr.tape, drawn := wr.drawn + 1, os := wr.os, output := wr.output } ⟨(ad2.add (k * 9)).block, (ad2.add (k * 9)).off + 2, none⟩ = some (.bool test2) := b2
        have a3' : World.cell? { heap := wr.heap, tape := wr.tape, drawn := wr.drawn + 1, os := wr.os, output := wr.output } ⟨(ad.add (k * 9)).block, (ad.add (k * 9)).off + 3, none⟩ = some (.int .i64 stack) := a3
        have b3' : World.cell? { heap := wr.heap, tape := wr.tape, drawn := wr.drawn + 1, os := wr.os, output := wr.output } ⟨(ad2.add (k * 9)).block, (ad2.add (k * 9)).off + 3, none⟩ = some (.int .i64 stack2) := b3
        have a4' : World.cell? { heap := wr.heap, tape := wr.tape, drawn := wr.drawn + 1, os := wr.os, output := wr.output } ⟨(ad.add (k * 9)).block, (ad.add (k * 9)).off + 4, none⟩ = some (.int .i64 refs) := a4
        have b4' : World.cell? { heap := wr.heap, tape := wr.tape, drawn := wr.drawn + 1, os := wr.os, output := wr.output } ⟨(ad2.add (k * 9)).block, (ad2.add (k * 9)).off + 4, none⟩ = some (.int .i64 refs2) := b4
        have a5' : World.cell? { heap := wr.heap, tape := wr.tape, drawn := wr.drawn + 1, os := wr.os, output := wr.output } ⟨(ad.add (k * 9)).block, (ad.add (k * 9)).off + 5, none⟩ = some (.int .i64 args) := a5
        have b5' : World.cell? { heap := wr.heap, tape := wr.tape, drawn := wr.drawn + 1, os := wr.os, output := wr.output } ⟨(ad2.add (k * 9)).block, (ad2.add (k * 9)).off + 5, none⟩ = some (.int .i64 args2) := b5
        have a6' : World.cell? { heap := wr.heap, tape := wr.tape, drawn := wr.drawn + 1, os := wr.os, output := wr.output } ⟨(ad.add (k * 9)).block, (ad.add (k * 9)).off + 6, none⟩ = some (.int .i64 loops) := a6
        have b6' : World.cell? { heap := wr.heap, tape := wr.tape, drawn := wr.drawn + 1, os := wr.os, output := wr.output } ⟨(ad2.add (k * 9)).block, (ad2.add (k * 9)).off + 6, none⟩ = some (.int .i64 loops2) := b6
        have a7' : World.cell? { heap := wr.heap, tape := wr.tape, drawn := wr.drawn + 1, os := wr.os, output := wr.output } ⟨(ad.add (k * 9)).block, (ad.add (k * 9)).off + 7, none⟩ = some (.string trap) := a7
        have b7' : World.cell? { heap := wr.heap, tape := wr.tape, drawn := wr.drawn + 1, os := wr.os, output := wr.output } ⟨(ad2.add (k * 9)).block, (ad2.add (k * 9)).off + 7, none⟩ = some (.string trap2) := b7
        have a8' : World.cell? { heap := wr.heap, tape := wr.tape, drawn := wr.drawn + 1, os := wr.os, output := wr.output } ⟨(ad.add (k * 9)).block, (ad.add (k * 9)).off + 8, none⟩ = some (.string routine) := a8
        have b8' : World.cell? { heap := wr.heap, tape := wr.tape, drawn := wr.drawn + 1, os := wr.os, output := wr.output } ⟨(ad2.add (k * 9)).block, (ad2.add (k * 9)).off + 8, none⟩ = some (.string routine2) := b8
        go_still_tail 8, (by kernel_rfl)
        change wpList _ _ _ _ _ wr.drew
        generalize wr.drew = w5 at *
        clear a0 b0 a0' b0' a1 b1 a1' b1' a2 b2 a2' b2' a3 b3 a3' b3' a4 b4 a4' b4' a5 b5 a5' b5' a6 b6 a6' b6' a7 b7 a7' b7' a8 b8 a8' b8'
        go_wp2_with fail
        refine (eqFrame_dv _ _ x y _ HA3.out HA4.out HX.out).mono ?_
        rintro e w6 ⟨⟨r, rfl, HE⟩, b6⟩
        have HB6 := Lib.hid (below_trans HB.out b6)
        have HEE := Lib.hid HE; clear HE b6
        cases r
        · go_wp2_with fail
          go_ret
          refine ⟨⟨false, rfl, ?_⟩, HB6.out⟩
          show _ ↔ _
          rw [HI.out, HD.out, HD2.out, sl_cons]
          exact ⟨fun h => (by cases h), fun h => HEE.out.2 h.1⟩
        · go_wp2_with fail
          refine ⟨⟨k + 1, by omega, by go_num, ?_, HB6.out⟩, by simp [intOf]; omega⟩
          show _ ↔ _
          rw [HI.out, HD.out, HD2.out, sl_cons]
          exact ⟨fun h => h.2, fun h => ⟨HEE.out.1 rfl, h⟩⟩
      · go_wp2
        go_ret
        refine ⟨⟨true, rfl, ?_⟩, hbel⟩
        have := HL.out
        show _ ↔ _
        rw [HI.out, List.drop_eq_nil_of_le (by omega), List.drop_eq_nil_of_le (by omega)]; simp
  · have e4 : (ds.length == es.length) = false := by have := e3.out; simp; omega
    have e5 : (ds.length != es.length) = true := by have := e3.out; simp; omega
    go_enter Try.func35, Try.ntmps35
    go_wp2
    go_ret
    refine ⟨⟨false, rfl, ?_⟩, below_refl _⟩
    show _ ↔ _
    exact ⟨fun h => (by cases h), fun h => absurd (sl_len h) (by have := e3.out; omega)⟩

end Go.Proofs.Ytllamjgloilioaa
