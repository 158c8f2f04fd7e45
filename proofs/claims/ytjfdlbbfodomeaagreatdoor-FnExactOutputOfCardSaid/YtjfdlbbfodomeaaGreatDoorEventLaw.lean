/- The law of EventOk. (open_agg5 began as lines of the kit's page extra-structs.md, which is meant for copying.) -/
import Derived.Test.YtjfdlbbfodomeaaGreatDoorEventOk7
import Derived.Test.YtjfdlbbfodomeaaGreatDoorEventsS
import Derived.Deep.Fields
namespace Go.Proofs.YtjfdlbbfodomeaaGreatDoor
open Go.RowKit Go.ChangeShapes Go.WideShapes Go.ChangeAt Go.Deep
set_option linter.unusedVariables false

section
variable {H : Type} {enc : TypeId × Value → H} {P : Program} {w : World} {base : Nat} {spare : Nat → Bool} {held : Bool}
theorem open_agg5 {r : Reach} {b0 : Nat} {t : TypeId} {f0 f1 f2 f3 f4 : Field} {v : Value} {d : DataW H} {p : List MemPlace} (hs : P.underlying t = some (.struct #[f0, f1, f2, f3, f4])) (hone : oneCellFields P #[f0, f1, f2, f3, f4] = true) (hC : P.cellsOf t = 5)
    (hv : Value.okWide P w r b0 t v) (h : DataW.Trod enc P w base spare held t v d p) :
    ∃ (v0 v1 v2 v3 v4 : Value) (y0 y1 y2 y3 y4 : DataW H × List MemPlace) (n : Nat), v = .agg #[v0, v1, v2, v3, v4] ∧ d = .agg [y0.1, y1.1, y2.1, y3.1, y4.1] ∧ p = y0.2 ++ (y1.2 ++ (y2.2 ++ (y3.2 ++ y4.2))) ∧
      DataW.trod enc P w base spare held n f0.type [v0] = some y0 ∧ DataW.trod enc P w base spare held n f1.type [v1] = some y1 ∧ DataW.trod enc P w base spare held n f2.type [v2] = some y2 ∧ DataW.trod enc P w base spare held n f3.type [v3] = some y3 ∧ DataW.trod enc P w base spare held n f4.type [v4] = some y4 := by
  obtain ⟨cs, rfl, hsz⟩ := okWide_struct hs hv
  obtain ⟨l⟩ := cs
  match l, hsz.trans hC with
  | [c0, c1, c2, c3, c4], _ =>
    obtain ⟨fuel, hf⟩ := h
    obtain ⟨xs, n, _, hx, _, hlen, hg⟩ := DataW.trod_struct hs hf
    obtain ⟨o0, k0⟩ := hone_of hone 0 f0 rfl
    obtain ⟨o1, k1⟩ := hone_of hone 1 f1 rfl
    obtain ⟨o2, k2⟩ := hone_of hone 2 f2 rfl
    obtain ⟨o3, k3⟩ := hone_of hone 3 f3 rfl
    obtain ⟨o4, k4⟩ := hone_of hone 4 f4 rfl
    match xs, hlen with
    | [y0, y1, y2, y3, y4], _ =>
      simp only [Prod.mk.injEq] at hx
      exact ⟨c0, c1, c2, c3, c4, y0, y1, y2, y3, y4, n, rfl, by simpa using hx.1, by simpa using hx.2, by simpa [Value.cells, o0, k0] using hg 0 f0 rfl, by simpa [Value.cells, o1, k1] using hg 1 f1 rfl, by simpa [Value.cells, o2, k2] using hg 2 f2 rfl, by simpa [Value.cells, o3, k3] using hg 3 f3 rfl, by simpa [Value.cells, o4, k4] using hg 4 f4 rfl⟩
end

set_option maxRecDepth 20000 in
theorem open_eventV {H : Type} {enc : TypeId × Value → H} {W : World} {base : Nat} {v : Value} {d : DataW H} {p : List MemPlace} (hk : Value.okWide Tryz.prog W .any base 50 v)
    (h : DataW.Trod enc Tryz.prog W 0 (fun _ => true) true 50 v d p) : ∃ x : EventV, v = .agg x.cells ∧ x.At W ∧ x.Ok maxLen := by
  obtain ⟨v0, v1, v2, v3, v4, y0, y1, y2, y3, y4, n, rfl, _, _, h0, h1, h2, h3, h4⟩ := open_agg5 Tryz.underlying50 (by kernel_rfl) (by kernel_rfl) hk h
  obtain ⟨a, ha, _, _⟩ := DataW.trod_int Tryz.underlying2 h0
  obtain ⟨s, hs, _, hz⟩ := DataW.trod_string Tryz.underlying9 h1
  obtain ⟨xs, hx, hxl, hxz⟩ := strs_of_trod h2
  obtain ⟨s2, hs2, _, hz2⟩ := DataW.trod_string Tryz.underlying9 h3
  obtain ⟨m, hm, _, _⟩ := DataW.trod_int Tryz.underlying2 h4
  simp only [List.cons.injEq, and_true] at ha hs hs2 hm
  subst ha hs hs2 hm
  exact ⟨⟨a, s, v2, xs, s2, m⟩, rfl, ⟨hx, trivial⟩, hz, ⟨hxl, hxz⟩, hz2, trivial⟩

theorem EventV.dat_eq {x y : EventV} (h : x.dat = y.dat) : x.kind = y.kind ∧ x.name = y.name ∧ x.subs = y.subs ∧ x.value = y.value ∧ x.n = y.n := by
  unfold EventV.dat at h
  injection h with h1 h2
  injection h2 with h2 h3
  injection h3 with h3 h4
  injection h4 with h4 h5
  exact ⟨h1, h2, h3, h4, h5⟩

theorem evB_dat {x y : EventV} (h : x.dat = y.dat) : evB x = evB y := by
  obtain ⟨h1, h2, h3, h4, h5⟩ := EventV.dat_eq h
  unfold evB qryB lckB noFB; rw [h1, h2, h3, h4, h5]

set_option maxHeartbeats 1000000 in
set_option maxRecDepth 8000 in
theorem EventOk_walk (v : Value) (x : EventV) (w : World) (hv : v = .agg x.cells) (h : x.At w) (hok : x.Ok maxLen) (hL : laidMetH Tryz.prog Rows.fnExactTreeOkRow.laid w) (hsh : w.ShapedOpen Tryz.prog) : Calls Tryz.prog 10 #[v] w fun e w' => e = .returned (.bool true) ∧ Below w.heap.size w w' := by
  have HT := Lib.hid (T10.of_laid hL); have HM := Lib.hid (ML.of_shaped hsh); clear hL hsh
  subst hv
  have C0 := Lib.hid (CellsAt.new w x.cells 50)
  have HB0 : Hid (Below w.heap.size w (w.alloc (.cells x.cells 50))) := Joins.below_alloc1 w _
  have A0 := Lib.hid (h.on HB0.out); clear h
  obtain ⟨kind, name, sv, xs, value, n⟩ := x
  have HOK := Lib.hid hok; clear hok
  simp only [EventV.cells]
  go_enter Tryz.func10, Tryz.ntmps10
  go_wp2_with fail
  refine (szEvent_ex ⟨kind, name, sv, xs, value, n⟩ 1048576 _ A0.out (by omega) (by omega) HOK.out).mono ?_
  rintro e w1 ⟨⟨q, rfl, q1, q2, hq⟩, b1⟩
  have HQ := Lib.hid hq; clear hq HOK
  have C1 := Lib.hid (C0.out.below b1)
  have A1 := Lib.hid (A0.out.on b1)
  have HB1 := Lib.hid (below_trans HB0.out b1)
  clear C0 A0 HB0 b1
  by_cases q0 : q < 0
  · go_wp2_with fail
    go_ret
    exact ⟨rfl, HB1.out⟩
  have HOK := Lib.hid (HQ.out (by omega)); clear HQ
  obtain ⟨c0, c1, c2, c3, c4⟩ := EventV.five C1.out
  go_wp2_with fail
  refine (toEvent_any ⟨kind, name, sv, xs, value, n⟩ _ A1.out HOK.out).mono ?_
  rintro e w2 ⟨xa, rfl, HD, ho, b2⟩
  have C2 := Lib.hid (C1.out.below b2)
  have A2 := Lib.hid (A1.out.on b2)
  have HB2 := Lib.hid (below_trans HB1.out b2)
  have HAt := Lib.hid ho.at_
  have HOKa := Lib.hid (EventV.ok_dat HD.out _ HOK.out)
  have HE := Lib.hid (evB_dat HD.out)
  clear C1 A1 HB1 b2 c0 c1 c2 c3 c4 ho
  go_wp2_with fail
  refine (sEventOk_any xa _ HAt.out HOKa.out).mono ?_
  rintro e w3 ⟨rfl, b3⟩
  rw [HE.out]
  have C3 := Lib.hid (C2.out.below b3)
  have A3 := Lib.hid (A2.out.on b3)
  have HB3 := Lib.hid (below_trans HB2.out b3)
  clear C2 A2 HB2 b3 HAt HOKa HE HD
  obtain ⟨c0, c1, c2, c3, c4⟩ := EventV.five C3.out
  go_wp2_with fail
  refine (toEvent_any ⟨kind, name, sv, xs, value, n⟩ _ A3.out HOK.out).mono ?_
  rintro e w4 ⟨xb, rfl, HD, ho, b4⟩
  have D0 := Lib.hid (CellsAt.new w4 xb.cells 53)
  have b4a : Below w4.heap.size w4 (w4.alloc (.cells xb.cells 53)) := Joins.below_alloc1 w4 _
  have b4' := below_trans b4 b4a
  have C4 := Lib.hid (C3.out.below b4')
  have A4 := Lib.hid (A3.out.on b4')
  have HB4 := Lib.hid (below_trans HB3.out b4')
  have HAt := Lib.hid (ho.at_.on b4a)
  have HOKb := Lib.hid (EventV.ok_dat HD.out _ HOK.out)
  have HE := Lib.hid (evB_dat HD.out)
  clear C3 A3 HB3 b4 b4' b4a c0 c1 c2 c3 c4 ho
  obtain ⟨kb, nb, sb, xsb, vb, nnb⟩ := xb
  obtain ⟨Ab, cb, hsb, _, _⟩ := id HAt.out.1
  replace hsb : sb = .slice Ab xsb.length cb := hsb
  subst hsb
  simp only [EventV.cells]
  go_wp2_with fail
  refine (EventOk_any ⟨kb, nb, _, xsb, vb, nnb⟩ _ (HT.out.below HB4.out) (HM.out.below HB4.out) HAt.out HOKb.out).mono ?_
  rintro e w5 ⟨rfl, b5⟩
  rw [HE.out]
  have C5 := Lib.hid (C4.out.below b5)
  have D5 := Lib.hid (D0.out.below b5)
  have A5 := Lib.hid (A4.out.on b5)
  have HB5 := Lib.hid (below_trans HB4.out b5)
  have HAt5 := Lib.hid (HAt.out.on b5)
  clear C4 A4 HB4 b5 HAt D0 HE
  obtain ⟨c0, c1, c2, c3, c4⟩ := EventV.five C5.out
  obtain ⟨d0, d1, d2, d3, d4⟩ := EventV.five D5.out
  go_wp2_with fail
  have A6 : Hid (EventV.At ⟨kind, name, sv, xs, value, n⟩ w5.drew) := A5.out
  have D6 : Hid (CellsAt w5.drew w4.heap.size (EventV.cells ⟨kb, nb, .slice Ab xsb.length cb, xsb, vb, nnb⟩).toList) := D5.out
  have E6 : Hid (EventV.At ⟨kb, nb, .slice Ab xsb.length cb, xsb, vb, nnb⟩ w5.drew) := HAt5.out
  have HB6 : Hid (Below w.heap.size w w5.drew) := HB5.out.drew
  go_region_with (first | (go_at_call 40; refine (toEvent_any ⟨kind, name, sv, xs, value, n⟩ _ A6.out HOK.out).mono ?_; rintro e w6 ⟨xc, rfl, HDc, ho, b6⟩; have HD7 := Lib.hid (CellsAt.below D6.out b6); have HAx := Lib.hid (E6.out.on b6); have HAc := Lib.hid ho.at_; have HB7 := Lib.hid (below_trans HB6.out b6); obtain ⟨d0', d1', d2', d3', d4'⟩ := EventV.five HD7.out; clear b6 ho) | (go_at_call 42; refine (eqEvent_any ⟨kb, nb, .slice Ab xsb.length cb, xsb, vb, nnb⟩ xc _ HAx.out HAc.out HOKb.out).mono ?_; rintro e w7 ⟨rfl, b7⟩; rw [decide_eq_true (HD.out.trans HDc.out.symm)]))
  all_goals
    go_wp2_with fail
    go_ret
    exact ⟨rfl, below_trans HB7.out b7⟩

end Go.Proofs.YtjfdlbbfodomeaaGreatDoor
