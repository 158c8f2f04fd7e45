/- ChangeOk: an argument that is a change, opened; both sides; the walk of the law. -/
import Derived.Test.YtbmdjipkfabnhaaLoc
import Derived.Test.YtbmdjipkfabnhaaChangeS
import Derived.RegionTactic
import Derived.Deep.RegionWith
namespace Go.Proofs.Ytbmdjipkfabnhaa
open Go.RowKit Go.ChangeShapes Go.WideShapes Go.ChangeAt Go.Deep
set_option linter.unusedVariables false

set_option maxRecDepth 20000 in
theorem open_changeV {H : Type} {enc : TypeId × Value → H} {W : World} {base : Nat} {v : Value} {d : DataW H} {p : List MemPlace} (hk : Value.okWide Try.prog W .any base 33 v)
    (h : DataW.Trod enc Try.prog W 0 (fun _ => true) true 33 v d p) : ∃ x : ChangeV, v = .agg x.cells ∧ x.At W ∧ x.Ok maxLen := by
  obtain ⟨v0, v1, v2, v3, y0, y1, y2, y3, n, rfl, _, _, h0, h1, h2, h3⟩ := Joins.open_agg4 Try.underlying33 (by kernel_rfl) (by kernel_rfl) hk h
  obtain ⟨a, ha, _, _⟩ := DataW.trod_int Try.underlying2 h0
  obtain ⟨s, hs, _, hz⟩ := DataW.trod_string Try.underlying9 h1
  obtain ⟨xs, hx, hxl, hxz⟩ := strs_of_trod h2
  obtain ⟨s2, hs2, _, hz2⟩ := DataW.trod_string Try.underlying9 h3
  simp only [List.cons.injEq, and_true] at ha hs hs2
  subst ha hs hs2
  exact ⟨⟨a, s, v2, xs, s2⟩, rfl, ⟨hx, trivial⟩, hz, ⟨hxl, hxz⟩, hz2, trivial⟩

def changeOkB (x : ChangeV) : Bool := locOk x.name x.subs && ((decide (x.kind = 1) && decide (x.value.size ≤ 64)) || (decide (x.kind = 2) && decide (x.value.size = 0)))

set_option maxRecDepth 8000 in
theorem ChangeOk_any (x : ChangeV) (w : World) (h : x.At w) (hok : x.Ok 1048576) : Calls Try.prog 16 #[.agg x.cells] w fun e w' => e = .returned (.bool (changeOkB x)) ∧ Below w.heap.size w w' := by
  obtain ⟨R, hR⟩ : ∃ R : Bool, changeOkB x = R := ⟨_, rfl⟩
  rw [hR]
  have HR := Lib.hid hR; clear hR
  have hA := h.on (Joins.below_alloc1 w (.cells x.cells 36))
  have hba : Below w.heap.size w (w.alloc (.cells x.cells 36)) := Joins.below_alloc1 w _
  obtain ⟨kind, name, sv, xs, value⟩ := x
  obtain ⟨hn, ⟨hl, hz⟩, hv, _⟩ := hok
  obtain ⟨hs, _⟩ := h
  obtain ⟨hAs, _⟩ := hA
  simp only [ChangeV.cells, changeOkB] at *
  have HZ := Lib.hid hz; clear hz
  have HA := Lib.hid hAs; clear hAs
  obtain ⟨A, c, rfl, _, _⟩ := id hs
  cases hloc : locOk name xs
  · rw [hloc] at HR
    go_enter Try.func16, Try.ntmps16
    go_wp2_with fail
    refine (locationOk_any name _ xs _ _ hn HA.out hl HZ.out).mono ?_
    rintro e w' ⟨rfl, rfl⟩
    rw [hloc]
    go_wp2_with fail
    go_ret
    exact ⟨ret_bool (by rw [← HR.out]; rfl), hba⟩
  · rw [hloc] at HR
    rcases eqForms kind 1 with ⟨a1, a2, a3⟩ | ⟨a1, a2, a3⟩
    · go_enter Try.func16, Try.ntmps16
      go_wp2_with fail
      refine (locationOk_any name _ xs _ _ hn HA.out hl HZ.out).mono ?_
      rintro e w' ⟨rfl, rfl⟩
      rw [hloc]
      go_wp2_with fail
      go_ret
      refine ⟨ret_bool ?_, hba⟩
      have hk := a3.out
      rw [← HR.out]; simp [hk]; omega
    · rcases eqForms kind 2 with ⟨b1, b2, b3⟩ | ⟨b1, b2, b3⟩
      · have he : value.toList.isEmpty = decide (value.size = 0) := by
          by_cases hz0 : value.size = 0
          · rw [empty_of hz0, decide_eq_true hz0]
          · rw [nonempty_of hz0, decide_eq_false hz0]
        have HE := Lib.hid he; clear he
        go_enter Try.func16, Try.ntmps16
        go_wp2_with fail
        refine (locationOk_any name _ xs _ _ hn HA.out hl HZ.out).mono ?_
        rintro e w' ⟨rfl, rfl⟩
        rw [hloc]
        go_wp2_with fail
        go_ret
        refine ⟨ret_bool ?_, hba⟩
        have hk := b3.out
        first
        | (rw [← HR.out, HE.out]; simp [hk])
        | (rw [← HR.out]; simp [hk, HE.out])
      · go_enter Try.func16, Try.ntmps16
        go_wp2_with fail
        refine (locationOk_any name _ xs _ _ hn HA.out hl HZ.out).mono ?_
        rintro e w' ⟨rfl, rfl⟩
        rw [hloc]
        go_wp2_with fail
        go_ret
        refine ⟨ret_bool ?_, hba⟩
        rw [← HR.out]; simp [a3.out, b3.out]

set_option maxRecDepth 8000 in
theorem sChangeOk_any (x : ChangeV) (w : World) (h : x.At w) (hok : x.Ok 1048576) : Calls Try.prog 14 #[.agg x.cells] w fun e w' => e = .returned (.bool (changeOkB x)) ∧ Below w.heap.size w w' := by
  obtain ⟨R, hR⟩ : ∃ R : Bool, changeOkB x = R := ⟨_, rfl⟩
  rw [hR]
  have HR := Lib.hid hR; clear hR
  have hA := h.on (Joins.below_alloc1 w (.cells x.cells 36))
  have hba : Below w.heap.size w (w.alloc (.cells x.cells 36)) := Joins.below_alloc1 w _
  obtain ⟨kind, name, sv, xs, value⟩ := x
  obtain ⟨hn, ⟨hl, hz⟩, hv, _⟩ := hok
  obtain ⟨hs, _⟩ := h
  obtain ⟨hAs, _⟩ := hA
  simp only [ChangeV.cells, changeOkB] at *
  have HZ := Lib.hid hz; clear hz
  have HA := Lib.hid hAs; clear hAs
  obtain ⟨A, c, rfl, _, _⟩ := id hs
  cases hloc : locOk name xs
  · rw [hloc] at HR
    go_enter Try.func14, Try.ntmps14
    go_wp2_with fail
    refine (l03Place_any name _ xs _ _ hn HA.out hl HZ.out).mono ?_
    rintro e w' ⟨rfl, rfl⟩
    rw [hloc]
    go_wp2_with fail
    go_ret
    exact ⟨ret_bool (by rw [← HR.out]; rfl), hba⟩
  · rw [hloc] at HR
    have he : value.toList.isEmpty = decide (value.size = 0) := by
      by_cases hz0 : value.size = 0
      · rw [empty_of hz0, decide_eq_true hz0]
      · rw [nonempty_of hz0, decide_eq_false hz0]
    have HE := Lib.hid he; clear he
    rcases eqForms kind 1 with ⟨a1, a2, a3⟩ | ⟨a1, a2, a3⟩
    · by_cases hv64 : value.size ≤ 64
      · go_enter Try.func14, Try.ntmps14
        go_wp2_with fail
        refine (l03Place_any name _ xs _ _ hn HA.out hl HZ.out).mono ?_
        rintro e w' ⟨rfl, rfl⟩
        rw [hloc]
        go_wp2_with fail
        go_ret
        refine ⟨ret_bool ?_, hba⟩
        rw [← HR.out]; simp [a3.out, hv64]
      · have b1 : (kind == 2) = false := by have := a3.out; simp; omega
        have b2 : (kind != 2) = true := by have := a3.out; simp; omega
        go_enter Try.func14, Try.ntmps14
        go_wp2_with fail
        refine (l03Place_any name _ xs _ _ hn HA.out hl HZ.out).mono ?_
        rintro e w' ⟨rfl, rfl⟩
        rw [hloc]
        go_wp2_with fail
        go_ret
        refine ⟨ret_bool ?_, hba⟩
        rw [← HR.out]; simp [a3.out, hv64]; omega
    · rcases eqForms kind 2 with ⟨b1, b2, b3⟩ | ⟨b1, b2, b3⟩
      · go_enter Try.func14, Try.ntmps14
        go_wp2_with fail
        refine (l03Place_any name _ xs _ _ hn HA.out hl HZ.out).mono ?_
        rintro e w' ⟨rfl, rfl⟩
        rw [hloc]
        go_wp2_with fail
        go_ret
        refine ⟨ret_bool ?_, hba⟩
        first
        | (rw [← HR.out, HE.out]; simp [b3.out])
        | (rw [← HR.out]; simp [b3.out, HE.out])
      · go_enter Try.func14, Try.ntmps14
        go_wp2_with fail
        refine (l03Place_any name _ xs _ _ hn HA.out hl HZ.out).mono ?_
        rintro e w' ⟨rfl, rfl⟩
        rw [hloc]
        go_wp2_with fail
        go_ret
        refine ⟨ret_bool ?_, hba⟩
        rw [← HR.out]; simp [a3.out, b3.out]

theorem ChangeV.four {w : World} {g : Nat} {x : ChangeV} (h : CellsAt w g x.cells.toList) : w.cell? ⟨g, 0, none⟩ = some (.int .i64 x.kind) ∧ w.cell? ⟨g, 1, none⟩ = some (.string x.name) ∧ w.cell? ⟨g, 2, none⟩ = some x.subsv ∧ w.cell? ⟨g, 3, none⟩ = some (.string x.value) :=
  ⟨h.2 0 _ rfl, h.2 1 _ rfl, h.2 2 _ rfl, h.2 3 _ rfl⟩

theorem ChangeV.ok_dat {x y : ChangeV} (h : x.dat = y.dat) (M : Nat) (hy : y.Ok M) : x.Ok M := by
  obtain ⟨a, b, c, d, e⟩ := x
  obtain ⟨a2, b2, c2, d2, e2⟩ := y
  simp only [ChangeV.dat, Prod.mk.injEq] at h
  obtain ⟨rfl, rfl, rfl, rfl⟩ := h
  exact hy

theorem changeOkB_dat {x y : ChangeV} (h : x.dat = y.dat) : changeOkB x = changeOkB y := by
  obtain ⟨a, b, c, d, e⟩ := x
  obtain ⟨a2, b2, c2, d2, e2⟩ := y
  simp only [ChangeV.dat, Prod.mk.injEq] at h
  obtain ⟨rfl, rfl, rfl, rfl⟩ := h
  rfl

set_option maxHeartbeats 1000000 in
set_option maxRecDepth 8000 in
theorem ChangeOk_walk (v : Value) (x : ChangeV) (w : World) (hv : v = .agg x.cells) (h : x.At w) (hok : x.Ok maxLen) : Calls Try.prog 4 #[v] w fun e w' => e = .returned (.bool true) ∧ Below w.heap.size w w' := by
  subst hv
  have C0 := Lib.hid (CellsAt.new w x.cells 33)
  have HB0 : Hid (Below w.heap.size w (w.alloc (.cells x.cells 33))) := Joins.below_alloc1 w _
  have A0 := Lib.hid (h.on HB0.out); clear h
  obtain ⟨kind, name, sv, xs, value⟩ := x
  have HOK := Lib.hid hok; clear hok
  simp only [ChangeV.cells]
  go_enter Try.func4, Try.ntmps4
  go_wp2_with fail
  refine (szChange_ex ⟨kind, name, sv, xs, value⟩ 1048576 _ A0.out (by omega) (by omega) HOK.out).mono ?_
  rintro e w1 ⟨⟨q, rfl, q1, q2, hq⟩, b1⟩
  have HQ := Lib.hid hq; clear hq HOK
  have C1 := Lib.hid (C0.out.below b1)
  have A1 := Lib.hid (A0.out.on b1)
  have HB1 := Lib.hid (below_trans HB0.out b1)
  clear C0 A0 HB0 b1
  by_cases q0 : q < 0
  · go_wp2_with fail
    go_ret
    exact ⟨rfl, HB1.out⟩
  have HOK := Lib.hid (HQ.out (by omega)); clear HQ
  obtain ⟨c0, c1, c2, c3⟩ := ChangeV.four C1.out
  go_wp2_with fail
  refine (toChange_any ⟨kind, name, sv, xs, value⟩ _ A1.out HOK.out).mono ?_
  rintro e w2 ⟨xa, rfl, HD, ho, b2⟩
  have C2 := Lib.hid (C1.out.below b2)
  have A2 := Lib.hid (A1.out.on b2)
  have HB2 := Lib.hid (below_trans HB1.out b2)
  have HAt := Lib.hid ho.at_
  have HOKa := Lib.hid (ChangeV.ok_dat HD.out _ HOK.out)
  have HE := Lib.hid (changeOkB_dat HD.out)
  clear C1 A1 HB1 b2 c0 c1 c2 c3 ho
  go_wp2_with fail
  refine (sChangeOk_any xa _ HAt.out HOKa.out).mono ?_
  rintro e w3 ⟨rfl, b3⟩
  rw [HE.out]
  have C3 := Lib.hid (C2.out.below b3)
  have A3 := Lib.hid (A2.out.on b3)
  have HB3 := Lib.hid (below_trans HB2.out b3)
  clear C2 A2 HB2 b3 HAt HOKa HE HD
  obtain ⟨c0, c1, c2, c3⟩ := ChangeV.four C3.out
  go_wp2_with fail
  refine (toChange_any ⟨kind, name, sv, xs, value⟩ _ A3.out HOK.out).mono ?_
  rintro e w4 ⟨xb, rfl, HD, ho, b4⟩
  have D0 := Lib.hid (CellsAt.new w4 xb.cells 36)
  have b4a : Below w4.heap.size w4 (w4.alloc (.cells xb.cells 36)) := Joins.below_alloc1 w4 _
  have b4' := below_trans b4 b4a
  have C4 := Lib.hid (C3.out.below b4')
  have A4 := Lib.hid (A3.out.on b4')
  have HB4 := Lib.hid (below_trans HB3.out b4')
  have HAt := Lib.hid (ho.at_.on b4a)
  have HOKb := Lib.hid (ChangeV.ok_dat HD.out _ HOK.out)
  have HE := Lib.hid (changeOkB_dat HD.out)
  clear C3 A3 HB3 b4 b4' b4a c0 c1 c2 c3 ho
  obtain ⟨kb, nb, sb, xsb, vb⟩ := xb
  obtain ⟨Ab, cb, hsb, _, _⟩ := id HAt.out.1
  replace hsb : sb = .slice Ab xsb.length cb := hsb
  subst hsb
  simp only [ChangeV.cells]
  go_wp2_with fail
  refine (ChangeOk_any ⟨kb, nb, _, xsb, vb⟩ _ HAt.out HOKb.out).mono ?_
  rintro e w5 ⟨rfl, b5⟩
  rw [HE.out]
  have C5 := Lib.hid (C4.out.below b5)
  have D5 := Lib.hid (D0.out.below b5)
  have A5 := Lib.hid (A4.out.on b5)
  have HB5 := Lib.hid (below_trans HB4.out b5)
  have HAt5 := Lib.hid (HAt.out.on b5)
  clear C4 A4 HB4 b5 HAt D0 HE
  obtain ⟨c0, c1, c2, c3⟩ := ChangeV.four C5.out
  obtain ⟨d0, d1, d2, d3⟩ := ChangeV.four D5.out
  go_wp2_with fail
  have A6 : Hid (ChangeV.At ⟨kind, name, sv, xs, value⟩ w5.drew) := A5.out
  have D6 : Hid (CellsAt w5.drew w4.heap.size (ChangeV.cells ⟨kb, nb, .slice Ab xsb.length cb, xsb, vb⟩).toList) := D5.out
  have E6 : Hid (ChangeV.At ⟨kb, nb, .slice Ab xsb.length cb, xsb, vb⟩ w5.drew) := HAt5.out
  have HB6 : Hid (Below w.heap.size w w5.drew) := HB5.out.drew
  go_region_with (first | (go_at_call 15; refine (toChange_any ⟨kind, name, sv, xs, value⟩ _ A6.out HOK.out).mono ?_; rintro e w6 ⟨xc, rfl, HDc, ho, b6⟩; have HD7 := Lib.hid (CellsAt.below D6.out b6); have HAx := Lib.hid (E6.out.on b6); have HAc := Lib.hid ho.at_; have HB7 := Lib.hid (below_trans HB6.out b6); obtain ⟨d0', d1', d2', d3'⟩ := ChangeV.four HD7.out; clear b6 ho) | (go_at_call 17; refine (eqChange_any ⟨kb, nb, .slice Ab xsb.length cb, xsb, vb⟩ xc _ HAx.out HAc.out HOKb.out).mono ?_; rintro e w7 ⟨rfl, b7⟩; rw [decide_eq_true (HD.out.trans HDc.out.symm)]))
  all_goals
    go_wp2_with fail
    go_ret
    exact ⟨rfl, below_trans HB7.out b7⟩

end Go.Proofs.Ytbmdjipkfabnhaa
