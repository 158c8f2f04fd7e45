/- SameEvents: an argument that is a list of events, opened; both sides; the walk of the law. -/
import Derived.Test.YtbmdjipkfabnhaaEventsS
namespace Go.Proofs.Ytbmdjipkfabnhaa
open Go.RowKit Go.ChangeShapes Go.WideShapes Go.ChangeAt Go.Deep
set_option linter.unusedVariables false

set_option maxRecDepth 20000 in
theorem open_events_trod {H : Type} {enc : TypeId × Value → H} {W : World} {v : Value} {fuel : Nat} {x : DataW H × List MemPlace}
    (hf : DataW.trod enc Try.prog W 0 (fun _ => true) true fuel 48 [v] = some x) : ∃ ns, EventsAt W v ns ∧ ns.length ≤ maxLen ∧ ∀ x ∈ ns, x.Ok maxLen := by
  rcases open_slice_fields Try.underlying48 Try.underlying79 (by kernel_rfl) (by kernel_rfl) hf with ⟨hcs, hx⟩ | ⟨a, len, cap, m, hcs, hl, hm, hmm, hi⟩
  · simp only [List.cons.injEq, and_true] at hcs
    subst hcs
    exact ⟨[], ⟨none, 0, rfl, Nat.le_refl _, fun h => absurd h (by simp)⟩, by simp, fun n hn => by cases hn⟩
  · simp only [List.cons.injEq, and_true] at hcs
    subst hcs
    have hml : len ≤ m := by rw [hmm]; simp; exact hl
    obtain ⟨ns, hlen, hns⟩ := list_of (fun i (n : EventV) => n.In W a i ∧ n.At W ∧ n.Ok maxLen) len (fun i hi' => by
      obtain ⟨n, hf⟩ := hi i (by omega)
      obtain ⟨v0, y0, c0, t0⟩ := hf 0 _ rfl
      obtain ⟨v1, y1, c1, t1⟩ := hf 1 _ rfl
      obtain ⟨v2, y2, c2, t2⟩ := hf 2 _ rfl
      obtain ⟨v3, y3, c3, t3⟩ := hf 3 _ rfl
      obtain ⟨v4, y4, c4, t4⟩ := hf 4 _ rfl
      obtain ⟨p, hp, _, _⟩ := DataW.trod_int Try.underlying2 t0
      obtain ⟨s, hs, _, hz⟩ := DataW.trod_string Try.underlying9 t1
      obtain ⟨xs, hx, hxl, hxz⟩ := strs_of_trod t2
      obtain ⟨s2, hs2, _, hz2⟩ := DataW.trod_string Try.underlying9 t3
      obtain ⟨q, hq, _, _⟩ := DataW.trod_int Try.underlying2 t4
      simp only [List.cons.injEq, and_true] at hp hs hs2 hq
      subst hp hs hs2 hq
      refine ⟨⟨p, s, v2, xs, s2, q⟩, fun j u hu => ?_, ⟨hx, trivial⟩, hz, ⟨hxl, hxz⟩, hz2, trivial⟩
      match j, hu with
      | 0, hu => simp [EventV.cells] at hu; subst hu; exact c0
      | 1, hu => simp [EventV.cells] at hu; subst hu; exact c1
      | 2, hu => simp [EventV.cells] at hu; subst hu; exact c2
      | 3, hu => simp [EventV.cells] at hu; subst hu; exact c3
      | 4, hu => simp [EventV.cells] at hu; subst hu; exact c4
      | j + 5, hu => rw [Array.getElem?_eq_none (by simp [EventV.cells])] at hu; cases hu)
    refine ⟨ns, ⟨some a, cap, by rw [hlen], by omega, fun hn => ⟨a, rfl, ?_, fun k h => ⟨(hns k h).1, (hns k h).2.1⟩⟩⟩, by omega, fun n hn => ?_⟩
    · have := lt_of_cell ((hns 0 hn).1 0 _ rfl)
      rwa [block_of_add] at this
    · obtain ⟨k, hk, rfl⟩ := List.getElem_of_mem hn
      exact (hns k hk).2.2

set_option maxRecDepth 20000 in
theorem open_eventsV {H : Type} {enc : TypeId × Value → H} {W : World} {base : Nat} {v : Value} {d : DataW H} {p : List MemPlace} (hk : Value.okWide Try.prog W .any base 48 v)
    (h : DataW.Trod enc Try.prog W 0 (fun _ => true) true 48 v d p) : ∃ ns : List EventV, EventsAt W v ns ∧ ns.length ≤ maxLen ∧ ∀ x ∈ ns, x.Ok maxLen := by
  obtain ⟨a0, len, cap, rfl⟩ := okWide_slice Try.underlying48 hk
  obtain ⟨fuel, hf⟩ := h
  exact open_events_trod hf

set_option maxRecDepth 8000 in
theorem sameEvent_any (x y : EventV) (w : World) (hx : x.At w) (hy : y.At w) (hok : x.Ok 1048576) :
    Calls Try.prog 58 #[.agg x.cells, .agg y.cells] w fun e w' => e = .returned (.bool (decide (x.dat = y.dat))) ∧ Below w.heap.size w w' := by
  obtain ⟨R, hR⟩ : ∃ R : Bool, decide (x.dat = y.dat) = R := ⟨_, rfl⟩
  rw [hR]
  have HR := Lib.hid hR; clear hR
  have hba : Below w.heap.size w ((w.alloc (.cells x.cells 80)).alloc (.cells y.cells 80)) := Joins.below_alloc2 w _ _
  have hX := hx.on hba
  have hY := hy.on hba
  obtain ⟨kind, name, subsv, subs, value, n⟩ := x
  obtain ⟨kind2, name2, subsV, subs2, value2, n2⟩ := y
  obtain ⟨hnname, ⟨hlsubs, hzsubs⟩, hnvalue, _⟩ := hok
  obtain ⟨hxsubs, _⟩ := hx
  obtain ⟨hysubs, _⟩ := hy
  obtain ⟨hXsubs, _⟩ := hX
  obtain ⟨hYsubs, _⟩ := hY
  simp only [EventV.cells] at *
  have HV : Hid (∀ b : Bool, (b = true ↔ kind = kind2 ∧ name = name2 ∧ subs = subs2 ∧ value = value2 ∧ n = n2) → R = b) := fun b hb => by
    rw [← HR.out]
    have e : (EventV.dat ⟨kind, name, subsv, subs, value, n⟩ = EventV.dat ⟨kind2, name2, subsV, subs2, value2, n2⟩) ↔ (kind = kind2 ∧ name = name2 ∧ subs = subs2 ∧ value = value2 ∧ n = n2) := by simp [EventV.dat]
    cases b
    · rw [decide_eq_false_iff_not, e]; exact fun h => by simpa using hb.2 h
    · rw [decide_eq_true_iff, e]; exact hb.1 rfl
  clear HR hzsubs
  have HX := Lib.hid hXsubs; clear hXsubs
  have HY := Lib.hid hYsubs; clear hYsubs
  obtain ⟨A, c, rfl, _, _⟩ := id hxsubs; clear hxsubs
  obtain ⟨A2, c2, rfl, _, _⟩ := id hysubs; clear hysubs
  rcases eqForms kind kind2 with ⟨k1, k2, HK⟩ | ⟨k1, k2, HK⟩
  rotate_left
  · go_enter Try.func58, Try.ntmps58
    go_wp2_with fail
    go_ret
    exact ⟨ret_bool (HV.out false (by simp [HK.out])).symm, hba⟩
  by_cases hn : name = name2
  rotate_left
  · have e1 : (name.toList == name2.toList) = false := by rw [ba_toList, ba_toList]; exact beq_eq_false_iff_ne.2 (fun h => hn (ba_ext h))
    go_enter Try.func58, Try.ntmps58
    go_wp2_with fail
    go_ret
    exact ⟨ret_bool (HV.out false (by simp [hn])).symm, hba⟩
  subst hn
  go_enter Try.func58, Try.ntmps58
  go_wp2_with fail
  refine (slicesEqual_any _ _ subs subs2 _ _ HX.out HY.out hlsubs).mono ?_
  rintro e w' ⟨rfl, m, rfl⟩
  have hbm := below_trans hba (below_drewN _ m)
  have HBM := Lib.hid hbm; clear hbm
  by_cases hs : subs = subs2
  rotate_left
  · rw [decide_eq_false hs]
    go_wp2_with fail
    go_ret
    exact ⟨ret_bool (HV.out false (by simp [hs])).symm, HBM.out⟩
  rw [decide_eq_true hs]
  have HS := Lib.hid hs; clear hs
  by_cases hv : value = value2
  rotate_left
  · have e1 : (value.toList == value2.toList) = false := by rw [ba_toList, ba_toList]; exact beq_eq_false_iff_ne.2 (fun h => hv (ba_ext h))
    go_wp2_with fail
    go_ret
    exact ⟨ret_bool (HV.out false (by simp [hv])).symm, HBM.out⟩
  subst hv
  rcases eqForms n n2 with ⟨m1, m2, HM⟩ | ⟨m1, m2, HM⟩
  · go_wp2_with fail
    go_ret
    exact ⟨ret_bool (HV.out true (by simp [HK.out, HS.out, HM.out])).symm, HBM.out⟩
  · go_wp2_with fail
    go_ret
    exact ⟨ret_bool (HV.out false (by simp [HM.out])).symm, HBM.out⟩

set_option maxHeartbeats 1000000 in
set_option maxRecDepth 8000 in
theorem EqualEvents_any (v v2 : Value) (ns ms : List EventV) (w : World) (h : EventsAt w v ns) (h2 : EventsAt w v2 ms) (hl : ns.length ≤ 1048576) (hok : ∀ x ∈ ns, x.Ok 1048576) :
    Calls Try.prog 57 #[v, v2, .func (.func 58) #[] #[]] w fun e w' => e = .returned (.bool (decide (ns.map EventV.dat = ms.map EventV.dat))) ∧ Below w.heap.size w w' := by
  obtain ⟨R, hR⟩ : ∃ R : Bool, decide (ns.map EventV.dat = ms.map EventV.dat) = R := ⟨_, rfl⟩
  rw [hR]
  have HR := Lib.hid hR; clear hR
  have H := Lib.hid h
  have H2 := Lib.hid h2
  obtain ⟨A, c, rfl, hc, _⟩ := h
  obtain ⟨A2, c2, rfl, hc2, _⟩ := h2
  have HOK := Lib.hid hok; clear hok
  rcases eqForms (ns.length : Int) (ms.length : Int) with ⟨e1, e2, e3⟩ | ⟨e1, e2, e3⟩
  · have hlen : ns.length = ms.length := by have := e3.out; omega
    have e4 : (ns.length == ms.length) = true := by simp [hlen]
    have e5 : (ns.length != ms.length) = false := by simp [hlen]
    have HL := Lib.hid hlen; clear hlen
    go_enter Try.func57, Try.ntmps57
    go_wp2
    go_loopw [17] (fun i wr => ∃ k : Nat, k ≤ ns.length ∧ i = .int .i64 k ∧ Hid (R = decide ((ns.drop k).map EventV.dat = (ms.drop k).map EventV.dat)) ∧ Below w.heap.size w wr) (fun i _ => ns.length - (intOf i).toNat)
    case atStart => exact ⟨0, Nat.zero_le _, rfl, by show _ = _; rw [List.drop_zero, List.drop_zero]; exact HR.out.symm, below_refl _⟩
    case round =>
      clear HR
      obtain ⟨k, hk, rfl, HI, hbel⟩ := hrel
      by_cases hlt : k < ns.length
      · have hlt2 : k < ms.length := by rw [← HL.out]; exact hlt
        obtain ⟨ad, rfl, hbl, hat, a0, a1, a2, a3, a4⟩ := (H.out.on hbel).get hlt
        have HX := Lib.hid (HOK.out _ (List.getElem_mem hlt))
        have HD := Lib.hid (List.drop_eq_getElem_cons hlt)
        have HD2 := Lib.hid (List.drop_eq_getElem_cons hlt2)
        have hb1 : Below w.heap.size w (wr.alloc (.cells ns[k].cells 80)) := hbel.alloc hbel.size _
        have hb1a : Below wr.heap.size wr (wr.alloc (.cells ns[k].cells 80)) := Joins.below_alloc1 wr _
        obtain ⟨ad2, rfl, hbl2, hat2, b0, b1, b2, b3, b4⟩ := (H2.out.on hb1).get hlt2
        have hb2a : Below (wr.alloc (.cells ns[k].cells 80)).heap.size (wr.alloc (.cells ns[k].cells 80)) ((wr.alloc (.cells ns[k].cells 80)).alloc (.cells ms[k].cells 80)) := Joins.below_alloc1 _ _
        have HA := Lib.hid ((hat.on hb1a).on hb2a)
        have HA2 := Lib.hid (hat2.on hb2a)
        have HB := Lib.hid (below_trans hb1 hb2a)
        have i0 : (0 : Int) ≤ k := by omega
        have i1 : (k : Int) < ns.length := by omega
        have i2 : (k : Int) < ms.length := by omega
        clear hb1 hb1a hb2a
        generalize ns[k] = x at *
        generalize ms[k] = y at *
        have HE := Lib.hid (fun W (h1 : x.At W) (h2 : y.At W) => sameEvent_any x y W h1 h2 HX.out)
        obtain ⟨D, hD⟩ : ∃ D : Bool, decide (x.dat = y.dat) = D := ⟨_, rfl⟩
        rw [hD] at HE
        have HDD := Lib.hid hD; clear hD
        obtain ⟨kind, name, sv, xs, value, n⟩ := x
        obtain ⟨kind2, name2, sv2, xs2, value2, n2⟩ := y
        obtain ⟨Ax, cx, hsx, _, _⟩ := id hat.1
        replace hsx : sv = .slice Ax xs.length cx := hsx
        subst hsx
        obtain ⟨Ay, cy, hsy, _, _⟩ := id hat2.1
        replace hsy : sv2 = .slice Ay xs2.length cy := hsy
        subst hsy
        clear hat hat2
        simp only [EventV.cells] at *
        go_wp2_with fail
        refine (HE.out _ HA.out HA2.out).mono ?_
        rintro e w6 ⟨rfl, b6⟩
        have HB6 := Lib.hid (below_trans HB.out b6)
        cases D
        · go_wp2_with fail
          go_ret
          refine ⟨ret_bool ?_, HB6.out⟩
          rw [HI.out, HD.out, HD2.out]
          symm
          rw [decide_eq_false_iff_not]
          intro e
          rw [List.map_cons, List.map_cons, List.cons.injEq] at e
          have := HDD.out
          rw [decide_eq_true e.1] at this
          cases this
        · go_wp2_with fail
          refine ⟨⟨k + 1, by omega, by go_num, ?_, HB6.out⟩, by simp [intOf]; omega⟩
          show _ = _
          have hd := of_decide_eq_true HDD.out
          rw [HI.out, HD.out, HD2.out, List.map_cons, List.map_cons, decide_eq_decide, List.cons.injEq]
          exact ⟨fun h => h.2, fun h => ⟨hd, h⟩⟩
      · go_wp2
        go_ret
        refine ⟨ret_bool ?_, hbel⟩
        have := HL.out
        rw [HI.out, List.drop_eq_nil_of_le (by omega), List.drop_eq_nil_of_le (by omega)]; simp
  · have HL : Hid (R = false) := by
      show _ = _
      rw [← HR.out, decide_eq_false_iff_not]
      intro e; exact e3.out (by rw [dat_len e])
    have e4 : (ns.length == ms.length) = false := by have := e3.out; simp; omega
    have e5 : (ns.length != ms.length) = true := by have := e3.out; simp; omega
    go_enter Try.func57, Try.ntmps57
    go_wp2
    go_ret
    exact ⟨ret_bool HL.out.symm, below_refl _⟩

theorem SameEvents_any (v v2 : Value) (ns ms : List EventV) (w : World) (h : EventsAt w v ns) (h2 : EventsAt w v2 ms) (hl : ns.length ≤ 1048576) (hok : ∀ x ∈ ns, x.Ok 1048576) :
    Calls Try.prog 26 #[v, v2] w fun e w' => e = .returned (.bool (decide (ns.map EventV.dat = ms.map EventV.dat))) ∧ Below w.heap.size w w' := by
  have HE := Lib.hid (EqualEvents_any _ _ ns ms _ h h2 hl hok)
  clear hok
  generalize decide (ns.map EventV.dat = ms.map EventV.dat) = R at *
  go_enter Try.func26, Try.ntmps26
  go_wp2_with fail
  refine HE.out.mono ?_
  rintro e w1 ⟨rfl, b1⟩
  go_wp2_with fail
  go_ret
  exact ⟨rfl, b1⟩

set_option maxHeartbeats 4000000 in
set_option maxRecDepth 8000 in
theorem l11Same_any (v v2 : Value) (ns ms : List EventV) (w : World) (h : EventsAt w v ns) (h2 : EventsAt w v2 ms) (hl : ns.length ≤ 1048576) (hok : ∀ x ∈ ns, x.Ok 1048576) :
    Calls Try.prog 55 #[v, v2] w fun e w' => e = .returned (.bool (decide (ns.map EventV.dat = ms.map EventV.dat))) ∧ ∃ n, w' = w.drewN n := by
  obtain ⟨R, hR⟩ : ∃ R : Bool, decide (ns.map EventV.dat = ms.map EventV.dat) = R := ⟨_, rfl⟩
  rw [hR]
  have HR := Lib.hid hR; clear hR
  have H := Lib.hid h
  have H2 := Lib.hid h2
  obtain ⟨A, c, rfl, hc, _⟩ := h
  obtain ⟨A2, c2, rfl, hc2, _⟩ := h2
  have HOK := Lib.hid hok; clear hok
  rcases eqForms (ns.length : Int) (ms.length : Int) with ⟨e1, e2, e3⟩ | ⟨e1, e2, e3⟩
  · have hlen : ns.length = ms.length := by have := e3.out; omega
    have e4 : (ns.length == ms.length) = true := by simp [hlen]
    have e5 : (ns.length != ms.length) = false := by simp [hlen]
    have HL := Lib.hid hlen; clear hlen
    go_enter Try.func55, Try.ntmps55
    go_wp2
    go_loopw [5] (fun i wr => ∃ k m : Nat, k ≤ ns.length ∧ i = .int .i64 k ∧ Hid (R = decide ((ns.drop k).map EventV.dat = (ms.drop k).map EventV.dat)) ∧ wr = w.drewN m) (fun i _ => ns.length - (intOf i).toNat)
    case atStart => exact ⟨0, 0, Nat.zero_le _, rfl, by show _ = _; rw [List.drop_zero, List.drop_zero]; exact HR.out.symm, rfl⟩
    case round =>
      clear HR
      obtain ⟨k, m, hk, rfl, HI, hwr⟩ := hrel
      have HW := Lib.hid hwr
      have hbel : Below w.heap.size w wr := by rw [hwr]; exact below_drewN w m
      clear hwr
      by_cases hlt : k < ns.length
      · have hlt2 : k < ms.length := by rw [← HL.out]; exact hlt
        obtain ⟨ad, rfl, hbl, hat, a0, a1, a2, a3, a4⟩ := (H.out.on hbel).get hlt
        obtain ⟨ad2, rfl, hbl2, hat2, b0, b1, b2, b3, b4⟩ := (H2.out.on hbel).get hlt2
        have HX := Lib.hid (HOK.out _ (List.getElem_mem hlt))
        have HD := Lib.hid (List.drop_eq_getElem_cons hlt)
        have HD2 := Lib.hid (List.drop_eq_getElem_cons hlt2)
        have i0 : (0 : Int) ≤ k := by omega
        have i1 : (k : Int) < ns.length := by omega
        have i2 : (k : Int) < ms.length := by omega
        generalize ns[k] = x at *
        generalize ms[k] = y at *
        obtain ⟨kind, name, sv, xs, value, n⟩ := x
        obtain ⟨kind2, name2, sv2, xs2, value2, n2⟩ := y
        simp only at a0 a1 a2 a3 a4 b0 b1 b2 b3 b4
        have HS0 := Lib.hid (fun W (h1 : StrsAt W W.heap.size sv xs) (h2 : StrsAt W W.heap.size sv2 xs2) => l02Same_any sv sv2 xs xs2 W _ h1 h2 HX.out.2.1.1)
        have HA1 : Hid (∀ q, StrsAt (wr.drewN q) (wr.drewN q).heap.size sv xs) := fun q => hat.1
        have HA2 : Hid (∀ q, StrsAt (wr.drewN q) (wr.drewN q).heap.size sv2 xs2) := fun q => hat2.1
        clear hat hat2
        have HFIN : Hid (kind = kind2 → name = name2 → xs = xs2 → value = value2 → n = n2 → R = decide ((ns.drop (k + 1)).map EventV.dat = (ms.drop (k + 1)).map EventV.dat)) := fun q1 q2 q3 q4 q5 => by
          rw [HI.out, HD.out, HD2.out, List.map_cons, List.map_cons, decide_eq_decide, List.cons.injEq]
          exact ⟨fun h => h.2, fun h => ⟨by simp [EventV.dat, q1, q2, q3, q4, q5], h⟩⟩
        rcases eqForms kind kind2 with ⟨k1, k2, HK⟩ | ⟨k1, k2, HK⟩
        rotate_left
        · go_wp2_with fail
          go_quiet (fail)
          go_wp2_with fail
          go_ret
          refine ⟨ret_bool ?_, _, by rw [HW.out, World.drewN_drewN]⟩
          rw [HI.out, HD.out, HD2.out, List.map_cons, List.map_cons]
          symm
          rw [decide_eq_false_iff_not, List.cons.injEq]
          intro e
          have e := e.1
          simp only [EventV.dat, Prod.mk.injEq] at e
          exact HK.out e.1
        by_cases hn : name = name2
        rotate_left
        · have f1 : (name.toList == name2.toList) = false := by rw [ba_toList, ba_toList]; exact beq_eq_false_iff_ne.2 (fun h => hn (ba_ext h))
          have HNN := Lib.hid hn; clear hn
          go_wp2_with fail
          go_quiet (fail)
          go_wp2_with fail
          go_ret
          refine ⟨ret_bool ?_, _, by rw [HW.out, World.drewN_drewN]⟩
          rw [HI.out, HD.out, HD2.out, List.map_cons, List.map_cons]
          symm
          rw [decide_eq_false_iff_not, List.cons.injEq]
          intro e
          have e := e.1
          simp only [EventV.dat, Prod.mk.injEq] at e
          exact HNN.out e.2.1
        have HN := Lib.hid hn
        have f1 : (name.toList == name2.toList) = true := by rw [hn]; simp
        clear hn
        by_cases hs : xs = xs2
        rotate_left
        · have HSS := Lib.hid hs
          have HSM : Hid (∀ q, Calls Try.prog 76 #[sv, sv2] (wr.drewN q) fun e w' => e = .returned (.bool false) ∧ ∃ m, w' = (wr.drewN q).drewN m) := fun q => by
            have := HS0.out (wr.drewN q) (HA1.out q) (HA2.out q)
            rw [decide_eq_false hs] at this
            exact this
          clear hs
          go_wp2_with fail
          go_quiet ((go_at_call 76; exact Calls.quiet_of (HSM.out _)))
          go_wp2_with fail
          go_ret
          refine ⟨ret_bool ?_, _, by rw [HW.out, World.drewN_drewN]⟩
          rw [HI.out, HD.out, HD2.out, List.map_cons, List.map_cons]
          symm
          rw [decide_eq_false_iff_not, List.cons.injEq]
          intro e
          have e := e.1
          simp only [EventV.dat, Prod.mk.injEq] at e
          exact HSS.out e.2.2.1
        have HSM : Hid (∀ q, Calls Try.prog 76 #[sv, sv2] (wr.drewN q) fun e w' => e = .returned (.bool true) ∧ ∃ m, w' = (wr.drewN q).drewN m) := fun q => by
          have := HS0.out (wr.drewN q) (HA1.out q) (HA2.out q)
          rw [decide_eq_true hs] at this
          exact this
        have HS := Lib.hid hs
        clear hs
        by_cases hv : value = value2
        rotate_left
        · have f2 : (value.toList == value2.toList) = false := by rw [ba_toList, ba_toList]; exact beq_eq_false_iff_ne.2 (fun h => hv (ba_ext h))
          have HVV := Lib.hid hv; clear hv
          go_wp2_with fail
          go_quiet ((go_at_call 76; exact Calls.quiet_of (HSM.out _)))
          go_wp2_with fail
          go_ret
          refine ⟨ret_bool ?_, _, by rw [HW.out, World.drewN_drewN]⟩
          rw [HI.out, HD.out, HD2.out, List.map_cons, List.map_cons]
          symm
          rw [decide_eq_false_iff_not, List.cons.injEq]
          intro e
          have e := e.1
          simp only [EventV.dat, Prod.mk.injEq] at e
          exact HVV.out e.2.2.2.1
        have HV := Lib.hid hv
        have f2 : (value.toList == value2.toList) = true := by rw [hv]; simp
        clear hv
        rcases eqForms n n2 with ⟨m1, m2, HM⟩ | ⟨m1, m2, HM⟩
        rotate_left
        · go_wp2_with fail
          go_quiet ((go_at_call 76; exact Calls.quiet_of (HSM.out _)))
          go_wp2_with fail
          go_ret
          refine ⟨ret_bool ?_, _, by rw [HW.out, World.drewN_drewN]⟩
          rw [HI.out, HD.out, HD2.out, List.map_cons, List.map_cons]
          symm
          rw [decide_eq_false_iff_not, List.cons.injEq]
          intro e
          have e := e.1
          simp only [EventV.dat, Prod.mk.injEq] at e
          exact HM.out e.2.2.2.2
        go_wp2_with fail
        go_quiet ((go_at_call 76; exact Calls.quiet_of (HSM.out _)))
        go_wp2_with fail
        exact ⟨⟨k + 1, _, by omega, by go_num, HFIN.out HK.out HN.out HS.out HV.out HM.out, by rw [HW.out, World.drewN_drewN]⟩, by simp [intOf]; omega⟩
      · go_wp2
        go_ret
        refine ⟨ret_bool ?_, m, HW.out⟩
        have := HL.out
        rw [HI.out, List.drop_eq_nil_of_le (by omega), List.drop_eq_nil_of_le (by omega)]; simp
  · have HL : Hid (R = false) := by
      show _ = _
      rw [← HR.out, decide_eq_false_iff_not]
      intro e; exact e3.out (by rw [dat_len e])
    have e4 : (ns.length == ms.length) = false := by have := e3.out; simp; omega
    have e5 : (ns.length != ms.length) = true := by have := e3.out; simp; omega
    go_enter Try.func55, Try.ntmps55
    go_wp2
    go_ret
    exact ⟨ret_bool HL.out.symm, 0, rfl⟩

theorem toEvents_at (v : Value) (ns : List EventV) (w : World) (h : EventsAt w v ns) (hl : ns.length ≤ 1048576) (hok : ∀ x ∈ ns, x.Ok 1048576) :
    Calls Try.prog 25 #[v] w fun e w' => ∃ v' xs, e = .returned v' ∧ Hid (xs.map EventV.dat = ns.map EventV.dat) ∧ EventsAt w' v' xs ∧ Below w.heap.size w w' :=
  (toEventS_any v ns w h hl hok).mono fun e w' ⟨xs, he, hd, ho, hb⟩ => ⟨_, xs, he, hd, ho.at_ (dat_len hd.out) (Nat.le_refl _), hb⟩

set_option maxHeartbeats 1000000 in
set_option maxRecDepth 8000 in
theorem SameEvents_walk (v0 : Value) (ns : List EventV) (v1 : Value) (ms : List EventV) (w : World) (h0 : EventsAt w v0 ns) (k0 : ns.length ≤ maxLen ∧ ∀ n ∈ ns, n.Ok maxLen) (h1 : EventsAt w v1 ms) (k1 : ms.length ≤ maxLen ∧ ∀ n ∈ ms, n.Ok maxLen) :
    Calls Try.prog 6 #[v0, v1] w fun e w' => e = .returned (.bool true) ∧ Below w.heap.size w w' := by
  obtain ⟨la, oa⟩ := k0
  obtain ⟨lb, ob⟩ := k1
  unfold maxLen at la lb
  have OA := Lib.hid oa; have OB := Lib.hid ob; clear oa ob
  obtain ⟨D, hD⟩ : ∃ D : Bool, decide (ns.map EventV.dat = ms.map EventV.dat) = D := ⟨_, rfl⟩
  have HDD := Lib.hid hD; clear hD
  have A0 := Lib.hid h0; have B0 := Lib.hid h1; clear h0 h1
  go_enter Try.func6, Try.ntmps6
  go_wp2_with fail
  refine (szEventS_ex v0 ns 1048576 _ A0.out (by omega) (by omega) la OA.out).mono ?_
  rintro e w1 ⟨⟨q, rfl, q1, q2, hq⟩, b1⟩
  have HQ := Lib.hid hq; clear hq
  have A1 := Lib.hid (A0.out.on b1); have B1 := Lib.hid (B0.out.on b1); have T1 := Lib.hid b1
  clear A0 B0 b1
  by_cases q0 : q < 0
  · go_wp2_with fail
    go_ret
    exact ⟨rfl, T1.out⟩
  have KA := Lib.hid (HQ.out (by omega)).2
  have sa := (HQ.out (by omega)).1
  clear HQ OA
  go_wp2_with fail
  refine (szEventS_ex v1 ms q _ B1.out (by omega) (by omega) lb OB.out).mono ?_
  rintro e w2 ⟨⟨p, rfl, p1, p2, hp⟩, b2⟩
  have HP := Lib.hid hp; clear hp
  have A2 := Lib.hid (A1.out.on b2); have B2 := Lib.hid (B1.out.on b2); have T2 := Lib.hid (below_trans T1.out b2)
  clear A1 B1 T1 b2
  by_cases p0 : p < 0
  · go_wp2_with fail
    go_ret
    exact ⟨rfl, T2.out⟩
  have KB := Lib.hid (HP.out (by omega)).2
  have sb := (HP.out (by omega)).1
  clear HP OB
  go_wp2_with fail
  refine (toEvents_at v0 ns _ A2.out sa KA.out).mono ?_
  rintro e w3 ⟨va, xs, rfl, HX, hx, b3⟩
  have A3 := Lib.hid (A2.out.on b3); have B3 := Lib.hid (B2.out.on b3); have T3 := Lib.hid (below_trans T2.out b3)
  have X3 := Lib.hid hx
  clear A2 B2 T2 b3 hx
  go_wp2_with fail
  refine (toEvents_at v1 ms _ B3.out sb KB.out).mono ?_
  rintro e w4 ⟨vb, ys, rfl, HY, hy, b4⟩
  have A4 := Lib.hid (A3.out.on b4); have B4 := Lib.hid (B3.out.on b4); have T4 := Lib.hid (below_trans T3.out b4)
  have X4 := Lib.hid (X3.out.on b4); have Y4 := Lib.hid hy
  clear A3 B3 T3 X3 b4 hy
  go_wp2_with (go_at_call 24; go_in)
  have HSP := Lib.hid (l11Same_any va vb xs ys _ X4.out Y4.out (by rw [dat_len HX.out]; exact sa) (oks_dat HX.out _ KA.out))
  rw [HX.out, HY.out, HDD.out] at HSP
  refine HSP.out.mono ?_
  rintro e w5 ⟨rfl, m5, hw5⟩
  have b5 : Below w4.heap.size w4 w5 := by rw [hw5]; exact below_drewN _ _
  clear hw5
  have A5 := Lib.hid (A4.out.on b5); have B5 := Lib.hid (B4.out.on b5); have T5 := Lib.hid (below_trans T4.out b5)
  clear A4 B4 T4 X4 Y4 b5 HSP HX HY
  go_wp2_with fail
  refine (toEvents_at v0 ns _ A5.out sa KA.out).mono ?_
  rintro e w6 ⟨x0, us, rfl, HU, hu, b6⟩
  have A6 := Lib.hid (A5.out.on b6); have B6 := Lib.hid (B5.out.on b6); have T6 := Lib.hid (below_trans T5.out b6)
  have U6 := Lib.hid hu
  clear A5 B5 T5 b6 hu
  go_wp2_with fail
  refine (toEvents_at v1 ms _ B6.out sb KB.out).mono ?_
  rintro e w7 ⟨x1, zs, rfl, HZ, hz, b7⟩
  have A7 := Lib.hid (A6.out.on b7); have B7 := Lib.hid (B6.out.on b7); have T7 := Lib.hid (below_trans T6.out b7)
  have U7 := Lib.hid (U6.out.on b7); have Z7 := Lib.hid hz
  clear A6 B6 T6 U6 b7 hz
  go_wp2_with fail
  have HSM := Lib.hid (SameEvents_any x0 x1 us zs _ U7.out Z7.out (by rw [dat_len HU.out]; exact sa) (oks_dat HU.out _ KA.out))
  rw [HU.out, HZ.out, HDD.out] at HSM
  refine HSM.out.mono ?_
  rintro e w8 ⟨rfl, b8⟩
  have A8 := Lib.hid (A7.out.on b8); have B8 := Lib.hid (B7.out.on b8); have T8 := Lib.hid (below_trans T7.out b8)
  have U8 := Lib.hid (U7.out.on b8); have Z8 := Lib.hid (Z7.out.on b8)
  clear A7 B7 T7 U7 Z7 b8 HSM
  go_wp2_with fail
  refine (toEvents_at v0 ns _ A8.out sa KA.out).mono ?_
  rintro e w9 ⟨y0, ts, rfl, HTS, ht, b9⟩
  have B9 := Lib.hid (B8.out.on b9); have T9 := Lib.hid (below_trans T8.out b9)
  have U9 := Lib.hid (U8.out.on b9); have Z9 := Lib.hid (Z8.out.on b9); have R9 := Lib.hid ht
  clear A8 B8 T8 U8 Z8 b9 ht
  go_wp2_with fail
  refine (eqEventS_any x0 y0 us ts _ U9.out R9.out (by rw [dat_len HU.out]; exact sa) (oks_dat HU.out _ KA.out)).mono ?_
  rintro e wa ⟨rfl, ba⟩
  rw [decide_eq_true (HU.out.trans HTS.out.symm)]
  have Ba := Lib.hid (B9.out.on ba); have Ta := Lib.hid (below_trans T9.out ba); have Za := Lib.hid (Z9.out.on ba)
  clear B9 T9 U9 Z9 R9 ba
  go_wp2_with fail
  refine (toEvents_at v1 ms _ Ba.out sb KB.out).mono ?_
  rintro e wb ⟨y1, rs, rfl, HRS, hr, bb⟩
  have Tb := Lib.hid (below_trans Ta.out bb); have Zb := Lib.hid (Za.out.on bb); have Rb := Lib.hid hr
  clear Ba Ta Za bb hr
  go_wp2_with fail
  refine (eqEventS_any x1 y1 zs rs _ Zb.out Rb.out (by rw [dat_len HZ.out]; exact sb) (oks_dat HZ.out _ KB.out)).mono ?_
  rintro e wc ⟨rfl, bc⟩
  rw [decide_eq_true (HZ.out.trans HRS.out.symm)]
  go_wp2_with fail
  go_ret
  exact ⟨rfl, below_trans Tb.out bc⟩

end Go.Proofs.Ytbmdjipkfabnhaa
