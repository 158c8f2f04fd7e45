/- EventOk: spec's count. -/
import Derived.Test.YtjfdlbbfodomeaaGreatDoorEventOk3
namespace Go.Proofs.YtjfdlbbfodomeaaGreatDoor
open Go.RowKit Go.ChangeShapes Go.WideShapes Go.ChangeAt Go.Deep
set_option linter.unusedVariables false

theorem l00InB_any (n a b : Int) (w : World) : Calls Tryz.prog 94 #[.int .i64 n, .int .i64 a, .int .i64 b] w fun e w' => e = .returned (.bool (inB3 n a b)) ∧ w = w' := l00In_any n a b w

def kntK (k : Int) (C N1 G K P R : Bool) : Bool :=
  if k = 1 then C else if k = 4 then C else if k = 5 then N1 else if k = 6 then G else if k = 9 then K else if k = 13 then P else if k = 15 then R else true

def kntB (x : EventV) : Bool := kntK x.kind (cntB x.n) ((x.n == 1) || (x.n == -1)) (((x.n == 1) && (getB x.value.data.toList).isSome) || ((x.n == 0) && empB x.value)) (inB3 x.n (-1) 1 && (empB x.value || (whB x.value && decide (0 ≤ x.n)))) (inB3 x.n 0 999999999999) (inB3 x.n 1 17)

set_option maxHeartbeats 2000000 in
set_option maxRecDepth 20000 in
theorem l11Count_1 (x : EventV) (w : World) (h : x.At w) (hok : x.Ok 1048576) (hk : x.kind = 1) : Calls Tryz.prog 137 #[.agg x.cells] w fun e w' => e = .returned (.bool (kntB x)) ∧ Below w.heap.size w w' := by
  have hba : Below w.heap.size w (w.alloc (.cells x.cells 53)) := Joins.below_alloc1 w _
  have HCX := Lib.hid (CellsAt.new w x.cells 53)
  have HEV : Hid (kntB x = cntB x.n) := by
    show _ = _
    unfold kntB; rw [hk]; rfl
  obtain ⟨kind, name, sv, xs, value, n⟩ := x
  obtain ⟨hn, ⟨hl, hz⟩, hv, _⟩ := hok
  clear hz
  obtain ⟨hs, _⟩ := h
  simp only [EventV.cells] at *
  obtain ⟨A, c, rfl, _, _⟩ := id hs
  clear hs
  subst hk
  have H1 : Hid (Calls Tryz.prog 164 #[.slice (some ⟨w.heap.size + 1, 0, none⟩) 4 4, .int .i64 n] ((w.alloc (.cells #[.int .i64 1, .string name, .slice A xs.length c, .string value, .int .i64 n] 53)).alloc (.cells #[.int .i64 0, .int .i64 1, .int .i64 10, .int .i64 11] 2)) fun e w' => e = .returned (.bool (cntB n)) ∧ (w.alloc (.cells #[.int .i64 1, .string name, .slice A xs.length c, .string value, .int .i64 n] 53)).alloc (.cells #[.int .i64 0, .int .i64 1, .int .i64 10, .int .i64 11] 2) = w') := by
    have h := has4_at n (w.alloc (.cells #[.int .i64 1, .string name, .slice A xs.length c, .string value, .int .i64 n] 53))
    rw [show (w.alloc (.cells #[.int .i64 1, .string name, .slice A xs.length c, .string value, .int .i64 n] 53)).heap.size = w.heap.size + 1 by simp] at h
    exact h
  go_enter Tryz.func137, Tryz.ntmps137
  go_wp2_with fail
  refine H1.out.mono ?_
  rintro e w1 ⟨rfl, rfl⟩
  go_wp2_with fail
  go_ret
  exact ⟨ret_bool (HEV.out.symm), Joins.below_alloc2 w _ _⟩

set_option maxHeartbeats 2000000 in
set_option maxRecDepth 20000 in
theorem l11Count_4 (x : EventV) (w : World) (h : x.At w) (hok : x.Ok 1048576) (hk : x.kind = 4) : Calls Tryz.prog 137 #[.agg x.cells] w fun e w' => e = .returned (.bool (kntB x)) ∧ Below w.heap.size w w' := by
  have hba : Below w.heap.size w (w.alloc (.cells x.cells 53)) := Joins.below_alloc1 w _
  have HCX := Lib.hid (CellsAt.new w x.cells 53)
  have HEV : Hid (kntB x = cntB x.n) := by
    show _ = _
    unfold kntB; rw [hk]; rfl
  obtain ⟨kind, name, sv, xs, value, n⟩ := x
  obtain ⟨hn, ⟨hl, hz⟩, hv, _⟩ := hok
  clear hz
  obtain ⟨hs, _⟩ := h
  simp only [EventV.cells] at *
  obtain ⟨A, c, rfl, _, _⟩ := id hs
  clear hs
  subst hk
  have H1 : Hid (Calls Tryz.prog 164 #[.slice (some ⟨w.heap.size + 1, 0, none⟩) 4 4, .int .i64 n] ((w.alloc (.cells #[.int .i64 4, .string name, .slice A xs.length c, .string value, .int .i64 n] 53)).alloc (.cells #[.int .i64 0, .int .i64 1, .int .i64 10, .int .i64 11] 2)) fun e w' => e = .returned (.bool (cntB n)) ∧ (w.alloc (.cells #[.int .i64 4, .string name, .slice A xs.length c, .string value, .int .i64 n] 53)).alloc (.cells #[.int .i64 0, .int .i64 1, .int .i64 10, .int .i64 11] 2) = w') := by
    have h := has4_at n (w.alloc (.cells #[.int .i64 4, .string name, .slice A xs.length c, .string value, .int .i64 n] 53))
    rw [show (w.alloc (.cells #[.int .i64 4, .string name, .slice A xs.length c, .string value, .int .i64 n] 53)).heap.size = w.heap.size + 1 by simp] at h
    exact h
  go_enter Tryz.func137, Tryz.ntmps137
  go_wp2_with fail
  refine H1.out.mono ?_
  rintro e w1 ⟨rfl, rfl⟩
  go_wp2_with fail
  go_ret
  exact ⟨ret_bool (HEV.out.symm), Joins.below_alloc2 w _ _⟩

set_option maxHeartbeats 2000000 in
set_option maxRecDepth 20000 in
theorem l11Count_5 (x : EventV) (w : World) (h : x.At w) (hok : x.Ok 1048576) (hk : x.kind = 5) : Calls Tryz.prog 137 #[.agg x.cells] w fun e w' => e = .returned (.bool (kntB x)) ∧ Below w.heap.size w w' := by
  have hba : Below w.heap.size w (w.alloc (.cells x.cells 53)) := Joins.below_alloc1 w _
  have HCX := Lib.hid (CellsAt.new w x.cells 53)
  have HEV : Hid (kntB x = ((x.n == 1) || (x.n == -1))) := by
    show _ = _
    unfold kntB; rw [hk]; rfl
  obtain ⟨kind, name, sv, xs, value, n⟩ := x
  obtain ⟨hn, ⟨hl, hz⟩, hv, _⟩ := hok
  clear hz
  obtain ⟨hs, _⟩ := h
  simp only [EventV.cells] at *
  obtain ⟨A, c, rfl, _, _⟩ := id hs
  clear hs
  subst hk
  rcases eqForms n 1 with ⟨a1, a2, a3⟩ | ⟨a1, a2, a3⟩
  all_goals
    rw [a1] at HEV
    go_enter Tryz.func137, Tryz.ntmps137
    go_wp2_with fail
    go_ret
    exact ⟨ret_bool (by rw [HEV.out]; simp), hba⟩

set_option maxHeartbeats 2000000 in
set_option maxRecDepth 20000 in
theorem l11Count_6 (x : EventV) (w : World) (h : x.At w) (hok : x.Ok 1048576) (hk : x.kind = 6) : Calls Tryz.prog 137 #[.agg x.cells] w fun e w' => e = .returned (.bool (kntB x)) ∧ Below w.heap.size w w' := by
  have hba : Below w.heap.size w (w.alloc (.cells x.cells 53)) := Joins.below_alloc1 w _
  have HCX := Lib.hid (CellsAt.new w x.cells 53)
  have HEV : Hid (kntB x = (((x.n == 1) && (getB x.value.data.toList).isSome) || ((x.n == 0) && empB x.value))) := by
    show _ = _
    unfold kntB; rw [hk]; rfl
  obtain ⟨kind, name, sv, xs, value, n⟩ := x
  obtain ⟨hn, ⟨hl, hz⟩, hv, _⟩ := hok
  clear hz
  obtain ⟨hs, _⟩ := h
  simp only [EventV.cells] at *
  obtain ⟨A, c, rfl, _, _⟩ := id hs
  clear hs
  subst hk
  have H0 : Hid (kntB ⟨6, name, .slice A xs.length c, xs, value, n⟩ = (((n == 1) && (getB value.data.toList).isSome) || ((n == 0) && empB value))) := HEV
  clear HEV
  obtain ⟨G, hG⟩ : ∃ G : Bool, (getB value.data.toList).isSome = G := ⟨_, rfl⟩
  rw [hG] at H0
  have HG := Lib.hid hG; clear hG
  go_enter Tryz.func137, Tryz.ntmps137
  go_wp2_with fail
  refine (sGetSubs_any value _ hv).mono ?_
  rintro e w2 ⟨⟨v2, rfl, _⟩, b2⟩
  rw [HG.out]
  have B2 := Lib.hid (below_trans hba b2)
  have hc := HCX.out.below b2
  have c3 : w2.cell? ⟨w.heap.size, 3, none⟩ = some (.string value) := hc.2 3 _ rfl
  have c4 : w2.cell? ⟨w.heap.size, 4, none⟩ = some (.int .i64 n) := hc.2 4 _ rfl
  clear b2 hc HCX
  rcases eqForms n 1 with ⟨a1, a2, a3⟩ | ⟨a1, a2, a3⟩
  · have z1 : (n == 0) = false := by have := a3.out; simp; omega
    cases G
    all_goals
      go_wp2_with fail
      go_ret
      exact ⟨ret_bool (by rw [H0.out, a1, z1]; rfl), B2.out⟩
  · rcases eqForms n 0 with ⟨d1, d2, d3⟩ | ⟨d1, d2, d3⟩
    · rcases emptyForms value with ⟨v1, v2, v3, v4⟩ | ⟨v1, v2, v3, v4⟩
      all_goals
        go_wp2_with fail
        go_ret
        exact ⟨ret_bool (by rw [H0.out, a1, d1]; unfold empB; rw [v4.out]; simp), B2.out⟩
    · go_wp2_with fail
      go_ret
      exact ⟨ret_bool (by rw [H0.out, a1, d1]; simp), B2.out⟩

set_option maxHeartbeats 2000000 in
set_option maxRecDepth 20000 in
theorem l11Count_9 (x : EventV) (w : World) (h : x.At w) (hok : x.Ok 1048576) (hk : x.kind = 9) : Calls Tryz.prog 137 #[.agg x.cells] w fun e w' => e = .returned (.bool (kntB x)) ∧ Below w.heap.size w w' := by
  have hba : Below w.heap.size w (w.alloc (.cells x.cells 53)) := Joins.below_alloc1 w _
  have HCX := Lib.hid (CellsAt.new w x.cells 53)
  have HEV : Hid (kntB x = (inB3 x.n (-1) 1 && (empB x.value || (whB x.value && decide (0 ≤ x.n))))) := by
    show _ = _
    unfold kntB; rw [hk]; rfl
  obtain ⟨kind, name, sv, xs, value, n⟩ := x
  obtain ⟨hn, ⟨hl, hz⟩, hv, _⟩ := hok
  clear hz
  obtain ⟨hs, _⟩ := h
  simp only [EventV.cells] at *
  obtain ⟨A, c, rfl, _, _⟩ := id hs
  clear hs
  subst hk
  have H0 : Hid (kntB ⟨9, name, .slice A xs.length c, xs, value, n⟩ = (inB3 n (-1) 1 && (empB value || (whB value && decide (0 ≤ n))))) := HEV
  clear HEV
  have HWI := Lib.hid (fun W => l00InB_any n (-1) 1 W)
  obtain ⟨I, hI⟩ : ∃ I : Bool, inB3 n (-1) 1 = I := ⟨_, rfl⟩
  rw [hI] at HWI H0
  clear hI
  cases I
  · go_enter Tryz.func137, Tryz.ntmps137
    go_wp2_with fail
    refine (HWI.out _).mono ?_
    rintro e w1 ⟨rfl, rfl⟩
    go_wp2_with fail
    go_ret
    exact ⟨ret_bool (by rw [H0.out]; rfl), hba⟩
  rcases emptyForms value with ⟨v1, v2, v3, v4⟩ | ⟨v1, v2, v3, v4⟩
  · go_enter Tryz.func137, Tryz.ntmps137
    go_wp2_with fail
    refine (HWI.out _).mono ?_
    rintro e w1 ⟨rfl, rfl⟩
    go_wp2_with fail
    go_ret
    exact ⟨ret_bool (by rw [H0.out, show empB value = true from v4.out]; rfl), hba⟩
  rw [show empB value = false from v4.out] at H0
  obtain ⟨b0, b1⟩ := NM.numOf_bd value.data.toList
  have HB := Lib.hid (And.intro b0 b1); clear b0 b1
  have HW : Hid (whB value = (canon value && (decide (0 ≤ NM.numOf value.data.toList) && (NM.numOf value.data.toList % 1000000 == 0)))) := rfl
  obtain ⟨N, hN⟩ : ∃ N : Int, NM.numOf value.data.toList = N := ⟨_, rfl⟩
  obtain ⟨C, hC⟩ : ∃ C : Bool, canon value = C := ⟨_, rfl⟩
  rw [hN] at HW HB
  rw [hC] at HW
  have HN := Lib.hid hN; have HCN := Lib.hid hC; clear hN hC
  cases C
  · go_enter Tryz.func137, Tryz.ntmps137
    go_wp2_with fail
    refine (HWI.out _).mono ?_
    rintro e w1 ⟨rfl, rfl⟩
    go_wp2_with fail
    refine (l01Canon_any value _ hv).mono ?_
    rintro e w2 ⟨rfl, b2⟩
    rw [HCN.out]
    have B2 := Lib.hid (below_trans hba b2)
    have hc := HCX.out.below b2
    have c3 : w2.cell? ⟨w.heap.size, 3, none⟩ = some (.string value) := hc.2 3 _ rfl
    have c4 : w2.cell? ⟨w.heap.size, 4, none⟩ = some (.int .i64 n) := hc.2 4 _ rfl
    clear b2 hc
    go_wp2_with fail
    go_ret
    exact ⟨ret_bool (by rw [H0.out, HW.out]; rfl), B2.out⟩
  by_cases h0 : 0 ≤ N
  rotate_left
  · have HH : Hid (decide (0 ≤ N) = false) := decide_eq_false h0
    go_enter Tryz.func137, Tryz.ntmps137
    go_wp2_with fail
    refine (HWI.out _).mono ?_
    rintro e w1 ⟨rfl, rfl⟩
    go_wp2_with fail
    refine (l01Canon_any value _ hv).mono ?_
    rintro e w2 ⟨rfl, b2⟩
    rw [HCN.out]
    have B2 := Lib.hid (below_trans hba b2)
    have hc := HCX.out.below b2
    have c3 : w2.cell? ⟨w.heap.size, 3, none⟩ = some (.string value) := hc.2 3 _ rfl
    have c4 : w2.cell? ⟨w.heap.size, 4, none⟩ = some (.int .i64 n) := hc.2 4 _ rfl
    clear b2 hc
    go_wp2_with fail
    refine (l01Of_any value _ hv).mono ?_
    rintro e w3 ⟨m, rfl, H3, rfl⟩
    obtain rfl : N = m := (H3.out.trans HN.out).symm
    clear H3
    go_wp2_with fail
    go_ret
    exact ⟨ret_bool (by rw [H0.out, HW.out, HH.out]; rfl), B2.out⟩
  have HH : Hid (decide (0 ≤ N) = true) := decide_eq_true h0
  have h1 : N ≤ 999999999999999999 := HB.out.2
  rcases eqForms (N % 1000000) 0 with ⟨d1, d2, d3⟩ | ⟨d1, d2, d3⟩
  all_goals
    go_enter Tryz.func137, Tryz.ntmps137
    go_wp2_with fail
    refine (HWI.out _).mono ?_
    rintro e w1 ⟨rfl, rfl⟩
    go_wp2_with fail
    refine (l01Canon_any value _ hv).mono ?_
    rintro e w2 ⟨rfl, b2⟩
    rw [HCN.out]
    have B2 := Lib.hid (below_trans hba b2)
    have hc := HCX.out.below b2
    have c3 : w2.cell? ⟨w.heap.size, 3, none⟩ = some (.string value) := hc.2 3 _ rfl
    have c4 : w2.cell? ⟨w.heap.size, 4, none⟩ = some (.int .i64 n) := hc.2 4 _ rfl
    clear b2 hc
    go_wp2_with fail
    refine (l01Of_any value _ hv).mono ?_
    rintro e w3 ⟨m, rfl, H3, rfl⟩
    obtain rfl : N = m := (H3.out.trans HN.out).symm
    clear H3
    go_wp2_with fail
    refine (l01Of_any value _ hv).mono ?_
    rintro e w4 ⟨m, rfl, H3, rfl⟩
    obtain rfl : N = m := (H3.out.trans HN.out).symm
    clear H3
    go_wp2_with fail
    go_ret
    exact ⟨ret_bool (by rw [H0.out, HW.out, HH.out, d1]; simp), B2.out⟩

set_option maxHeartbeats 2000000 in
set_option maxRecDepth 20000 in
theorem l11Count_13 (x : EventV) (w : World) (h : x.At w) (hok : x.Ok 1048576) (hk : x.kind = 13) : Calls Tryz.prog 137 #[.agg x.cells] w fun e w' => e = .returned (.bool (kntB x)) ∧ Below w.heap.size w w' := by
  have hba : Below w.heap.size w (w.alloc (.cells x.cells 53)) := Joins.below_alloc1 w _
  have HCX := Lib.hid (CellsAt.new w x.cells 53)
  have HEV : Hid (kntB x = inB3 x.n 0 999999999999) := by
    show _ = _
    unfold kntB; rw [hk]; rfl
  obtain ⟨kind, name, sv, xs, value, n⟩ := x
  obtain ⟨hn, ⟨hl, hz⟩, hv, _⟩ := hok
  clear hz
  obtain ⟨hs, _⟩ := h
  simp only [EventV.cells] at *
  obtain ⟨A, c, rfl, _, _⟩ := id hs
  clear hs
  subst hk
  go_enter Tryz.func137, Tryz.ntmps137
  go_wp2_with fail
  refine (l00InB_any n 0 999999999999 _).mono ?_
  rintro e w1 ⟨rfl, rfl⟩
  go_wp2_with fail
  go_ret
  exact ⟨ret_bool (HEV.out.symm), hba⟩

set_option maxHeartbeats 2000000 in
set_option maxRecDepth 20000 in
theorem l11Count_15 (x : EventV) (w : World) (h : x.At w) (hok : x.Ok 1048576) (hk : x.kind = 15) : Calls Tryz.prog 137 #[.agg x.cells] w fun e w' => e = .returned (.bool (kntB x)) ∧ Below w.heap.size w w' := by
  have hba : Below w.heap.size w (w.alloc (.cells x.cells 53)) := Joins.below_alloc1 w _
  have HCX := Lib.hid (CellsAt.new w x.cells 53)
  have HEV : Hid (kntB x = inB3 x.n 1 17) := by
    show _ = _
    unfold kntB; rw [hk]; rfl
  obtain ⟨kind, name, sv, xs, value, n⟩ := x
  obtain ⟨hn, ⟨hl, hz⟩, hv, _⟩ := hok
  clear hz
  obtain ⟨hs, _⟩ := h
  simp only [EventV.cells] at *
  obtain ⟨A, c, rfl, _, _⟩ := id hs
  clear hs
  subst hk
  go_enter Tryz.func137, Tryz.ntmps137
  go_wp2_with fail
  refine (l00InB_any n 1 17 _).mono ?_
  rintro e w1 ⟨rfl, rfl⟩
  go_wp2_with fail
  go_ret
  exact ⟨ret_bool (HEV.out.symm), hba⟩

set_option maxHeartbeats 2000000 in
set_option maxRecDepth 20000 in
theorem l11Count_other (x : EventV) (w : World) (h : x.At w) (hok : x.Ok 1048576) (hk : x.kind ≠ 1 ∧ x.kind ≠ 4 ∧ x.kind ≠ 5 ∧ x.kind ≠ 6 ∧ x.kind ≠ 9 ∧ x.kind ≠ 13 ∧ x.kind ≠ 15) : Calls Tryz.prog 137 #[.agg x.cells] w fun e w' => e = .returned (.bool (kntB x)) ∧ Below w.heap.size w w' := by
  have hba : Below w.heap.size w (w.alloc (.cells x.cells 53)) := Joins.below_alloc1 w _
  have HCX := Lib.hid (CellsAt.new w x.cells 53)
  have HEV : Hid (kntB x = true) := by
    show _ = _
    unfold kntB; unfold kntK
    iterate 7 rw [if_neg (by omega)]
  obtain ⟨kind, name, sv, xs, value, n⟩ := x
  obtain ⟨hn, ⟨hl, hz⟩, hv, _⟩ := hok
  clear hz
  obtain ⟨hs, _⟩ := h
  simp only [EventV.cells] at *
  obtain ⟨A, c, rfl, _, _⟩ := id hs
  clear hs
  have k1 : (kind == 1) = false := by simp; omega
  have k4 : (kind == 4) = false := by simp; omega
  have k5 : (kind == 5) = false := by simp; omega
  have k6 : (kind == 6) = false := by simp; omega
  have k9 : (kind == 9) = false := by simp; omega
  have k13 : (kind == 13) = false := by simp; omega
  have k15 : (kind == 15) = false := by simp; omega
  clear hk
  go_enter Tryz.func137, Tryz.ntmps137
  go_wp2_with fail
  go_ret
  exact ⟨ret_bool (HEV.out.symm), hba⟩

theorem l11Count_any (x : EventV) (w : World) (h : x.At w) (hok : x.Ok 1048576) : Calls Tryz.prog 137 #[.agg x.cells] w fun e w' => e = .returned (.bool (kntB x)) ∧ Below w.heap.size w w' := by
  have : x.kind = 1 ∨ x.kind = 4 ∨ x.kind = 5 ∨ x.kind = 6 ∨ x.kind = 9 ∨ x.kind = 13 ∨ x.kind = 15 ∨ (x.kind ≠ 1 ∧ x.kind ≠ 4 ∧ x.kind ≠ 5 ∧ x.kind ≠ 6 ∧ x.kind ≠ 9 ∧ x.kind ≠ 13 ∧ x.kind ≠ 15) := by omega
  rcases this with h1 | h1 | h1 | h1 | h1 | h1 | h1 | h1
  · exact l11Count_1 x w h hok h1
  · exact l11Count_4 x w h hok h1
  · exact l11Count_5 x w h hok h1
  · exact l11Count_6 x w h hok h1
  · exact l11Count_9 x w h hok h1
  · exact l11Count_13 x w h hok h1
  · exact l11Count_15 x w h hok h1
  · exact l11Count_other x w h hok h1

end Go.Proofs.YtjfdlbbfodomeaaGreatDoor
