/- EventOk: impl's side. -/
import Derived.Test.YtjfdlbbfodomeaaGreatDoorEventS
import Derived.Test.YtjfdlbbfodomeaaGreatDoorOrdb
import Derived.Test.YtjfdlbbfodomeaaGreatDoorLoc
import Derived.Test.YtjfdlbbfodomeaaGreatDoorGetB
namespace Go.Proofs.YtjfdlbbfodomeaaGreatDoor
open Go.RowKit Go.ChangeShapes Go.WideShapes Go.ChangeAt Go.Deep
set_option linter.unusedVariables false

def inB3 (n a b : Int) : Bool := decide (a ≤ n ∧ n ≤ b)

theorem within_any (n a b : Int) (w : World) : Calls Tryz.prog 91 #[.int .i64 n, .int .i64 a, .int .i64 b] w fun e w' => e = .returned (.bool (inB3 n a b)) ∧ w = w' := by
  have HV : Hid (inB3 n a b = (decide (a ≤ n) && decide (n ≤ b))) := by show _ = _; unfold inB3; simp
  by_cases h1 : a ≤ n
  · have HH : Hid (a ≤ n) := h1
    go_enter Tryz.func91, Tryz.ntmps91
    go_wp2
    go_ret
    exact ⟨ret_bool (by rw [HV.out, decide_eq_true HH.out]; simp), rfl⟩
  · have HH : Hid (¬ a ≤ n) := h1
    go_enter Tryz.func91, Tryz.ntmps91
    go_wp2
    go_ret
    exact ⟨ret_bool (by rw [HV.out, show decide (a ≤ n) = false from decide_eq_false (by have := HH.out; omega)]; rfl), rfl⟩

def cntB (n : Int) : Bool := (n == 0) || ((n == 1) || ((n == 10) || (n == 11)))

theorem countOk_any (n : Int) (w : World) : Calls Tryz.prog 87 #[.int .i64 n] w fun e w' => e = .returned (.bool (cntB n)) ∧ w = w' := by
  have HV : Hid (cntB n = ((n == 0) || ((n == 1) || ((n == 10) || (n == 11))))) := rfl
  rcases eqForms n 0 with ⟨a1, a2, a3⟩ | ⟨a1, a2, a3⟩
  · go_enter Tryz.func87, Tryz.ntmps87
    go_wp2
    go_ret
    exact ⟨ret_bool (by rw [HV.out, a1]; rfl), rfl⟩
  rcases eqForms n 1 with ⟨b1, b2, b3⟩ | ⟨b1, b2, b3⟩
  · go_enter Tryz.func87, Tryz.ntmps87
    go_wp2
    go_ret
    exact ⟨ret_bool (by rw [HV.out, a1, b1]; rfl), rfl⟩
  rcases eqForms n 10 with ⟨c1, c2, c3⟩ | ⟨c1, c2, c3⟩
  · go_enter Tryz.func87, Tryz.ntmps87
    go_wp2
    go_ret
    exact ⟨ret_bool (by rw [HV.out, a1, b1, c1]; rfl), rfl⟩
  · go_enter Tryz.func87, Tryz.ntmps87
    go_wp2
    go_ret
    exact ⟨ret_bool (by rw [HV.out, a1, b1, c1]; simp), rfl⟩

/-- Whether there are no subscripts, in the walk's spellings. -/
theorem lenForms (xs : List ByteArray) : (((xs.length : Int) == 0) = true ∧ (xs.length == 0) = true ∧ Hid (xs.isEmpty = true)) ∨ (((xs.length : Int) == 0) = false ∧ (xs.length == 0) = false ∧ Hid (xs.isEmpty = false)) := by
  cases xs with
  | nil => exact .inl ⟨rfl, rfl, rfl⟩
  | cons a r => exact .inr ⟨by simp; omega, by simp, rfl⟩

def empB (s : ByteArray) : Bool := decide (s.size = 0)

def noFB (x : EventV) : Bool := empB x.name && (x.subs.isEmpty && empB x.value)

set_option maxRecDepth 8000 in
theorem noFields_any (x : EventV) (w : World) (h : x.At w) : Calls Tryz.prog 90 #[.agg x.cells] w fun e w' => e = .returned (.bool (noFB x)) ∧ Below w.heap.size w w' := by
  have hba : Below w.heap.size w (w.alloc (.cells x.cells 53)) := Joins.below_alloc1 w _
  obtain ⟨kind, name, sv, xs, value, n⟩ := x
  obtain ⟨hs, _⟩ := h
  simp only [EventV.cells] at *
  obtain ⟨A, c, rfl, _, _⟩ := id hs
  clear hs
  have HV : Hid (noFB ⟨kind, name, .slice A xs.length c, xs, value, n⟩ = (empB name && (xs.isEmpty && empB value))) := rfl
  rcases emptyForms name with ⟨a1, a2, a3, a4⟩ | ⟨a1, a2, a3, a4⟩
  rotate_left
  · go_enter Tryz.func90, Tryz.ntmps90
    go_wp2
    go_ret
    exact ⟨ret_bool (by rw [HV.out]; unfold empB; rw [a4.out]; rfl), hba⟩
  rcases lenForms xs with ⟨b1, b2, b3⟩ | ⟨b1, b2, b3⟩
  rotate_left
  · go_enter Tryz.func90, Tryz.ntmps90
    go_wp2
    go_ret
    exact ⟨ret_bool (by rw [HV.out, b3.out]; simp), hba⟩
  rcases emptyForms value with ⟨c1, c2, c3, c4⟩ | ⟨c1, c2, c3, c4⟩
  · go_enter Tryz.func90, Tryz.ntmps90
    go_wp2
    go_ret
    exact ⟨ret_bool (by rw [HV.out, b3.out]; unfold empB; rw [a4.out, c4.out]; rfl), hba⟩
  · go_enter Tryz.func90, Tryz.ntmps90
    go_wp2
    go_ret
    exact ⟨ret_bool (by rw [HV.out, b3.out]; unfold empB; rw [a4.out, c4.out]; rfl), hba⟩

def whB (s : ByteArray) : Bool := canon s && (decide (0 ≤ NM.numOf s.data.toList) && (NM.numOf s.data.toList % 1000000 == 0))

set_option maxRecDepth 8000 in
theorem wholeText_any (s : ByteArray) (w : World) (hT : T10 w) (hs : s.size ≤ 1048576) : Calls Tryz.prog 138 #[.string s] w fun e w' => e = .returned (.bool (whB s)) ∧ Below w.heap.size w w' := by
  have HC := Lib.hid (IsCanon_any s w hT hs); clear hT
  have HV : Hid (whB s = (canon s && (decide (0 ≤ NM.numOf s.data.toList) && (NM.numOf s.data.toList % 1000000 == 0)))) := rfl
  obtain ⟨b0, b1⟩ := NM.numOf_bd s.data.toList
  have HB := Lib.hid (And.intro b0 b1); clear b0 b1
  obtain ⟨N, hN⟩ : ∃ N : Int, NM.numOf s.data.toList = N := ⟨_, rfl⟩
  rw [hN] at HV HB
  have HN := Lib.hid hN; clear hN
  obtain ⟨C, hC⟩ : ∃ C : Bool, canon s = C := ⟨_, rfl⟩
  rw [hC] at HV HC
  clear hC
  cases C
  · go_enter Tryz.func138, Tryz.ntmps138
    go_wp2_with fail
    refine HC.out.mono ?_
    rintro e w1 ⟨rfl, b1⟩
    go_wp2_with fail
    go_ret
    exact ⟨ret_bool (by rw [HV.out]; rfl), b1⟩
  · by_cases h0 : 0 ≤ N
    · have h1 : N ≤ 999999999999999999 := HB.out.2
      go_enter Tryz.func138, Tryz.ntmps138
      go_wp2_with fail
      refine HC.out.mono ?_
      rintro e w1 ⟨rfl, b1⟩
      go_wp2_with fail
      refine (NumOf_any s _ hs).mono ?_
      rintro e w2 ⟨n, rfl, H2, b2⟩
      obtain rfl : N = n := (H2.out.trans HN.out).symm
      clear H2
      have B2 := Lib.hid (below_trans b1 b2); clear b1 b2
      go_wp2_with fail
      refine (NumOf_any s _ hs).mono ?_
      rintro e w3 ⟨n, rfl, H3, b3⟩
      obtain rfl : N = n := (H3.out.trans HN.out).symm
      clear H3
      have B3 := Lib.hid (below_trans B2.out b3); clear b3
      go_wp2_with fail
      go_ret
      exact ⟨ret_bool (by rw [HV.out, decide_eq_true h0]; simp), B3.out⟩
    · go_enter Tryz.func138, Tryz.ntmps138
      go_wp2_with fail
      refine HC.out.mono ?_
      rintro e w1 ⟨rfl, b1⟩
      go_wp2_with fail
      refine (NumOf_any s _ hs).mono ?_
      rintro e w2 ⟨n, rfl, H2, b2⟩
      obtain rfl : N = n := (H2.out.trans HN.out).symm
      clear H2
      have B2 := Lib.hid (below_trans b1 b2); clear b1 b2
      go_wp2_with fail
      go_ret
      exact ⟨ret_bool (by rw [HV.out, show decide (0 ≤ N) = false from decide_eq_false (by omega)]; rfl), B2.out⟩

def qryB (x : EventV) : Bool := locOk x.name x.subs && (((x.n == 1) && (getB x.value.data.toList).isSome) || ((x.n == 0) && empB x.value))

set_option maxRecDepth 8000 in
theorem queryOk_any (x : EventV) (w : World) (hT : T10 w) (hml : ML w) (h : x.At w) (hok : x.Ok 1048576) : Calls Tryz.prog 88 #[.agg x.cells] w fun e w' => e = .returned (.bool (qryB x)) ∧ Below w.heap.size w w' := by
  have hba : Below w.heap.size w (w.alloc (.cells x.cells 53)) := Joins.below_alloc1 w _
  have hA := h.on hba
  have HTA := Lib.hid (hT.below hba); have HMA := Lib.hid (hml.below hba); clear hT hml
  have HCX := Lib.hid (CellsAt.new w x.cells 53)
  obtain ⟨kind, name, sv, xs, value, n⟩ := x
  obtain ⟨hn, ⟨hl, hz⟩, hv, _⟩ := hok
  obtain ⟨hs, _⟩ := h
  obtain ⟨hAs, _⟩ := hA
  simp only [EventV.cells] at *
  have HP := Lib.hid (locationOk_any name _ xs _ _ hn hAs hl hz)
  clear hAs hz
  obtain ⟨A, c, rfl, _, _⟩ := id hs
  clear hs
  have HV : Hid (qryB ⟨kind, name, .slice A xs.length c, xs, value, n⟩ = (locOk name xs && (((n == 1) && (getB value.data.toList).isSome) || ((n == 0) && empB value)))) := rfl
  obtain ⟨L, hL⟩ : ∃ L : Bool, locOk name xs = L := ⟨_, rfl⟩
  obtain ⟨G, hG⟩ : ∃ G : Bool, (getB value.data.toList).isSome = G := ⟨_, rfl⟩
  rw [hL] at HP HV
  rw [hG] at HV
  have HG := Lib.hid hG; clear hL hG
  cases L
  · go_enter Tryz.func88, Tryz.ntmps88
    go_wp2_with fail
    refine HP.out.mono ?_
    rintro e w1 ⟨rfl, rfl⟩
    go_wp2_with fail
    go_ret
    exact ⟨ret_bool (by rw [HV.out]; rfl), hba⟩
  · go_enter Tryz.func88, Tryz.ntmps88
    go_wp2_with fail
    refine HP.out.mono ?_
    rintro e w1 ⟨rfl, rfl⟩
    go_wp2_with fail
    refine (GetSubs_any value _ HTA.out HMA.out hv).mono ?_
    rintro e w2 ⟨⟨v2, rfl, _⟩, b2⟩
    rw [HG.out]
    have B2 := Lib.hid (below_trans hba b2)
    have hc := HCX.out.below b2
    have c0 : w2.cell? ⟨w.heap.size, 0, none⟩ = some (.int .i64 kind) := hc.2 0 _ rfl
    have c3 : w2.cell? ⟨w.heap.size, 3, none⟩ = some (.string value) := hc.2 3 _ rfl
    have c4 : w2.cell? ⟨w.heap.size, 4, none⟩ = some (.int .i64 n) := hc.2 4 _ rfl
    clear b2 hc HCX
    rcases eqForms n 1 with ⟨a1, a2, a3⟩ | ⟨a1, a2, a3⟩
    · have z1 : (n == 0) = false := by have := a3.out; simp; omega
      cases G
      · go_wp2_with fail
        go_ret
        exact ⟨ret_bool (by rw [HV.out, a1, z1]; rfl), B2.out⟩
      · go_wp2_with fail
        go_ret
        exact ⟨ret_bool (by rw [HV.out, a1, z1]; rfl), B2.out⟩
    · rcases eqForms n 0 with ⟨d1, d2, d3⟩ | ⟨d1, d2, d3⟩
      · rcases emptyForms value with ⟨v1, v2, v3, v4⟩ | ⟨v1, v2, v3, v4⟩
        · go_wp2_with fail
          go_ret
          exact ⟨ret_bool (by rw [HV.out, a1, d1]; unfold empB; rw [v4.out]; simp), B2.out⟩
        · go_wp2_with fail
          go_ret
          exact ⟨ret_bool (by rw [HV.out, a1, d1]; unfold empB; rw [v4.out]; simp), B2.out⟩
      · go_wp2_with fail
        go_ret
        exact ⟨ret_bool (by rw [HV.out, a1, d1]; simp), B2.out⟩

end Go.Proofs.YtjfdlbbfodomeaaGreatDoor
