/- EventOk: impl's side, all kinds. -/
import Derived.Test.YtjfdlbbfodomeaaGreatDoorEventOk2
namespace Go.Proofs.YtjfdlbbfodomeaaGreatDoor
open Go.RowKit Go.ChangeShapes Go.WideShapes Go.ChangeAt Go.Deep
set_option linter.unusedVariables false

set_option maxHeartbeats 2000000 in
set_option maxRecDepth 100000 in
theorem EventOk_long (x : EventV) (w : World) (h : x.At w) (hb : 64 < x.value.size) (hv : x.value.size ≤ 1048576) (hk : x.kind ≠ 6) : Calls Tryz.prog 41 #[.agg x.cells] w fun e w' => e = .returned (.bool (evB x)) ∧ Below w.heap.size w w' := by
  have hba : Below w.heap.size w (w.alloc (.cells x.cells 53)) := Joins.below_alloc1 w _
  have HEV : Hid (evB x = false) := by
    show _ = _
    unfold evB; rw [if_pos (by rw [decide_eq_true hb]; simp [hk])]
  obtain ⟨kind, name, sv, xs, value, n⟩ := x
  obtain ⟨hs, _⟩ := h
  simp only [EventV.cells] at *
  obtain ⟨A, c, rfl, _, _⟩ := id hs
  clear hs
  have k1 : (kind == 6) = false := by simpa using hk
  have k2 : (kind != 6) = true := by simpa using hk
  clear hk
  go_enter Tryz.func41, Tryz.ntmps41
  go_wp2_with fail
  go_ret
  exact ⟨ret_bool (by rw [HEV.out]), hba⟩

set_option maxHeartbeats 2000000 in
set_option maxRecDepth 100000 in
theorem EventOk_none (x : EventV) (w : World) (h : x.At w) (hok : x.Ok 1048576) (hb : x.value.size ≤ 64) (hk : x.kind < 1 ∨ 16 < x.kind) : Calls Tryz.prog 41 #[.agg x.cells] w fun e w' => e = .returned (.bool (evB x)) ∧ Below w.heap.size w w' := by
  have hba : Below w.heap.size w (w.alloc (.cells x.cells 53)) := Joins.below_alloc1 w _
  have hA := h.on hba
  have HEV : Hid (evB x = false) := by
    show _ = _
    unfold evB; rw [if_neg (by rw [show decide (64 < x.value.size) = false from decide_eq_false (by omega)]; simp)]
    unfold evK
    iterate 16 rw [if_neg (by omega)]
  obtain ⟨kind, name, sv, xs, value, n⟩ := x
  obtain ⟨hn, ⟨hl, hz⟩, hv, _⟩ := hok
  obtain ⟨hs, _⟩ := h
  obtain ⟨hAs, _⟩ := hA
  simp only [EventV.cells] at *
  have HP := Lib.hid (locationOk_any name _ xs _ _ hn hAs hl hz)
  clear hAs hz
  obtain ⟨A, c, rfl, _, _⟩ := id hs
  clear hs
  have k1 : (kind == 1) = false := by simp; omega
  have k2 : (kind == 2) = false := by simp; omega
  have k3 : (kind == 3) = false := by simp; omega
  have k4 : (kind == 4) = false := by simp; omega
  have k5 : (kind == 5) = false := by simp; omega
  have k6 : (kind == 6) = false := by simp; omega
  have k7 : (kind == 7) = false := by simp; omega
  have k8 : (kind == 8) = false := by simp; omega
  have k9 : (kind == 9) = false := by simp; omega
  have k10 : (kind == 10) = false := by simp; omega
  have k11 : (kind == 11) = false := by simp; omega
  have k12 : (kind == 12) = false := by simp; omega
  have k13 : (kind == 13) = false := by simp; omega
  have k14 : (kind == 14) = false := by simp; omega
  have k15 : (kind == 15) = false := by simp; omega
  have k16 : (kind == 16) = false := by simp; omega
  have m6 : (kind != 6) = true := by simp; omega
  clear hk
  obtain ⟨L, hL⟩ : ∃ L : Bool, locOk name xs = L := ⟨_, rfl⟩
  rw [hL] at HP
  clear hL
  cases L
  all_goals
    go_enter Tryz.func41, Tryz.ntmps41
    go_wp2_with fail
    refine HP.out.mono ?_
    rintro e w1 ⟨rfl, rfl⟩
    go_wp2_with fail
    go_ret
    exact ⟨ret_bool (by rw [HEV.out]), hba⟩

theorem EventOk_any (x : EventV) (w : World) (hT : T10 w) (hml : ML w) (h : x.At w) (hok : x.Ok 1048576) : Calls Tryz.prog 41 #[.agg x.cells] w fun e w' => e = .returned (.bool (evB x)) ∧ Below w.heap.size w w' := by
  by_cases h6 : x.kind = 6
  · exact EventOk_6 x w hT hml h hok h6 trivial
  by_cases hb : 64 < x.value.size
  · exact EventOk_long x w h hb hok.2.2.1 h6
  have hb' : x.value.size ≤ 64 := by omega
  by_cases hk : x.kind < 1 ∨ 16 < x.kind
  · exact EventOk_none x w h hok hb' hk
  have : x.kind = 1 ∨ x.kind = 2 ∨ x.kind = 3 ∨ x.kind = 4 ∨ x.kind = 5 ∨ x.kind = 7 ∨ x.kind = 8 ∨ x.kind = 9 ∨ x.kind = 10 ∨ x.kind = 11 ∨ x.kind = 12 ∨ x.kind = 13 ∨ x.kind = 14 ∨ x.kind = 15 ∨ x.kind = 16 := by omega
  rcases this with h1 | h1 | h1 | h1 | h1 | h1 | h1 | h1 | h1 | h1 | h1 | h1 | h1 | h1 | h1
  · exact EventOk_1 x w hT hml h hok h1 hb'
  · exact EventOk_2 x w hT hml h hok h1 hb'
  · exact EventOk_3 x w hT hml h hok h1 hb'
  · exact EventOk_4 x w hT hml h hok h1 hb'
  · exact EventOk_5 x w hT hml h hok h1 hb'
  · exact EventOk_7 x w hT hml h hok h1 hb'
  · exact EventOk_8 x w hT hml h hok h1 hb'
  · exact EventOk_9 x w hT hml h hok h1 hb'
  · exact EventOk_10 x w hT hml h hok h1 hb'
  · exact EventOk_11 x w hT hml h hok h1 hb'
  · exact EventOk_12 x w hT hml h hok h1 hb'
  · exact EventOk_13 x w hT hml h hok h1 hb'
  · exact EventOk_14 x w hT hml h hok h1 hb'
  · exact EventOk_15 x w hT hml h hok h1 hb'
  · exact EventOk_16 x w hT hml h hok h1 hb'

end Go.Proofs.YtjfdlbbfodomeaaGreatDoor
