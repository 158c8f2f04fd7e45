/- Patterns: the law file's own measure. -/
import Derived.Test.YtcjlokojppicnaaDoorPatMem
namespace Go.Proofs.YtcjlokojppicnaaDoor
open Go.RowKit
set_option linter.unusedVariables false

def GotSz (left : Int) (P : Prop) (e : Ending) : Prop := ∃ q : Int, e = .returned (.int .i64 q) ∧ -1 ≤ q ∧ q ≤ left ∧ (0 ≤ q → P)

def SzS (n : Nat) : Prop := ∀ (v : Value) (xs : List (Pat n)) (left : Int) (w : World), Pats n w v xs → 0 ≤ left → left ≤ 1048576 → PatsOk n maxLen xs →
  Calls Tryd.prog 4 #[v, .int .i64 left] w fun e w' => GotSz left (PatsOk n 1048576 xs) e ∧ Below w.heap.size w w'

set_option maxRecDepth 8000 in
theorem szAlts_any {n : Nat} (IH : SzS n) (v : Value) (ys : List (List (Pat n))) (left : Int) (w : World) (h : AltsOf n w v ys) (h0 : 0 ≤ left) (h1 : left ≤ 1048576) (hl : ys.length ≤ maxLen) (hok : ∀ y ∈ ys, PatsOk n maxLen y) :
    Calls Tryd.prog 16 #[v, .int .i64 left] w fun e w' => GotSz left (ys.length ≤ 1048576 ∧ ∀ y ∈ ys, PatsOk n 1048576 y) e ∧ Below w.heap.size w w' := by
  have H := Lib.hid h
  have HI := Lib.hid IH; clear IH
  have HOK := Lib.hid hok; clear hok
  obtain ⟨A, c, rfl⟩ := h.form; clear h
  unfold maxLen at hl
  by_cases hn : left - ys.length < 0
  · go_enter Tryd.func16, Tryd.ntmps16
    go_wp2
    go_ret
    exact ⟨⟨_, rfl, by omega, by omega, fun h => by omega⟩, below_refl _⟩
  · go_enter Tryd.func16, Tryd.ntmps16
    go_wp2
    go_loopw [1, 5] (fun l i wr => ∃ (k : Nat) (q : Int), k ≤ ys.length ∧ i = .int .i64 k ∧ l = .int .i64 q ∧ 0 ≤ q ∧ q ≤ left ∧ Hid (∀ y ∈ ys.take k, PatsOk n 1048576 y) ∧ Below w.heap.size w wr) (fun _ i _ => ys.length - (intOf i).toNat)
    case atStart => exact ⟨0, _, Nat.zero_le _, rfl, rfl, by omega, by omega, fun y hy => by simp at hy, below_refl _⟩
    case round =>
      obtain ⟨k, q, hk, rfl, rfl, hq0, hq1, HP, hbel⟩ := hrel
      by_cases hlt : k < ys.length
      · obtain ⟨ad, pv, rfl, hbl, hc, hp⟩ := (H.out.on hbel).get hlt
        have HT := Lib.hid (List.take_succ_eq_append_getElem hlt)
        have HC := Lib.hid (HI.out pv ys[k] q wr hp hq0 (by omega) (HOK.out _ (List.getElem_mem hlt)))
        clear hp
        generalize ys[k] = y at *
        have HB := Lib.hid hbel
        go_wp2_with fail
        refine HC.out.mono ?_
        rintro e w2 ⟨⟨p, rfl, p1, p2, hp⟩, b2⟩
        have HPP := Lib.hid hp; clear hp
        have HB2 := Lib.hid (below_trans HB.out b2); clear b2
        by_cases p0 : p < 0
        · go_wp2_with fail
          go_ret
          exact ⟨⟨_, rfl, by omega, by omega, fun h => by omega⟩, HB2.out⟩
        · go_wp2_with fail
          refine ⟨⟨k + 1, p, by omega, by go_num, rfl, by omega, by omega, ?_, HB2.out⟩, by simp [intOf]; omega⟩
          intro z hz
          rw [HT.out, List.mem_append] at hz
          rcases hz with hz | hz
          · exact HP.out z hz
          · simp at hz; subst hz; exact HPP.out (by omega)
      · go_wp2
        go_ret
        refine ⟨⟨_, rfl, by omega, by omega, fun _ => ⟨by omega, fun y hy => HP.out y ?_⟩⟩, hbel⟩
        rw [List.take_of_length_le (by omega)]; exact hy

set_option maxRecDepth 8000 in
theorem szItem_any {n : Nat} (IH : SzS n) (x : PatC (List (Pat n))) (av : Value) (left : Int) (w : World) (h : AltsOf n w av x.alts) (h0 : 0 ≤ left) (h1 : left ≤ 1048576) (hc : x.codes.size ≤ maxLen) (ht : x.text.size ≤ maxLen) (hl : x.alts.length ≤ maxLen) (hok : ∀ y ∈ x.alts, PatsOk n maxLen y) :
    Calls Tryd.prog 9 #[.agg (x.cells av), .int .i64 left] w fun e w' => GotSz left (x.codes.size ≤ 1048576 ∧ x.text.size ≤ 1048576 ∧ x.alts.length ≤ 1048576 ∧ ∀ y ∈ x.alts, PatsOk n 1048576 y) e ∧ Below w.heap.size w w' := by
  have hba : Below w.heap.size w (w.alloc (.cells (x.cells av) 32)) := ((Below.refl _ _).alloc (Nat.le_refl _) _)
  have HA := Lib.hid (h.on hba)
  obtain ⟨lo, hi, codes, text, alts⟩ := x
  simp only [PatC.cells] at *
  have HC := Lib.hid (fun q q0 q1 => szAlts_any IH av alts q _ HA.out q0 q1 hl hok)
  clear IH hok
  obtain ⟨A, c, rfl⟩ := h.form; clear h
  unfold maxLen at hc ht hl
  go_enter Tryd.func9, Tryd.ntmps9
  by_cases c1 : left - codes.size < 0
  · go_wp2_with fail
    go_ret
    exact ⟨⟨_, rfl, by omega, by omega, fun hq => by omega⟩, hba⟩
  by_cases c2 : left - codes.size - text.size < 0
  · go_wp2_with fail
    go_ret
    exact ⟨⟨_, rfl, by omega, by omega, fun hq => by omega⟩, hba⟩
  have c3 : 0 ≤ left - codes.size - text.size := by omega
  have c4 : left - codes.size - text.size ≤ 1048576 := by omega
  go_wp2_with fail
  refine (HC.out _ c3 c4).mono ?_
  rintro e w2 ⟨⟨p, rfl, p1, p2, hp⟩, b2⟩
  have HPP := Lib.hid hp; clear hp
  have HB2 := Lib.hid (below_trans hba b2); clear b2
  by_cases p0 : p < 0
  · go_wp2_with fail
    go_ret
    exact ⟨⟨_, rfl, by omega, by omega, fun h => by omega⟩, HB2.out⟩
  · go_wp2_with fail
    go_ret
    exact ⟨⟨_, rfl, by omega, by omega, fun _ => ⟨by omega, by omega, HPP.out (by omega)⟩⟩, HB2.out⟩

set_option maxRecDepth 8000 in
theorem szPats_succ {n : Nat} (IH : SzS n) : SzS (n + 1) := by
  intro v xs0 left w h h0 h1 hok
  obtain ⟨xs, hxs⟩ : ∃ xs : List (PatC (List (Pat n))), xs = xs0 := ⟨xs0, rfl⟩
  subst hxs
  have hl : xs.length ≤ maxLen := hok.1
  have HOK : Hid (∀ x ∈ xs, x.codes.size ≤ maxLen ∧ x.text.size ≤ maxLen ∧ x.alts.length ≤ maxLen ∧ ∀ y ∈ x.alts, PatsOk n maxLen y) := hok.2
  have H : Hid (Pats (n + 1) w v xs) := h
  have HI := Lib.hid IH; clear IH hok
  obtain ⟨A, c, hv⟩ : ∃ A c, v = .slice A xs.length c := h.form
  subst hv; clear h
  show Calls Tryd.prog 4 #[_, .int .i64 left] w fun e w' => GotSz left (xs.length ≤ 1048576 ∧ ∀ x ∈ xs, x.codes.size ≤ 1048576 ∧ x.text.size ≤ 1048576 ∧ x.alts.length ≤ 1048576 ∧ ∀ y ∈ x.alts, PatsOk n 1048576 y) e ∧ Below w.heap.size w w'
  unfold maxLen at hl
  by_cases hn : left - xs.length < 0
  · go_enter Tryd.func4, Tryd.ntmps4
    go_wp2
    go_ret
    exact ⟨⟨_, rfl, by omega, by omega, fun h => by omega⟩, below_refl _⟩
  · go_enter Tryd.func4, Tryd.ntmps4
    go_wp2
    go_loopw [1, 5] (fun l i wr => ∃ (k : Nat) (q : Int), k ≤ xs.length ∧ i = .int .i64 k ∧ l = .int .i64 q ∧ 0 ≤ q ∧ q ≤ left ∧ Hid (∀ x ∈ xs.take k, x.codes.size ≤ 1048576 ∧ x.text.size ≤ 1048576 ∧ x.alts.length ≤ 1048576 ∧ ∀ y ∈ x.alts, PatsOk n 1048576 y) ∧ Below w.heap.size w wr) (fun _ i _ => xs.length - (intOf i).toNat)
    case atStart => exact ⟨0, _, Nat.zero_le _, rfl, rfl, by omega, by omega, fun y hy => by simp at hy, below_refl _⟩
    case round =>
      obtain ⟨k, q, hk, rfl, rfl, hq0, hq1, HP, hbel⟩ := hrel
      by_cases hlt : k < xs.length
      · obtain ⟨ad, av, rfl, hbl, hal, a0, a1, a2, a3, a4⟩ := (Pats.on H.out hbel).get hlt
        have HT := Lib.hid (List.take_succ_eq_append_getElem hlt)
        have hx := HOK.out _ (List.getElem_mem hlt)
        have HC := Lib.hid (szItem_any HI.out xs[k] av q wr hal hq0 (by omega) hx.1 hx.2.1 hx.2.2.1 hx.2.2.2)
        clear hx
        obtain ⟨A', c', rfl⟩ := hal.form; clear hal
        generalize xs[k] = x at *
        obtain ⟨lo, hi, codes, text, alts⟩ := x
        simp only [PatC.cells] at *
        have HB := Lib.hid hbel
        go_wp2_with fail
        refine HC.out.mono ?_
        rintro e w2 ⟨⟨p, rfl, p1, p2, hp⟩, b2⟩
        have HPP := Lib.hid hp; clear hp
        have HB2 := Lib.hid (below_trans HB.out b2); clear b2
        by_cases p0 : p < 0
        · go_wp2_with fail
          go_ret
          exact ⟨⟨_, rfl, by omega, by omega, fun h => by omega⟩, HB2.out⟩
        · go_wp2_with fail
          refine ⟨⟨k + 1, p, by omega, by go_num, rfl, by omega, by omega, ?_, HB2.out⟩, by simp [intOf]; omega⟩
          intro z hz
          rw [HT.out, List.mem_append] at hz
          rcases hz with hz | hz
          · exact HP.out z hz
          · simp at hz; subst hz; exact HPP.out (by omega)
      · go_wp2
        go_ret
        refine ⟨⟨_, rfl, by omega, by omega, fun _ => ⟨by omega, fun y hy => HP.out y ?_⟩⟩, hbel⟩
        rw [List.take_of_length_le (by omega)]; exact hy

theorem szPats_zero : SzS 0 := by
  intro v xs left w h h0 h1 hok
  obtain ⟨A, c, rfl⟩ := h
  go_enter Tryd.func4, Tryd.ntmps4
  go_wp2
  go_loop [1, 5] (fun l i => l = .int .i64 left ∧ i = .int .i64 0) (fun _ _ => 0)
  case atStart => exact ⟨by go_num, rfl⟩
  case round =>
    obtain ⟨rfl, rfl⟩ := hrel
    go_wp2
    go_ret
    exact ⟨⟨left, rfl, by omega, by omega, fun _ => trivial⟩, below_refl _⟩

theorem szPats_any : ∀ n, SzS n
  | 0 => szPats_zero
  | n + 1 => szPats_succ (szPats_any n)

end Go.Proofs.YtcjlokojppicnaaDoor
