/- Patterns: the law file's own comparison, of two that hold the same. -/
import Derived.Test.YtcjlokojppicnaaDoorPatMem
import Derived.RegionTactic
import Derived.Deep.RegionWith
import Derived.StillTailTactics
import Derived.Lib.SmallJoins
namespace Go.Proofs.YtcjlokojppicnaaDoor
open Go.RowKit
set_option linter.unusedVariables false

def EqS (n : Nat) : Prop := ∀ (v v2 : Value) (xs : List (Pat n)) (w : World), Pats n w v xs → Pats n w v2 xs → PatsOk n 1048576 xs →
  Calls Tryd.prog 8 #[v, v2] w fun e w' => e = .returned (.bool true) ∧ Below w.heap.size w w'

set_option maxRecDepth 8000 in
theorem eqAlts_any {n : Nat} (IH : EqS n) (v v2 : Value) (ys : List (List (Pat n))) (w : World) (h : AltsOf n w v ys) (h2 : AltsOf n w v2 ys) (hl : ys.length ≤ 1048576) (hok : ∀ y ∈ ys, PatsOk n 1048576 y) :
    Calls Tryd.prog 28 #[v, v2] w fun e w' => e = .returned (.bool true) ∧ Below w.heap.size w w' := by
  have H := Lib.hid h
  have H2 := Lib.hid h2
  have HI := Lib.hid IH; clear IH
  have HOK := Lib.hid hok; clear hok
  obtain ⟨A, c, rfl⟩ := h.form; clear h
  obtain ⟨A2, c2, rfl⟩ := h2.form; clear h2
  go_enter Tryd.func28, Tryd.ntmps28
  go_wp2
  go_loopw [5] (fun i wr => ∃ k : Nat, k ≤ ys.length ∧ i = .int .i64 k ∧ Below w.heap.size w wr) (fun i _ => ys.length - (intOf i).toNat)
  case atStart => exact ⟨0, Nat.zero_le _, rfl, below_refl _⟩
  case round =>
    obtain ⟨k, hk, rfl, hbel⟩ := hrel
    by_cases hlt : k < ys.length
    · have HB : Hid (Below w.heap.size w wr.drew) := hbel.drew
      obtain ⟨ad, pv, rfl, hbl, a0, hp⟩ := (H.out.on hbel).get hlt
      obtain ⟨ad2, pv2, rfl, hbl2, b0, hp2⟩ := (H2.out.on hbel).get hlt
      have HC : Hid (Calls Tryd.prog 8 #[pv, pv2] wr.drew fun e w' => e = .returned (.bool true) ∧ Below wr.drew.heap.size wr.drew w') := HI.out pv pv2 ys[k] wr.drew (Pats.on hp ((below_refl wr).drew)) (Pats.on hp2 ((below_refl wr).drew)) (HOK.out _ (List.getElem_mem hlt))
      obtain ⟨Ap, cp, rfl⟩ := hp.form; clear hp
      obtain ⟨Aq, cq, rfl⟩ := hp2.form; clear hp2
      generalize ys[k] = y at *
      have i0 : (0 : Int) ≤ k := by omega
      have i1 : (k : Int) < ys.length := by omega
      go_wp2_with fail
      have a0' : World.cell? { heap := wr.heap, tape := wr.tape, drawn := wr.drawn + 1, os := wr.os, output := wr.output } (ad.add k) = some (.slice Ap y.length cp) := a0
      have b0' : World.cell? { heap := wr.heap, tape := wr.tape, drawn := wr.drawn + 1, os := wr.os, output := wr.output } (ad2.add k) = some (.slice Aq y.length cq) := b0
      go_still_tail 8, (by kernel_rfl)
      change wpList _ _ _ _ _ wr.drew
      generalize wr.drew = w5 at *
      clear a0 b0 a0' b0'
      go_wp2_with fail
      refine HC.out.mono ?_
      rintro e w6 ⟨rfl, b6⟩
      have HB6 := Lib.hid (below_trans HB.out b6)
      go_wp2_with fail
      exact ⟨⟨k + 1, by omega, by go_num, HB6.out⟩, by simp [intOf]; omega⟩
    · go_wp2
      go_ret
      exact ⟨rfl, hbel⟩

set_option maxRecDepth 8000 in
theorem eqItem_any {n : Nat} (IH : EqS n) (x : PatC (List (Pat n))) (av av2 : Value) (w : World) (h : AltsOf n w av x.alts) (h2 : AltsOf n w av2 x.alts) (hl : x.alts.length ≤ 1048576) (hok : ∀ y ∈ x.alts, PatsOk n 1048576 y) :
    Calls Tryd.prog 15 #[.agg (x.cells av), .agg (x.cells av2)] w fun e w' => e = .returned (.bool true) ∧ Below w.heap.size w w' := by
  have hba : Below w.heap.size w ((w.alloc (.cells (x.cells av) 36)).alloc (.cells (x.cells av2) 36)) := Joins.below_alloc2 w _ _
  have HC := Lib.hid (eqAlts_any IH av av2 x.alts _ (h.on hba) (h2.on hba) hl hok)
  obtain ⟨lo, hi, codes, text, alts⟩ := x
  simp only [PatC.cells] at *
  obtain ⟨A, c, rfl⟩ := h.form; clear h
  obtain ⟨A2, c2, rfl⟩ := h2.form; clear h2
  clear IH hok
  go_enter Tryd.func15, Tryd.ntmps15
  go_wp2_with fail
  refine HC.out.mono ?_
  rintro e w2 ⟨rfl, b2⟩
  have HB2 := Lib.hid (below_trans hba b2); clear b2
  go_wp2_with fail
  go_ret
  exact ⟨rfl, HB2.out⟩

set_option maxHeartbeats 1000000 in
set_option maxRecDepth 8000 in
theorem eqPats_succ {n : Nat} (IH : EqS n) : EqS (n + 1) := by
  intro v v2 xs0 w h h2 hok
  obtain ⟨xs, hxs⟩ : ∃ xs : List (PatC (List (Pat n))), xs = xs0 := ⟨xs0, rfl⟩
  subst hxs
  have hl : xs.length ≤ 1048576 := hok.1
  have HOK : Hid (∀ x ∈ xs, x.codes.size ≤ 1048576 ∧ x.text.size ≤ 1048576 ∧ x.alts.length ≤ 1048576 ∧ ∀ y ∈ x.alts, PatsOk n 1048576 y) := hok.2
  have H : Hid (Pats (n + 1) w v xs) := h
  have H2 : Hid (Pats (n + 1) w v2 xs) := h2
  have HI := Lib.hid IH; clear IH hok
  obtain ⟨A, c, hv⟩ : ∃ A c, v = .slice A xs.length c := h.form
  subst hv; clear h
  obtain ⟨A2, c2, hv⟩ : ∃ A c, v2 = .slice A xs.length c := h2.form
  subst hv; clear h2
  go_enter Tryd.func8, Tryd.ntmps8
  go_wp2
  go_loopw [5] (fun i wr => ∃ k : Nat, k ≤ xs.length ∧ i = .int .i64 k ∧ Below w.heap.size w wr) (fun i _ => xs.length - (intOf i).toNat)
  case atStart => exact ⟨0, Nat.zero_le _, rfl, below_refl _⟩
  case round =>
    obtain ⟨k, hk, rfl, hbel⟩ := hrel
    by_cases hlt : k < xs.length
    · have HB : Hid (Below w.heap.size w wr.drew) := hbel.drew
      obtain ⟨ad, av, rfl, hbl, hal, a0, a1, a2, a3, a4⟩ := (Pats.on H.out hbel).get hlt
      obtain ⟨ad2, av2, rfl, hbl2, hal2, b0, b1, b2, b3, b4⟩ := (Pats.on H2.out hbel).get hlt
      have hx := HOK.out _ (List.getElem_mem hlt)
      have HC : Hid (Calls Tryd.prog 15 #[.agg (xs[k].cells av), .agg (xs[k].cells av2)] wr.drew fun e w' => e = .returned (.bool true) ∧ Below wr.drew.heap.size wr.drew w') := eqItem_any HI.out xs[k] av av2 wr.drew (AltsOf.on hal ((below_refl wr).drew)) (AltsOf.on hal2 ((below_refl wr).drew)) hx.2.2.1 hx.2.2.2
      clear hx
      obtain ⟨Ap, cp, rfl⟩ := hal.form; clear hal
      obtain ⟨Aq, cq, rfl⟩ := hal2.form; clear hal2
      generalize xs[k] = x at *
      obtain ⟨lo, hi, codes, text, alts⟩ := x
      simp only [PatC.cells] at *
      have i0 : (0 : Int) ≤ k := by omega
      have i1 : (k : Int) < xs.length := by omega
      go_wp2_with fail
      have a0' : World.cell? { heap := wr.heap, tape := wr.tape, drawn := wr.drawn + 1, os := wr.os, output := wr.output } (ad.add (k * 5)) = some (.int .i64 lo) := a0
      have a1' : World.cell? { heap := wr.heap, tape := wr.tape, drawn := wr.drawn + 1, os := wr.os, output := wr.output } ⟨(ad.add (k * 5)).block, (ad.add (k * 5)).off + 1, none⟩ = some (.int .i64 hi) := a1
      have a2' : World.cell? { heap := wr.heap, tape := wr.tape, drawn := wr.drawn + 1, os := wr.os, output := wr.output } ⟨(ad.add (k * 5)).block, (ad.add (k * 5)).off + 2, none⟩ = some (.string codes) := a2
      have a3' : World.cell? { heap := wr.heap, tape := wr.tape, drawn := wr.drawn + 1, os := wr.os, output := wr.output } ⟨(ad.add (k * 5)).block, (ad.add (k * 5)).off + 3, none⟩ = some (.string text) := a3
      have a4' : World.cell? { heap := wr.heap, tape := wr.tape, drawn := wr.drawn + 1, os := wr.os, output := wr.output } ⟨(ad.add (k * 5)).block, (ad.add (k * 5)).off + 4, none⟩ = some (.slice Ap alts.length cp) := a4
      have b0' : World.cell? { heap := wr.heap, tape := wr.tape, drawn := wr.drawn + 1, os := wr.os, output := wr.output } (ad2.add (k * 5)) = some (.int .i64 lo) := b0
      have b1' : World.cell? { heap := wr.heap, tape := wr.tape, drawn := wr.drawn + 1, os := wr.os, output := wr.output } ⟨(ad2.add (k * 5)).block, (ad2.add (k * 5)).off + 1, none⟩ = some (.int .i64 hi) := b1
      have b2' : World.cell? { heap := wr.heap, tape := wr.tape, drawn := wr.drawn + 1, os := wr.os, output := wr.output } ⟨(ad2.add (k * 5)).block, (ad2.add (k * 5)).off + 2, none⟩ = some (.string codes) := b2
      have b3' : World.cell? { heap := wr.heap, tape := wr.tape, drawn := wr.drawn + 1, os := wr.os, output := wr.output } ⟨(ad2.add (k * 5)).block, (ad2.add (k * 5)).off + 3, none⟩ = some (.string text) := b3
      have b4' : World.cell? { heap := wr.heap, tape := wr.tape, drawn := wr.drawn + 1, os := wr.os, output := wr.output } ⟨(ad2.add (k * 5)).block, (ad2.add (k * 5)).off + 4, none⟩ = some (.slice Aq alts.length cq) := b4
      go_still_tail 8, (by kernel_rfl)
      change wpList _ _ _ _ _ wr.drew
      generalize wr.drew = w5 at *
      clear a0 a1 a2 a3 a4 b0 b1 b2 b3 b4 a0' a1' a2' a3' a4' b0' b1' b2' b3' b4'
      go_wp2_with fail
      refine HC.out.mono ?_
      rintro e w6 ⟨rfl, b6⟩
      have HB6 := Lib.hid (below_trans HB.out b6)
      go_wp2_with fail
      exact ⟨⟨k + 1, by omega, by go_num, HB6.out⟩, by simp [intOf]; omega⟩
    · go_wp2
      go_ret
      exact ⟨rfl, hbel⟩

theorem eqPats_zero : EqS 0 := by
  intro v v2 xs w h h2 hok
  obtain ⟨A, c, rfl⟩ := h
  obtain ⟨A2, c2, rfl⟩ := h2
  go_enter Tryd.func8, Tryd.ntmps8
  go_wp2
  go_loop [5] (fun i => i = .int .i64 0) (fun _ => 0)
  case atStart => rfl
  case round =>
    obtain rfl := hrel
    go_wp2
    go_ret
    exact ⟨rfl, below_refl _⟩

theorem eqPats_any : ∀ n, EqS n
  | 0 => eqPats_zero
  | n + 1 => eqPats_succ (eqPats_any n)

end Go.Proofs.YtcjlokojppicnaaDoor
