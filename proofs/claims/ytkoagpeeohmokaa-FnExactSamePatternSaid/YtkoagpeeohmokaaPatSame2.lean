/- Patterns: are two equal; spec's side; SamePattern; the law. -/
import Derived.Test.YtkoagpeeohmokaaPatSame
namespace Go.Proofs.Ytkoagpeeohmokaa
open Go.RowKit
set_option linter.unusedVariables false

def SsS (n : Nat) : Prop := ∀ (v v2 : Value) (xs ys : List (Pat n)) (w : World), Pats n w v xs → Pats n w v2 ys → PatsOk n 1048576 xs → PatsOk n 1048576 ys →
  Calls Try.prog 23 #[v, v2] w fun e w' => e = .returned (.bool (sameP n xs ys)) ∧ Below w.heap.size w w'

set_option maxHeartbeats 2000000 in
set_option maxRecDepth 100000 in
theorem l04SameItem_any {n : Nat} (IH : SsS n) (x y : PatC (List (Pat n))) (av av2 : Value) (w : World) (h : AltsOf n w av x.alts) (h2 : AltsOf n w av2 y.alts) (hl : x.alts.length ≤ 1048576) (hl2 : y.alts.length ≤ 1048576) (hok : ∀ z ∈ x.alts, PatsOk n 1048576 z) (hok2 : ∀ z ∈ y.alts, PatsOk n 1048576 z) :
    Calls Try.prog 62 #[.agg (x.cells av), .agg (y.cells av2)] w fun e w' => e = .returned (.bool (sameC (sameP n) x y)) ∧ Below w.heap.size w w' := by
  have hba : Below w.heap.size w ((w.alloc (.cells (x.cells av) 66)).alloc (.cells (y.cells av2) 66)) := Joins.below_alloc2 w _ _
  have HA := Lib.hid (h.on hba)
  have HA2 := Lib.hid (h2.on hba)
  have HI := Lib.hid IH
  have HOK := Lib.hid hok
  have HOK2 := Lib.hid hok2
  obtain ⟨R, hR⟩ : ∃ R, sameC (sameP n) x y = R := ⟨_, rfl⟩
  rw [hR]
  obtain ⟨lo, hi, co, te, al⟩ := x
  obtain ⟨lo2, hi2, co2, te2, al2⟩ := y
  have HV := Lib.hid (sameC_iff lo hi co te al lo2 hi2 co2 te2 al2 R hR); clear hR
  simp only [PatC.cells] at *
  obtain ⟨A, c, rfl⟩ := h.form; clear h
  obtain ⟨A2, c2, rfl⟩ := h2.form; clear h2
  have HBA := Lib.hid hba
  clear IH hok hok2 hba
  rcases eqForms lo lo2 with ⟨e1, e2, e3⟩ | ⟨e1, e2, e3⟩
  rotate_left
  · go_enter Try.func62, Try.ntmps62
    go_wp2_with fail
    go_ret
    exact ⟨ret_bool (HV.out false (by have := e3.out; simp [this])).symm, HBA.out⟩
  rcases eqForms hi hi2 with ⟨f1, f2, f3⟩ | ⟨f1, f2, f3⟩
  rotate_left
  · go_enter Try.func62, Try.ntmps62
    go_wp2_with fail
    go_ret
    exact ⟨ret_bool (HV.out false (by have := f3.out; simp [this])).symm, HBA.out⟩
  by_cases hc : co = co2
  rotate_left
  · have g1 := strNe hc
    go_enter Try.func62, Try.ntmps62
    go_wp2_with fail
    go_ret
    exact ⟨ret_bool (HV.out false (by simp [hc])).symm, HBA.out⟩
  subst hc
  by_cases ht : te = te2
  rotate_left
  · have g1 := strNe ht
    go_enter Try.func62, Try.ntmps62
    go_wp2_with fail
    go_ret
    exact ⟨ret_bool (HV.out false (by simp [ht])).symm, HBA.out⟩
  subst ht
  rcases eqForms (al.length : Int) (al2.length : Int) with ⟨k1, k2, k3⟩ | ⟨k1, k2, k3⟩
  rotate_left
  · have HE : Hid (R = false) := HV.out false (by
      have hne : ¬ al.length = al2.length := by have := k3.out; omega
      have := allEq_ne (p := sameP n) hne
      simp [this])
    have k4 : (al.length == al2.length) = false := by have := k3.out; simp; omega
    have k5 : (al.length != al2.length) = true := by have := k3.out; simp; omega
    go_enter Try.func62, Try.ntmps62
    go_wp2_with fail
    go_ret
    exact ⟨ret_bool HE.out.symm, HBA.out⟩
  have HQ : Hid (R = allEq (sameP n) al al2) := HV.out _ (by have h1 := e3.out; have h2 := f3.out; simp [h1, h2])
  have hlen : al.length = al2.length := by have := k3.out; omega
  have k4 : (al.length == al2.length) = true := by simp [hlen]
  have k5 : (al.length != al2.length) = false := by simp [hlen]
  have HL := Lib.hid hlen; clear hlen
  have HW : Hid (∀ W, Below ((w.alloc (.cells #[.int .i64 lo, .int .i64 hi, .string co, .string te, .slice A al.length c] 66)).alloc (.cells #[.int .i64 lo2, .int .i64 hi2, .string co, .string te, .slice A2 al2.length c2] 66)).heap.size ((w.alloc (.cells #[.int .i64 lo, .int .i64 hi, .string co, .string te, .slice A al.length c] 66)).alloc (.cells #[.int .i64 lo2, .int .i64 hi2, .string co, .string te, .slice A2 al2.length c2] 66)) W → W.cell? ⟨w.heap.size, 4, none⟩ = some (.slice A al.length c) ∧ W.cell? ⟨w.heap.size + 1, 4, none⟩ = some (.slice A2 al2.length c2)) := fun W hW => by
    have h1 := heap_alloc_new w (.cells #[.int .i64 lo, .int .i64 hi, .string co, .string te, .slice A al.length c] 66)
    have h2 := (Below.heap_alloc (w.alloc (.cells #[.int .i64 lo, .int .i64 hi, .string co, .string te, .slice A al.length c] 66)) (.cells #[.int .i64 lo2, .int .i64 hi2, .string co, .string te, .slice A2 al2.length c2] 66) w.heap.size (by simp)).trans h1
    have h3 := (hW.block w.heap.size (by simp; omega)).trans h2
    have h4 := heap_alloc_new (w.alloc (.cells #[.int .i64 lo, .int .i64 hi, .string co, .string te, .slice A al.length c] 66)) (.cells #[.int .i64 lo2, .int .i64 hi2, .string co, .string te, .slice A2 al2.length c2] 66)
    have e5 : (w.alloc (.cells #[.int .i64 lo, .int .i64 hi, .string co, .string te, .slice A al.length c] 66)).heap.size = w.heap.size + 1 := by simp
    rw [e5] at h4
    have h6 := (hW.block (w.heap.size + 1) (by simp)).trans h4
    exact ⟨by rw [Lib.cell_of_heap h3]; rfl, by rw [Lib.cell_of_heap h6]; rfl⟩
  clear HV
  go_enter Try.func62, Try.ntmps62
  go_wp2_with fail
  go_loopw [5] (fun i wr => ∃ k : Nat, k ≤ al.length ∧ i = .int .i64 k ∧ Hid (R = allEq (sameP n) (al.drop k) (al2.drop k)) ∧ Below ((w.alloc (.cells #[.int .i64 lo, .int .i64 hi, .string co, .string te, .slice A al.length c] 66)).alloc (.cells #[.int .i64 lo2, .int .i64 hi2, .string co, .string te, .slice A2 al2.length c2] 66)).heap.size ((w.alloc (.cells #[.int .i64 lo, .int .i64 hi, .string co, .string te, .slice A al.length c] 66)).alloc (.cells #[.int .i64 lo2, .int .i64 hi2, .string co, .string te, .slice A2 al2.length c2] 66)) wr) (fun i _ => al.length - (intOf i).toNat)
  case atStart => exact ⟨0, Nat.zero_le _, rfl, HQ.out, below_refl _⟩
  case round =>
   as_aux_lemma =>
    clear HQ
    obtain ⟨k, hk, rfl, HX, hbel⟩ := hrel
    by_cases hlt : k < al.length
    · have hlt2 : k < al2.length := by rw [← HL.out]; exact hlt
      obtain ⟨q0, q1⟩ := HW.out _ hbel
      have HB := Lib.hid (hbel.drew)
      obtain ⟨ad, pv, rfl, hbl, a0, hp⟩ := (HA.out.on hbel).get hlt
      obtain ⟨ad2, pv2, rfl, hbl2, b0, hp2⟩ := (HA2.out.on hbel).get hlt2
      have HC : Hid (Calls Try.prog 23 #[pv, pv2] wr.drew fun e w' => e = .returned (.bool (sameP n al[k] al2[k])) ∧ Below wr.drew.heap.size wr.drew w') := HI.out pv pv2 al[k] al2[k] wr.drew (Pats.on hp ((below_refl wr).drew)) (Pats.on hp2 ((below_refl wr).drew)) (HOK.out _ (List.getElem_mem hlt)) (HOK2.out _ (List.getElem_mem hlt2))
      have HD := Lib.hid (allEq_drop (p := sameP n) hlt hlt2)
      obtain ⟨Ap, cp, rfl⟩ := hp.form; clear hp
      obtain ⟨Aq, cq, rfl⟩ := hp2.form; clear hp2
      have i0 : (0 : Int) ≤ k := by omega
      have i1 : (k : Int) < al.length := by omega
      have i2 : (k : Int) < al2.length := by omega
      generalize al[k] = x at *
      generalize al2[k] = y at *
      generalize sameP n x y = Q at *
      have HBA2 := Lib.hid (below_trans HBA.out HB.out)
      clear hbel
      go_wp2_with fail
      have q0' : World.cell? { heap := wr.heap, tape := wr.tape, drawn := wr.drawn + 1, os := wr.os, output := wr.output } ⟨w.heap.size, 4, none⟩ = some (.slice (some ad) al.length c) := q0
      have q1' : World.cell? { heap := wr.heap, tape := wr.tape, drawn := wr.drawn + 1, os := wr.os, output := wr.output } ⟨w.heap.size + 1, 4, none⟩ = some (.slice (some ad2) al2.length c2) := q1
      have a0' : World.cell? { heap := wr.heap, tape := wr.tape, drawn := wr.drawn + 1, os := wr.os, output := wr.output } (ad.add k) = some (.slice Ap x.length cp) := a0
      have b0' : World.cell? { heap := wr.heap, tape := wr.tape, drawn := wr.drawn + 1, os := wr.os, output := wr.output } (ad2.add k) = some (.slice Aq y.length cq) := b0
      go_still_tail 10, (by kernel_rfl)
      change wpList _ _ _ _ _ wr.drew
      generalize wr.drew = w5 at *
      clear a0 b0 a0' b0' q0 q1 q0' q1'
      go_wp2_with fail
      refine HC.out.mono ?_
      rintro e w6 ⟨rfl, b6⟩
      have HB6 := Lib.hid (below_trans HB.out b6)
      have HB7 := Lib.hid (below_trans HBA2.out b6)
      cases Q
      · go_wp2_with fail
        go_ret
        exact ⟨ret_bool (by rw [HX.out, HD.out]; rfl), HB7.out⟩
      · go_wp2_with fail
        refine ⟨⟨k + 1, by omega, by go_num, ?_, HB6.out⟩, by simp [intOf]; omega⟩
        show _ = _
        rw [HX.out, HD.out, Bool.true_and]
    · have HE := Lib.hid (allEq_end (p := sameP n) (xs := al) (ys := al2) (k := k) (by omega) (by have := HL.out; omega))
      obtain ⟨q0, q1⟩ := HW.out _ hbel
      have HB7 := Lib.hid (below_trans HBA.out hbel)
      clear hbel
      go_wp2_with fail
      go_ret
      exact ⟨ret_bool (by rw [HX.out, HE.out]), HB7.out⟩

set_option maxHeartbeats 2000000 in
set_option maxRecDepth 8000 in
theorem l04Same_succ {n : Nat} (IH : SsS n) : SsS (n + 1) := by
  intro v v2 xs0 ys0 w h h2 hok hok2
  obtain ⟨xs, hxs⟩ : ∃ xs : List (PatC (List (Pat n))), xs = xs0 := ⟨xs0, rfl⟩
  subst hxs
  obtain ⟨ys, hys⟩ : ∃ ys : List (PatC (List (Pat n))), ys = ys0 := ⟨ys0, rfl⟩
  subst hys
  have hl : xs.length ≤ 1048576 := hok.1
  have hl2 : ys.length ≤ 1048576 := hok2.1
  have HOK : Hid (∀ x ∈ xs, x.codes.size ≤ 1048576 ∧ x.text.size ≤ 1048576 ∧ x.alts.length ≤ 1048576 ∧ ∀ y ∈ x.alts, PatsOk n 1048576 y) := hok.2
  have HOK2 : Hid (∀ x ∈ ys, x.codes.size ≤ 1048576 ∧ x.text.size ≤ 1048576 ∧ x.alts.length ≤ 1048576 ∧ ∀ y ∈ x.alts, PatsOk n 1048576 y) := hok2.2
  have H : Hid (Pats (n + 1) w v xs) := h
  have H2 : Hid (Pats (n + 1) w v2 ys) := h2
  have HI := Lib.hid IH
  obtain ⟨A, c, hv⟩ : ∃ A c, v = .slice A xs.length c := h.form
  subst hv; clear h
  obtain ⟨A2, c2, hv⟩ : ∃ A c, v2 = .slice A ys.length c := h2.form
  subst hv; clear h2
  show Calls Try.prog 23 #[_, _] w fun e w' => e = .returned (.bool (sameP (n + 1) xs ys)) ∧ Below w.heap.size w w'
  obtain ⟨R, hR⟩ : ∃ R, sameP (n + 1) xs ys = R := ⟨_, rfl⟩
  rw [hR]
  have HR : Hid (allEq (sameC (sameP n)) xs ys = R) := hR
  clear IH hok hok2 hR
  rcases eqForms (xs.length : Int) (ys.length : Int) with ⟨e1, e2, e3⟩ | ⟨e1, e2, e3⟩
  · have hlen : xs.length = ys.length := by have := e3.out; omega
    have e4 : (xs.length == ys.length) = true := by simp [hlen]
    have e5 : (xs.length != ys.length) = false := by simp [hlen]
    have HL := Lib.hid hlen; clear hlen
    go_enter Try.func23, Try.ntmps23
    go_wp2
    go_loopw [5] (fun i wr => ∃ k : Nat, k ≤ xs.length ∧ i = .int .i64 k ∧ Hid (R = allEq (sameC (sameP n)) (xs.drop k) (ys.drop k)) ∧ Below w.heap.size w wr) (fun i _ => xs.length - (intOf i).toNat)
    case atStart => exact ⟨0, Nat.zero_le _, rfl, HR.out.symm, below_refl _⟩
    case round =>
      clear HR
      obtain ⟨k, hk, rfl, HX, hbel⟩ := hrel
      by_cases hlt : k < xs.length
      · have hlt2 : k < ys.length := by rw [← HL.out]; exact hlt
        have HB : Hid (Below w.heap.size w wr.drew) := hbel.drew
        obtain ⟨ad, av, rfl, hbl, hal, a0, a1, a2, a3, a4⟩ := (Pats.on H.out hbel).get hlt
        obtain ⟨ad2, av2, rfl, hbl2, hal2, b0, b1, b2, b3, b4⟩ := (Pats.on H2.out hbel).get hlt2
        have hx := HOK.out _ (List.getElem_mem hlt)
        have hy := HOK2.out _ (List.getElem_mem hlt2)
        have HC : Hid (Calls Try.prog 62 #[.agg (xs[k].cells av), .agg (ys[k].cells av2)] wr.drew fun e w' => e = .returned (.bool (sameC (sameP n) xs[k] ys[k])) ∧ Below wr.drew.heap.size wr.drew w') := l04SameItem_any HI.out xs[k] ys[k] av av2 wr.drew (AltsOf.on hal ((below_refl wr).drew)) (AltsOf.on hal2 ((below_refl wr).drew)) hx.2.2.1 hy.2.2.1 hx.2.2.2 hy.2.2.2
        have HD := Lib.hid (allEq_drop (p := sameC (sameP n)) hlt hlt2)
        clear hx hy
        obtain ⟨Ap, cp, rfl⟩ := hal.form; clear hal
        obtain ⟨Aq, cq, rfl⟩ := hal2.form; clear hal2
        generalize xs[k] = x at *
        generalize ys[k] = y at *
        generalize sameC (sameP n) x y = Q at *
        obtain ⟨lo, hi, codes, text, alts⟩ := x
        obtain ⟨lo2, hi2, codes2, text2, alts2⟩ := y
        simp only [PatC.cells] at *
        have i0 : (0 : Int) ≤ k := by omega
        have i1 : (k : Int) < xs.length := by omega
        have i2 : (k : Int) < ys.length := by omega
        go_wp2_with fail
        have a0' : World.cell? { heap := wr.heap, tape := wr.tape, drawn := wr.drawn + 1, os := wr.os, output := wr.output } (ad.add (k * 5)) = some (.int .i64 lo) := a0
        have a1' : World.cell? { heap := wr.heap, tape := wr.tape, drawn := wr.drawn + 1, os := wr.os, output := wr.output } ⟨(ad.add (k * 5)).block, (ad.add (k * 5)).off + 1, none⟩ = some (.int .i64 hi) := a1
        have a2' : World.cell? { heap := wr.heap, tape := wr.tape, drawn := wr.drawn + 1, os := wr.os, output := wr.output } ⟨(ad.add (k * 5)).block, (ad.add (k * 5)).off + 2, none⟩ = some (.string codes) := a2
        have a3' : World.cell? { heap := wr.heap, tape := wr.tape, drawn := wr.drawn + 1, os := wr.os, output := wr.output } ⟨(ad.add (k * 5)).block, (ad.add (k * 5)).off + 3, none⟩ = some (.string text) := a3
        have a4' : World.cell? { heap := wr.heap, tape := wr.tape, drawn := wr.drawn + 1, os := wr.os, output := wr.output } ⟨(ad.add (k * 5)).block, (ad.add (k * 5)).off + 4, none⟩ = some (.slice Ap alts.length cp) := a4
        have b0' : World.cell? { heap := wr.heap, tape := wr.tape, drawn := wr.drawn + 1, os := wr.os, output := wr.output } (ad2.add (k * 5)) = some (.int .i64 lo2) := b0
        have b1' : World.cell? { heap := wr.heap, tape := wr.tape, drawn := wr.drawn + 1, os := wr.os, output := wr.output } ⟨(ad2.add (k * 5)).block, (ad2.add (k * 5)).off + 1, none⟩ = some (.int .i64 hi2) := b1
        have b2' : World.cell? { heap := wr.heap, tape := wr.tape, drawn := wr.drawn + 1, os := wr.os, output := wr.output } ⟨(ad2.add (k * 5)).block, (ad2.add (k * 5)).off + 2, none⟩ = some (.string codes2) := b2
        have b3' : World.cell? { heap := wr.heap, tape := wr.tape, drawn := wr.drawn + 1, os := wr.os, output := wr.output } ⟨(ad2.add (k * 5)).block, (ad2.add (k * 5)).off + 3, none⟩ = some (.string text2) := b3
        have b4' : World.cell? { heap := wr.heap, tape := wr.tape, drawn := wr.drawn + 1, os := wr.os, output := wr.output } ⟨(ad2.add (k * 5)).block, (ad2.add (k * 5)).off + 4, none⟩ = some (.slice Aq alts2.length cq) := b4
        go_still_tail 8, (by kernel_rfl)
        change wpList _ _ _ _ _ wr.drew
        generalize wr.drew = w5 at *
        clear a0 a1 a2 a3 a4 b0 b1 b2 b3 b4 a0' a1' a2' a3' a4' b0' b1' b2' b3' b4'
        go_wp2_with fail
        refine HC.out.mono ?_
        rintro e w6 ⟨rfl, b6⟩
        have HB6 := Lib.hid (below_trans HB.out b6)
        cases Q
        · go_wp2_with fail
          go_ret
          exact ⟨ret_bool (by rw [HX.out, HD.out]; rfl), HB6.out⟩
        · go_wp2_with fail
          refine ⟨⟨k + 1, by omega, by go_num, ?_, HB6.out⟩, by simp [intOf]; omega⟩
          show _ = _
          rw [HX.out, HD.out, Bool.true_and]
      · have HE := Lib.hid (allEq_end (p := sameC (sameP n)) (xs := xs) (ys := ys) (k := k) (by omega) (by have := HL.out; omega))
        go_wp2
        go_ret
        exact ⟨ret_bool (by rw [HX.out, HE.out]), hbel⟩
  · have HE : Hid (R = false) := HR.out.symm.trans (allEq_ne (by have := e3.out; omega))
    have e4 : (xs.length == ys.length) = false := by have := e3.out; simp; omega
    have e5 : (xs.length != ys.length) = true := by have := e3.out; simp; omega
    go_enter Try.func23, Try.ntmps23
    go_wp2
    go_ret
    exact ⟨ret_bool HE.out.symm, below_refl _⟩

theorem l04Same_zero : SsS 0 := by
  intro v v2 xs ys w h h2 hok hok2
  obtain ⟨A, c, rfl⟩ := h
  obtain ⟨A2, c2, rfl⟩ := h2
  go_enter Try.func23, Try.ntmps23
  go_wp2
  go_loop [5] (fun i => i = .int .i64 0) (fun _ => 0)
  case atStart => rfl
  case round =>
    obtain rfl := hrel
    go_wp2
    go_ret
    exact ⟨rfl, below_refl _⟩

theorem l04Same_any : ∀ n, SsS n
  | 0 => l04Same_zero
  | n + 1 => l04Same_succ (l04Same_any n)

/-- What SamePattern tells. -/
def samePat {n : Nat} (xs ys : List (Pat n)) : Bool := patsB n 3 xs && (patsB n 3 ys && sameP n xs ys)

theorem SamePattern_any {n : Nat} (v v2 : Value) (xs ys : List (Pat n)) (w : World) (h : Pats n w v xs) (h2 : Pats n w v2 ys) (hok : PatsOk n 1048576 xs) (hok2 : PatsOk n 1048576 ys) :
    Calls Try.prog 12 #[v, v2] w fun e w' => e = .returned (.bool (samePat xs ys)) ∧ Below w.heap.size w w' := by
  have HV : Hid (samePat xs ys = (patsB n 3 xs && (patsB n 3 ys && sameP n xs ys))) := rfl
  have H := Lib.hid h
  have H2 := Lib.hid h2
  have HP := Lib.hid (PatternOk_any v xs w h hok)
  have HP2 := Lib.hid (fun W (hb : Below w.heap.size w W) => PatternOk_any v2 ys W (Pats.on h2 hb) hok2)
  have HS := Lib.hid (fun W (hb : Below w.heap.size w W) => samePattern_any n v v2 xs ys W (Pats.on h hb) (Pats.on h2 hb) hok hok2)
  obtain ⟨A, c, rfl⟩ := h.form; clear h
  obtain ⟨A2, c2, rfl⟩ := h2.form; clear h2
  generalize samePat xs ys = R at *
  generalize patsB n 3 xs = P1 at *
  generalize patsB n 3 ys = P2 at *
  generalize sameP n xs ys = Q at *
  clear hok hok2
  cases P1
  · go_enter Try.func12, Try.ntmps12
    go_wp2_with fail
    refine HP.out.mono ?_
    rintro e w1 ⟨rfl, b1⟩
    go_wp2_with fail
    go_ret
    exact ⟨ret_bool HV.out.symm, b1⟩
  cases P2
  · go_enter Try.func12, Try.ntmps12
    go_wp2_with fail
    refine HP.out.mono ?_
    rintro e w1 ⟨rfl, b1⟩
    have B1 := Lib.hid b1; clear b1
    go_wp2_with fail
    refine (HP2.out _ B1.out).mono ?_
    rintro e w2 ⟨rfl, b2⟩
    have B2 := Lib.hid (below_trans B1.out b2); clear b2
    go_wp2_with fail
    go_ret
    exact ⟨ret_bool HV.out.symm, B2.out⟩
  · go_enter Try.func12, Try.ntmps12
    go_wp2_with fail
    refine HP.out.mono ?_
    rintro e w1 ⟨rfl, b1⟩
    have B1 := Lib.hid b1; clear b1
    go_wp2_with fail
    refine (HP2.out _ B1.out).mono ?_
    rintro e w2 ⟨rfl, b2⟩
    have B2 := Lib.hid (below_trans B1.out b2); clear b2
    go_wp2_with fail
    refine (HS.out _ B2.out).mono ?_
    rintro e w3 ⟨rfl, b3⟩
    have B3 := Lib.hid (below_trans B2.out b3); clear b3
    go_wp2_with fail
    go_ret
    exact ⟨ret_bool HV.out.symm, B3.out⟩

theorem sSamePattern_any {n : Nat} (v v2 : Value) (xs ys : List (Pat n)) (w : World) (h : Pats n w v xs) (h2 : Pats n w v2 ys) (hok : PatsOk n 1048576 xs) (hok2 : PatsOk n 1048576 ys) :
    Calls Try.prog 11 #[v, v2] w fun e w' => e = .returned (.bool (samePat xs ys)) ∧ Below w.heap.size w w' := by
  have HV : Hid (samePat xs ys = (patsB n 3 xs && (patsB n 3 ys && sameP n xs ys))) := rfl
  have H := Lib.hid h
  have H2 := Lib.hid h2
  have HP := Lib.hid (l04Right_any v xs w h hok)
  have HP2 := Lib.hid (fun W (hb : Below w.heap.size w W) => l04Right_any v2 ys W (Pats.on h2 hb) hok2)
  have HS := Lib.hid (fun W (hb : Below w.heap.size w W) => l04Same_any n v v2 xs ys W (Pats.on h hb) (Pats.on h2 hb) hok hok2)
  obtain ⟨A, c, rfl⟩ := h.form; clear h
  obtain ⟨A2, c2, rfl⟩ := h2.form; clear h2
  generalize samePat xs ys = R at *
  generalize patsB n 3 xs = P1 at *
  generalize patsB n 3 ys = P2 at *
  generalize sameP n xs ys = Q at *
  clear hok hok2
  cases P1
  · go_enter Try.func11, Try.ntmps11
    go_wp2_with fail
    refine HP.out.mono ?_
    rintro e w1 ⟨rfl, b1⟩
    go_wp2_with fail
    go_ret
    exact ⟨ret_bool HV.out.symm, b1⟩
  cases P2
  · go_enter Try.func11, Try.ntmps11
    go_wp2_with fail
    refine HP.out.mono ?_
    rintro e w1 ⟨rfl, b1⟩
    have B1 := Lib.hid b1; clear b1
    go_wp2_with fail
    refine (HP2.out _ B1.out).mono ?_
    rintro e w2 ⟨rfl, b2⟩
    have B2 := Lib.hid (below_trans B1.out b2); clear b2
    go_wp2_with fail
    go_ret
    exact ⟨ret_bool HV.out.symm, B2.out⟩
  · go_enter Try.func11, Try.ntmps11
    go_wp2_with fail
    refine HP.out.mono ?_
    rintro e w1 ⟨rfl, b1⟩
    have B1 := Lib.hid b1; clear b1
    go_wp2_with fail
    refine (HP2.out _ B1.out).mono ?_
    rintro e w2 ⟨rfl, b2⟩
    have B2 := Lib.hid (below_trans B1.out b2); clear b2
    go_wp2_with fail
    refine (HS.out _ B2.out).mono ?_
    rintro e w3 ⟨rfl, b3⟩
    have B3 := Lib.hid (below_trans B2.out b3); clear b3
    go_wp2_with fail
    go_ret
    exact ⟨ret_bool HV.out.symm, B3.out⟩

end Go.Proofs.Ytkoagpeeohmokaa
