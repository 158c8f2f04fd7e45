/- Patterns: are two equal; impl's side. -/
import Derived.Test.YtkoagpeeohmokaaPatLaw
namespace Go.Proofs.Ytkoagpeeohmokaa
open Go.RowKit
set_option linter.unusedVariables false

theorem allEq_drop {α : Type} {p : α → α → Bool} {xs ys : List α} {k : Nat} (h : k < xs.length) (h2 : k < ys.length) : allEq p (xs.drop k) (ys.drop k) = (p xs[k] ys[k] && allEq p (xs.drop (k + 1)) (ys.drop (k + 1))) := by
  rw [List.drop_eq_getElem_cons h, List.drop_eq_getElem_cons h2]; rfl

theorem allEq_end {α : Type} {p : α → α → Bool} {xs ys : List α} {k : Nat} (h : xs.length ≤ k) (h2 : ys.length ≤ k) : allEq p (xs.drop k) (ys.drop k) = true := by
  rw [List.drop_eq_nil_of_le h, List.drop_eq_nil_of_le h2]; rfl

theorem sameC_iff {n : Nat} {s : List (Pat n) → List (Pat n) → Bool} (lo hi : Int) (co te : ByteArray) (al : List (List (Pat n))) (lo2 hi2 : Int) (co2 te2 : ByteArray) (al2 : List (List (Pat n))) (R : Bool) (hR : sameC s ⟨lo, hi, co, te, al⟩ ⟨lo2, hi2, co2, te2, al2⟩ = R) :
    ∀ b : Bool, (b = true ↔ lo = lo2 ∧ hi = hi2 ∧ co = co2 ∧ te = te2 ∧ allEq s al al2 = true) → R = b := by
  intro b hb
  subst hR
  rw [Bool.eq_iff_iff, hb]
  unfold sameC
  simp

theorem strNe {a b : ByteArray} (h : ¬ a = b) : (a.toList == b.toList) = false := by
  rw [ba_toList, ba_toList]; exact beq_eq_false_iff_ne.2 (fun e => h (ba_ext e))

def SmS (n : Nat) : Prop := ∀ (v v2 : Value) (xs ys : List (Pat n)) (w : World), Pats n w v xs → Pats n w v2 ys → PatsOk n 1048576 xs → PatsOk n 1048576 ys →
  Calls Try.prog 24 #[v, v2] w fun e w' => e = .returned (.bool (sameP n xs ys)) ∧ Below w.heap.size w w'

set_option maxHeartbeats 1000000 in
set_option maxRecDepth 8000 in
theorem EqualAlts_any {n : Nat} (IH : SmS n) (v v2 : Value) (xs ys : List (List (Pat n))) (w : World) (h : AltsOf n w v xs) (h2 : AltsOf n w v2 ys) (hl : xs.length ≤ 1048576) (hl2 : ys.length ≤ 1048576) (hok : ∀ y ∈ xs, PatsOk n 1048576 y) (hok2 : ∀ y ∈ ys, PatsOk n 1048576 y) :
    Calls Try.prog 65 #[v, v2, .func (.func 24) #[] #[]] w fun e w' => e = .returned (.bool (allEq (sameP n) xs ys)) ∧ Below w.heap.size w w' := by
  have H := Lib.hid h
  have H2 := Lib.hid h2
  have HI := Lib.hid IH; clear IH
  have HOK := Lib.hid hok; clear hok
  have HOK2 := Lib.hid hok2; clear hok2
  obtain ⟨A, c, rfl⟩ := h.form; clear h
  obtain ⟨A2, c2, rfl⟩ := h2.form; clear h2
  obtain ⟨R, hR⟩ : ∃ R, allEq (sameP n) xs ys = R := ⟨_, rfl⟩
  rw [hR]
  have HR := Lib.hid hR; clear hR
  rcases eqForms (xs.length : Int) (ys.length : Int) with ⟨e1, e2, e3⟩ | ⟨e1, e2, e3⟩
  · have hlen : xs.length = ys.length := by have := e3.out; omega
    have e4 : (xs.length == ys.length) = true := by simp [hlen]
    have e5 : (xs.length != ys.length) = false := by simp [hlen]
    have HL := Lib.hid hlen; clear hlen
    go_enter Try.func65, Try.ntmps65
    go_wp2
    go_loopw [17] (fun i wr => ∃ k : Nat, k ≤ xs.length ∧ i = .int .i64 k ∧ Hid (R = allEq (sameP n) (xs.drop k) (ys.drop k)) ∧ Below w.heap.size w wr) (fun i _ => xs.length - (intOf i).toNat)
    case atStart => exact ⟨0, Nat.zero_le _, rfl, HR.out.symm, below_refl _⟩
    case round =>
      clear HR
      obtain ⟨k, hk, rfl, HX, hbel⟩ := hrel
      by_cases hlt : k < xs.length
      · have hlt2 : k < ys.length := by rw [← HL.out]; exact hlt
        have HB := Lib.hid hbel
        obtain ⟨ad, pv, rfl, hbl, a0, hp⟩ := (H.out.on hbel).get hlt
        obtain ⟨ad2, pv2, rfl, hbl2, b0, hp2⟩ := (H2.out.on hbel).get hlt2
        have HC := Lib.hid (HI.out pv pv2 xs[k] ys[k] wr hp hp2 (HOK.out _ (List.getElem_mem hlt)) (HOK2.out _ (List.getElem_mem hlt2)))
        have HD := Lib.hid (allEq_drop (p := sameP n) hlt hlt2)
        obtain ⟨Ap, cp, rfl⟩ := hp.form; clear hp
        obtain ⟨Aq, cq, rfl⟩ := hp2.form; clear hp2
        have i0 : (0 : Int) ≤ k := by omega
        have i1 : (k : Int) < xs.length := by omega
        have i2 : (k : Int) < ys.length := by omega
        generalize xs[k] = x at *
        generalize ys[k] = y at *
        generalize sameP n x y = Q at *
        go_wp2_with fail
        refine HC.out.mono ?_
        rintro e w6 ⟨rfl, b6⟩
        have HB6 := Lib.hid (below_trans HB.out b6)
        cases Q
        · go_wp2_with fail
          go_ret
          exact ⟨ret_bool (by rw [HX.out, HD.out]; rfl), HB6.out⟩
        · go_wp2_with fail
          refine ⟨⟨k + 1, by omega, by go_num, ?_, HB6.out⟩, by simp [intOf]; omega⟩
          show _ = _
          rw [HX.out, HD.out, Bool.true_and]
      · have HE := Lib.hid (allEq_end (p := sameP n) (xs := xs) (ys := ys) (k := k) (by omega) (by have := HL.out; omega))
        go_wp2
        go_ret
        exact ⟨ret_bool (by rw [HX.out, HE.out]), hbel⟩
  · have HE : Hid (R = false) := HR.out.symm.trans (allEq_ne (by have := e3.out; omega))
    have e4 : (xs.length == ys.length) = false := by have := e3.out; simp; omega
    have e5 : (xs.length != ys.length) = true := by have := e3.out; simp; omega
    go_enter Try.func65, Try.ntmps65
    go_wp2
    go_ret
    exact ⟨ret_bool HE.out.symm, below_refl _⟩

set_option maxHeartbeats 1000000 in
set_option maxRecDepth 8000 in
theorem sameClo_any {n : Nat} (IH : SmS n) (x y : PatC (List (Pat n))) (av av2 : Value) (w : World) (h : AltsOf n w av x.alts) (h2 : AltsOf n w av2 y.alts) (hl : x.alts.length ≤ 1048576) (hl2 : y.alts.length ≤ 1048576) (hok : ∀ z ∈ x.alts, PatsOk n 1048576 z) (hok2 : ∀ z ∈ y.alts, PatsOk n 1048576 z) :
    Calls Try.prog 64 #[.agg (x.cells av), .agg (y.cells av2)] w fun e w' => e = .returned (.bool (sameC (sameP n) x y)) ∧ Below w.heap.size w w' := by
  have hba : Below w.heap.size w ((w.alloc (.cells (x.cells av) 66)).alloc (.cells (y.cells av2) 66)) := Joins.below_alloc2 w _ _
  have HE := Lib.hid (EqualAlts_any IH av av2 x.alts y.alts _ (h.on hba) (h2.on hba) hl hl2 hok hok2)
  obtain ⟨R, hR⟩ : ∃ R, sameC (sameP n) x y = R := ⟨_, rfl⟩
  rw [hR]
  obtain ⟨lo, hi, co, te, al⟩ := x
  obtain ⟨lo2, hi2, co2, te2, al2⟩ := y
  have HV := Lib.hid (sameC_iff lo hi co te al lo2 hi2 co2 te2 al2 R hR); clear hR
  simp only [PatC.cells] at *
  generalize allEq (sameP n) al al2 = Q at *
  obtain ⟨A, c, rfl⟩ := h.form; clear h
  obtain ⟨A2, c2, rfl⟩ := h2.form; clear h2
  have HBA := Lib.hid hba
  clear IH hok hok2 hba
  rcases eqForms lo lo2 with ⟨e1, e2, e3⟩ | ⟨e1, e2, e3⟩
  rotate_left
  · go_enter Try.func64, Try.ntmps64
    go_wp2_with fail
    go_ret
    exact ⟨ret_bool (HV.out false (by have := e3.out; simp [this])).symm, HBA.out⟩
  rcases eqForms hi hi2 with ⟨f1, f2, f3⟩ | ⟨f1, f2, f3⟩
  rotate_left
  · go_enter Try.func64, Try.ntmps64
    go_wp2_with fail
    go_ret
    exact ⟨ret_bool (HV.out false (by have := f3.out; simp [this])).symm, HBA.out⟩
  by_cases hc : co = co2
  rotate_left
  · have g1 := strNe hc
    go_enter Try.func64, Try.ntmps64
    go_wp2_with fail
    go_ret
    exact ⟨ret_bool (HV.out false (by simp [hc])).symm, HBA.out⟩
  subst hc
  by_cases ht : te = te2
  rotate_left
  · have g1 := strNe ht
    go_enter Try.func64, Try.ntmps64
    go_wp2_with fail
    go_ret
    exact ⟨ret_bool (HV.out false (by simp [ht])).symm, HBA.out⟩
  subst ht
  have HQ : Hid (R = Q) := HV.out Q (by have h1 := e3.out; have h2 := f3.out; simp [h1, h2])
  go_enter Try.func64, Try.ntmps64
  go_wp2_with fail
  refine HE.out.mono ?_
  rintro e w1 ⟨rfl, b1⟩
  have HB1 := Lib.hid (below_trans HBA.out b1); clear b1
  go_wp2_with fail
  go_ret
  exact ⟨ret_bool HQ.out.symm, HB1.out⟩

set_option maxHeartbeats 1000000 in
set_option maxRecDepth 8000 in
theorem EqualItems_any {n : Nat} (IH : SmS n) (v v2 : Value) (xs ys : List (PatC (List (Pat n)))) (w : World) (h : Pats (n + 1) w v xs) (h2 : Pats (n + 1) w v2 ys) (hok : ∀ x ∈ xs, x.codes.size ≤ 1048576 ∧ x.text.size ≤ 1048576 ∧ x.alts.length ≤ 1048576 ∧ ∀ y ∈ x.alts, PatsOk n 1048576 y) (hok2 : ∀ x ∈ ys, x.codes.size ≤ 1048576 ∧ x.text.size ≤ 1048576 ∧ x.alts.length ≤ 1048576 ∧ ∀ y ∈ x.alts, PatsOk n 1048576 y) (hl : xs.length ≤ 1048576) (hl2 : ys.length ≤ 1048576) :
    Calls Try.prog 63 #[v, v2, .func (.func 64) #[] #[]] w fun e w' => e = .returned (.bool (allEq (sameC (sameP n)) xs ys)) ∧ Below w.heap.size w w' := by
  have H := Lib.hid h
  have H2 := Lib.hid h2
  have HI := Lib.hid IH; clear IH
  have HOK := Lib.hid hok; clear hok
  have HOK2 := Lib.hid hok2; clear hok2
  obtain ⟨A, c, hv⟩ : ∃ A c, v = .slice A xs.length c := h.form
  subst hv; clear h
  obtain ⟨A2, c2, hv⟩ : ∃ A c, v2 = .slice A ys.length c := h2.form
  subst hv; clear h2
  obtain ⟨R, hR⟩ : ∃ R, allEq (sameC (sameP n)) xs ys = R := ⟨_, rfl⟩
  rw [hR]
  have HR := Lib.hid hR; clear hR
  rcases eqForms (xs.length : Int) (ys.length : Int) with ⟨e1, e2, e3⟩ | ⟨e1, e2, e3⟩
  · have hlen : xs.length = ys.length := by have := e3.out; omega
    have e4 : (xs.length == ys.length) = true := by simp [hlen]
    have e5 : (xs.length != ys.length) = false := by simp [hlen]
    have HL := Lib.hid hlen; clear hlen
    go_enter Try.func63, Try.ntmps63
    go_wp2
    go_loopw [17] (fun i wr => ∃ k : Nat, k ≤ xs.length ∧ i = .int .i64 k ∧ Hid (R = allEq (sameC (sameP n)) (xs.drop k) (ys.drop k)) ∧ Below w.heap.size w wr) (fun i _ => xs.length - (intOf i).toNat)
    case atStart => exact ⟨0, Nat.zero_le _, rfl, HR.out.symm, below_refl _⟩
    case round =>
      clear HR
      obtain ⟨k, hk, rfl, HX, hbel⟩ := hrel
      by_cases hlt : k < xs.length
      · have hlt2 : k < ys.length := by rw [← HL.out]; exact hlt
        obtain ⟨ad, av, rfl, hbl, hal, a0, a1, a2, a3, a4⟩ := (Pats.on H.out hbel).get hlt
        have hb1a : Below wr.heap.size wr (wr.alloc (.cells (xs[k].cells av) 66)) := Joins.below_alloc1 wr _
        have hb1 : Below w.heap.size w (wr.alloc (.cells (xs[k].cells av) 66)) := below_trans hbel hb1a
        obtain ⟨ad2, av2, rfl, hbl2, hal2, b0, b1, b2, b3, b4⟩ := (Pats.on H2.out hb1).get hlt2
        have hb2a : Below (wr.alloc (.cells (xs[k].cells av) 66)).heap.size (wr.alloc (.cells (xs[k].cells av) 66)) ((wr.alloc (.cells (xs[k].cells av) 66)).alloc (.cells (ys[k].cells av2) 66)) := Joins.below_alloc1 _ _
        have HB := Lib.hid (below_trans hb1 hb2a)
        have hx := HOK.out _ (List.getElem_mem hlt)
        have hy := HOK2.out _ (List.getElem_mem hlt2)
        have HC := Lib.hid (sameClo_any HI.out xs[k] ys[k] av av2 _ ((hal.on hb1a).on hb2a) (hal2.on hb2a) hx.2.2.1 hy.2.2.1 hx.2.2.2 hy.2.2.2)
        have HD := Lib.hid (allEq_drop (p := sameC (sameP n)) hlt hlt2)
        have i0 : (0 : Int) ≤ k := by omega
        have i1 : (k : Int) < xs.length := by omega
        have i2 : (k : Int) < ys.length := by omega
        obtain ⟨Ax, cx, rfl⟩ := hal.form; clear hal
        obtain ⟨Ay, cy, rfl⟩ := hal2.form; clear hal2
        clear hb1 hb1a hb2a hx hy
        generalize xs[k] = x at *
        generalize ys[k] = y at *
        generalize sameC (sameP n) x y = Q at *
        obtain ⟨lo, hi, co, te, al⟩ := x
        obtain ⟨lo2, hi2, co2, te2, al2⟩ := y
        simp only [PatC.cells] at *
        go_wp2_with fail
        refine HC.out.mono ?_
        rintro e w6 ⟨rfl, b6⟩
        have HB6 := Lib.hid (below_trans HB.out b6)
        cases Q
        · go_wp2_with fail
          go_ret
          exact ⟨ret_bool (by rw [HX.out, HD.out]; rfl), HB6.out⟩
        · go_wp2_with fail
          refine ⟨⟨k + 1, by omega, by go_num, ?_, HB6.out⟩, by simp [intOf]; omega⟩
          show _ = _
          rw [HX.out, HD.out, Bool.true_and]
      · have HE := Lib.hid (allEq_end (p := sameC (sameP n)) (xs := xs) (ys := ys) (k := k) (by omega) (by have := HL.out; omega))
        go_wp2
        go_ret
        exact ⟨ret_bool (by rw [HX.out, HE.out]), hbel⟩
  · have HE : Hid (R = false) := HR.out.symm.trans (allEq_ne (by have := e3.out; omega))
    have e4 : (xs.length == ys.length) = false := by have := e3.out; simp; omega
    have e5 : (xs.length != ys.length) = true := by have := e3.out; simp; omega
    go_enter Try.func63, Try.ntmps63
    go_wp2
    go_ret
    exact ⟨ret_bool HE.out.symm, below_refl _⟩

theorem samePattern_succ {n : Nat} (IH : SmS n) : SmS (n + 1) := by
  intro v v2 xs0 ys0 w h h2 hok hok2
  obtain ⟨xs, hxs⟩ : ∃ xs : List (PatC (List (Pat n))), xs = xs0 := ⟨xs0, rfl⟩
  subst hxs
  obtain ⟨ys, hys⟩ : ∃ ys : List (PatC (List (Pat n))), ys = ys0 := ⟨ys0, rfl⟩
  subst hys
  have HE : Hid (Calls Try.prog 63 #[v, v2, .func (.func 64) #[] #[]] w fun e w' => e = .returned (.bool (sameP (n + 1) xs ys)) ∧ Below w.heap.size w w') := EqualItems_any IH v v2 xs ys w h h2 hok.2 hok2.2 hok.1 hok2.1
  obtain ⟨A, c, hv⟩ : ∃ A c, v = .slice A xs.length c := h.form
  subst hv; clear h
  obtain ⟨A2, c2, hv⟩ : ∃ A c, v2 = .slice A ys.length c := h2.form
  subst hv; clear h2
  show Calls Try.prog 24 #[_, _] w fun e w' => e = .returned (.bool (sameP (n + 1) xs ys)) ∧ Below w.heap.size w w'
  generalize sameP (n + 1) xs ys = R at *
  clear IH hok hok2
  go_enter Try.func24, Try.ntmps24
  go_wp2_with fail
  refine HE.out.mono ?_
  rintro e w1 ⟨rfl, b1⟩
  go_wp2_with fail
  go_ret
  exact ⟨rfl, b1⟩

theorem samePattern_zero : SmS 0 := by
  intro v v2 xs ys w h h2 hok hok2
  obtain ⟨A, c, rfl⟩ := h
  obtain ⟨A2, c2, rfl⟩ := h2
  have HE : Hid (Calls Try.prog 63 #[.slice A 0 c, .slice A2 0 c2, .func (.func 64) #[] #[]] w fun e w' => e = .returned (.bool true) ∧ Below w.heap.size w w') := by
    show Calls Try.prog 63 #[.slice A 0 c, .slice A2 0 c2, .func (.func 64) #[] #[]] w _
    go_enter Try.func63, Try.ntmps63
    go_wp2
    go_loop [17] (fun i => i = .int .i64 0) (fun _ => 0)
    case atStart => rfl
    case round =>
      obtain rfl := hrel
      go_wp2
      go_ret
      exact ⟨rfl, below_refl _⟩
  go_enter Try.func24, Try.ntmps24
  go_wp2_with fail
  refine HE.out.mono ?_
  rintro e w1 ⟨rfl, b1⟩
  go_wp2_with fail
  go_ret
  exact ⟨rfl, b1⟩

theorem samePattern_any : ∀ n, SmS n
  | 0 => samePattern_zero
  | n + 1 => samePattern_succ (samePattern_any n)

end Go.Proofs.Ytkoagpeeohmokaa
