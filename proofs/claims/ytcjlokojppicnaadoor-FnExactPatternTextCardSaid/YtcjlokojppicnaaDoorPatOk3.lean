/- Patterns: impl's test of a list of items; PatternOk. -/
import Derived.Test.YtcjlokojppicnaaDoorPatOk2
namespace Go.Proofs.YtcjlokojppicnaaDoor
open Go.RowKit
set_option linter.unusedVariables false

theorem itemsClo_any {n : Nat} (IH : OkS n) (d g : Nat) (x : PatC (List (Pat n))) (av : Value) (w : World) (hd : d ≤ 3) (hg : w.cell? ⟨g, 0, none⟩ = some (.int .i64 (d : Int))) (h : AltsOf n w av x.alts) (hc : x.codes.size ≤ 1048576) (ht : x.text.size ≤ 1048576) (hl : x.alts.length ≤ 1048576) (hok : ∀ y ∈ x.alts, PatsOk n 1048576 y) :
    Calls Tryd.prog 33 #[.agg (x.cells av), .pointer (some ⟨g, 0, none⟩)] w fun e w' => e = .returned (.bool (!patB (3 - d) x)) ∧ Below w.heap.size w w' := by
  have hba : Below w.heap.size w (w.alloc (.cells (x.cells av) 36)) := Joins.below_alloc1 w _
  have HC := Lib.hid (itemOk_any IH d x av (w.alloc (.cells (x.cells av) 36)) hd (h.on hba) hc ht hl hok)
  have hgc := (hba.cell (lt_of_cell hg)).trans hg
  have HGC := Lib.hid hgc
  generalize patB (3 - d) x = R at *
  obtain ⟨lo, hi, codes, text, alts⟩ := x
  simp only [PatC.cells] at *
  obtain ⟨A, c, rfl⟩ := h.form; clear h
  clear IH hok hg
  go_enter Tryd.func33, Tryd.ntmps33
  go_wp2_with fail
  refine HC.out.mono ?_
  rintro e w1 ⟨rfl, b1⟩
  have HB1 := Lib.hid (below_trans hba b1); clear b1
  go_wp2_with fail
  go_ret
  exact ⟨rfl, HB1.out⟩

set_option maxRecDepth 8000 in
theorem IndexItems_any {n : Nat} (IH : OkS n) (d g : Nat) (v : Value) (xs : List (PatC (List (Pat n)))) (w : World) (hd : d ≤ 3) (hg : w.cell? ⟨g, 0, none⟩ = some (.int .i64 (d : Int))) (h : Pats (n + 1) w v xs) (hl : xs.length ≤ 1048576) (hok : ∀ x ∈ xs, x.codes.size ≤ 1048576 ∧ x.text.size ≤ 1048576 ∧ x.alts.length ≤ 1048576 ∧ ∀ y ∈ x.alts, PatsOk n 1048576 y) :
    Calls Tryd.prog 41 #[v, .func (.func 33) #[] #[.pointer (some ⟨g, 0, none⟩)]] w fun e w' => e = .returned (.int .i64 (idxG (fun x => !patB (3 - d) x) xs)) ∧ Below w.heap.size w w' := by
  have H := Lib.hid h
  have HI := Lib.hid IH; clear IH
  have HOK := Lib.hid hok; clear hok
  have HG := Lib.hid hg; clear hg
  have HGE := Lib.hid (idxG_ge (fun x : PatC (List (Pat n)) => !patB (3 - d) x) xs)
  obtain ⟨A, c, hv⟩ : ∃ A c, v = .slice A xs.length c := h.form
  subst hv; clear h
  obtain ⟨z, hz⟩ : ∃ z, idxG (fun x : PatC (List (Pat n)) => !patB (3 - d) x) xs = z := ⟨_, rfl⟩
  rw [hz]
  have HZ : Hid (z = if idxG (fun x : PatC (List (Pat n)) => !patB (3 - d) x) (xs.drop 0) < 0 then -1 else idxG (fun x : PatC (List (Pat n)) => !patB (3 - d) x) (xs.drop 0) + ((0 : Nat) : Int)) := by
    show _ = _
    have := HGE.out
    rw [List.drop_zero, hz]; rw [hz] at this; split <;> omega
  clear hz
  go_enter Tryd.func41, Tryd.ntmps41
  go_wp2
  go_loopw [5, 8] (fun _ i wr => ∃ k : Nat, k ≤ xs.length ∧ i = .int .i64 k ∧ Hid (z = if idxG (fun x : PatC (List (Pat n)) => !patB (3 - d) x) (xs.drop k) < 0 then -1 else idxG (fun x : PatC (List (Pat n)) => !patB (3 - d) x) (xs.drop k) + k) ∧ Below w.heap.size w wr) (fun _ i _ => xs.length - (intOf i).toNat)
  case atStart => exact ⟨0, Nat.zero_le _, rfl, HZ.out, below_refl _⟩
  case round =>
    clear HZ
    obtain ⟨k, hk, rfl, HIX, hbel⟩ := hrel
    by_cases hlt : k < xs.length
    · have HB := Lib.hid hbel
      obtain ⟨ad, av, rfl, hbl, hal, a0, a1, a2, a3, a4⟩ := (Pats.on H.out hbel).get hlt
      have hgc := (hbel.cell (lt_of_cell HG.out)).trans HG.out
      have hx := HOK.out _ (List.getElem_mem hlt)
      have HC := Lib.hid (itemsClo_any HI.out d g xs[k] av wr hd hgc hal hx.1 hx.2.1 hx.2.2.1 hx.2.2.2)
      have HAT := Lib.hid (idxG_at _ hlt z HIX.out)
      clear hx hgc
      obtain ⟨Ap, cp, rfl⟩ := hal.form; clear hal
      generalize xs[k] = x at *
      generalize patB (3 - d) x = R at *
      obtain ⟨lo, hi, codes, text, alts⟩ := x
      simp only [PatC.cells] at *
      go_wp2_with fail
      refine HC.out.mono ?_
      rintro e w2 ⟨rfl, b2⟩
      have HB2 := Lib.hid (below_trans HB.out b2); clear b2
      cases R
      · go_wp2_with fail
        go_ret
        refine ⟨ret_int ?_, HB2.out⟩
        rcases HAT.out with ⟨_, h⟩ | ⟨h, _⟩
        · exact h.symm
        · cases h
      · go_wp2_with fail
        refine ⟨⟨k + 1, by omega, by go_num, ?_, HB2.out⟩, by simp [intOf]; omega⟩
        rcases HAT.out with ⟨h, _⟩ | ⟨_, h⟩
        · cases h
        · exact h
    · go_wp2
      go_ret
      refine ⟨ret_int ?_, hbel⟩
      rw [HIX.out, List.drop_eq_nil_of_le (by omega)]; rfl

theorem ContainsItems_any {n : Nat} (IH : OkS n) (d g : Nat) (v : Value) (xs : List (PatC (List (Pat n)))) (w : World) (hd : d ≤ 3) (hg : w.cell? ⟨g, 0, none⟩ = some (.int .i64 (d : Int))) (h : Pats (n + 1) w v xs) (hl : xs.length ≤ 1048576) (hok : ∀ x ∈ xs, x.codes.size ≤ 1048576 ∧ x.text.size ≤ 1048576 ∧ x.alts.length ≤ 1048576 ∧ ∀ y ∈ x.alts, PatsOk n 1048576 y) :
    Calls Tryd.prog 32 #[v, .func (.func 33) #[] #[.pointer (some ⟨g, 0, none⟩)]] w fun e w' => e = .returned (.bool (!(xs.all (patB (3 - d))))) ∧ Below w.heap.size w w' := by
  have HI := Lib.hid (IndexItems_any IH d g v xs w hd hg h hl hok)
  have HA : Hid (decide (0 ≤ idxG (fun x : PatC (List (Pat n)) => !patB (3 - d) x) xs) = !(xs.all (patB (3 - d)))) := by
    show _ = _
    rw [idxG_any, List.all_eq_not_any_not, Bool.not_not]
  generalize idxG (fun x : PatC (List (Pat n)) => !patB (3 - d) x) xs = z at *
  generalize (!(xs.all (patB (3 - d)))) = R at *
  obtain ⟨A, c, hv⟩ : ∃ A c, v = .slice A xs.length c := h.form
  subst hv; clear h
  clear IH hok hg
  go_enter Tryd.func32, Tryd.ntmps32
  go_wp2_with fail
  refine HI.out.mono ?_
  rintro e w1 ⟨rfl, b1⟩
  go_wp2_with fail
  go_ret
  exact ⟨ret_bool HA.out, b1⟩

set_option maxRecDepth 8000 in
theorem itemsOk_succ {n : Nat} (IH : OkS n) : OkS (n + 1) := by
  intro d v xs0 w hd h hok
  obtain ⟨xs, hxs⟩ : ∃ xs : List (PatC (List (Pat n))), xs = xs0 := ⟨xs0, rfl⟩
  subst hxs
  have hmf : ∀ (fn : Fn) (first cap : Array Value) (w : World), (Instr.makeFunc fn first cap).run Tryd.prog w = .ok (.func fn first cap) w := fun _ _ _ _ => rfl
  have hl : xs.length ≤ 1048576 := hok.1
  have hok2 : ∀ x ∈ xs, x.codes.size ≤ 1048576 ∧ x.text.size ≤ 1048576 ∧ x.alts.length ≤ 1048576 ∧ ∀ y ∈ x.alts, PatsOk n 1048576 y := hok.2
  have h' : Pats (n + 1) w v xs := h
  have hba : Below w.heap.size w (w.alloc (.cells #[.int .i64 (d : Int)] 3)) := Joins.below_alloc1 w _
  have hg : (w.alloc (.cells #[.int .i64 (d : Int)] 3)).cell? ⟨w.heap.size, 0, none⟩ = some (.int .i64 (d : Int)) := by
    have := heap_alloc_new w (.cells #[.int .i64 (d : Int)] 3)
    rw [Lib.cell_of_heap this]; rfl
  have HC := Lib.hid (ContainsItems_any IH d w.heap.size v xs (w.alloc (.cells #[.int .i64 (d : Int)] 3)) hd hg (Pats.on h' hba) hl hok2)
  have HV : Hid (patsB (n + 1) (3 - d) xs = (decide (1 ≤ xs.length ∧ xs.length ≤ 8) && xs.all (patB (3 - d)))) := patsB_succ (3 - d) xs
  obtain ⟨A, c, hv⟩ : ∃ A c, v = .slice A xs.length c := h'.form
  subst hv
  show Calls Tryd.prog 22 #[_, .int .i64 (d : Int)] w fun e w' => e = .returned (.bool (patsB (n + 1) (3 - d) xs)) ∧ Below w.heap.size w w'
  generalize patsB (n + 1) (3 - d) xs = R at *
  generalize xs.all (patB (3 - d)) = AL at *
  clear IH hok hok2 h h' hg
  cases hk : decide (1 ≤ xs.length ∧ xs.length ≤ 8)
  · have HE : Hid (R = false) := by show _ = _; rw [HV.out, hk]; rfl
    have HDK : Hid (decide ((1 : Int) ≤ (xs.length : Int) ∧ (xs.length : Int) ≤ 8) = false) := by
      have := of_decide_eq_false hk; exact decide_eq_false (by omega)
    clear hk HV
    go_enter Tryd.func22, Tryd.ntmps22
    go_wp2_with fail
    refine (withinP_any _ _ _ _).mono ?_
    rintro e w' ⟨rfl, rfl⟩
    rw [HDK.out]
    go_wp2_with fail
    go_ret
    exact ⟨ret_bool HE.out.symm, hba⟩
  · have HE : Hid (R = AL) := by show _ = _; rw [HV.out, hk]; rfl
    have HDK : Hid (decide ((1 : Int) ≤ (xs.length : Int) ∧ (xs.length : Int) ≤ 8) = true) := by
      have := of_decide_eq_true hk; exact decide_eq_true (by omega)
    clear hk HV
    go_enter Tryd.func22, Tryd.ntmps22
    go_wp2_with fail
    refine (withinP_any _ _ _ _).mono ?_
    rintro e w' ⟨rfl, rfl⟩
    rw [HDK.out]
    go_wp2_with fail
    refine HC.out.mono ?_
    rintro e w1 ⟨rfl, b1⟩
    have HB1 := Lib.hid (below_trans hba b1); clear b1
    go_wp2_with fail
    go_ret
    exact ⟨ret_bool (by rw [HE.out]), HB1.out⟩

theorem itemsOk_zero : OkS 0 := by
  intro d v xs w hd h hok
  obtain ⟨A, c, rfl⟩ := h
  have hba : Below w.heap.size w (w.alloc (.cells #[.int .i64 (d : Int)] 3)) := Joins.below_alloc1 w _
  have HDK : Hid (decide ((1 : Int) ≤ (0 : Int) ∧ (0 : Int) ≤ 8) = false) := by show _ = _; decide
  go_enter Tryd.func22, Tryd.ntmps22
  go_wp2_with fail
  refine (withinP_any _ _ _ _).mono ?_
  rintro e w' ⟨rfl, rfl⟩
  rw [HDK.out]
  go_wp2_with fail
  go_ret
  exact ⟨rfl, hba⟩

theorem itemsOk_any : ∀ n, OkS n
  | 0 => itemsOk_zero
  | n + 1 => itemsOk_succ (itemsOk_any n)

theorem PatternOk_any {n : Nat} (v : Value) (xs : List (Pat n)) (w : World) (h : Pats n w v xs) (hok : PatsOk n 1048576 xs) : Calls Tryd.prog 13 #[v] w fun e w' => e = .returned (.bool (patsB n 3 xs)) ∧ Below w.heap.size w w' := by
  have HC : Hid (Calls Tryd.prog 22 #[v, .int .i64 0] w fun e w' => e = .returned (.bool (patsB n 3 xs)) ∧ Below w.heap.size w w') := itemsOk_any n 0 v xs w (by omega) h hok
  obtain ⟨A, c, rfl⟩ := h.form; clear h
  generalize patsB n 3 xs = R at *
  go_enter Tryd.func13, Tryd.ntmps13
  go_wp2_with fail
  refine HC.out.mono ?_
  rintro e w1 ⟨rfl, b1⟩
  go_wp2_with fail
  go_ret
  exact ⟨rfl, b1⟩

end Go.Proofs.YtcjlokojppicnaaDoor
