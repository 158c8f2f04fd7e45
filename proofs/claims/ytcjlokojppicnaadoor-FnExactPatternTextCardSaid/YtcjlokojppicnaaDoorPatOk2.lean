/- Patterns: impl's test of one item and of a list of them. -/
import Derived.Test.YtcjlokojppicnaaDoorPatOk
namespace Go.Proofs.YtcjlokojppicnaaDoor
open Go.RowKit
set_option linter.unusedVariables false

theorem timesB_low {lo hi : Int} (h : ¬ (0 ≤ lo ∧ lo ≤ 99)) : timesB lo hi = false := by
  unfold timesB; rw [decide_eq_false h, Bool.false_and]

theorem timesB_neg {lo hi : Int} (h : 0 ≤ lo ∧ lo ≤ 99) (h2 : hi = -1) : timesB lo hi = true := by
  unfold timesB; rw [decide_eq_true h, decide_eq_true h2]; rfl

theorem timesB_high {lo hi : Int} (h : 0 ≤ lo ∧ lo ≤ 99) (h2 : ¬ hi = -1) : timesB lo hi = decide (lo ≤ hi ∧ hi ≤ 99) := by
  unfold timesB; rw [decide_eq_true h, decide_eq_false h2]; rfl

theorem empB (s : ByteArray) : (s = ⟨#[]⟩) ∨ (s.toList.isEmpty = false ∧ (s.toList == []) = false ∧ Hid (s.data.toList ≠ [])) := by
  rcases strCase s [] with rfl | ⟨h1, h2⟩
  · exact .inl rfl
  · exact .inr ⟨by rw [ba_toList]; exact List.isEmpty_eq_false_iff.2 h2.out, h1, h2⟩

theorem lenForms (n : Nat) : (n = 0) ∨ (((n : Int) == 0) = false ∧ (n == 0) = false ∧ 0 < n) := by
  rcases Nat.eq_zero_or_pos n with h | h
  · exact .inl h
  · exact .inr ⟨by simp; omega, by simp; omega, h⟩

set_option maxHeartbeats 2000000 in
set_option maxRecDepth 8000 in
theorem itemOk_any {n : Nat} (IH : OkS n) (d : Nat) (x : PatC (List (Pat n))) (av : Value) (w : World) (hd : d ≤ 3) (h : AltsOf n w av x.alts) (hc : x.codes.size ≤ 1048576) (ht : x.text.size ≤ 1048576) (hl : x.alts.length ≤ 1048576) (hok : ∀ y ∈ x.alts, PatsOk n 1048576 y) :
    Calls Tryd.prog 34 #[.agg (x.cells av), .int .i64 (d : Int)] w fun e w' => e = .returned (.bool (patB (3 - d) x)) ∧ Below w.heap.size w w' := by
  have hmf : ∀ (fn : Fn) (first cap : Array Value) (w : World), (Instr.makeFunc fn first cap).run Tryd.prog w = .ok (.func fn first cap) w := fun _ _ _ _ => rfl
  have hba : Below w.heap.size w ((w.alloc (.cells (x.cells av) 36)).alloc (.cells #[.int .i64 (d : Int)] 3)) := Joins.below_alloc2 w _ _
  have hg : ((w.alloc (.cells (x.cells av) 36)).alloc (.cells #[.int .i64 (d : Int)] 3)).cell? ⟨w.heap.size + 1, 0, none⟩ = some (.int .i64 (d : Int)) := by
    have e : w.heap.size + 1 = (w.alloc (.cells (x.cells av) 36)).heap.size := by simp
    rw [e]
    have := heap_alloc_new (w.alloc (.cells (x.cells av) 36)) (.cells #[.int .i64 (d : Int)] 3)
    rw [Lib.cell_of_heap this]; rfl
  have HCF : Hid (d < 3 → ∀ W, Below ((w.alloc (.cells (x.cells av) 36)).alloc (.cells #[.int .i64 (d : Int)] 3)).heap.size ((w.alloc (.cells (x.cells av) 36)).alloc (.cells #[.int .i64 (d : Int)] 3)) W → Calls Tryd.prog 43 #[av, .func (.func 44) #[] #[.pointer (some ⟨w.heap.size + 1, 0, none⟩)]] W fun e w' => e = .returned (.bool (!(x.alts.all (patsB n (3 - d - 1))))) ∧ Below W.heap.size W w') :=
    fun hd3 W hW => ContainsAlts_any IH d _ av x.alts W hd3 ((hW.cell (lt_of_cell hg)).trans hg) ((h.on hba).on hW) hl hok
  have HV : Hid (patB (3 - d) x = (timesB x.low x.high && kindB x.codes.data.toList x.text.data.toList x.alts.length (3 - d) (x.alts.all (patsB n (3 - d - 1))))) := rfl
  obtain ⟨lo, hi, codes, text, alts⟩ := x
  simp only [PatC.cells] at *
  obtain ⟨A, c, rfl⟩ := h.form; clear h
  generalize patB (3 - d) _ = R at *
  generalize alts.all (patsB n (3 - d - 1)) = AL at *
  have HCO := Lib.hid (fun W => codesOk_any codes W hc)
  have HCL : Hid (∀ W, Below ((w.alloc (.cells #[.int .i64 lo, .int .i64 hi, .string codes, .string text, .slice A alts.length c] 36)).alloc (.cells #[.int .i64 (d : Int)] 3)).heap.size ((w.alloc (.cells #[.int .i64 lo, .int .i64 hi, .string codes, .string text, .slice A alts.length c] 36)).alloc (.cells #[.int .i64 (d : Int)] 3)) W → W.cell? ⟨w.heap.size, 3, none⟩ = some (.string text) ∧ W.cell? ⟨w.heap.size, 4, none⟩ = some (.slice A alts.length c)) := fun W hW => by
    have h1 := heap_alloc_new w (.cells #[.int .i64 lo, .int .i64 hi, .string codes, .string text, .slice A alts.length c] 36)
    have h2 := (Below.heap_alloc (w.alloc (.cells #[.int .i64 lo, .int .i64 hi, .string codes, .string text, .slice A alts.length c] 36)) (.cells #[.int .i64 (d : Int)] 3) w.heap.size (by simp)).trans h1
    have h3 := (hW.block w.heap.size (by simp; omega)).trans h2
    exact ⟨by rw [Lib.cell_of_heap h3]; rfl, by rw [Lib.cell_of_heap h3]; rfl⟩
  generalize hK : alts.length = K at *
  have HBA := Lib.hid hba
  clear IH hok hba hg hK
  by_cases hlo : 0 ≤ lo ∧ lo ≤ 99
  rotate_left
  · have HE := Lib.hid (HV.out.trans (by rw [timesB_low hlo, Bool.false_and]))
    have HD := Lib.hid (decide_eq_false hlo)
    clear hlo HV
    go_enter Tryd.func34, Tryd.ntmps34
    go_wp2_with fail
    refine (withinP_any _ _ _ _).mono ?_
    rintro e w' ⟨rfl, rfl⟩
    rw [HD.out]
    go_wp2_with fail
    go_ret
    exact ⟨ret_bool HE.out.symm, HBA.out⟩
  have HD := Lib.hid (decide_eq_true hlo)
  have HTT : (((hi == -1) = true ∧ (hi != -1) = false ∧ Hid (R = kindB codes.data.toList text.data.toList K (3 - d) AL)) ∨ ((hi == -1) = false ∧ (hi != -1) = true ∧ Hid (decide (lo ≤ hi ∧ hi ≤ 99) = false) ∧ Hid (R = false)) ∨ ((hi == -1) = false ∧ (hi != -1) = true ∧ Hid (decide (lo ≤ hi ∧ hi ≤ 99) = true) ∧ Hid (R = kindB codes.data.toList text.data.toList K (3 - d) AL))) := by
    rcases eqForms hi (-1) with ⟨e1, e2, e3⟩ | ⟨e1, e2, e3⟩
    · exact .inl ⟨e1, e2, HV.out.trans (by rw [timesB_neg hlo e3.out]; rfl)⟩
    · cases hdd : decide (lo ≤ hi ∧ hi ≤ 99)
      · exact .inr (.inl ⟨e1, e2, rfl, HV.out.trans (by rw [timesB_high hlo e3.out, hdd]; rfl)⟩)
      · exact .inr (.inr ⟨e1, e2, rfl, HV.out.trans (by rw [timesB_high hlo e3.out, hdd]; rfl)⟩)
  clear hlo HV
  rcases HTT with ⟨e1, e2, HR⟩ | ⟨e1, e2, HD2, HE⟩ | ⟨e1, e2, HD2, HR⟩
  case inr.inl =>
    go_enter Tryd.func34, Tryd.ntmps34
    go_wp2_with fail
    refine (withinP_any _ _ _ _).mono ?_
    rintro e w' ⟨rfl, rfl⟩
    rw [HD.out]
    go_wp2_with fail
    refine (withinP_any _ _ _ _).mono ?_
    rintro e w' ⟨rfl, rfl⟩
    rw [HD2.out]
    go_wp2_with fail
    go_ret
    exact ⟨ret_bool HE.out.symm, HBA.out⟩
  all_goals
    rcases empB codes with rfl | ⟨hc1, hc2, hc3⟩
    · rcases empB text with rfl | ⟨ht1, ht2, ht3⟩
      · have HKB : Hid (R = (decide (1 ≤ K ∧ K ≤ 8) && decide (0 < 3 - d) && AL)) := HR.out
        clear HR HCO
        cases hk : decide (1 ≤ K ∧ K ≤ 8)
        · have HE : Hid (R = false) := by show _ = _; rw [HKB.out, hk]; rfl
          have HDK : Hid (decide ((1 : Int) ≤ (K : Int) ∧ (K : Int) ≤ 8) = false) := by
            have := of_decide_eq_false hk; exact decide_eq_false (by omega)
          clear hk HKB
          go_enter Tryd.func34, Tryd.ntmps34
          go_wp2_with fail
          refine (withinP_any _ _ _ _).mono ?_
          rintro e w' ⟨rfl, rfl⟩
          rw [HD.out]
          go_wp2_with fail
          try (refine (withinP_any _ _ _ _).mono ?_; rintro e w' ⟨rfl, rfl⟩; rw [HD2.out]; go_wp2_with fail)
          refine (withinP_any _ _ _ _).mono ?_
          rintro e w' ⟨rfl, rfl⟩
          rw [HDK.out]
          go_wp2_with fail
          go_ret
          exact ⟨ret_bool HE.out.symm, HBA.out⟩
        · have HDK : Hid (decide ((1 : Int) ≤ (K : Int) ∧ (K : Int) ≤ 8) = true) := by
            have := of_decide_eq_true hk; exact decide_eq_true (by omega)
          by_cases hd3 : d < 3
          · have HE : Hid (R = AL) := by show _ = _; rw [HKB.out, hk, decide_eq_true (show 0 < 3 - d by omega)]; rfl
            have HCC := Lib.hid (HCF.out hd3)
            clear hk HKB
            go_enter Tryd.func34, Tryd.ntmps34
            go_wp2_with fail
            refine (withinP_any _ _ _ _).mono ?_
            rintro e w' ⟨rfl, rfl⟩
            rw [HD.out]
            go_wp2_with fail
            try (refine (withinP_any _ _ _ _).mono ?_; rintro e w' ⟨rfl, rfl⟩; rw [HD2.out]; go_wp2_with fail)
            refine (withinP_any _ _ _ _).mono ?_
            rintro e w' ⟨rfl, rfl⟩
            rw [HDK.out]
            go_wp2_with fail
            refine (HCC.out _ (below_refl _)).mono ?_
            rintro e w1 ⟨rfl, b1⟩
            have HB1 := Lib.hid (below_trans HBA.out b1); clear b1
            go_wp2_with fail
            go_ret
            exact ⟨ret_bool (by rw [HE.out]), HB1.out⟩
          · have HE : Hid (R = false) := by show _ = _; rw [HKB.out, hk, decide_eq_false (show ¬ 0 < 3 - d by omega)]; rfl
            clear hk HKB
            go_enter Tryd.func34, Tryd.ntmps34
            go_wp2_with fail
            refine (withinP_any _ _ _ _).mono ?_
            rintro e w' ⟨rfl, rfl⟩
            rw [HD.out]
            go_wp2_with fail
            try (refine (withinP_any _ _ _ _).mono ?_; rintro e w' ⟨rfl, rfl⟩; rw [HD2.out]; go_wp2_with fail)
            refine (withinP_any _ _ _ _).mono ?_
            rintro e w' ⟨rfl, rfl⟩
            rw [HDK.out]
            go_wp2_with fail
            go_ret
            exact ⟨ret_bool HE.out.symm, HBA.out⟩
      · have HKB : Hid (R = (decide (text.data.toList.length ≤ 24) && decide (K = 0))) := by
          show _ = _
          rw [HR.out]; unfold kindB; rw [if_neg (by simp), if_pos ht3.out]
        clear HR HCO HCF
        by_cases h24 : text.size ≤ 24
        · rcases lenForms K with rfl | ⟨k1, k2, k3⟩
          · have HE : Hid (R = true) := by show _ = _; rw [HKB.out, ← ba_size, decide_eq_true h24]; rfl
            clear HKB
            go_enter Tryd.func34, Tryd.ntmps34
            go_wp2_with fail
            refine (withinP_any _ _ _ _).mono ?_
            rintro e w' ⟨rfl, rfl⟩
            rw [HD.out]
            go_wp2_with fail
            try (refine (withinP_any _ _ _ _).mono ?_; rintro e w' ⟨rfl, rfl⟩; rw [HD2.out]; go_wp2_with fail)
            go_ret
            exact ⟨ret_bool HE.out.symm, HBA.out⟩
          · have HE : Hid (R = false) := by show _ = _; rw [HKB.out, decide_eq_false (show ¬ K = 0 by omega), Bool.and_false]
            clear HKB
            go_enter Tryd.func34, Tryd.ntmps34
            go_wp2_with fail
            refine (withinP_any _ _ _ _).mono ?_
            rintro e w' ⟨rfl, rfl⟩
            rw [HD.out]
            go_wp2_with fail
            try (refine (withinP_any _ _ _ _).mono ?_; rintro e w' ⟨rfl, rfl⟩; rw [HD2.out]; go_wp2_with fail)
            go_ret
            exact ⟨ret_bool HE.out.symm, HBA.out⟩
        · have HE : Hid (R = false) := by show _ = _; rw [HKB.out, ← ba_size, decide_eq_false h24]; rfl
          clear HKB
          go_enter Tryd.func34, Tryd.ntmps34
          go_wp2_with fail
          refine (withinP_any _ _ _ _).mono ?_
          rintro e w' ⟨rfl, rfl⟩
          rw [HD.out]
          go_wp2_with fail
          try (refine (withinP_any _ _ _ _).mono ?_; rintro e w' ⟨rfl, rfl⟩; rw [HD2.out]; go_wp2_with fail)
          go_ret
          exact ⟨ret_bool HE.out.symm, HBA.out⟩
    · have HKB : Hid (R = (riseB codes.data.toList && decide (text.data.toList = []) && decide (K = 0))) := by
        show _ = _
        rw [HR.out]; unfold kindB; rw [if_pos hc3.out]
      clear HR HCF
      cases hr : riseB codes.data.toList
      · have HE : Hid (R = false) := by show _ = _; rw [HKB.out, hr]; rfl
        rw [hr] at HCO
        clear HKB hr
        go_enter Tryd.func34, Tryd.ntmps34
        go_wp2_with fail
        refine (withinP_any _ _ _ _).mono ?_
        rintro e w' ⟨rfl, rfl⟩
        rw [HD.out]
        go_wp2_with fail
        try (refine (withinP_any _ _ _ _).mono ?_; rintro e w' ⟨rfl, rfl⟩; rw [HD2.out]; go_wp2_with fail)
        refine (HCO.out _).mono ?_
        rintro e w1 ⟨rfl, b1⟩
        have HB1 := Lib.hid (below_trans HBA.out b1); clear b1
        go_wp2_with fail
        go_ret
        exact ⟨ret_bool HE.out.symm, HB1.out⟩
      · rw [hr] at HCO
        rcases empB text with rfl | ⟨ht1, ht2, ht3⟩
        · rcases lenForms K with rfl | ⟨k1, k2, k3⟩
          · have HE : Hid (R = true) := by show _ = _; rw [HKB.out, hr]; rfl
            clear HKB hr
            go_enter Tryd.func34, Tryd.ntmps34
            go_wp2_with fail
            refine (withinP_any _ _ _ _).mono ?_
            rintro e w' ⟨rfl, rfl⟩
            rw [HD.out]
            go_wp2_with fail
            try (refine (withinP_any _ _ _ _).mono ?_; rintro e w' ⟨rfl, rfl⟩; rw [HD2.out]; go_wp2_with fail)
            refine (HCO.out _).mono ?_
            rintro e w1 ⟨rfl, b1⟩
            have HB1 := Lib.hid (below_trans HBA.out b1)
            have ⟨hb3, hb4⟩ := HCL.out w1 b1
            clear b1
            go_wp2_with fail
            go_ret
            exact ⟨ret_bool HE.out.symm, HB1.out⟩
          · have HE : Hid (R = false) := by show _ = _; rw [HKB.out, decide_eq_false (show ¬ K = 0 by omega), Bool.and_false]
            clear HKB hr
            go_enter Tryd.func34, Tryd.ntmps34
            go_wp2_with fail
            refine (withinP_any _ _ _ _).mono ?_
            rintro e w' ⟨rfl, rfl⟩
            rw [HD.out]
            go_wp2_with fail
            try (refine (withinP_any _ _ _ _).mono ?_; rintro e w' ⟨rfl, rfl⟩; rw [HD2.out]; go_wp2_with fail)
            refine (HCO.out _).mono ?_
            rintro e w1 ⟨rfl, b1⟩
            have HB1 := Lib.hid (below_trans HBA.out b1)
            have ⟨hb3, hb4⟩ := HCL.out w1 b1
            clear b1
            go_wp2_with fail
            go_ret
            exact ⟨ret_bool HE.out.symm, HB1.out⟩
        · have HE : Hid (R = false) := by show _ = _; rw [HKB.out, decide_eq_false ht3.out, Bool.and_false, Bool.false_and]
          clear HKB hr
          go_enter Tryd.func34, Tryd.ntmps34
          go_wp2_with fail
          refine (withinP_any _ _ _ _).mono ?_
          rintro e w' ⟨rfl, rfl⟩
          rw [HD.out]
          go_wp2_with fail
          try (refine (withinP_any _ _ _ _).mono ?_; rintro e w' ⟨rfl, rfl⟩; rw [HD2.out]; go_wp2_with fail)
          refine (HCO.out _).mono ?_
          rintro e w1 ⟨rfl, b1⟩
          have HB1 := Lib.hid (below_trans HBA.out b1)
          have ⟨hb3, hb4⟩ := HCL.out w1 b1
          clear b1
          go_wp2_with fail
          go_ret
          exact ⟨ret_bool HE.out.symm, HB1.out⟩

end Go.Proofs.YtcjlokojppicnaaDoor
