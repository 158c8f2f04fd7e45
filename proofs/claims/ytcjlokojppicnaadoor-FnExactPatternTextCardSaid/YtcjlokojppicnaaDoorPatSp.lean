/- Patterns: spec's test whether one is valid. -/
import Derived.Test.YtcjlokojppicnaaDoorPatOk3
namespace Go.Proofs.YtcjlokojppicnaaDoor
open Go.RowKit
set_option linter.unusedVariables false

theorem l00InP_any (n a b : Int) (w : World) : Calls Tryd.prog 39 #[.int .i64 n, .int .i64 a, .int .i64 b] w fun e w' => e = .returned (.bool (decide (a ≤ n ∧ n ≤ b))) ∧ w = w' := by
  by_cases h1 : a ≤ n
  · by_cases h2 : n ≤ b
    · go_enter Tryd.func39, Tryd.ntmps39
      go_wp2
      go_ret
      exact ⟨ret_bool (by simp [h1, h2]), rfl⟩
    · go_enter Tryd.func39, Tryd.ntmps39
      go_wp2
      go_ret
      exact ⟨ret_bool (by simp [h2]), rfl⟩
  · go_enter Tryd.func39, Tryd.ntmps39
    go_wp2
    go_ret
    exact ⟨ret_bool (by first | (rw [decide_eq_false (show ¬ (a ≤ n ∧ n ≤ b) by omega)]; done) | (simp; omega)), rfl⟩

def SpS (n : Nat) : Prop := ∀ (d : Nat) (z : Int) (v : Value) (xs : List (Pat n)) (w : World), z = d → d ≤ 3 → Pats n w v xs → PatsOk n 1048576 xs →
  Calls Tryd.prog 17 #[v, .int .i64 z] w fun e w' => e = .returned (.bool (patsB n d xs)) ∧ Below w.heap.size w w'

theorem times_no {lo hi : Int} (h : ¬ (0 ≤ lo ∧ lo ≤ 99) ∨ ¬ (-1 ≤ hi ∧ hi ≤ 99) ∨ (0 ≤ hi ∧ hi < lo)) : timesB lo hi = false := by
  unfold timesB
  rw [Bool.and_eq_false_iff]
  rcases h with h | h | h
  · exact .inl (decide_eq_false h)
  · by_cases hl : 0 ≤ lo ∧ lo ≤ 99
    · right; rw [decide_eq_false (by omega), decide_eq_false (by omega)]; rfl
    · exact .inl (decide_eq_false hl)
  · right; rw [decide_eq_false (by omega), decide_eq_false (by omega)]; rfl

theorem times_yes {lo hi : Int} (h1 : 0 ≤ lo ∧ lo ≤ 99) (h2 : -1 ≤ hi ∧ hi ≤ 99) (h3 : hi < 0 ∨ lo ≤ hi) : timesB lo hi = true := by
  unfold timesB
  rw [decide_eq_true h1, Bool.true_and, Bool.or_eq_true]
  rcases h3 with h3 | h3
  · exact .inl (decide_eq_true (by omega))
  · exact .inr (decide_eq_true (by omega))

theorem kind_text {codes text : List UInt8} {k d : Nat} {al : Bool} (h : 24 < text.length) : kindB codes text k d al = false := by
  have ht : text ≠ [] := by intro e; rw [e] at h; simp at h
  unfold kindB
  by_cases hc : codes ≠ []
  · rw [if_pos hc, decide_eq_false ht, Bool.and_false, Bool.false_and]
  · rw [if_neg hc, if_pos ht, decide_eq_false (by omega), Bool.false_and]

theorem kind_many {codes text : List UInt8} {k d : Nat} {al : Bool} (h : 8 < k) : kindB codes text k d al = false := by
  have hk : ¬ k = 0 := by omega
  unfold kindB
  by_cases hc : codes ≠ []
  · rw [if_pos hc, decide_eq_false hk, Bool.and_false]
  · rw [if_neg hc]
    by_cases ht : text ≠ []
    · rw [if_pos ht, decide_eq_false hk, Bool.and_false]
    · rw [if_neg ht, decide_eq_false (by omega), Bool.false_and, Bool.false_and]

theorem kind_alts {codes text : List UInt8} {k d : Nat} {al : Bool} (hk : ¬ k = 0) (h : codes ≠ [] ∨ text ≠ [] ∨ d = 0) : kindB codes text k d al = false := by
  unfold kindB
  by_cases hc : codes ≠ []
  · rw [if_pos hc, decide_eq_false hk, Bool.and_false]
  · rw [if_neg hc]
    by_cases ht : text ≠ []
    · rw [if_pos ht, decide_eq_false hk, Bool.and_false]
    · rw [if_neg ht]
      have : d = 0 := by rcases h with h | h | h; exact absurd h hc; exact absurd h ht; exact h
      subst this
      rw [Bool.and_assoc, decide_eq_false (show ¬ 0 < 0 by omega), Bool.false_and, Bool.and_false]

theorem kind_rec {k d : Nat} {al : Bool} (h1 : 1 ≤ k) (h8 : k ≤ 8) (hd : 0 < d) : kindB [] [] k d al = al := by
  unfold kindB
  rw [if_neg (by simp), if_neg (by simp), decide_eq_true ⟨h1, h8⟩, decide_eq_true hd]; rfl

theorem kind_txt {codes text : List UInt8} {d : Nat} {al : Bool} (ht : text ≠ []) (h : text.length ≤ 24) : kindB codes text 0 d al = decide (codes = []) := by
  unfold kindB
  by_cases hc : codes = []
  · rw [if_neg (by simp [hc]), if_pos ht, decide_eq_true h, decide_eq_true hc]; rfl
  · rw [if_pos hc, decide_eq_false ht, decide_eq_false hc, Bool.and_false, Bool.false_and]

theorem kind_code {codes : List UInt8} {d : Nat} {al : Bool} : kindB codes [] 0 d al = (riseB codes && decide (codes ≠ [])) := by
  unfold kindB
  by_cases hc : codes = []
  · subst hc; rfl
  · rw [if_pos hc, decide_eq_true (show codes ≠ [] from hc)]; simp

set_option maxHeartbeats 2000000 in
set_option maxRecDepth 100000 in
theorem l04Item_rec {n : Nat} (IH : SpS n) (d : Nat) (z : Int) (hz : z = d) (lo hi : Int) (A : Option Addr) (c : Nat) (alts : List (List (Pat n))) (w : World) (hd : d ≤ 3) (hd0 : 0 < d)
    (h : AltsOf n (w.alloc (.cells #[.int .i64 lo, .int .i64 hi, .string ⟨#[]⟩, .string ⟨#[]⟩, .slice A alts.length c] 36)) (.slice A alts.length c) alts) (hk1 : 0 < alts.length) (h8 : alts.length ≤ 8) (hok : ∀ y ∈ alts, PatsOk n 1048576 y)
    (hlo : decide (0 ≤ lo ∧ lo ≤ 99) = true) (hhi : decide (-1 ≤ hi ∧ hi ≤ 99) = true) (hq : hi < 0 ∨ ¬ hi < lo) :
    Calls Tryd.prog 29 #[.agg #[.int .i64 lo, .int .i64 hi, .string ⟨#[]⟩, .string ⟨#[]⟩, .slice A alts.length c], .int .i64 z] w fun e w' => e = .returned (.bool (alts.all (patsB n (d - 1)))) ∧ Below w.heap.size w w' := by
  have hba : Below w.heap.size w (w.alloc (.cells #[.int .i64 lo, .int .i64 hi, .string ⟨#[]⟩, .string ⟨#[]⟩, .slice A alts.length c] 36)) := Joins.below_alloc1 w _
  have HAL := Lib.hid h
  have HBA := Lib.hid hba
  have HOK := Lib.hid hok
  have HI := Lib.hid IH
  have HD := Lib.hid hlo
  have HD2 := Lib.hid hhi
  have z1 : (z == 0) = false := by simp; omega
  have z2 : ¬ z = 0 := by omega
  have z3 : z - 1 = ((d - 1 : Nat) : Int) := by omega
  have z4 : 1 ≤ z := by omega
  have z5 : z ≤ 3 := by omega
  have HZ3 := Lib.hid z3
  have hw1 : (w.alloc (.cells #[.int .i64 lo, .int .i64 hi, .string ⟨#[]⟩, .string ⟨#[]⟩, .slice A alts.length c] 36)).cell? ⟨w.heap.size, 4, none⟩ = some (.slice A alts.length c) := by
    rw [Lib.cell_of_heap (heap_alloc_new w _)]; rfl
  have HW1 := Lib.hid hw1
  have hkk : (0 : Int) < alts.length := by omega
  have hk8 : (alts.length : Int) ≤ 8 := by omega
  clear hz z3 IH hok h hba hlo hhi hw1 z2
  rcases hq with c1 | c1
  · have q1 : decide ((0 : Int) ≤ hi) = false := decide_eq_false (by omega)
    go_enter Tryd.func29, Tryd.ntmps29
    go_wp2_with fail
    refine (l00InP_any _ _ _ _).mono ?_
    rintro e w' ⟨rfl, rfl⟩
    rw [HD.out]
    go_wp2_with fail
    refine (l00InP_any _ _ _ _).mono ?_
    rintro e w' ⟨rfl, rfl⟩
    rw [HD2.out]
    go_wp2_with fail
    go_loopw [5] (fun i wr => ∃ k : Nat, k ≤ alts.length ∧ i = .int .i64 k ∧ Hid (alts.all (patsB n (d - 1)) = (alts.drop k).all (patsB n (d - 1))) ∧ Below (w.alloc (.cells #[.int .i64 lo, .int .i64 hi, .string ⟨#[]⟩, .string ⟨#[]⟩, .slice A alts.length c] 36)).heap.size (w.alloc (.cells #[.int .i64 lo, .int .i64 hi, .string ⟨#[]⟩, .string ⟨#[]⟩, .slice A alts.length c] 36)) wr) (fun i _ => alts.length - (intOf i).toNat)
    case atStart => exact ⟨0, Nat.zero_le _, rfl, rfl, below_refl _⟩
    case round =>
     as_aux_lemma =>
      obtain ⟨k, hk, rfl, HIX, hbel⟩ := hrel
      have hcell := (hbel.cell (lt_of_cell HW1.out)).trans HW1.out
      have HB := Lib.hid (below_trans HBA.out hbel)
      have HBL := Lib.hid hbel
      by_cases hlt : k < alts.length
      · obtain ⟨ad, pv, rfl, hbl, hcc, hp⟩ := (HAL.out.on hbel).get hlt
        have HC := Lib.hid (HI.out (d - 1) (z - 1) pv alts[k] wr HZ3.out (by omega) hp (HOK.out _ (List.getElem_mem hlt)))
        have HDR : Hid ((alts.drop k).all (patsB n (d - 1)) = (patsB n (d - 1) alts[k] && (alts.drop (k + 1)).all (patsB n (d - 1)))) := by show _ = _; rw [List.drop_eq_getElem_cons hlt, List.all_cons]
        obtain ⟨Ap, cp, rfl⟩ := hp.form; clear hp hbel
        generalize alts[k] = y at *
        generalize patsB n (d - 1) y = Q at *
        go_wp2_with fail
        refine HC.out.mono ?_
        rintro e w2 ⟨rfl, b2⟩
        have HB2 := Lib.hid (below_trans HBL.out b2)
        have HB3 := Lib.hid (below_trans HB.out b2); clear b2
        cases Q
        · go_wp2_with fail
          go_ret
          exact ⟨ret_bool (by rw [HIX.out, HDR.out]; rfl), HB3.out⟩
        · go_wp2_with fail
          refine ⟨⟨k + 1, by omega, by go_num, ?_, HB2.out⟩, by simp [intOf]; omega⟩
          show _ = _
          rw [HIX.out, HDR.out, Bool.true_and]
      · clear hbel
        go_wp2_with fail
        go_ret
        exact ⟨ret_bool (by rw [HIX.out, List.drop_eq_nil_of_le (by omega)]; rfl), HB.out⟩
  · have hqq : (decide ((0 : Int) ≤ hi) = true ∧ decide (hi < lo) = false) ∨ decide ((0 : Int) ≤ hi) = false := by
      by_cases h0 : 0 ≤ hi
      · exact .inl ⟨decide_eq_true h0, decide_eq_false c1⟩
      · exact .inr (decide_eq_false h0)
    have c2 : decide (hi < lo) = false := decide_eq_false c1
    rcases hqq with ⟨q1, q2⟩ | q1
    all_goals
      go_enter Tryd.func29, Tryd.ntmps29
      go_wp2_with fail
      refine (l00InP_any _ _ _ _).mono ?_
      rintro e w' ⟨rfl, rfl⟩
      rw [HD.out]
      go_wp2_with fail
      refine (l00InP_any _ _ _ _).mono ?_
      rintro e w' ⟨rfl, rfl⟩
      rw [HD2.out]
      go_wp2_with fail
      go_loopw [5] (fun i wr => ∃ k : Nat, k ≤ alts.length ∧ i = .int .i64 k ∧ Hid (alts.all (patsB n (d - 1)) = (alts.drop k).all (patsB n (d - 1))) ∧ Below (w.alloc (.cells #[.int .i64 lo, .int .i64 hi, .string ⟨#[]⟩, .string ⟨#[]⟩, .slice A alts.length c] 36)).heap.size (w.alloc (.cells #[.int .i64 lo, .int .i64 hi, .string ⟨#[]⟩, .string ⟨#[]⟩, .slice A alts.length c] 36)) wr) (fun i _ => alts.length - (intOf i).toNat)
      case atStart => exact ⟨0, Nat.zero_le _, rfl, rfl, below_refl _⟩
      case round =>
       as_aux_lemma =>
        obtain ⟨k, hk, rfl, HIX, hbel⟩ := hrel
        have hcell := (hbel.cell (lt_of_cell HW1.out)).trans HW1.out
        have HB := Lib.hid (below_trans HBA.out hbel)
        have HBL := Lib.hid hbel
        by_cases hlt : k < alts.length
        · obtain ⟨ad, pv, rfl, hbl, hcc, hp⟩ := (HAL.out.on hbel).get hlt
          have HC := Lib.hid (HI.out (d - 1) (z - 1) pv alts[k] wr HZ3.out (by omega) hp (HOK.out _ (List.getElem_mem hlt)))
          have HDR : Hid ((alts.drop k).all (patsB n (d - 1)) = (patsB n (d - 1) alts[k] && (alts.drop (k + 1)).all (patsB n (d - 1)))) := by show _ = _; rw [List.drop_eq_getElem_cons hlt, List.all_cons]
          obtain ⟨Ap, cp, rfl⟩ := hp.form; clear hp hbel
          generalize alts[k] = y at *
          generalize patsB n (d - 1) y = Q at *
          go_wp2_with fail
          refine HC.out.mono ?_
          rintro e w2 ⟨rfl, b2⟩
          have HB2 := Lib.hid (below_trans HBL.out b2)
          have HB3 := Lib.hid (below_trans HB.out b2); clear b2
          cases Q
          · go_wp2_with fail
            go_ret
            exact ⟨ret_bool (by rw [HIX.out, HDR.out]; rfl), HB3.out⟩
          · go_wp2_with fail
            refine ⟨⟨k + 1, by omega, by go_num, ?_, HB2.out⟩, by simp [intOf]; omega⟩
            show _ = _
            rw [HIX.out, HDR.out, Bool.true_and]
        · clear hbel
          go_wp2_with fail
          go_ret
          exact ⟨ret_bool (by rw [HIX.out, List.drop_eq_nil_of_le (by omega)]; rfl), HB.out⟩

set_option maxHeartbeats 2000000 in
set_option maxRecDepth 100000 in
theorem l04Item_any {n : Nat} (IH : SpS n) (d : Nat) (z : Int) (hz : z = d) (x : PatC (List (Pat n))) (av : Value) (w : World) (hd : d ≤ 3) (h : AltsOf n w av x.alts) (hc : x.codes.size ≤ 1048576) (ht : x.text.size ≤ 1048576) (hl : x.alts.length ≤ 1048576) (hok : ∀ y ∈ x.alts, PatsOk n 1048576 y) :
    Calls Tryd.prog 29 #[.agg (x.cells av), .int .i64 z] w fun e w' => e = .returned (.bool (patB d x)) ∧ Below w.heap.size w w' := by
  have hba : Below w.heap.size w (w.alloc (.cells (x.cells av) 36)) := Joins.below_alloc1 w _
  have HAL := Lib.hid (h.on hba)
  have HV : Hid (patB d x = (timesB x.low x.high && kindB x.codes.data.toList x.text.data.toList x.alts.length d (x.alts.all (patsB n (d - 1))))) := rfl
  obtain ⟨lo, hi, codes, text, alts⟩ := x
  simp only [PatC.cells] at *
  obtain ⟨A, c, rfl⟩ := h.form; clear h
  generalize patB d _ = R at *
  have HCO := Lib.hid (fun W => l04CodesOK_any codes W hc)
  have HBA := Lib.hid hba
  have HOK := Lib.hid hok
  have HI := Lib.hid IH
  have HCL : Hid (∀ W, Below (w.alloc (.cells #[.int .i64 lo, .int .i64 hi, .string codes, .string text, .slice A alts.length c] 36)).heap.size (w.alloc (.cells #[.int .i64 lo, .int .i64 hi, .string codes, .string text, .slice A alts.length c] 36)) W → W.cell? ⟨w.heap.size, 4, none⟩ = some (.slice A alts.length c)) := fun W hW => by
    have h1 := heap_alloc_new w (.cells #[.int .i64 lo, .int .i64 hi, .string codes, .string text, .slice A alts.length c] 36)
    have h3 := (hW.block w.heap.size (by simp)).trans h1
    rw [Lib.cell_of_heap h3]; rfl
  clear IH hok hba
  by_cases hlo : 0 ≤ lo ∧ lo ≤ 99
  rotate_left
  · have HE := Lib.hid (HV.out.trans (by rw [times_no (.inl hlo), Bool.false_and]))
    have HD := Lib.hid (decide_eq_false hlo)
    clear hlo HV
    go_enter Tryd.func29, Tryd.ntmps29
    go_wp2_with fail
    refine (l00InP_any _ _ _ _).mono ?_
    rintro e w' ⟨rfl, rfl⟩
    rw [HD.out]
    go_wp2_with fail
    go_ret
    exact ⟨ret_bool HE.out.symm, HBA.out⟩
  have HD := Lib.hid (decide_eq_true hlo)
  by_cases hhi : -1 ≤ hi ∧ hi ≤ 99
  rotate_left
  · have HE := Lib.hid (HV.out.trans (by rw [times_no (.inr (.inl hhi)), Bool.false_and]))
    have HD2 := Lib.hid (decide_eq_false hhi)
    clear hlo hhi HV
    go_enter Tryd.func29, Tryd.ntmps29
    go_wp2_with fail
    refine (l00InP_any _ _ _ _).mono ?_
    rintro e w' ⟨rfl, rfl⟩
    rw [HD.out]
    go_wp2_with fail
    refine (l00InP_any _ _ _ _).mono ?_
    rintro e w' ⟨rfl, rfl⟩
    rw [HD2.out]
    go_wp2_with fail
    go_ret
    exact ⟨ret_bool HE.out.symm, HBA.out⟩
  have HD2 := Lib.hid (decide_eq_true hhi)
  have hcs : (0 ≤ hi ∧ hi < lo) ∨ (hi < 0) ∨ (0 ≤ hi ∧ ¬ hi < lo) := by omega
  rcases hcs with ⟨c1, c2⟩ | c1 | ⟨c1, c2⟩
  · have HE := Lib.hid (HV.out.trans (by rw [times_no (.inr (.inr ⟨c1, c2⟩)), Bool.false_and]))
    have q1 : decide ((0 : Int) ≤ hi) = true := decide_eq_true c1
    clear hlo hhi HV
    go_enter Tryd.func29, Tryd.ntmps29
    go_wp2_with fail
    refine (l00InP_any _ _ _ _).mono ?_
    rintro e w' ⟨rfl, rfl⟩
    rw [HD.out]
    go_wp2_with fail
    refine (l00InP_any _ _ _ _).mono ?_
    rintro e w' ⟨rfl, rfl⟩
    rw [HD2.out]
    go_wp2_with fail
    go_ret
    exact ⟨ret_bool HE.out.symm, HBA.out⟩
  all_goals
    have HR : Hid (R = kindB codes.data.toList text.data.toList alts.length d (alts.all (patsB n (d - 1)))) := HV.out.trans (by rw [times_yes hlo hhi (by omega), Bool.true_and])
    try have q1 : decide ((0 : Int) ≤ hi) = false := decide_eq_false (by omega)
    try have q2 : decide ((0 : Int) ≤ hi) = true := decide_eq_true (by omega)
    try have q3 : decide (hi < lo) = false := decide_eq_false (by omega)
    clear hlo hhi HV
    by_cases h24 : 24 < text.size
    · have HE := Lib.hid (HR.out.trans (kind_text (by rw [← ba_size]; exact h24)))
      clear HR
      go_enter Tryd.func29, Tryd.ntmps29
      go_wp2_with fail
      refine (l00InP_any _ _ _ _).mono ?_
      rintro e w' ⟨rfl, rfl⟩
      rw [HD.out]
      go_wp2_with fail
      refine (l00InP_any _ _ _ _).mono ?_
      rintro e w' ⟨rfl, rfl⟩
      rw [HD2.out]
      go_wp2_with fail
      go_ret
      exact ⟨ret_bool HE.out.symm, HBA.out⟩
    by_cases h8 : 8 < alts.length
    · have HE := Lib.hid (HR.out.trans (kind_many h8))
      clear HR
      go_enter Tryd.func29, Tryd.ntmps29
      go_wp2_with fail
      refine (l00InP_any _ _ _ _).mono ?_
      rintro e w' ⟨rfl, rfl⟩
      rw [HD.out]
      go_wp2_with fail
      refine (l00InP_any _ _ _ _).mono ?_
      rintro e w' ⟨rfl, rfl⟩
      rw [HD2.out]
      go_wp2_with fail
      go_ret
      exact ⟨ret_bool HE.out.symm, HBA.out⟩
    by_cases hk0 : alts.length = 0
    · have hal0 : alts = [] := List.eq_nil_of_length_eq_zero hk0
      subst hal0
      clear hk0 h8
      rcases empB text with rfl | ⟨ht1, ht2, ht3⟩
      · have HE : Hid (R = (riseB codes.data.toList && decide (codes.data.toList ≠ []))) := HR.out.trans kind_code
        generalize (riseB codes.data.toList && decide (codes.data.toList ≠ [])) = QC at *
        clear HR
        go_enter Tryd.func29, Tryd.ntmps29
        go_wp2_with fail
        refine (l00InP_any _ _ _ _).mono ?_
        rintro e w' ⟨rfl, rfl⟩
        rw [HD.out]
        go_wp2_with fail
        refine (l00InP_any _ _ _ _).mono ?_
        rintro e w' ⟨rfl, rfl⟩
        rw [HD2.out]
        go_wp2_with fail
        refine (HCO.out _).mono ?_
        rintro e w1 ⟨rfl, b1⟩
        have HB1 := Lib.hid (below_trans HBA.out b1); clear b1
        go_wp2_with fail
        go_ret
        exact ⟨ret_bool HE.out.symm, HB1.out⟩
      · have HE : Hid (R = decide (codes.data.toList = [])) := HR.out.trans (kind_txt ht3.out (by rw [← ba_size]; omega))
        clear HR
        rcases empB codes with rfl | ⟨hc1, hc2, hc3⟩
        · have HE2 : Hid (R = true) := HE.out
          clear HE
          go_enter Tryd.func29, Tryd.ntmps29
          go_wp2_with fail
          refine (l00InP_any _ _ _ _).mono ?_
          rintro e w' ⟨rfl, rfl⟩
          rw [HD.out]
          go_wp2_with fail
          refine (l00InP_any _ _ _ _).mono ?_
          rintro e w' ⟨rfl, rfl⟩
          rw [HD2.out]
          go_wp2_with fail
          go_ret
          exact ⟨ret_bool HE2.out.symm, HBA.out⟩
        · have HE2 : Hid (R = false) := HE.out.trans (decide_eq_false hc3.out)
          clear HE
          go_enter Tryd.func29, Tryd.ntmps29
          go_wp2_with fail
          refine (l00InP_any _ _ _ _).mono ?_
          rintro e w' ⟨rfl, rfl⟩
          rw [HD.out]
          go_wp2_with fail
          refine (l00InP_any _ _ _ _).mono ?_
          rintro e w' ⟨rfl, rfl⟩
          rw [HD2.out]
          go_wp2_with fail
          go_ret
          exact ⟨ret_bool HE2.out.symm, HBA.out⟩
    · have hk1 : 0 < alts.length := by omega
      have hk2 : (0 : Int) < alts.length := by omega
      rcases empB codes with rfl | ⟨hc1, hc2, hc3⟩
      rotate_left
      · have HE := Lib.hid (HR.out.trans (kind_alts hk0 (.inl hc3.out)))
        clear HR hk0
        go_enter Tryd.func29, Tryd.ntmps29
        go_wp2_with fail
        refine (l00InP_any _ _ _ _).mono ?_
        rintro e w' ⟨rfl, rfl⟩
        rw [HD.out]
        go_wp2_with fail
        refine (l00InP_any _ _ _ _).mono ?_
        rintro e w' ⟨rfl, rfl⟩
        rw [HD2.out]
        go_wp2_with fail
        go_ret
        exact ⟨ret_bool HE.out.symm, HBA.out⟩
      rcases empB text with rfl | ⟨ht1, ht2, ht3⟩
      rotate_left
      · have HE := Lib.hid (HR.out.trans (kind_alts hk0 (.inr (.inl ht3.out))))
        clear HR hk0
        go_enter Tryd.func29, Tryd.ntmps29
        go_wp2_with fail
        refine (l00InP_any _ _ _ _).mono ?_
        rintro e w' ⟨rfl, rfl⟩
        rw [HD.out]
        go_wp2_with fail
        refine (l00InP_any _ _ _ _).mono ?_
        rintro e w' ⟨rfl, rfl⟩
        rw [HD2.out]
        go_wp2_with fail
        go_ret
        exact ⟨ret_bool HE.out.symm, HBA.out⟩
      rcases Nat.eq_zero_or_pos d with hd0 | hd0
      · have HE := Lib.hid (HR.out.trans (kind_alts hk0 (.inr (.inr hd0))))
        subst hd0
        obtain rfl : z = 0 := by simpa using hz
        clear HR hk0 hz hd HI HOK HAL
        go_enter Tryd.func29, Tryd.ntmps29
        go_wp2_with fail
        refine (l00InP_any _ _ _ _).mono ?_
        rintro e w' ⟨rfl, rfl⟩
        rw [HD.out]
        go_wp2_with fail
        refine (l00InP_any _ _ _ _).mono ?_
        rintro e w' ⟨rfl, rfl⟩
        rw [HD2.out]
        go_wp2_with fail
        go_ret
        exact ⟨ret_bool HE.out.symm, HBA.out⟩
      · have HE : Hid (R = alts.all (patsB n (d - 1))) := HR.out.trans (kind_rec (by omega) (by omega) hd0)
        rw [HE.out]
        exact l04Item_rec HI.out d z hz lo hi A c alts w hd hd0 (HAL.out) hk1 (by omega) HOK.out HD.out HD2.out (by omega)

set_option maxRecDepth 8000 in
theorem l04OK_succ {n : Nat} (IH : SpS n) : SpS (n + 1) := by
  intro d z v xs0 w hz hd h hok
  obtain ⟨xs, hxs⟩ : ∃ xs : List (PatC (List (Pat n))), xs = xs0 := ⟨xs0, rfl⟩
  subst hxs
  have hl : xs.length ≤ 1048576 := hok.1
  have HOK : Hid (∀ x ∈ xs, x.codes.size ≤ 1048576 ∧ x.text.size ≤ 1048576 ∧ x.alts.length ≤ 1048576 ∧ ∀ y ∈ x.alts, PatsOk n 1048576 y) := hok.2
  have H : Hid (Pats (n + 1) w v xs) := h
  have HI := Lib.hid IH
  have HV : Hid (patsB (n + 1) d xs = (decide (1 ≤ xs.length ∧ xs.length ≤ 8) && xs.all (patB d))) := patsB_succ d xs
  obtain ⟨A, c, hv⟩ : ∃ A c, v = .slice A xs.length c := h.form
  subst hv
  show Calls Tryd.prog 17 #[_, .int .i64 z] w fun e w' => e = .returned (.bool (patsB (n + 1) d xs)) ∧ Below w.heap.size w w'
  generalize patsB (n + 1) d xs = R at *
  have HZ := Lib.hid hz
  clear IH hok h hz
  by_cases h1 : xs.length < 1
  · have HE : Hid (R = false) := by show _ = _; rw [HV.out, decide_eq_false (by omega)]; rfl
    clear HV
    go_enter Tryd.func17, Tryd.ntmps17
    go_wp2_with fail
    go_ret
    exact ⟨ret_bool HE.out.symm, below_refl _⟩
  by_cases h8 : 8 < xs.length
  · have HE : Hid (R = false) := by show _ = _; rw [HV.out, decide_eq_false (by omega)]; rfl
    clear HV
    go_enter Tryd.func17, Tryd.ntmps17
    go_wp2_with fail
    go_ret
    exact ⟨ret_bool HE.out.symm, below_refl _⟩
  have HE : Hid (R = xs.all (patB d)) := by show _ = _; rw [HV.out, decide_eq_true (by omega)]; rfl
  clear HV
  go_enter Tryd.func17, Tryd.ntmps17
  go_wp2_with fail
  go_loopw [5] (fun i wr => ∃ k : Nat, k ≤ xs.length ∧ i = .int .i64 k ∧ Hid (R = (xs.drop k).all (patB d)) ∧ Below w.heap.size w wr) (fun i _ => xs.length - (intOf i).toNat)
  case atStart => exact ⟨0, Nat.zero_le _, rfl, HE.out, below_refl _⟩
  case round =>
    clear HE
    obtain ⟨k, hk, rfl, HIX, hbel⟩ := hrel
    by_cases hlt : k < xs.length
    · have HB := Lib.hid hbel
      obtain ⟨ad, av, rfl, hbl, hal, a0, a1, a2, a3, a4⟩ := (Pats.on H.out hbel).get hlt
      have hx := HOK.out _ (List.getElem_mem hlt)
      have HC := Lib.hid (l04Item_any HI.out d z HZ.out xs[k] av wr hd hal hx.1 hx.2.1 hx.2.2.1 hx.2.2.2)
      have HDR : Hid ((xs.drop k).all (patB d) = (patB d xs[k] && (xs.drop (k + 1)).all (patB d))) := by show _ = _; rw [List.drop_eq_getElem_cons hlt, List.all_cons]
      clear hx
      obtain ⟨Ap, cp, rfl⟩ := hal.form; clear hal
      generalize xs[k] = x at *
      generalize patB d x = Q at *
      obtain ⟨lo, hi, codes, text, alts⟩ := x
      simp only [PatC.cells] at *
      go_wp2_with fail
      refine HC.out.mono ?_
      rintro e w2 ⟨rfl, b2⟩
      have HB2 := Lib.hid (below_trans HB.out b2); clear b2
      cases Q
      · go_wp2_with fail
        go_ret
        exact ⟨ret_bool (by rw [HIX.out, HDR.out]; rfl), HB2.out⟩
      · go_wp2_with fail
        refine ⟨⟨k + 1, by omega, by go_num, ?_, HB2.out⟩, by simp [intOf]; omega⟩
        show _ = _
        rw [HIX.out, HDR.out, Bool.true_and]
    · go_wp2_with fail
      go_ret
      exact ⟨ret_bool (by rw [HIX.out, List.drop_eq_nil_of_le (by omega)]; rfl), hbel⟩

theorem l04OK_zero : SpS 0 := by
  intro d z v xs w hz hd h hok
  obtain ⟨A, c, rfl⟩ := h
  go_enter Tryd.func17, Tryd.ntmps17
  go_wp2_with fail
  go_ret
  exact ⟨rfl, below_refl _⟩

theorem l04OK_any : ∀ n, SpS n
  | 0 => l04OK_zero
  | n + 1 => l04OK_succ (l04OK_any n)

theorem l04Right_any {n : Nat} (v : Value) (xs : List (Pat n)) (w : World) (h : Pats n w v xs) (hok : PatsOk n 1048576 xs) : Calls Tryd.prog 10 #[v] w fun e w' => e = .returned (.bool (patsB n 3 xs)) ∧ Below w.heap.size w w' := by
  have HC := Lib.hid (l04OK_any n 3 3 v xs w rfl (by omega) h hok)
  obtain ⟨A, c, rfl⟩ := h.form; clear h
  generalize patsB n 3 xs = R at *
  go_enter Tryd.func10, Tryd.ntmps10
  go_wp2_with fail
  refine HC.out.mono ?_
  rintro e w1 ⟨rfl, b1⟩
  go_wp2_with fail
  go_ret
  exact ⟨rfl, b1⟩

end Go.Proofs.YtcjlokojppicnaaDoor
