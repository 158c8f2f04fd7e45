/- PatternText: spec.l04Text. -/
import Derived.Test.YtcjlokojppicnaaDoorPtSpec0
import Derived.Test.YtcjlokojppicnaaDoorPatSp
import Derived.Deep.RegionHeld3
namespace Go.Proofs.YtcjlokojppicnaaDoor
open Go.RowKit
set_option linter.unusedVariables false
set_option linter.unusedSimpArgs false

def SpT (n : Nat) : Prop := ∀ (deep : Nat) (v : Value) (xs : List (Pat n)) (w : World), Pats n w v xs → PatsOk n 1048576 xs → patsB n deep xs = true → deep ≤ 3 →
  Calls Tryd.prog 11 #[v] w fun e w' => ∃ r : ByteArray, e = .returned (.string r) ∧ Hid (r.data.toList = textP n xs) ∧ Below w.heap.size w w'

theorem l04Text_zero : SpT 0 := by
  intro deep v xs w h hok hb hd
  cases hb

theorem lit_cell {w W : World} {cs : Array Value} {t : TypeId} (hb : Below (w.alloc (.cells cs t)).heap.size (w.alloc (.cells cs t)) W) (j : Nat) (u : Value) (hu : cs[j]? = some u) : W.cell? ⟨w.heap.size, j, none⟩ = some u := by
  rw [Lib.cell_of_heap ((hb.block w.heap.size (by simp)).trans (Go.heap_alloc_new w (.cells cs t)))]; exact hu

set_option maxHeartbeats 4000000 in
set_option maxRecDepth 8000 in
theorem l04Text_succ {n : Nat} (IH : SpT n) : SpT (n + 1) := by
  intro deep v xs0 w h hok hb hd
  obtain ⟨xs, hxs⟩ : ∃ xs : List (PatC (List (Pat n))), xs = xs0 := ⟨xs0, rfl⟩
  subst hxs
  have hb : (decide (1 ≤ xs.length ∧ xs.length ≤ 8) && xs.all (patB deep)) = true := hb
  rw [Bool.and_eq_true, decide_eq_true_eq, List.all_eq_true] at hb
  have hl : xs.length ≤ 8 := hb.1.2
  have HB := Lib.hid hb.2
  have HOK : Hid (∀ x ∈ xs, x.codes.size ≤ 1048576 ∧ x.text.size ≤ 1048576 ∧ x.alts.length ≤ 1048576 ∧ ∀ y ∈ x.alts, PatsOk n 1048576 y) := hok.2
  have H : Hid (Pats (n + 1) w v xs) := h
  have HI := Lib.hid IH
  obtain ⟨A, c, hv⟩ : ∃ A c, v = .slice A xs.length c := h.form
  subst hv; clear h hb hok IH
  have hmx : itMax deep ≤ 200000000 := by
    have := ptMax_mono hd; have := ptMax_3; have := ptMax_it deep; omega
  have HMX := Lib.hid hmx; clear hmx
  show Calls Tryd.prog 11 #[_] w fun e w' => ∃ r : ByteArray, e = .returned (.string r) ∧ Hid (r.data.toList = xs.flatMap (textC (textP n))) ∧ Below w.heap.size w w'
  go_enter Tryd.func11, Tryd.ntmps11
  go_wp2
  go_loopw [3, 4, 5, 6] (fun t i _ _ wr => ∃ (k : Nat) (T : ByteArray), k ≤ xs.length ∧ i = .int .i64 k ∧ t = .string T ∧ Hid (T.data.toList = (xs.take k).flatMap (textC (textP n))) ∧ Below w.heap.size w wr) (fun _ i _ _ _ => xs.length - (intOf i).toNat)
  case atStart => exact ⟨0, ⟨#[]⟩, Nat.zero_le _, rfl, rfl, by show _ = _; simp, below_refl _⟩
  case round =>
    obtain ⟨k, T, hk, rfl, rfl, HT, hbel⟩ := hrel
    by_cases hlt : k < xs.length
    · have HBL := Lib.hid hbel
      obtain ⟨ad, av, rfl, hbl, hal, a0, a1, a2, a3, a4⟩ := (Pats.on H.out hbel).get hlt
      have hx := HOK.out _ (List.getElem_mem hlt)
      have hbx := HB.out _ (List.getElem_mem hlt)
      have HTK := Lib.hid (take_flat (textC (textP n)) xs k hlt)
      have HAL := Lib.hid hal
      have hTz : T.size ≤ 1600000000 := by
        have h1 := flatMap_len (textC (textP n)) (itMax deep) (xs.take k) (fun x hx => textC_len (fun d ys hy => textP_len n d ys hy) deep x (HB.out x (List.mem_of_mem_take hx)))
        rw [← HT.out, ← ba_size] at h1
        have h2 : (xs.take k).length * itMax deep ≤ 8 * 200000000 := Nat.mul_le_mul (by rw [List.length_take]; omega) HMX.out
        omega
      obtain ⟨Ap, cp, rfl⟩ := hal.form; clear hal hbel
      generalize xs[k] = x at *
      obtain ⟨lo, hi, codes, text, alts⟩ := x
      simp only [PatC.cells] at *
      have HBX := Lib.hid hbx
      have HX := Lib.hid hx
      clear hbx hx
      have i0 : (0 : Int) ≤ k := by omega
      have i1 : (k : Int) < xs.length := by omega
      have hbx2 : timesB lo hi = true ∧ kindB codes.data.toList text.data.toList alts.length deep (alts.all (patsB n (deep - 1))) = true := by
        have h1 := HBX.out
        exact Bool.and_eq_true_iff.1 h1
      have HK := Lib.hid hbx2.2
      have HTB := Lib.hid hbx2.1
      clear hbx2
      go_wp2_with fail
      refine (l04Times2_any (⟨lo, hi, codes, text, alts⟩ : PatC (List (Pat n))) (.slice Ap alts.length cp) _ HTB.out).mono ?_
      rintro e w1 ⟨r, rfl, hr, HD, b1⟩
      have HAL1 := Lib.hid (AltsOf.on HAL.out (below_trans ((below_refl wr).alloc (Nat.le_refl _) _) b1))
      have c2 : w1.cell? ⟨wr.heap.size, 2, none⟩ = some (.string codes) := box_cells b1 2 _ rfl
      have c3 : w1.cell? ⟨wr.heap.size, 3, none⟩ = some (.string text) := box_cells b1 3 _ rfl
      have c4 : w1.cell? ⟨wr.heap.size, 4, none⟩ = some (.slice Ap alts.length cp) := box_cells b1 4 _ rfl
      have hzr : (T ++ r).size ≤ 1700000000 := by rw [ByteArray.size_append]; omega
      have B1 := Lib.hid (below_trans HBL.out (below_trans ((below_refl wr).alloc (Nat.le_refl _) _) b1))
      have HTR : Hid ((T ++ r).data.toList = (xs.take k).flatMap (textC (textP n)) ++ timesT lo hi) := by
        show _ = _
        rw [ba_app, HT.out, HD.out]
      clear a0 a1 a2 a3 a4
      by_cases ha : alts = []
      · subst ha
        have hcz : codes.size ≤ 1048576 := HX.out.1
        have htz : text.size ≤ 1048576 := HX.out.2.1
        by_cases ht : text.size = 0
        · have hte : text.data.toList = [] := List.eq_nil_of_length_eq_zero (by rw [← ba_size]; exact ht)
          have hne : text = ⟨#[]⟩ := by
            cases text; congr 1; exact Array.toList_eq_nil_iff.1 hte
          subst hne
          go_wp2_with fail
          refine ⟨⟨k + 1, _, by omega, by go_num, rfl, ?_, B1.out⟩, by simp [intOf]; omega⟩
          show _ = _
          rw [HTK.out, ba_app, HTR.out]
          simp [textC]
        · have hte : text.data.toList ≠ [] := fun e => ht (by rw [ba_size, e]; rfl)
          have htn : text ≠ ⟨#[]⟩ := fun e => hte (by rw [e])
          have g1 := txtNe htn
          have g2 : text.toList.isEmpty = false := by rw [ba_toList]; exact List.isEmpty_eq_false_iff.2 hte
          have g3 : (text.toList == []) = false := by rw [ba_toList]; exact beq_eq_false_iff_ne.2 hte
          have htz2 : (quote text.data.toList).length ≤ 100 := by
            have h1 := HK.out
            unfold kindB at h1
            have hq := quote_length text.data.toList
            split at h1
            · simp only [Bool.and_eq_true, decide_eq_true_eq] at h1; exact absurd h1.1.2 hte
            · simp only [Bool.and_eq_true, decide_eq_true_eq] at h1
              omega
          have HTN := Lib.hid hte
          have HQZ := Lib.hid htz2
          clear hte htz2
          go_wp2_with fail
          refine (l04Quote_any text _ htz).mono ?_
          rintro e w2 ⟨⟨q, rfl, hq⟩, b2⟩
          have hqz : q.size ≤ 100 := by rw [ba_size, hq]; exact HQZ.out
          have B2 := Lib.hid (below_trans B1.out b2)
          have HQ := Lib.hid hq
          clear hq b2
          go_wp2_with fail
          refine ⟨⟨k + 1, _, by omega, by go_num, rfl, ?_, B2.out⟩, by simp [intOf]; omega⟩
          show _ = _
          rw [HTK.out, ba_app, HTR.out, HQ.out]
          have := HTN.out
          simp [textC, this]
      · have hpos : 0 < alts.length := List.length_pos_iff.2 ha
        have hk2 : alts.length ≤ 8 ∧ 0 < deep ∧ ∀ ys ∈ alts, patsB n (deep - 1) ys = true := by
          have h1 := HK.out
          unfold kindB at h1
          split at h1
          · simp only [Bool.and_eq_true, decide_eq_true_eq] at h1; omega
          · split at h1
            · simp only [Bool.and_eq_true, decide_eq_true_eq] at h1; omega
            · simp only [Bool.and_eq_true, decide_eq_true_eq, List.all_eq_true] at h1
              exact ⟨h1.1.1.2, h1.1.2, h1.2⟩
        have HK2 := Lib.hid hk2
        have ha8 : alts.length ≤ 8 := hk2.1
        have HLW : Hid (∀ W, Below w1.heap.size w1 W → W.cell? ⟨wr.heap.size, 4, none⟩ = some (.slice Ap alts.length cp)) := fun W hW => (hW.cell (lt_of_cell c4)).trans c4
        clear hk2
        obtain ⟨wo, rfl⟩ : ∃ wo : World, wo = wr := ⟨_, rfl⟩
        go_wp2_with fail
        go_loopw [3, 6] (fun t j wq => ∃ (i : Nat) (U : ByteArray), i ≤ alts.length ∧ j = .int .i64 i ∧ t = .string U ∧ Hid (U.data.toList = (T ++ r).data.toList ++ parG true ((alts.take i).map (textP n))) ∧ Below w1.heap.size w1 wq) (fun _ j _ => alts.length - (intOf j).toNat)
        case atStart => exact ⟨0, T ++ r, Nat.zero_le _, rfl, rfl, by show _ = _; simp [parG], below_refl _⟩
        case round =>
          obtain ⟨i, U, hi2, rfl, rfl, HU, hbq⟩ := hrel
          have c4q := HLW.out _ hbq
          have hUz : U.size ≤ 20000000000 := by
            have h1 := parG_len (ptMax (deep - 1)) true ((alts.take i).map (textP n)) (fun t ht => by
              rw [List.mem_map] at ht
              obtain ⟨ys, hys, rfl⟩ := ht
              exact textP_len n _ ys (HK2.out.2.2 ys (List.mem_of_mem_take hys)))
            have h2 : ptMax (deep - 1) ≤ 1000000000 := Nat.le_trans (ptMax_mono (by omega)) ptMax_3
            rw [List.length_map, List.length_take] at h1
            have h3 : min i alts.length * (ptMax (deep - 1) + 1) ≤ 8 * 1000000001 := Nat.mul_le_mul (by omega) (by omega)
            have h4 : U.size = (T ++ r).size + (parG true ((alts.take i).map (textP n))).length := by rw [ba_size, HU.out, List.length_append, ← ba_size]
            omega
          by_cases hlt2 : i < alts.length
          · obtain ⟨ad2, pv, rfl, hbl2, hcp, hp⟩ := (AltsOf.on HAL1.out hbq).get hlt2
            have HRC : Hid (∀ W, Below wr.heap.size wr W → Calls Tryd.prog 11 #[pv] W fun e w' => ∃ r : ByteArray, e = .returned (.string r) ∧ r.size ≤ 1000000000 ∧ Hid (r.data.toList = textP n alts[i]) ∧ Below W.heap.size W w') := fun W hW => by
              have hv := HK2.out.2.2 _ (List.getElem_mem hlt2)
              refine (HI.out (deep - 1) pv alts[i] W (Pats.on hp hW) (HX.out.2.2.2 _ (List.getElem_mem hlt2)) hv (by omega)).mono ?_
              rintro e w' ⟨r, rfl, hr, hb⟩
              exact ⟨r, rfl, by rw [ba_size, hr.out]; exact Nat.le_trans (textP_len n _ _ hv) (Nat.le_trans (ptMax_mono (by omega)) ptMax_3), hr, hb⟩
            obtain ⟨Aq, cq, rfl⟩ := hp.form; clear hp
            have HC : Hid (∀ W, Below wr.heap.size wr W → W.cell? ⟨wo.heap.size, 4, none⟩ = some (.slice (some ad2) alts.length cp) ∧ W.cell? (ad2.add i) = some (.slice Aq alts[i].length cq)) := fun W hW => ⟨HLW.out _ (hbq.trans (hW.mono hbq.size)), (hW.cell (lt_of_cell hcp)).trans hcp⟩
            have j0 : (0 : Int) ≤ i := by omega
            have j1 : (i : Int) < alts.length := by omega
            by_cases hi0 : i = 0
            · skip
              have HM := Lib.hid (fun W => l00Min_any (i : Int) 1 0 (by omega) W)
              have HF : Hid (∀ (r2 : ByteArray), r2.data.toList = textP n alts[i] → (U ++ (⟨#[40]⟩ ++ r2)).data.toList = (T ++ r).data.toList ++ parG true ((alts.take (i + 1)).map (textP n))) := fun r2 h => by
                rw [List.take_succ_eq_append_getElem hlt2, List.map_append, List.map_cons, List.map_nil, parG_snoc, ba_app, ba_app, HU.out, h]
                rw [if_pos ⟨by rw [hi0]; rfl, rfl⟩]; simp
              have HI0 := Lib.hid hi0; clear hi0
              go_wp2_with fail
              have HBW0 : Hid (Below wr.heap.size wr wr.drew) := (below_refl wr).drew
              have HS0 := HC.out _ HBW0.out
              refine wp_region_held_drew (S := (fun W => W.cell? ⟨wo.heap.size, 4, none⟩ = some (.slice (some ad2) alts.length cp) ∧ W.cell? (ad2.add i) = some (.slice Aq alts[i].length cq))) (by kernel_rfl) HS0 (fun hHeld => ?_)
              ((refine wpAnyH_take (i := 0) (v := ?_) rfl (by kernel_rfl) (by kernel_rfl) (by kernel_rfl) (fun _ _ _ h => h) (Or.inl ⟨by rfl, ?_⟩) (by assumption) ?_; rotate_left; (focus (intro w hSw; (try dsimp only at hSw); go_simp <;> with_reducible rfl)); try simp only [Act.put, List.getElem_toArray, List.getElem_cons_zero, List.setIfInBounds_toArray, List.set_cons_zero, List.set_cons_succ]))
              ((refine wpAnyH_take (i := 2) (v := ?_) rfl (by kernel_rfl) (by kernel_rfl) (by kernel_rfl) (fun _ _ _ h => h) (Or.inl ⟨by rfl, ?_⟩) (by assumption) ?_; rotate_left; (focus (intro w hSw; (try dsimp only at hSw); go_simp <;> with_reducible rfl)); try simp only [Act.put, List.getElem_toArray, List.getElem_cons_succ, List.getElem_cons_zero, List.setIfInBounds_toArray, List.set_cons_zero, List.set_cons_succ]))
              ((refine wpAnyH_take (i := 6) (v := ?_) rfl (by kernel_rfl) (by kernel_rfl) (by kernel_rfl) (fun _ _ _ h => h) (Or.inl ⟨by rfl, ?_⟩) (by assumption) ?_; rotate_left; (focus (intro w hSw; (try dsimp only at hSw); go_simp <;> with_reducible rfl)); try simp only [Act.put, List.getElem_toArray, List.getElem_cons_succ, List.getElem_cons_zero, List.setIfInBounds_toArray, List.set_cons_zero, List.set_cons_succ]); (refine wpAnyH_take (i := 7) (v := ?_) rfl (by kernel_rfl) (by kernel_rfl) (by kernel_rfl) (fun _ _ _ h => h) (Or.inl ⟨by rfl, ?_⟩) (by assumption) ?_; rotate_left; (focus (intro w hSw; (try dsimp only at hSw); go_simp <;> with_reducible rfl)); try simp only [Act.put, List.getElem_toArray, List.getElem_cons_succ, List.getElem_cons_zero, List.setIfInBounds_toArray, List.set_cons_zero, List.set_cons_succ]); (refine wpAnyH_take (i := 8) (v := ?_) rfl (by kernel_rfl) (by kernel_rfl) (by kernel_rfl) (fun _ _ _ h => h) (Or.inl ⟨by rfl, ?_⟩) (by assumption) ?_; rotate_left; (focus (intro w hSw; (try dsimp only at hSw); go_simp <;> with_reducible rfl)); try simp only [Act.put, List.getElem_toArray, List.getElem_cons_succ, List.getElem_cons_zero, List.setIfInBounds_toArray, List.set_cons_zero, List.set_cons_succ]); (refine wpAnyH_take (i := 9) (v := ?_) rfl (by kernel_rfl) (by kernel_rfl) (by kernel_rfl) (fun _ _ _ h => h) (Or.inl ⟨by rfl, ?_⟩) (by assumption) ?_; rotate_left; (focus (intro w hSw; (try dsimp only at hSw); go_simp <;> with_reducible rfl)); try simp only [Act.put, List.getElem_toArray, List.getElem_cons_succ, List.getElem_cons_zero, List.setIfInBounds_toArray, List.set_cons_zero, List.set_cons_succ]); (refine wpAnyH_take (i := 10) (v := ?_) rfl (by kernel_rfl) (by kernel_rfl) (by kernel_rfl) (fun _ _ _ h => h) (Or.inl ⟨by rfl, ?_⟩) (by assumption) ?_; rotate_left; (focus (intro w hSw; (try dsimp only at hSw); go_simp <;> with_reducible rfl)); try simp only [Act.put, List.getElem_toArray, List.getElem_cons_succ, List.getElem_cons_zero, List.setIfInBounds_toArray, List.set_cons_zero, List.set_cons_succ]))
              generalize wr.drew = W0 at *
              refine wpAnyH_ready (rs := [1, 3]) (by kernel_rfl) (by simp) ?_
              refine AllReadyH.cons rfl (fun K hK => ?_) (AllReadyH.cons rfl (fun K hK => ?_) AllReadyH.nil)
              · skip
                go_simp
                have hb1 := (HBW0.out.alloc HBW0.out.size (.cells #[.string ⟨#[40]⟩, .string ⟨#[44]⟩] 9))
                have hl1 : Hid (∀ V, Below (W0.alloc (.cells #[.string ⟨#[40]⟩, .string ⟨#[44]⟩] 9)).heap.size (W0.alloc (.cells #[.string ⟨#[40]⟩, .string ⟨#[44]⟩] 9)) V → V.cell? ⟨W0.heap.size, 0, none⟩ = some (.string ⟨#[40]⟩)) := fun V hV => lit_cell hV 0 _ rfl
                generalize W0.heap.size = g1 at *
                generalize W0.alloc (.cells #[.string ⟨#[40]⟩, .string ⟨#[44]⟩] 9) = V1 at *
                have HBV1 := Lib.hid hb1; clear hb1
                have HS1 := hl1.out _ (below_refl _)
                refine hK.out _ _ (HC.out _ HBV1.out) (fun hHeld => ?_)
                clear hK K
                try simp only [Act.put, List.getElem_toArray, List.getElem_cons_succ, List.getElem_cons_zero, List.setIfInBounds_toArray, List.set_cons_zero, List.set_cons_succ]
                refine wpAnyH_ready (rs := [3]) (by kernel_rfl) (by simp) ?_
                refine AllReadyH.cons rfl (fun K hK => ?_) AllReadyH.nil
                · skip
                  go_simp
                  refine (HM.out _).mono ?_
                  rintro e w' ⟨rfl, rfl⟩
                  try go_wp2_with fail
                  refine hK.out _ _ (HC.out _ HBV1.out) (fun hHeld => ?_)
                  clear hK K
                  try simp only [Act.put, List.getElem_toArray, List.getElem_cons_succ, List.getElem_cons_zero, List.setIfInBounds_toArray, List.set_cons_zero, List.set_cons_succ]
                  ((refine wpAnyH_take (i := 4) (v := ?_) rfl (by kernel_rfl) (by kernel_rfl) (by kernel_rfl) (fun _ _ _ h => h) (Or.inl ⟨by rfl, ?_⟩) (by assumption) ?_; rotate_left; (focus (intro w hSw; (try dsimp only at hSw); go_simp <;> with_reducible rfl)); try simp only [Act.put, List.getElem_toArray, List.getElem_cons_succ, List.getElem_cons_zero, List.setIfInBounds_toArray, List.set_cons_zero, List.set_cons_succ]))
                  refine wpAnyH_ready (rs := [5, 11]) (by kernel_rfl) (by simp) ?_
                  refine AllReadyH.cons rfl (fun K hK => ?_) (AllReadyH.cons rfl (fun K hK => ?_) AllReadyH.nil)
                  · skip
                    go_simp
                    refine hK.out _ _ (HC.out _ HBV1.out) (fun hHeld => ?_)
                    clear hK K
                    try simp only [Act.put, List.getElem_toArray, List.getElem_cons_succ, List.getElem_cons_zero, List.setIfInBounds_toArray, List.set_cons_zero, List.set_cons_succ]
                    refine wpAnyH_ready (rs := [11]) (by kernel_rfl) (by simp) ?_
                    refine AllReadyH.cons rfl (fun K hK => ?_) AllReadyH.nil
                    · skip
                      go_simp
                      refine (HRC.out _ HBV1.out).mono ?_
                      rintro e V4 ⟨r2, rfl, hr2, HR2, b4⟩
                      have HBV4 := Lib.hid (HBV1.out.trans (b4.mono HBV1.out.size))
                      have HL4 := Lib.hid (fun V (hV : Below V4.heap.size V4 V) => hl1.out V (below_trans b4 hV))
                      have HS4 := HL4.out _ (below_refl _)
                      clear b4
                      try go_wp2_with fail
                      refine hK.out _ _ (HC.out _ HBV4.out) (fun hHeld => ?_)
                      clear hK K
                      try simp only [Act.put, List.getElem_toArray, List.getElem_cons_succ, List.getElem_cons_zero, List.setIfInBounds_toArray, List.set_cons_zero, List.set_cons_succ]
                      have z1 : ¬ 9223372036854775807 < 1 + r2.size := by omega
                      have z2 : ¬ 9223372036854775807 < U.size + (1 + r2.size) := by omega
                      ((refine wpAnyH_take (i := 12) (v := ?_) rfl (by kernel_rfl) (by kernel_rfl) (by kernel_rfl) (fun _ _ _ h => h) (Or.inl ⟨by rfl, ?_⟩) (by assumption) ?_; rotate_left; (focus (intro w hSw; (try dsimp only at hSw); go_simp <;> with_reducible rfl)); try simp only [Act.put, List.getElem_toArray, List.getElem_cons_succ, List.getElem_cons_zero, List.setIfInBounds_toArray, List.set_cons_zero, List.set_cons_succ]); (refine wpAnyH_take (i := 13) (v := ?_) rfl (by kernel_rfl) (by kernel_rfl) (by kernel_rfl) (fun _ _ _ h => h) (Or.inl ⟨by rfl, ?_⟩) (by assumption) ?_; rotate_left; (focus (intro w hSw; (try dsimp only at hSw); go_simp <;> with_reducible rfl)); try simp only [Act.put, List.getElem_toArray, List.getElem_cons_succ, List.getElem_cons_zero, List.setIfInBounds_toArray, List.set_cons_zero, List.set_cons_succ]); (refine wpAnyH_take (i := 14) (v := ?_) rfl (by kernel_rfl) (by kernel_rfl) (by kernel_rfl) (fun _ _ _ h => h) (Or.inl ⟨by rfl, ?_⟩) (by assumption) ?_; rotate_left; (focus (intro w hSw; (try dsimp only at hSw); go_simp <;> with_reducible rfl)); try simp only [Act.put, List.getElem_toArray, List.getElem_cons_succ, List.getElem_cons_zero, List.setIfInBounds_toArray, List.set_cons_zero, List.set_cons_succ]))
                      refine wpAnyH_done (by kernel_rfl) ?_ _
                      go_wp2_with fail
                      refine ⟨⟨i + 1, U ++ (⟨#[40]⟩ ++ r2), by omega, by go_num, rfl, Lib.hid (HF.out _ HR2.out), below_trans hbq HBV4.out⟩, by simp [intOf]; omega⟩
                  · skip
                    go_simp
                    refine (HRC.out _ HBV1.out).mono ?_
                    rintro e V5 ⟨r2, rfl, hr2, HR2, b5⟩
                    have HBV5 := Lib.hid (HBV1.out.trans (b5.mono HBV1.out.size))
                    have HL5 := Lib.hid (fun V (hV : Below V5.heap.size V5 V) => hl1.out V (below_trans b5 hV))
                    have HS5 := HL5.out _ (below_refl _)
                    clear b5
                    try go_wp2_with fail
                    refine hK.out _ _ (HC.out _ HBV5.out) (fun hHeld => ?_)
                    clear hK K
                    try simp only [Act.put, List.getElem_toArray, List.getElem_cons_succ, List.getElem_cons_zero, List.setIfInBounds_toArray, List.set_cons_zero, List.set_cons_succ]
                    refine wpAnyH_ready (rs := [5]) (by kernel_rfl) (by simp) ?_
                    refine AllReadyH.cons rfl (fun K hK => ?_) AllReadyH.nil
                    · skip
                      go_simp
                      refine hK.out _ _ (HC.out _ HBV5.out) (fun hHeld => ?_)
                      clear hK K
                      try simp only [Act.put, List.getElem_toArray, List.getElem_cons_succ, List.getElem_cons_zero, List.setIfInBounds_toArray, List.set_cons_zero, List.set_cons_succ]
                      have z1 : ¬ 9223372036854775807 < 1 + r2.size := by omega
                      have z2 : ¬ 9223372036854775807 < U.size + (1 + r2.size) := by omega
                      ((refine wpAnyH_take (i := 12) (v := ?_) rfl (by kernel_rfl) (by kernel_rfl) (by kernel_rfl) (fun _ _ _ h => h) (Or.inl ⟨by rfl, ?_⟩) (by assumption) ?_; rotate_left; (focus (intro w hSw; (try dsimp only at hSw); go_simp <;> with_reducible rfl)); try simp only [Act.put, List.getElem_toArray, List.getElem_cons_succ, List.getElem_cons_zero, List.setIfInBounds_toArray, List.set_cons_zero, List.set_cons_succ]); (refine wpAnyH_take (i := 13) (v := ?_) rfl (by kernel_rfl) (by kernel_rfl) (by kernel_rfl) (fun _ _ _ h => h) (Or.inl ⟨by rfl, ?_⟩) (by assumption) ?_; rotate_left; (focus (intro w hSw; (try dsimp only at hSw); go_simp <;> with_reducible rfl)); try simp only [Act.put, List.getElem_toArray, List.getElem_cons_succ, List.getElem_cons_zero, List.setIfInBounds_toArray, List.set_cons_zero, List.set_cons_succ]); (refine wpAnyH_take (i := 14) (v := ?_) rfl (by kernel_rfl) (by kernel_rfl) (by kernel_rfl) (fun _ _ _ h => h) (Or.inl ⟨by rfl, ?_⟩) (by assumption) ?_; rotate_left; (focus (intro w hSw; (try dsimp only at hSw); go_simp <;> with_reducible rfl)); try simp only [Act.put, List.getElem_toArray, List.getElem_cons_succ, List.getElem_cons_zero, List.setIfInBounds_toArray, List.set_cons_zero, List.set_cons_succ]))
                      refine wpAnyH_done (by kernel_rfl) ?_ _
                      go_wp2_with fail
                      refine ⟨⟨i + 1, U ++ (⟨#[40]⟩ ++ r2), by omega, by go_num, rfl, Lib.hid (HF.out _ HR2.out), below_trans hbq HBV5.out⟩, by simp [intOf]; omega⟩
              · skip
                go_simp
                refine (HM.out _).mono ?_
                rintro e w' ⟨rfl, rfl⟩
                try go_wp2_with fail
                refine hK.out _ _ (HC.out _ HBW0.out) (fun hHeld => ?_)
                clear hK K
                try simp only [Act.put, List.getElem_toArray, List.getElem_cons_succ, List.getElem_cons_zero, List.setIfInBounds_toArray, List.set_cons_zero, List.set_cons_succ]
                refine wpAnyH_ready (rs := [1, 11]) (by kernel_rfl) (by simp) ?_
                refine AllReadyH.cons rfl (fun K hK => ?_) (AllReadyH.cons rfl (fun K hK => ?_) AllReadyH.nil)
                · skip
                  go_simp
                  have hb8 := (HBW0.out.alloc HBW0.out.size (.cells #[.string ⟨#[40]⟩, .string ⟨#[44]⟩] 9))
                  have hl8 : Hid (∀ V, Below (W0.alloc (.cells #[.string ⟨#[40]⟩, .string ⟨#[44]⟩] 9)).heap.size (W0.alloc (.cells #[.string ⟨#[40]⟩, .string ⟨#[44]⟩] 9)) V → V.cell? ⟨W0.heap.size, 0, none⟩ = some (.string ⟨#[40]⟩)) := fun V hV => lit_cell hV 0 _ rfl
                  generalize W0.heap.size = g8 at *
                  generalize W0.alloc (.cells #[.string ⟨#[40]⟩, .string ⟨#[44]⟩] 9) = V8 at *
                  have HBV8 := Lib.hid hb8; clear hb8
                  have HS8 := hl8.out _ (below_refl _)
                  refine hK.out _ _ (HC.out _ HBV8.out) (fun hHeld => ?_)
                  clear hK K
                  try simp only [Act.put, List.getElem_toArray, List.getElem_cons_succ, List.getElem_cons_zero, List.setIfInBounds_toArray, List.set_cons_zero, List.set_cons_succ]
                  ((refine wpAnyH_take (i := 4) (v := ?_) rfl (by kernel_rfl) (by kernel_rfl) (by kernel_rfl) (fun _ _ _ h => h) (Or.inl ⟨by rfl, ?_⟩) (by assumption) ?_; rotate_left; (focus (intro w hSw; (try dsimp only at hSw); go_simp <;> with_reducible rfl)); try simp only [Act.put, List.getElem_toArray, List.getElem_cons_succ, List.getElem_cons_zero, List.setIfInBounds_toArray, List.set_cons_zero, List.set_cons_succ]))
                  refine wpAnyH_ready (rs := [5, 11]) (by kernel_rfl) (by simp) ?_
                  refine AllReadyH.cons rfl (fun K hK => ?_) (AllReadyH.cons rfl (fun K hK => ?_) AllReadyH.nil)
                  · skip
                    go_simp
                    refine hK.out _ _ (HC.out _ HBV8.out) (fun hHeld => ?_)
                    clear hK K
                    try simp only [Act.put, List.getElem_toArray, List.getElem_cons_succ, List.getElem_cons_zero, List.setIfInBounds_toArray, List.set_cons_zero, List.set_cons_succ]
                    refine wpAnyH_ready (rs := [11]) (by kernel_rfl) (by simp) ?_
                    refine AllReadyH.cons rfl (fun K hK => ?_) AllReadyH.nil
                    · skip
                      go_simp
                      refine (HRC.out _ HBV8.out).mono ?_
                      rintro e V10 ⟨r2, rfl, hr2, HR2, b10⟩
                      have HBV10 := Lib.hid (HBV8.out.trans (b10.mono HBV8.out.size))
                      have HL10 := Lib.hid (fun V (hV : Below V10.heap.size V10 V) => hl8.out V (below_trans b10 hV))
                      have HS10 := HL10.out _ (below_refl _)
                      clear b10
                      try go_wp2_with fail
                      refine hK.out _ _ (HC.out _ HBV10.out) (fun hHeld => ?_)
                      clear hK K
                      try simp only [Act.put, List.getElem_toArray, List.getElem_cons_succ, List.getElem_cons_zero, List.setIfInBounds_toArray, List.set_cons_zero, List.set_cons_succ]
                      have z1 : ¬ 9223372036854775807 < 1 + r2.size := by omega
                      have z2 : ¬ 9223372036854775807 < U.size + (1 + r2.size) := by omega
                      ((refine wpAnyH_take (i := 12) (v := ?_) rfl (by kernel_rfl) (by kernel_rfl) (by kernel_rfl) (fun _ _ _ h => h) (Or.inl ⟨by rfl, ?_⟩) (by assumption) ?_; rotate_left; (focus (intro w hSw; (try dsimp only at hSw); go_simp <;> with_reducible rfl)); try simp only [Act.put, List.getElem_toArray, List.getElem_cons_succ, List.getElem_cons_zero, List.setIfInBounds_toArray, List.set_cons_zero, List.set_cons_succ]); (refine wpAnyH_take (i := 13) (v := ?_) rfl (by kernel_rfl) (by kernel_rfl) (by kernel_rfl) (fun _ _ _ h => h) (Or.inl ⟨by rfl, ?_⟩) (by assumption) ?_; rotate_left; (focus (intro w hSw; (try dsimp only at hSw); go_simp <;> with_reducible rfl)); try simp only [Act.put, List.getElem_toArray, List.getElem_cons_succ, List.getElem_cons_zero, List.setIfInBounds_toArray, List.set_cons_zero, List.set_cons_succ]); (refine wpAnyH_take (i := 14) (v := ?_) rfl (by kernel_rfl) (by kernel_rfl) (by kernel_rfl) (fun _ _ _ h => h) (Or.inl ⟨by rfl, ?_⟩) (by assumption) ?_; rotate_left; (focus (intro w hSw; (try dsimp only at hSw); go_simp <;> with_reducible rfl)); try simp only [Act.put, List.getElem_toArray, List.getElem_cons_succ, List.getElem_cons_zero, List.setIfInBounds_toArray, List.set_cons_zero, List.set_cons_succ]))
                      refine wpAnyH_done (by kernel_rfl) ?_ _
                      go_wp2_with fail
                      refine ⟨⟨i + 1, U ++ (⟨#[40]⟩ ++ r2), by omega, by go_num, rfl, Lib.hid (HF.out _ HR2.out), below_trans hbq HBV10.out⟩, by simp [intOf]; omega⟩
                  · skip
                    go_simp
                    refine (HRC.out _ HBV8.out).mono ?_
                    rintro e V11 ⟨r2, rfl, hr2, HR2, b11⟩
                    have HBV11 := Lib.hid (HBV8.out.trans (b11.mono HBV8.out.size))
                    have HL11 := Lib.hid (fun V (hV : Below V11.heap.size V11 V) => hl8.out V (below_trans b11 hV))
                    have HS11 := HL11.out _ (below_refl _)
                    clear b11
                    try go_wp2_with fail
                    refine hK.out _ _ (HC.out _ HBV11.out) (fun hHeld => ?_)
                    clear hK K
                    try simp only [Act.put, List.getElem_toArray, List.getElem_cons_succ, List.getElem_cons_zero, List.setIfInBounds_toArray, List.set_cons_zero, List.set_cons_succ]
                    refine wpAnyH_ready (rs := [5]) (by kernel_rfl) (by simp) ?_
                    refine AllReadyH.cons rfl (fun K hK => ?_) AllReadyH.nil
                    · skip
                      go_simp
                      refine hK.out _ _ (HC.out _ HBV11.out) (fun hHeld => ?_)
                      clear hK K
                      try simp only [Act.put, List.getElem_toArray, List.getElem_cons_succ, List.getElem_cons_zero, List.setIfInBounds_toArray, List.set_cons_zero, List.set_cons_succ]
                      have z1 : ¬ 9223372036854775807 < 1 + r2.size := by omega
                      have z2 : ¬ 9223372036854775807 < U.size + (1 + r2.size) := by omega
                      ((refine wpAnyH_take (i := 12) (v := ?_) rfl (by kernel_rfl) (by kernel_rfl) (by kernel_rfl) (fun _ _ _ h => h) (Or.inl ⟨by rfl, ?_⟩) (by assumption) ?_; rotate_left; (focus (intro w hSw; (try dsimp only at hSw); go_simp <;> with_reducible rfl)); try simp only [Act.put, List.getElem_toArray, List.getElem_cons_succ, List.getElem_cons_zero, List.setIfInBounds_toArray, List.set_cons_zero, List.set_cons_succ]); (refine wpAnyH_take (i := 13) (v := ?_) rfl (by kernel_rfl) (by kernel_rfl) (by kernel_rfl) (fun _ _ _ h => h) (Or.inl ⟨by rfl, ?_⟩) (by assumption) ?_; rotate_left; (focus (intro w hSw; (try dsimp only at hSw); go_simp <;> with_reducible rfl)); try simp only [Act.put, List.getElem_toArray, List.getElem_cons_succ, List.getElem_cons_zero, List.setIfInBounds_toArray, List.set_cons_zero, List.set_cons_succ]); (refine wpAnyH_take (i := 14) (v := ?_) rfl (by kernel_rfl) (by kernel_rfl) (by kernel_rfl) (fun _ _ _ h => h) (Or.inl ⟨by rfl, ?_⟩) (by assumption) ?_; rotate_left; (focus (intro w hSw; (try dsimp only at hSw); go_simp <;> with_reducible rfl)); try simp only [Act.put, List.getElem_toArray, List.getElem_cons_succ, List.getElem_cons_zero, List.setIfInBounds_toArray, List.set_cons_zero, List.set_cons_succ]))
                      refine wpAnyH_done (by kernel_rfl) ?_ _
                      go_wp2_with fail
                      refine ⟨⟨i + 1, U ++ (⟨#[40]⟩ ++ r2), by omega, by go_num, rfl, Lib.hid (HF.out _ HR2.out), below_trans hbq HBV11.out⟩, by simp [intOf]; omega⟩
                · skip
                  go_simp
                  refine (HRC.out _ HBW0.out).mono ?_
                  rintro e V13 ⟨r2, rfl, hr2, HR2, b13⟩
                  have HBV13 := Lib.hid (HBW0.out.trans (b13.mono HBW0.out.size))
                  clear b13
                  try go_wp2_with fail
                  refine hK.out _ _ (HC.out _ HBV13.out) (fun hHeld => ?_)
                  clear hK K
                  try simp only [Act.put, List.getElem_toArray, List.getElem_cons_succ, List.getElem_cons_zero, List.setIfInBounds_toArray, List.set_cons_zero, List.set_cons_succ]
                  refine wpAnyH_ready (rs := [1]) (by kernel_rfl) (by simp) ?_
                  refine AllReadyH.cons rfl (fun K hK => ?_) AllReadyH.nil
                  · skip
                    go_simp
                    have hb14 := (HBV13.out.alloc HBV13.out.size (.cells #[.string ⟨#[40]⟩, .string ⟨#[44]⟩] 9))
                    have hl14 : Hid (∀ V, Below (V13.alloc (.cells #[.string ⟨#[40]⟩, .string ⟨#[44]⟩] 9)).heap.size (V13.alloc (.cells #[.string ⟨#[40]⟩, .string ⟨#[44]⟩] 9)) V → V.cell? ⟨V13.heap.size, 0, none⟩ = some (.string ⟨#[40]⟩)) := fun V hV => lit_cell hV 0 _ rfl
                    generalize V13.heap.size = g14 at *
                    generalize V13.alloc (.cells #[.string ⟨#[40]⟩, .string ⟨#[44]⟩] 9) = V14 at *
                    have HBV14 := Lib.hid hb14; clear hb14
                    have HS14 := hl14.out _ (below_refl _)
                    refine hK.out _ _ (HC.out _ HBV14.out) (fun hHeld => ?_)
                    clear hK K
                    try simp only [Act.put, List.getElem_toArray, List.getElem_cons_succ, List.getElem_cons_zero, List.setIfInBounds_toArray, List.set_cons_zero, List.set_cons_succ]
                    ((refine wpAnyH_take (i := 4) (v := ?_) rfl (by kernel_rfl) (by kernel_rfl) (by kernel_rfl) (fun _ _ _ h => h) (Or.inl ⟨by rfl, ?_⟩) (by assumption) ?_; rotate_left; (focus (intro w hSw; (try dsimp only at hSw); go_simp <;> with_reducible rfl)); try simp only [Act.put, List.getElem_toArray, List.getElem_cons_succ, List.getElem_cons_zero, List.setIfInBounds_toArray, List.set_cons_zero, List.set_cons_succ]))
                    refine wpAnyH_ready (rs := [5]) (by kernel_rfl) (by simp) ?_
                    refine AllReadyH.cons rfl (fun K hK => ?_) AllReadyH.nil
                    · skip
                      go_simp
                      refine hK.out _ _ (HC.out _ HBV14.out) (fun hHeld => ?_)
                      clear hK K
                      try simp only [Act.put, List.getElem_toArray, List.getElem_cons_succ, List.getElem_cons_zero, List.setIfInBounds_toArray, List.set_cons_zero, List.set_cons_succ]
                      have z1 : ¬ 9223372036854775807 < 1 + r2.size := by omega
                      have z2 : ¬ 9223372036854775807 < U.size + (1 + r2.size) := by omega
                      ((refine wpAnyH_take (i := 12) (v := ?_) rfl (by kernel_rfl) (by kernel_rfl) (by kernel_rfl) (fun _ _ _ h => h) (Or.inl ⟨by rfl, ?_⟩) (by assumption) ?_; rotate_left; (focus (intro w hSw; (try dsimp only at hSw); go_simp <;> with_reducible rfl)); try simp only [Act.put, List.getElem_toArray, List.getElem_cons_succ, List.getElem_cons_zero, List.setIfInBounds_toArray, List.set_cons_zero, List.set_cons_succ]); (refine wpAnyH_take (i := 13) (v := ?_) rfl (by kernel_rfl) (by kernel_rfl) (by kernel_rfl) (fun _ _ _ h => h) (Or.inl ⟨by rfl, ?_⟩) (by assumption) ?_; rotate_left; (focus (intro w hSw; (try dsimp only at hSw); go_simp <;> with_reducible rfl)); try simp only [Act.put, List.getElem_toArray, List.getElem_cons_succ, List.getElem_cons_zero, List.setIfInBounds_toArray, List.set_cons_zero, List.set_cons_succ]); (refine wpAnyH_take (i := 14) (v := ?_) rfl (by kernel_rfl) (by kernel_rfl) (by kernel_rfl) (fun _ _ _ h => h) (Or.inl ⟨by rfl, ?_⟩) (by assumption) ?_; rotate_left; (focus (intro w hSw; (try dsimp only at hSw); go_simp <;> with_reducible rfl)); try simp only [Act.put, List.getElem_toArray, List.getElem_cons_succ, List.getElem_cons_zero, List.setIfInBounds_toArray, List.set_cons_zero, List.set_cons_succ]))
                      refine wpAnyH_done (by kernel_rfl) ?_ _
                      go_wp2_with fail
                      refine ⟨⟨i + 1, U ++ (⟨#[40]⟩ ++ r2), by omega, by go_num, rfl, Lib.hid (HF.out _ HR2.out), below_trans hbq HBV14.out⟩, by simp [intOf]; omega⟩
            · skip
              have HM := Lib.hid (fun W => l00Min_any (i : Int) 1 1 (by omega) W)
              have HF : Hid (∀ (r2 : ByteArray), r2.data.toList = textP n alts[i] → (U ++ (⟨#[44]⟩ ++ r2)).data.toList = (T ++ r).data.toList ++ parG true ((alts.take (i + 1)).map (textP n))) := fun r2 h => by
                rw [List.take_succ_eq_append_getElem hlt2, List.map_append, List.map_cons, List.map_nil, parG_snoc, ba_app, ba_app, HU.out, h]
                rw [if_neg (by rintro ⟨h, _⟩; have := congrArg List.length h; rw [List.length_map, List.length_take, List.length_nil] at this; omega)]; simp
              have HI0 := Lib.hid hi0; clear hi0
              go_wp2_with fail
              have HBW0 : Hid (Below wr.heap.size wr wr.drew) := (below_refl wr).drew
              have HS0 := HC.out _ HBW0.out
              refine wp_region_held_drew (S := (fun W => W.cell? ⟨wo.heap.size, 4, none⟩ = some (.slice (some ad2) alts.length cp) ∧ W.cell? (ad2.add i) = some (.slice Aq alts[i].length cq))) (by kernel_rfl) HS0 (fun hHeld => ?_)
              ((refine wpAnyH_take (i := 0) (v := ?_) rfl (by kernel_rfl) (by kernel_rfl) (by kernel_rfl) (fun _ _ _ h => h) (Or.inl ⟨by rfl, ?_⟩) (by assumption) ?_; rotate_left; (focus (intro w hSw; (try dsimp only at hSw); go_simp <;> with_reducible rfl)); try simp only [Act.put, List.getElem_toArray, List.getElem_cons_zero, List.setIfInBounds_toArray, List.set_cons_zero, List.set_cons_succ]))
              ((refine wpAnyH_take (i := 2) (v := ?_) rfl (by kernel_rfl) (by kernel_rfl) (by kernel_rfl) (fun _ _ _ h => h) (Or.inl ⟨by rfl, ?_⟩) (by assumption) ?_; rotate_left; (focus (intro w hSw; (try dsimp only at hSw); go_simp <;> with_reducible rfl)); try simp only [Act.put, List.getElem_toArray, List.getElem_cons_succ, List.getElem_cons_zero, List.setIfInBounds_toArray, List.set_cons_zero, List.set_cons_succ]))
              ((refine wpAnyH_take (i := 6) (v := ?_) rfl (by kernel_rfl) (by kernel_rfl) (by kernel_rfl) (fun _ _ _ h => h) (Or.inl ⟨by rfl, ?_⟩) (by assumption) ?_; rotate_left; (focus (intro w hSw; (try dsimp only at hSw); go_simp <;> with_reducible rfl)); try simp only [Act.put, List.getElem_toArray, List.getElem_cons_succ, List.getElem_cons_zero, List.setIfInBounds_toArray, List.set_cons_zero, List.set_cons_succ]); (refine wpAnyH_take (i := 7) (v := ?_) rfl (by kernel_rfl) (by kernel_rfl) (by kernel_rfl) (fun _ _ _ h => h) (Or.inl ⟨by rfl, ?_⟩) (by assumption) ?_; rotate_left; (focus (intro w hSw; (try dsimp only at hSw); go_simp <;> with_reducible rfl)); try simp only [Act.put, List.getElem_toArray, List.getElem_cons_succ, List.getElem_cons_zero, List.setIfInBounds_toArray, List.set_cons_zero, List.set_cons_succ]); (refine wpAnyH_take (i := 8) (v := ?_) rfl (by kernel_rfl) (by kernel_rfl) (by kernel_rfl) (fun _ _ _ h => h) (Or.inl ⟨by rfl, ?_⟩) (by assumption) ?_; rotate_left; (focus (intro w hSw; (try dsimp only at hSw); go_simp <;> with_reducible rfl)); try simp only [Act.put, List.getElem_toArray, List.getElem_cons_succ, List.getElem_cons_zero, List.setIfInBounds_toArray, List.set_cons_zero, List.set_cons_succ]); (refine wpAnyH_take (i := 9) (v := ?_) rfl (by kernel_rfl) (by kernel_rfl) (by kernel_rfl) (fun _ _ _ h => h) (Or.inl ⟨by rfl, ?_⟩) (by assumption) ?_; rotate_left; (focus (intro w hSw; (try dsimp only at hSw); go_simp <;> with_reducible rfl)); try simp only [Act.put, List.getElem_toArray, List.getElem_cons_succ, List.getElem_cons_zero, List.setIfInBounds_toArray, List.set_cons_zero, List.set_cons_succ]); (refine wpAnyH_take (i := 10) (v := ?_) rfl (by kernel_rfl) (by kernel_rfl) (by kernel_rfl) (fun _ _ _ h => h) (Or.inl ⟨by rfl, ?_⟩) (by assumption) ?_; rotate_left; (focus (intro w hSw; (try dsimp only at hSw); go_simp <;> with_reducible rfl)); try simp only [Act.put, List.getElem_toArray, List.getElem_cons_succ, List.getElem_cons_zero, List.setIfInBounds_toArray, List.set_cons_zero, List.set_cons_succ]))
              generalize wr.drew = W0 at *
              refine wpAnyH_ready (rs := [1, 3]) (by kernel_rfl) (by simp) ?_
              refine AllReadyH.cons rfl (fun K hK => ?_) (AllReadyH.cons rfl (fun K hK => ?_) AllReadyH.nil)
              · skip
                go_simp
                have hb16 := (HBW0.out.alloc HBW0.out.size (.cells #[.string ⟨#[40]⟩, .string ⟨#[44]⟩] 9))
                have hl16 : Hid (∀ V, Below (W0.alloc (.cells #[.string ⟨#[40]⟩, .string ⟨#[44]⟩] 9)).heap.size (W0.alloc (.cells #[.string ⟨#[40]⟩, .string ⟨#[44]⟩] 9)) V → V.cell? ⟨W0.heap.size, 1, none⟩ = some (.string ⟨#[44]⟩)) := fun V hV => lit_cell hV 1 _ rfl
                generalize W0.heap.size = g16 at *
                generalize W0.alloc (.cells #[.string ⟨#[40]⟩, .string ⟨#[44]⟩] 9) = V16 at *
                have HBV16 := Lib.hid hb16; clear hb16
                have HS16 := hl16.out _ (below_refl _)
                refine hK.out _ _ (HC.out _ HBV16.out) (fun hHeld => ?_)
                clear hK K
                try simp only [Act.put, List.getElem_toArray, List.getElem_cons_succ, List.getElem_cons_zero, List.setIfInBounds_toArray, List.set_cons_zero, List.set_cons_succ]
                refine wpAnyH_ready (rs := [3]) (by kernel_rfl) (by simp) ?_
                refine AllReadyH.cons rfl (fun K hK => ?_) AllReadyH.nil
                · skip
                  go_simp
                  refine (HM.out _).mono ?_
                  rintro e w' ⟨rfl, rfl⟩
                  try go_wp2_with fail
                  refine hK.out _ _ (HC.out _ HBV16.out) (fun hHeld => ?_)
                  clear hK K
                  try simp only [Act.put, List.getElem_toArray, List.getElem_cons_succ, List.getElem_cons_zero, List.setIfInBounds_toArray, List.set_cons_zero, List.set_cons_succ]
                  ((refine wpAnyH_take (i := 4) (v := ?_) rfl (by kernel_rfl) (by kernel_rfl) (by kernel_rfl) (fun _ _ _ h => h) (Or.inl ⟨by rfl, ?_⟩) (by assumption) ?_; rotate_left; (focus (intro w hSw; (try dsimp only at hSw); go_simp <;> with_reducible rfl)); try simp only [Act.put, List.getElem_toArray, List.getElem_cons_succ, List.getElem_cons_zero, List.setIfInBounds_toArray, List.set_cons_zero, List.set_cons_succ]))
                  refine wpAnyH_ready (rs := [5, 11]) (by kernel_rfl) (by simp) ?_
                  refine AllReadyH.cons rfl (fun K hK => ?_) (AllReadyH.cons rfl (fun K hK => ?_) AllReadyH.nil)
                  · skip
                    go_simp
                    refine hK.out _ _ (HC.out _ HBV16.out) (fun hHeld => ?_)
                    clear hK K
                    try simp only [Act.put, List.getElem_toArray, List.getElem_cons_succ, List.getElem_cons_zero, List.setIfInBounds_toArray, List.set_cons_zero, List.set_cons_succ]
                    refine wpAnyH_ready (rs := [11]) (by kernel_rfl) (by simp) ?_
                    refine AllReadyH.cons rfl (fun K hK => ?_) AllReadyH.nil
                    · skip
                      go_simp
                      refine (HRC.out _ HBV16.out).mono ?_
                      rintro e V19 ⟨r2, rfl, hr2, HR2, b19⟩
                      have HBV19 := Lib.hid (HBV16.out.trans (b19.mono HBV16.out.size))
                      have HL19 := Lib.hid (fun V (hV : Below V19.heap.size V19 V) => hl16.out V (below_trans b19 hV))
                      have HS19 := HL19.out _ (below_refl _)
                      clear b19
                      try go_wp2_with fail
                      refine hK.out _ _ (HC.out _ HBV19.out) (fun hHeld => ?_)
                      clear hK K
                      try simp only [Act.put, List.getElem_toArray, List.getElem_cons_succ, List.getElem_cons_zero, List.setIfInBounds_toArray, List.set_cons_zero, List.set_cons_succ]
                      have z1 : ¬ 9223372036854775807 < 1 + r2.size := by omega
                      have z2 : ¬ 9223372036854775807 < U.size + (1 + r2.size) := by omega
                      ((refine wpAnyH_take (i := 12) (v := ?_) rfl (by kernel_rfl) (by kernel_rfl) (by kernel_rfl) (fun _ _ _ h => h) (Or.inl ⟨by rfl, ?_⟩) (by assumption) ?_; rotate_left; (focus (intro w hSw; (try dsimp only at hSw); go_simp <;> with_reducible rfl)); try simp only [Act.put, List.getElem_toArray, List.getElem_cons_succ, List.getElem_cons_zero, List.setIfInBounds_toArray, List.set_cons_zero, List.set_cons_succ]); (refine wpAnyH_take (i := 13) (v := ?_) rfl (by kernel_rfl) (by kernel_rfl) (by kernel_rfl) (fun _ _ _ h => h) (Or.inl ⟨by rfl, ?_⟩) (by assumption) ?_; rotate_left; (focus (intro w hSw; (try dsimp only at hSw); go_simp <;> with_reducible rfl)); try simp only [Act.put, List.getElem_toArray, List.getElem_cons_succ, List.getElem_cons_zero, List.setIfInBounds_toArray, List.set_cons_zero, List.set_cons_succ]); (refine wpAnyH_take (i := 14) (v := ?_) rfl (by kernel_rfl) (by kernel_rfl) (by kernel_rfl) (fun _ _ _ h => h) (Or.inl ⟨by rfl, ?_⟩) (by assumption) ?_; rotate_left; (focus (intro w hSw; (try dsimp only at hSw); go_simp <;> with_reducible rfl)); try simp only [Act.put, List.getElem_toArray, List.getElem_cons_succ, List.getElem_cons_zero, List.setIfInBounds_toArray, List.set_cons_zero, List.set_cons_succ]))
                      refine wpAnyH_done (by kernel_rfl) ?_ _
                      go_wp2_with fail
                      refine ⟨⟨i + 1, U ++ (⟨#[44]⟩ ++ r2), by omega, by go_num, rfl, Lib.hid (HF.out _ HR2.out), below_trans hbq HBV19.out⟩, by simp [intOf]; omega⟩
                  · skip
                    go_simp
                    refine (HRC.out _ HBV16.out).mono ?_
                    rintro e V20 ⟨r2, rfl, hr2, HR2, b20⟩
                    have HBV20 := Lib.hid (HBV16.out.trans (b20.mono HBV16.out.size))
                    have HL20 := Lib.hid (fun V (hV : Below V20.heap.size V20 V) => hl16.out V (below_trans b20 hV))
                    have HS20 := HL20.out _ (below_refl _)
                    clear b20
                    try go_wp2_with fail
                    refine hK.out _ _ (HC.out _ HBV20.out) (fun hHeld => ?_)
                    clear hK K
                    try simp only [Act.put, List.getElem_toArray, List.getElem_cons_succ, List.getElem_cons_zero, List.setIfInBounds_toArray, List.set_cons_zero, List.set_cons_succ]
                    refine wpAnyH_ready (rs := [5]) (by kernel_rfl) (by simp) ?_
                    refine AllReadyH.cons rfl (fun K hK => ?_) AllReadyH.nil
                    · skip
                      go_simp
                      refine hK.out _ _ (HC.out _ HBV20.out) (fun hHeld => ?_)
                      clear hK K
                      try simp only [Act.put, List.getElem_toArray, List.getElem_cons_succ, List.getElem_cons_zero, List.setIfInBounds_toArray, List.set_cons_zero, List.set_cons_succ]
                      have z1 : ¬ 9223372036854775807 < 1 + r2.size := by omega
                      have z2 : ¬ 9223372036854775807 < U.size + (1 + r2.size) := by omega
                      ((refine wpAnyH_take (i := 12) (v := ?_) rfl (by kernel_rfl) (by kernel_rfl) (by kernel_rfl) (fun _ _ _ h => h) (Or.inl ⟨by rfl, ?_⟩) (by assumption) ?_; rotate_left; (focus (intro w hSw; (try dsimp only at hSw); go_simp <;> with_reducible rfl)); try simp only [Act.put, List.getElem_toArray, List.getElem_cons_succ, List.getElem_cons_zero, List.setIfInBounds_toArray, List.set_cons_zero, List.set_cons_succ]); (refine wpAnyH_take (i := 13) (v := ?_) rfl (by kernel_rfl) (by kernel_rfl) (by kernel_rfl) (fun _ _ _ h => h) (Or.inl ⟨by rfl, ?_⟩) (by assumption) ?_; rotate_left; (focus (intro w hSw; (try dsimp only at hSw); go_simp <;> with_reducible rfl)); try simp only [Act.put, List.getElem_toArray, List.getElem_cons_succ, List.getElem_cons_zero, List.setIfInBounds_toArray, List.set_cons_zero, List.set_cons_succ]); (refine wpAnyH_take (i := 14) (v := ?_) rfl (by kernel_rfl) (by kernel_rfl) (by kernel_rfl) (fun _ _ _ h => h) (Or.inl ⟨by rfl, ?_⟩) (by assumption) ?_; rotate_left; (focus (intro w hSw; (try dsimp only at hSw); go_simp <;> with_reducible rfl)); try simp only [Act.put, List.getElem_toArray, List.getElem_cons_succ, List.getElem_cons_zero, List.setIfInBounds_toArray, List.set_cons_zero, List.set_cons_succ]))
                      refine wpAnyH_done (by kernel_rfl) ?_ _
                      go_wp2_with fail
                      refine ⟨⟨i + 1, U ++ (⟨#[44]⟩ ++ r2), by omega, by go_num, rfl, Lib.hid (HF.out _ HR2.out), below_trans hbq HBV20.out⟩, by simp [intOf]; omega⟩
              · skip
                go_simp
                refine (HM.out _).mono ?_
                rintro e w' ⟨rfl, rfl⟩
                try go_wp2_with fail
                refine hK.out _ _ (HC.out _ HBW0.out) (fun hHeld => ?_)
                clear hK K
                try simp only [Act.put, List.getElem_toArray, List.getElem_cons_succ, List.getElem_cons_zero, List.setIfInBounds_toArray, List.set_cons_zero, List.set_cons_succ]
                refine wpAnyH_ready (rs := [1, 11]) (by kernel_rfl) (by simp) ?_
                refine AllReadyH.cons rfl (fun K hK => ?_) (AllReadyH.cons rfl (fun K hK => ?_) AllReadyH.nil)
                · skip
                  go_simp
                  have hb23 := (HBW0.out.alloc HBW0.out.size (.cells #[.string ⟨#[40]⟩, .string ⟨#[44]⟩] 9))
                  have hl23 : Hid (∀ V, Below (W0.alloc (.cells #[.string ⟨#[40]⟩, .string ⟨#[44]⟩] 9)).heap.size (W0.alloc (.cells #[.string ⟨#[40]⟩, .string ⟨#[44]⟩] 9)) V → V.cell? ⟨W0.heap.size, 1, none⟩ = some (.string ⟨#[44]⟩)) := fun V hV => lit_cell hV 1 _ rfl
                  generalize W0.heap.size = g23 at *
                  generalize W0.alloc (.cells #[.string ⟨#[40]⟩, .string ⟨#[44]⟩] 9) = V23 at *
                  have HBV23 := Lib.hid hb23; clear hb23
                  have HS23 := hl23.out _ (below_refl _)
                  refine hK.out _ _ (HC.out _ HBV23.out) (fun hHeld => ?_)
                  clear hK K
                  try simp only [Act.put, List.getElem_toArray, List.getElem_cons_succ, List.getElem_cons_zero, List.setIfInBounds_toArray, List.set_cons_zero, List.set_cons_succ]
                  ((refine wpAnyH_take (i := 4) (v := ?_) rfl (by kernel_rfl) (by kernel_rfl) (by kernel_rfl) (fun _ _ _ h => h) (Or.inl ⟨by rfl, ?_⟩) (by assumption) ?_; rotate_left; (focus (intro w hSw; (try dsimp only at hSw); go_simp <;> with_reducible rfl)); try simp only [Act.put, List.getElem_toArray, List.getElem_cons_succ, List.getElem_cons_zero, List.setIfInBounds_toArray, List.set_cons_zero, List.set_cons_succ]))
                  refine wpAnyH_ready (rs := [5, 11]) (by kernel_rfl) (by simp) ?_
                  refine AllReadyH.cons rfl (fun K hK => ?_) (AllReadyH.cons rfl (fun K hK => ?_) AllReadyH.nil)
                  · skip
                    go_simp
                    refine hK.out _ _ (HC.out _ HBV23.out) (fun hHeld => ?_)
                    clear hK K
                    try simp only [Act.put, List.getElem_toArray, List.getElem_cons_succ, List.getElem_cons_zero, List.setIfInBounds_toArray, List.set_cons_zero, List.set_cons_succ]
                    refine wpAnyH_ready (rs := [11]) (by kernel_rfl) (by simp) ?_
                    refine AllReadyH.cons rfl (fun K hK => ?_) AllReadyH.nil
                    · skip
                      go_simp
                      refine (HRC.out _ HBV23.out).mono ?_
                      rintro e V25 ⟨r2, rfl, hr2, HR2, b25⟩
                      have HBV25 := Lib.hid (HBV23.out.trans (b25.mono HBV23.out.size))
                      have HL25 := Lib.hid (fun V (hV : Below V25.heap.size V25 V) => hl23.out V (below_trans b25 hV))
                      have HS25 := HL25.out _ (below_refl _)
                      clear b25
                      try go_wp2_with fail
                      refine hK.out _ _ (HC.out _ HBV25.out) (fun hHeld => ?_)
                      clear hK K
                      try simp only [Act.put, List.getElem_toArray, List.getElem_cons_succ, List.getElem_cons_zero, List.setIfInBounds_toArray, List.set_cons_zero, List.set_cons_succ]
                      have z1 : ¬ 9223372036854775807 < 1 + r2.size := by omega
                      have z2 : ¬ 9223372036854775807 < U.size + (1 + r2.size) := by omega
                      ((refine wpAnyH_take (i := 12) (v := ?_) rfl (by kernel_rfl) (by kernel_rfl) (by kernel_rfl) (fun _ _ _ h => h) (Or.inl ⟨by rfl, ?_⟩) (by assumption) ?_; rotate_left; (focus (intro w hSw; (try dsimp only at hSw); go_simp <;> with_reducible rfl)); try simp only [Act.put, List.getElem_toArray, List.getElem_cons_succ, List.getElem_cons_zero, List.setIfInBounds_toArray, List.set_cons_zero, List.set_cons_succ]); (refine wpAnyH_take (i := 13) (v := ?_) rfl (by kernel_rfl) (by kernel_rfl) (by kernel_rfl) (fun _ _ _ h => h) (Or.inl ⟨by rfl, ?_⟩) (by assumption) ?_; rotate_left; (focus (intro w hSw; (try dsimp only at hSw); go_simp <;> with_reducible rfl)); try simp only [Act.put, List.getElem_toArray, List.getElem_cons_succ, List.getElem_cons_zero, List.setIfInBounds_toArray, List.set_cons_zero, List.set_cons_succ]); (refine wpAnyH_take (i := 14) (v := ?_) rfl (by kernel_rfl) (by kernel_rfl) (by kernel_rfl) (fun _ _ _ h => h) (Or.inl ⟨by rfl, ?_⟩) (by assumption) ?_; rotate_left; (focus (intro w hSw; (try dsimp only at hSw); go_simp <;> with_reducible rfl)); try simp only [Act.put, List.getElem_toArray, List.getElem_cons_succ, List.getElem_cons_zero, List.setIfInBounds_toArray, List.set_cons_zero, List.set_cons_succ]))
                      refine wpAnyH_done (by kernel_rfl) ?_ _
                      go_wp2_with fail
                      refine ⟨⟨i + 1, U ++ (⟨#[44]⟩ ++ r2), by omega, by go_num, rfl, Lib.hid (HF.out _ HR2.out), below_trans hbq HBV25.out⟩, by simp [intOf]; omega⟩
                  · skip
                    go_simp
                    refine (HRC.out _ HBV23.out).mono ?_
                    rintro e V26 ⟨r2, rfl, hr2, HR2, b26⟩
                    have HBV26 := Lib.hid (HBV23.out.trans (b26.mono HBV23.out.size))
                    have HL26 := Lib.hid (fun V (hV : Below V26.heap.size V26 V) => hl23.out V (below_trans b26 hV))
                    have HS26 := HL26.out _ (below_refl _)
                    clear b26
                    try go_wp2_with fail
                    refine hK.out _ _ (HC.out _ HBV26.out) (fun hHeld => ?_)
                    clear hK K
                    try simp only [Act.put, List.getElem_toArray, List.getElem_cons_succ, List.getElem_cons_zero, List.setIfInBounds_toArray, List.set_cons_zero, List.set_cons_succ]
                    refine wpAnyH_ready (rs := [5]) (by kernel_rfl) (by simp) ?_
                    refine AllReadyH.cons rfl (fun K hK => ?_) AllReadyH.nil
                    · skip
                      go_simp
                      refine hK.out _ _ (HC.out _ HBV26.out) (fun hHeld => ?_)
                      clear hK K
                      try simp only [Act.put, List.getElem_toArray, List.getElem_cons_succ, List.getElem_cons_zero, List.setIfInBounds_toArray, List.set_cons_zero, List.set_cons_succ]
                      have z1 : ¬ 9223372036854775807 < 1 + r2.size := by omega
                      have z2 : ¬ 9223372036854775807 < U.size + (1 + r2.size) := by omega
                      ((refine wpAnyH_take (i := 12) (v := ?_) rfl (by kernel_rfl) (by kernel_rfl) (by kernel_rfl) (fun _ _ _ h => h) (Or.inl ⟨by rfl, ?_⟩) (by assumption) ?_; rotate_left; (focus (intro w hSw; (try dsimp only at hSw); go_simp <;> with_reducible rfl)); try simp only [Act.put, List.getElem_toArray, List.getElem_cons_succ, List.getElem_cons_zero, List.setIfInBounds_toArray, List.set_cons_zero, List.set_cons_succ]); (refine wpAnyH_take (i := 13) (v := ?_) rfl (by kernel_rfl) (by kernel_rfl) (by kernel_rfl) (fun _ _ _ h => h) (Or.inl ⟨by rfl, ?_⟩) (by assumption) ?_; rotate_left; (focus (intro w hSw; (try dsimp only at hSw); go_simp <;> with_reducible rfl)); try simp only [Act.put, List.getElem_toArray, List.getElem_cons_succ, List.getElem_cons_zero, List.setIfInBounds_toArray, List.set_cons_zero, List.set_cons_succ]); (refine wpAnyH_take (i := 14) (v := ?_) rfl (by kernel_rfl) (by kernel_rfl) (by kernel_rfl) (fun _ _ _ h => h) (Or.inl ⟨by rfl, ?_⟩) (by assumption) ?_; rotate_left; (focus (intro w hSw; (try dsimp only at hSw); go_simp <;> with_reducible rfl)); try simp only [Act.put, List.getElem_toArray, List.getElem_cons_succ, List.getElem_cons_zero, List.setIfInBounds_toArray, List.set_cons_zero, List.set_cons_succ]))
                      refine wpAnyH_done (by kernel_rfl) ?_ _
                      go_wp2_with fail
                      refine ⟨⟨i + 1, U ++ (⟨#[44]⟩ ++ r2), by omega, by go_num, rfl, Lib.hid (HF.out _ HR2.out), below_trans hbq HBV26.out⟩, by simp [intOf]; omega⟩
                · skip
                  go_simp
                  refine (HRC.out _ HBW0.out).mono ?_
                  rintro e V28 ⟨r2, rfl, hr2, HR2, b28⟩
                  have HBV28 := Lib.hid (HBW0.out.trans (b28.mono HBW0.out.size))
                  clear b28
                  try go_wp2_with fail
                  refine hK.out _ _ (HC.out _ HBV28.out) (fun hHeld => ?_)
                  clear hK K
                  try simp only [Act.put, List.getElem_toArray, List.getElem_cons_succ, List.getElem_cons_zero, List.setIfInBounds_toArray, List.set_cons_zero, List.set_cons_succ]
                  refine wpAnyH_ready (rs := [1]) (by kernel_rfl) (by simp) ?_
                  refine AllReadyH.cons rfl (fun K hK => ?_) AllReadyH.nil
                  · skip
                    go_simp
                    have hb29 := (HBV28.out.alloc HBV28.out.size (.cells #[.string ⟨#[40]⟩, .string ⟨#[44]⟩] 9))
                    have hl29 : Hid (∀ V, Below (V28.alloc (.cells #[.string ⟨#[40]⟩, .string ⟨#[44]⟩] 9)).heap.size (V28.alloc (.cells #[.string ⟨#[40]⟩, .string ⟨#[44]⟩] 9)) V → V.cell? ⟨V28.heap.size, 1, none⟩ = some (.string ⟨#[44]⟩)) := fun V hV => lit_cell hV 1 _ rfl
                    generalize V28.heap.size = g29 at *
                    generalize V28.alloc (.cells #[.string ⟨#[40]⟩, .string ⟨#[44]⟩] 9) = V29 at *
                    have HBV29 := Lib.hid hb29; clear hb29
                    have HS29 := hl29.out _ (below_refl _)
                    refine hK.out _ _ (HC.out _ HBV29.out) (fun hHeld => ?_)
                    clear hK K
                    try simp only [Act.put, List.getElem_toArray, List.getElem_cons_succ, List.getElem_cons_zero, List.setIfInBounds_toArray, List.set_cons_zero, List.set_cons_succ]
                    ((refine wpAnyH_take (i := 4) (v := ?_) rfl (by kernel_rfl) (by kernel_rfl) (by kernel_rfl) (fun _ _ _ h => h) (Or.inl ⟨by rfl, ?_⟩) (by assumption) ?_; rotate_left; (focus (intro w hSw; (try dsimp only at hSw); go_simp <;> with_reducible rfl)); try simp only [Act.put, List.getElem_toArray, List.getElem_cons_succ, List.getElem_cons_zero, List.setIfInBounds_toArray, List.set_cons_zero, List.set_cons_succ]))
                    refine wpAnyH_ready (rs := [5]) (by kernel_rfl) (by simp) ?_
                    refine AllReadyH.cons rfl (fun K hK => ?_) AllReadyH.nil
                    · skip
                      go_simp
                      refine hK.out _ _ (HC.out _ HBV29.out) (fun hHeld => ?_)
                      clear hK K
                      try simp only [Act.put, List.getElem_toArray, List.getElem_cons_succ, List.getElem_cons_zero, List.setIfInBounds_toArray, List.set_cons_zero, List.set_cons_succ]
                      have z1 : ¬ 9223372036854775807 < 1 + r2.size := by omega
                      have z2 : ¬ 9223372036854775807 < U.size + (1 + r2.size) := by omega
                      ((refine wpAnyH_take (i := 12) (v := ?_) rfl (by kernel_rfl) (by kernel_rfl) (by kernel_rfl) (fun _ _ _ h => h) (Or.inl ⟨by rfl, ?_⟩) (by assumption) ?_; rotate_left; (focus (intro w hSw; (try dsimp only at hSw); go_simp <;> with_reducible rfl)); try simp only [Act.put, List.getElem_toArray, List.getElem_cons_succ, List.getElem_cons_zero, List.setIfInBounds_toArray, List.set_cons_zero, List.set_cons_succ]); (refine wpAnyH_take (i := 13) (v := ?_) rfl (by kernel_rfl) (by kernel_rfl) (by kernel_rfl) (fun _ _ _ h => h) (Or.inl ⟨by rfl, ?_⟩) (by assumption) ?_; rotate_left; (focus (intro w hSw; (try dsimp only at hSw); go_simp <;> with_reducible rfl)); try simp only [Act.put, List.getElem_toArray, List.getElem_cons_succ, List.getElem_cons_zero, List.setIfInBounds_toArray, List.set_cons_zero, List.set_cons_succ]); (refine wpAnyH_take (i := 14) (v := ?_) rfl (by kernel_rfl) (by kernel_rfl) (by kernel_rfl) (fun _ _ _ h => h) (Or.inl ⟨by rfl, ?_⟩) (by assumption) ?_; rotate_left; (focus (intro w hSw; (try dsimp only at hSw); go_simp <;> with_reducible rfl)); try simp only [Act.put, List.getElem_toArray, List.getElem_cons_succ, List.getElem_cons_zero, List.setIfInBounds_toArray, List.set_cons_zero, List.set_cons_succ]))
                      refine wpAnyH_done (by kernel_rfl) ?_ _
                      go_wp2_with fail
                      refine ⟨⟨i + 1, U ++ (⟨#[44]⟩ ++ r2), by omega, by go_num, rfl, Lib.hid (HF.out _ HR2.out), below_trans hbq HBV29.out⟩, by simp [intOf]; omega⟩
          · obtain rfl : i = alts.length := by omega
            have B2 := Lib.hid (below_trans B1.out hbq)
            go_wp2_with fail
            refine ⟨⟨k + 1, _, by omega, by go_num, rfl, ?_, B2.out⟩, by simp [intOf]; omega⟩
            show _ = _
            rw [HTK.out, ba_app, HU.out, HTR.out, List.take_length]
            simp [textC, ha]
    · obtain rfl : k = xs.length := by omega
      go_wp2_with fail
      go_ret
      exact ⟨T, rfl, by have := HT.out; rw [List.take_length] at this; exact this, hbel⟩

end Go.Proofs.YtcjlokojppicnaaDoor
