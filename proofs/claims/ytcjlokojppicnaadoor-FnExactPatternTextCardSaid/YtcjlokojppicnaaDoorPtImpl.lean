/- PatternText: impl.patternText. -/
import Derived.Test.YtcjlokojppicnaaDoorPtMath
import Derived.Test.YtcjlokojppicnaaDoorPtBox
import Derived.Test.YtcjlokojppicnaaDoorPtSpec0
import Derived.Test.YtcjlokojppicnaaDoorAppendStr
import Derived.Lib.Join
import Derived.Deep.RegionHeld3
namespace Go.Proofs.YtcjlokojppicnaaDoor
open Go.RowKit
set_option linter.unusedVariables false
set_option linter.unusedSimpArgs false

theorem parG_false (ts : List (List UInt8)) : parG false ts = Lib.joinTail [44] ts := by
  induction ts with
  | nil => rfl
  | cons t r ih => rw [parG, ih]; simp [Lib.joinTail]

theorem parG_join {ts : List (List UInt8)} (h : ts ≠ []) : parG true ts = 40 :: Lib.join ts [44] := by
  cases ts with
  | nil => exact absurd rfl h
  | cons t r => rw [parG, parG_false, Lib.join_cons]; simp

theorem joinTail_lenP (M : Nat) : ∀ r : List (List UInt8), (∀ x ∈ r, x.length ≤ M) → (Lib.joinTail [44] r).length ≤ r.length * (M + 1)
  | [], _ => by simp [Lib.joinTail]
  | x :: r, h => by
    have ih := joinTail_lenP M r (fun y hy => h y (List.mem_cons_of_mem _ hy))
    have hx := h x (List.mem_cons_self)
    unfold Lib.joinTail at ih ⊢
    have e : (r.length + 1) * (M + 1) = r.length * (M + 1) + (M + 1) := Nat.succ_mul _ _
    simp only [List.map_cons, List.flatten_cons, List.length_append, List.length_cons, List.length_nil]
    omega

theorem join_lenP (M : Nat) (r : List (List UInt8)) (h : ∀ x ∈ r, x.length ≤ M) : (Lib.join r [44]).length ≤ r.length * (M + 1) := by
  cases r with
  | nil => simp [Lib.join_nil]
  | cons x r =>
    have := joinTail_lenP M r (fun y hy => h y (List.mem_cons_of_mem _ hy))
    have hx := h x (List.mem_cons_self)
    rw [Lib.join_cons, List.length_append, List.length_cons, Nat.succ_mul]
    omega

def ImT (n : Nat) : Prop := ∀ (deep : Nat) (v : Value) (xs : List (Pat n)) (w : World), Pats n w v xs → PatsOk n 1048576 xs → patsB n deep xs = true → deep ≤ 3 → T10 w → ML w →
  Calls Tryd.prog 14 #[v] w fun e w' => ∃ r : ByteArray, e = .returned (.string r) ∧ Hid (r.data.toList = textP n xs) ∧ Below w.heap.size w w'

theorem patternText_zero : ImT 0 := by
  intro deep v xs w h hok hb hd
  cases hb

/-- The item's own block holds these cells. -/
def Box (w : World) (x : Nat) (cs : Array Value) : Prop := w.heap[x]? = some (.cells cs 36 (0, 0))

theorem Box.on {w w' : World} {x : Nat} {cs : Array Value} (h : Box w x cs) (hb : Below w.heap.size w w') : Box w' x cs := by
  have hlt : x < w.heap.size := by
    rcases Nat.lt_or_ge x w.heap.size with h' | h'
    · exact h'
    · have := h; unfold Box at this; simp [Array.getElem?_eq_none h'] at this
  unfold Box
  rw [hb.block x hlt]; exact h

theorem Box.cell {w : World} {x : Nat} {cs : Array Value} (h : Box w x cs) (j : Nat) (u : Value) (hu : cs[j]? = some u) : w.cell? ⟨x, j, none⟩ = some u := by
  rw [Lib.cell_of_heap h]; exact hu

theorem len_okP {a b : Nat} (h : a ≤ 1700000000) (h2 : b ≤ 9000000002) : a + b ≤ 140737488355328 := by omega

theorem lt_of_blkP {w : World} {k : Nat} {o : Obj} (h : w.heap[k]? = some o) : k < w.heap.size := by
  rcases Nat.lt_or_ge k w.heap.size with h' | h'
  · exact h'
  · rw [Array.getElem?_eq_none h'] at h; cases h

set_option maxHeartbeats 4000000 in
set_option maxRecDepth 8000 in
theorem patternText_succ {n : Nat} (IH : ImT n) : ImT (n + 1) := by
  intro deep v xs0 w h hok hb hd hT hM
  obtain ⟨xs, hxs⟩ : ∃ xs : List (PatC (List (Pat n))), xs = xs0 := ⟨xs0, rfl⟩
  subst hxs
  have hb : (decide (1 ≤ xs.length ∧ xs.length ≤ 8) && xs.all (patB deep)) = true := hb
  rw [Bool.and_eq_true, decide_eq_true_eq, List.all_eq_true] at hb
  have hl : xs.length ≤ 8 := hb.1.2
  have HB := Lib.hid hb.2
  have HOK : Hid (∀ x ∈ xs, x.codes.size ≤ 1048576 ∧ x.text.size ≤ 1048576 ∧ x.alts.length ≤ 1048576 ∧ ∀ y ∈ x.alts, PatsOk n 1048576 y) := hok.2
  have H : Hid (Pats (n + 1) w v xs) := h
  have HI := Lib.hid IH
  have HT := Lib.hid hT
  have HM := Lib.hid hM
  obtain ⟨A, c, hv⟩ : ∃ A c, v = .slice A xs.length c := h.form
  subst hv; clear h hb hok IH hT hM
  have hmx : itMax deep ≤ 200000000 := by
    have := ptMax_mono hd; have := ptMax_3; have := ptMax_it deep; omega
  have HMX := Lib.hid hmx; clear hmx
  have HB0 := Lib.hid (Bld.new w)
  show Calls Tryd.prog 14 #[_] w fun e w' => ∃ r : ByteArray, e = .returned (.string r) ∧ Hid (r.data.toList = xs.flatMap (textC (textP n))) ∧ Below w.heap.size w w'
  go_enter Tryd.func14, Tryd.ntmps14
  go_wp2
  go_loopw [5, 6, 8, 11] (fun _ _ _ i wr => ∃ k : Nat, k ≤ xs.length ∧ i = .int .i64 k ∧ Hid (Bld wr w.heap.size w.heap.size ((xs.take k).flatMap (textC (textP n)))) ∧ Below w.heap.size w wr) (fun _ _ _ i _ => xs.length - (intOf i).toNat)
  case atStart => exact ⟨0, Nat.zero_le _, rfl, HB0.out, Joins.below_alloc1 w _⟩
  case round =>
    clear HB0
    obtain ⟨k, hk, rfl, HBd, hbel⟩ := hrel
    have hbs := hbel.size
    by_cases hlt : k < xs.length
    · have HBL := Lib.hid hbel
      obtain ⟨ad, av, rfl, hbl, hal, a0, a1, a2, a3, a4⟩ := H.out.get hlt
      replace a0 := (hbel.cell (lt_of_cell a0)).trans a0
      replace a1 := (hbel.cell (lt_of_cell a1)).trans a1
      replace a2 := (hbel.cell (lt_of_cell a2)).trans a2
      replace a3 := (hbel.cell (lt_of_cell a3)).trans a3
      replace a4 := (hbel.cell (lt_of_cell a4)).trans a4
      have hx := HOK.out _ (List.getElem_mem hlt)
      have hbx := HB.out _ (List.getElem_mem hlt)
      have HTK := Lib.hid (take_flat (textC (textP n)) xs k hlt)
      have HAL := Lib.hid hal
      obtain ⟨L, hL⟩ : ∃ L, (xs.take k).flatMap (textC (textP n)) = L := ⟨_, rfl⟩
      rw [hL] at HBd HTK
      have hTz : L.length ≤ 1600000000 := by
        have h1 := flatMap_len (textC (textP n)) (itMax deep) (xs.take k) (fun x hx => textC_len (fun d ys hy => textP_len n d ys hy) deep x (HB.out x (List.mem_of_mem_take hx)))
        rw [hL] at h1
        have h2 : (xs.take k).length * itMax deep ≤ 8 * 200000000 := Nat.mul_le_mul (by rw [List.length_take]; omega) HMX.out
        omega
      clear hL
      obtain ⟨Ap, cp, rfl⟩ := hal.form; clear hal
      generalize xs[k] = x at *
      obtain ⟨lo, hi, codes, text, alts⟩ := x
      simp only [PatC.cells] at *
      have HX := Lib.hid hx
      have hcz : codes.size ≤ 1048576 := HX.out.1
      have htz : text.size ≤ 1048576 := HX.out.2.1
      clear hx
      have i0 : (0 : Int) ≤ k := by omega
      have i1 : (k : Int) < xs.length := by omega
      have hbx2 : timesB lo hi = true ∧ kindB codes.data.toList text.data.toList alts.length deep (alts.all (patsB n (deep - 1))) = true := Bool.and_eq_true_iff.1 hbx
      have HK := Lib.hid hbx2.2
      have HTB := Lib.hid hbx2.1
      clear hbx2 hbx
      obtain ⟨x, hxw⟩ : ∃ x, wr.heap.size = x := ⟨_, rfl⟩
      have hbx1 : Below wr.heap.size wr (wr.alloc (.cells #[.int .i64 lo, .int .i64 hi, .string codes, .string text, .slice Ap alts.length cp] 36)) := Joins.below_alloc1 wr _
      have BX1 : Hid (Box (wr.alloc (.cells #[.int .i64 lo, .int .i64 hi, .string codes, .string text, .slice Ap alts.length cp] 36)) x #[.int .i64 lo, .int .i64 hi, .string codes, .string text, .slice Ap alts.length cp]) := by rw [← hxw]; exact heap_alloc_new wr _
      have BD1 : Hid (Bld (wr.alloc (.cells #[.int .i64 lo, .int .i64 hi, .string codes, .string text, .slice Ap alts.length cp] 36)) w.heap.size w.heap.size L) := HBd.out.on hbx1
      have BB1 : Hid (Below w.heap.size w (wr.alloc (.cells #[.int .i64 lo, .int .i64 hi, .string codes, .string text, .slice Ap alts.length cp] 36))) := below_trans hbel hbx1
      clear HBd hbel hbx1 HBL
      go_wp2_with fail
      clear a0 a1 a2 a3 a4 hbs
      generalize (wr.alloc (.cells #[.int .i64 lo, .int .i64 hi, .string codes, .string text, .slice Ap alts.length cp] 36)) = W1 at *
      clear hxw
      have HBX : Hid (∀ W, Box W x #[.int .i64 lo, .int .i64 hi, .string codes, .string text, .slice Ap alts.length cp] → W.cell? ⟨x, 0, none⟩ = some (.int .i64 lo) ∧ W.cell? ⟨x, 1, none⟩ = some (.int .i64 hi) ∧ W.cell? ⟨x, 2, none⟩ = some (.string codes) ∧ W.cell? ⟨x, 3, none⟩ = some (.string text) ∧ W.cell? ⟨x, 4, none⟩ = some (.slice Ap alts.length cp)) := fun W hW => ⟨hW.cell 0 _ rfl, hW.cell 1 _ rfl, hW.cell 2 _ rfl, hW.cell 3 _ rfl, hW.cell 4 _ rfl⟩
      have hd0 : Below W1.heap.size W1 W1.drew := (below_refl W1).drew
      have BXd := Lib.hid (BX1.out.on hd0)
      have BDd := Lib.hid (BD1.out.on hd0)
      have BBd := Lib.hid (below_trans BB1.out hd0)
      clear hd0 BX1 BD1 BB1
      have HS0 := HBX.out _ BXd.out
      have HTT := Lib.hid (timesText_any (⟨lo, hi, codes, text, alts⟩ : PatC (List (Pat n))) (.slice Ap alts.length cp) W1.drew (HT.out.below BBd.out) HTB.out)
      simp only [PatC.cells] at HTT
      go_region_held3 (fun W => W.cell? ⟨x, 0, none⟩ = some (.int .i64 lo) ∧ W.cell? ⟨x, 1, none⟩ = some (.int .i64 hi) ∧ W.cell? ⟨x, 2, none⟩ = some (.string codes) ∧ W.cell? ⟨x, 3, none⟩ = some (.string text) ∧ W.cell? ⟨x, 4, none⟩ = some (.slice Ap alts.length cp)) (first | exact HS0 | exact HS5 | exact HS6)
        (first | (go_at_call 24; refine HTT.out.mono ?_; rintro e W2 ⟨r, rfl, hr, HR, b2⟩; have BX2 := Lib.hid (BXd.out.on b2); have BD2 := Lib.hid (BDd.out.on b2); have BB2 := Lib.hid (below_trans BBd.out b2); have HS5 := HBX.out _ BX2.out; have hrc : (r ++ codes).size ≤ 2000000 := (by rw [ByteArray.size_append]; omega); have hrz : ¬ 9223372036854775807 < r.size + codes.size := (by omega); clear b2) | (go_at_call 23; refine (WriteString_box w.heap.size w.heap.size x _ 36 L (r ++ codes) W2 BD2.out (by omega) BB2.out.size BX2.out (by decide) (by decide)).mono ?_; rintro e W3 ⟨rfl, bd3, bb3, bx3⟩; have BD3 := Lib.hid bd3; have BB3 := Lib.hid (BB2.out.trans bb3); have BX3 : Hid (Box W3 x _) := bx3; have HS6 := HBX.out _ BX3.out; clear bd3 bb3 bx3))
      obtain ⟨y0, y1, y2, y3, y4⟩ := HS6
      clear HS0 HS5 BXd BDd BBd BX2 BD2 BB2 HTT hrc
      have HTXT : Hid ((r ++ codes).data.toList = timesT lo hi ++ codes.data.toList) := by show _ = _; rw [ba_app, HR.out]
      have hrc : (r ++ codes).size ≤ 2000000 := by rw [ByteArray.size_append]; omega
      have hrl : (r ++ codes).data.toList.length ≤ 2000000 := by rw [← ba_size]; exact hrc
      obtain ⟨L1, hL1⟩ : ∃ L1, L ++ (r ++ codes).data.toList = L1 := ⟨_, rfl⟩
      have hL1z : L1.length ≤ 1700000000 := by rw [← hL1, List.length_append]; omega
      have HL1 : Hid (L1 = L ++ (timesT lo hi ++ codes.data.toList)) := by show _ = _; rw [← hL1, HTXT.out]
      rw [hL1] at BD3
      clear hL1 hrl HTXT
      by_cases ha : alts = []
      · subst ha
        by_cases ht : text.size = 0
        · have hte : text.data.toList = [] := List.eq_nil_of_length_eq_zero (by rw [← ba_size]; exact ht)
          have hne : text = ⟨#[]⟩ := by
            cases text; congr 1; exact Array.toList_eq_nil_iff.1 hte
          subst hne
          have HL2 : Hid ((xs.take (k + 1)).flatMap (textC (textP n)) = L1) := by show _ = _; rw [HTK.out, HL1.out]; simp [textC]
          go_wp2_with fail
          refine ⟨⟨k + 1, by omega, by go_num, ?_, BB3.out⟩, by simp [intOf]; omega⟩
          show Bld _ _ _ _
          rw [HL2.out]; exact BD3.out
        · have hte : text.data.toList ≠ [] := fun e => ht (by rw [ba_size, e]; rfl)
          have htn : text ≠ ⟨#[]⟩ := fun e => hte (by rw [e])
          have g1 := txtNe htn
          have g2 : text.toList.isEmpty = false := by rw [ba_toList]; exact List.isEmpty_eq_false_iff.2 hte
          have g3 : (text.toList == []) = false := by rw [ba_toList]; exact beq_eq_false_iff_ne.2 hte
          have hkk : codes.data.toList = [] ∧ (quote text.data.toList).length ≤ 100 := by
            have h1 := HK.out
            unfold kindB at h1
            have hq := quote_length text.data.toList
            split at h1
            · simp only [Bool.and_eq_true, decide_eq_true_eq] at h1; exact absurd h1.1.2 hte
            · rename_i hc
              simp only [Bool.and_eq_true, decide_eq_true_eq] at h1
              exact ⟨Classical.not_not.1 hc, by omega⟩
          have HQZ := Lib.hid hkk.2
          have HL2 : Hid ((xs.take (k + 1)).flatMap (textC (textP n)) = L1 ++ quote text.data.toList) := by show _ = _; rw [HTK.out, HL1.out, hkk.1]; simp [textC, hte]
          clear hkk hte htn
          go_wp2_with fail
          refine (QuoteText_any text _ (HM.out.below BB3.out) htz).mono ?_
          rintro e W4 ⟨⟨q, rfl, hq⟩, b4⟩
          have hqz : q.size ≤ 100 := by rw [ba_size, hq]; exact HQZ.out
          have HQ := Lib.hid hq
          have BX4 := Lib.hid (BX3.out.on b4)
          have BD4 := Lib.hid (BD3.out.on b4)
          have BB4 := Lib.hid (below_trans BB3.out b4)
          clear hq b4 BX3 BD3 BB3 y0 y1 y2 y3 y4
          go_wp2_with fail
          refine (WriteString_box w.heap.size w.heap.size x _ 36 L1 q _ BD4.out (by omega) BB4.out.size BX4.out (by decide) (by decide)).mono ?_
          rintro e W5 ⟨rfl, bd5, bb5, bx5⟩
          have BX5 : Hid (Box W5 x _) := bx5
          obtain ⟨y0, y1, y2, y3, y4⟩ := HBX.out _ BX5.out
          have BD5 := Lib.hid bd5
          have BB5 := Lib.hid (BB4.out.trans bb5)
          clear bd5 bb5 bx5 BX4 BD4 BB4
          go_wp2_with fail
          refine ⟨⟨k + 1, by omega, by go_num, ?_, BB5.out⟩, by simp [intOf]; omega⟩
          show Bld _ _ _ _
          have := BD5.out
          rw [HQ.out, ← HL2.out] at this
          exact this
      · have hpos : 0 < alts.length := List.length_pos_iff.2 ha
        have hk2 : (codes.data.toList = [] ∧ text.data.toList = []) ∧ alts.length ≤ 8 ∧ 0 < deep ∧ ∀ ys ∈ alts, patsB n (deep - 1) ys = true := by
          have h1 := HK.out
          unfold kindB at h1
          split at h1
          · simp only [Bool.and_eq_true, decide_eq_true_eq] at h1; omega
          · rename_i hc
            split at h1
            · simp only [Bool.and_eq_true, decide_eq_true_eq] at h1; omega
            · rename_i ht
              simp only [Bool.and_eq_true, decide_eq_true_eq, List.all_eq_true] at h1
              exact ⟨⟨Classical.not_not.1 hc, Classical.not_not.1 ht⟩, h1.1.1.2, h1.1.2, h1.2⟩
        have HL2 : Hid ((xs.take (k + 1)).flatMap (textC (textP n)) = L1 ++ (40 :: (Lib.join (alts.map (textP n)) [44] ++ [41]))) := by
          show _ = _
          rw [HTK.out, HL1.out, hk2.1.1]
          simp only [textC, ne_eq, ha, not_false_eq_true, if_true, List.append_nil]
          rw [parG_join (by simpa using ha)]
          simp
        have hne : text = ⟨#[]⟩ := by
          have := hk2.1.2
          cases text; congr 1; exact Array.toList_eq_nil_iff.1 this
        subst hne
        have HK2 := Lib.hid hk2.2
        have ha8 : alts.length ≤ 8 := hk2.2.1
        clear hk2
        have HA := Lib.hid ha; clear ha
        have hE0 : Strs (W3.alloc (.cells #[] 9)) W3.heap.size (.slice (some ⟨W3.heap.size, 0, none⟩) 0 0) [] := World.ownsRow_lit W3 #[] 0 (Nat.le_refl _) (by unfold maxLen; omega) rfl
        have HE0 := Lib.hid hE0; clear hE0
        have HBE : Hid (Below W3.heap.size W3 (W3.alloc (.cells #[] 9))) := Joins.below_alloc1 W3 _
        have z4 := (HBX.out _ (BX3.out.on HBE.out)).2.2.2.2
        go_wp2_with fail
        clear z4 y0 y1 y2 y3 y4
        go_loopw [6, 8, 36] (fun tv _ j wq => ∃ (i : Nat) (ps : List ByteArray), i ≤ alts.length ∧ j = .int .i64 i ∧ ps.length = i ∧ Strs wq W3.heap.size tv ps ∧ Hid (ps.map (·.data.toList) = (alts.take i).map (textP n)) ∧ Below W3.heap.size W3 wq) (fun _ _ j _ => alts.length - (intOf j).toNat)
        case atStart => exact ⟨0, [], Nat.zero_le _, rfl, rfl, HE0.out, rfl, HBE.out⟩
        case round =>
          clear HE0 HBE
          obtain ⟨i, ps, hi2, rfl, hpl, hown, HPS, hbq⟩ := hrel
          have hqs := hbq.size
          have HBQ := Lib.hid (below_trans BB3.out hbq)
          by_cases hlt2 : i < alts.length
          · obtain ⟨ad2, pv, hAp, hbl2, hcp, hp⟩ := (AltsOf.on HAL.out HBQ.out).get hlt2
            subst hAp
            have hv := HK2.out.2.2 _ (List.getElem_mem hlt2)
            have HRC := Lib.hid (HI.out (deep - 1) pv alts[i] wr hp (HX.out.2.2.2 _ (List.getElem_mem hlt2)) hv (by omega) (HT.out.below HBQ.out) (HM.out.below HBQ.out))
            have HDT := Lib.hid (List.take_succ_eq_append_getElem hlt2)
            obtain ⟨Aq, cq, rfl⟩ := hp.form; clear hp hv
            generalize alts[i] = alt at *
            have j0 : (0 : Int) ≤ i := by omega
            have j1 : (i : Int) < alts.length := by omega
            go_wp2_with fail
            refine HRC.out.mono ?_
            rintro e wq2 ⟨r2, rfl, HR2, b2⟩
            have hown2 := hown.below b2
            have hb2 := below_trans hbq b2
            have hs2 := hb2.size
            clear hcp
            go_wp2_with (at_builtin; refine wpList_append_str wq2 rfl _ _ rfl W3.heap.size _ ps r2 hown2 rfl rfl (by omega) hs2 ?_; intro v' w4 hb4 hg4 hbl4 _hv)
            refine ⟨⟨i + 1, ps ++ [r2], by omega, by go_num, by simp; omega, hb4, ?_, hb2.trans hbl4⟩, by simp [intOf]; omega⟩
            show _ = _
            rw [HDT.out, List.map_append, List.map_append, HPS.out, List.map_cons, List.map_nil, List.map_cons, List.map_nil, HR2.out]
          · obtain rfl : i = alts.length := by omega
            rw [List.take_length] at HPS
            obtain ⟨_, h2⟩ := id hown
            rcases h2 with ⟨rfl, hn0⟩ | ⟨gb, cap, cur, rfl, hg, hh, hrr⟩
            · omega
            · have hcap : ps.length ≤ cap := hrr.1
              have hjl := join_lenP 1000000000 (alts.map (textP n)) (fun y hy => by
                obtain ⟨z, hz, rfl⟩ := List.mem_map.1 hy
                exact Nat.le_trans (textP_len n _ z (HK2.out.2.2 z hz)) (Nat.le_trans (ptMax_mono (by have := HK2.out.2.1; omega)) ptMax_3))
              rw [List.length_map] at hjl
              have hjl2 : alts.length * (1000000000 + 1) ≤ 8 * 1000000001 := Nat.mul_le_mul ha8 (by omega)
              have HIo : ps.map (·.data.toList) = alts.map (textP n) := HPS.out
              have HJ := Tryd.strings_Join gb 0 cap ps ⟨#[44]⟩ wr (by
                intro j x hj
                have hcl := World.ownsRow.cells hown rfl j (.string x) (by rw [strVs, List.getElem?_map, hj]; rfl)
                rw [← hcl]
                unfold Addr.add
                split
                · rename_i h0; rw [h0]
                · simp) (lt_of_blkP hh) (by omega) hcap (by
                rw [HIo]; have e : (⟨#[44]⟩ : ByteArray).data.toList = [44] := rfl
                rw [e]; omega)
              rw [HIo] at HJ
              rw [hpl] at HJ
              have HJJ := Lib.hid HJ; clear HJ HIo
              have hJsz : (⟨(Lib.join (alts.map (textP n)) (⟨#[44]⟩ : ByteArray).data.toList).toArray⟩ : ByteArray).size ≤ 9000000000 := by
                rw [ba_size]
                show (Lib.join (alts.map (textP n)) [44]).length ≤ 9000000000
                omega
              have BXq := Lib.hid (BX3.out.on hbq)
              have BDq := Lib.hid (BD3.out.on hbq)
              have yq := (HBX.out _ BXq.out).2.2.2.2
              clear hjl hjl2 BX3 BD3 hown hh hrr
              rw [hpl]
              go_wp2_with fail
              refine HJJ.out.mono ?_
              rintro e w2 ⟨rfl, b2⟩
              obtain ⟨J, hJ, hJs⟩ : ∃ J : ByteArray, J = ⟨(Lib.join (alts.map (textP n)) (⟨#[44]⟩ : ByteArray).data.toList).toArray⟩ ∧ J.size ≤ 9000000000 := ⟨_, rfl, hJsz⟩
              rw [← hJ]
              have HJJ2 : Hid (J.data.toList = Lib.join (alts.map (textP n)) [44]) := by show _ = _; rw [hJ]
              have BX2 := Lib.hid (BXq.out.on b2)
              have BD2 := Lib.hid (BDq.out.on b2)
              have BB2 := Lib.hid (below_trans HBQ.out b2)
              clear hJ HJJ b2 BXq BDq yq
              have HQQ : Hid ((⟨#[40]⟩ ++ J ++ ⟨#[41]⟩ : ByteArray).data.toList = 40 :: (Lib.join (alts.map (textP n)) [44] ++ [41])) := by show _ = _; rw [ba_app, ba_app, HJJ2.out]; simp
              go_wp2_with fail
              obtain ⟨Q, hQ⟩ : ∃ Q : ByteArray, (⟨#[40]⟩ ++ J ++ ⟨#[41]⟩ : ByteArray) = Q := ⟨_, rfl⟩
              have hQz : Q.size ≤ 9000000002 := by rw [← hQ, ByteArray.size_append, ByteArray.size_append]; show 1 + J.size + 1 ≤ _; omega
              rw [hQ] at HQQ ⊢
              clear hQ HJJ2
              have hlq : L1.length + Q.size ≤ 140737488355328 := len_okP hL1z hQz
              have HW := WriteString_box w.heap.size w.heap.size x #[.int .i64 lo, .int .i64 hi, .string codes, .string ⟨#[]⟩, .slice Ap alts.length cp] 36 L1 Q w2 BD2.out hlq BB2.out.size BX2.out (by decide) (by decide)
              refine HW.mono ?_
              rintro e W5 ⟨rfl, bd5, bb5, bx5⟩
              have BD5 := Lib.hid bd5
              have BB5 := Lib.hid (BB2.out.trans bb5)
              clear bd5 bb5 bx5 BX2 BD2 BB2
              go_wp2_with fail
              refine ⟨⟨k + 1, by omega, by go_num, ?_, BB5.out⟩, by simp [intOf]; omega⟩
              show Bld _ _ _ _
              have := BD5.out
              rw [HQQ.out] at this
              rw [HL2.out]
              exact this
    · obtain rfl : k = xs.length := by omega
      rw [List.take_length] at HBd
      go_wp2_with fail
      refine (BString_any w.heap.size w.heap.size _ wr HBd.out hbs).mono ?_
      rintro e w2 ⟨rfl, b2⟩
      go_wp2_with fail
      go_ret
      exact ⟨_, rfl, by show _ = _; simp, hbel.trans b2⟩

end Go.Proofs.YtcjlokojppicnaaDoor
