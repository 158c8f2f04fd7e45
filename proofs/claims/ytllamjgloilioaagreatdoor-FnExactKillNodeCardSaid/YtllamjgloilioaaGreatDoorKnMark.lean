/- A row of nodes of the call's own whose lists lie anywhere from B on; its marks. (turned from MarkN, MarkN2, MarkN3) -/
import Derived.Test.YtllamjgloilioaaGreatDoorMarkN3
namespace Go.Proofs.YtllamjgloilioaaGreatDoor
open Go.RowKit Go.ChangeShapes Go.WideShapes Go.ChangeAt Go.Deep
set_option linter.unusedVariables false

/-- Block g holds the nodes xs at its beginning, each with lists of its own from block B on, none of them g. -/
def NodesOn (B : Nat) (w : World) (g n : Nat) (xs : List NodeV) : Prop :=
  B ≤ g ∧ ∃ cur, w.heap[g]? = some (.cells cur 50 (0, 0)) ∧ cur.size = n * 3 ∧ xs.length ≤ n ∧ ∀ k (h : k < xs.length), (∀ j u, xs[k].cells[j]? = some u → cur[k * 3 + j]? = some u) ∧ xs[k].Own w B ∧ xs[k].row ≠ some g

theorem NodesOn.lt {B : Nat} {w : World} {g n : Nat} {xs : List NodeV} (h : NodesOn B w g n xs) : g < w.heap.size := by
  obtain ⟨_, cur, hh, _⟩ := h
  rcases Nat.lt_or_ge g w.heap.size with h | h
  · exact h
  · rw [Array.getElem?_eq_none h] at hh; cases hh

theorem NodesOn.on {B : Nat} {w w' : World} {g n : Nat} {xs : List NodeV} (h : NodesOn B w g n xs) (hb : Below w.heap.size w w') : NodesOn B w' g n xs := by
  have hlt := h.lt
  obtain ⟨hB, cur, hh, hz, hl, hk⟩ := h
  exact ⟨hB, cur, by rw [hb.block g hlt]; exact hh, hz, hl, fun k h => ⟨(hk k h).1, (hk k h).2.1.on hb, (hk k h).2.2⟩⟩

theorem NodesOn.rows {B : Nat} {w : World} {g n : Nat} {xs : List NodeV} (h : NodesOn B w g n xs) : ∀ r ∈ xs.map NodeV.row, ∀ b, r = some b → B ≤ b ∧ b < w.heap.size := by
  obtain ⟨_, _, _, _, _, hk⟩ := h
  intro r hr b hb
  obtain ⟨x, hx, rfl⟩ := List.mem_map.1 hr
  obtain ⟨k, hkl, rfl⟩ := List.getElem_of_mem hx
  exact (hk k hkl).2.1.1.lt b hb

theorem Own_setOff {x : NodeV} {w : World} {B : Nat} (h : x.Own w B) {a : Addr} (ha : x.row ≠ some a.block) (u : Value) : x.Own (w.setCell a u) B := by
  refine ⟨World.ownsRow.kept h.1 (row := some a.block) ?_ ?_, trivial⟩
  · exact ⟨rfl, rfl, rfl, by simp, fun k _ hk => Below.heap_setCell w a u k (fun e => hk (by simp [e]))⟩
  · exact .inr ha

/-- Node i's list is written. -/
theorem NodesOn.subs {B : Nat} {w w' : World} {g n i : Nat} {xs : List NodeV} (h : NodesOn B w g n xs) (hi : i < xs.length) (hap : Apart (xs.map NodeV.row)) (hg : w.grownBy w' xs[i].row) (ys : List ByteArray) (hs : Strs w' B xs[i].subsv ys) :
    NodesOn B w' g n (xs.set i { xs[i] with subs := ys }) := by
  have hlt := h.lt
  obtain ⟨hB, cur, hh, hz, hl, hk⟩ := h
  have hgne : some g ≠ xs[i].row := fun e => (hk i hi).2.2 e.symm
  refine ⟨hB, cur, by rw [hg.block g hlt hgne]; exact hh, hz, by simpa using hl, fun k hk' => ?_⟩
  have hkl : k < xs.length := by simpa using hk'
  by_cases e : i = k
  · subst e
    rw [List.getElem_set_self]
    exact ⟨fun j u hu => (hk i hi).1 j u hu, ⟨hs, trivial⟩, (hk i hi).2.2⟩
  · rw [List.getElem_set_ne e]
    refine ⟨(hk k hkl).1, ⟨World.ownsRow.kept (hk k hkl).2.1.1 hg ?_, trivial⟩, (hk k hkl).2.2⟩
    have := Apart.at_ hap (i := i) (j := k) (by simpa using hi) (by simpa using hkl) e
    simpa [NodeV.row] using this

/-- A cell of node i is written. -/
theorem NodesOn.cell_ {B : Nat} {w : World} {g n i : Nat} {xs : List NodeV} (h : NodesOn B w g n xs) (hi : i < xs.length) (o : Nat) (ho : o < 3) (u : Value) (y : NodeV) (hy : y.cells = xs[i].cells.setIfInBounds o u) (hv : y.subsv = xs[i].subsv) (hs : y.subs = xs[i].subs) :
    NodesOn B (w.setCell ⟨g, i * 3 + o, none⟩ u) g n (xs.set i y) := by
  obtain ⟨hB, cur, hh, hz, hl, hk⟩ := h
  have own : ∀ x : NodeV, x.row ≠ some g → x.Own w B → x.Own (w.setCell ⟨g, i * 3 + o, none⟩ u) B := fun x hr hx => Own_setOff hx hr _
  refine ⟨hB, _, heap_setCell_same _ _ _ _ _ _ hh, by simp [hz], by simpa using hl, fun k hk' => ?_⟩
  have hkl : k < xs.length := by simpa using hk'
  have h3 : ∀ (x : NodeV) (j : Nat) (u : Value), x.cells[j]? = some u → j < 3 := fun x j u hu => by
    rcases Nat.lt_or_ge j 3 with h | h
    · exact h
    · rw [Array.getElem?_eq_none (by simpa [NodeV.cells] using h)] at hu; cases hu
  by_cases e : i = k
  · subst e
    rw [List.getElem_set_self]
    have hyr : y.row ≠ some g := by unfold NodeV.row; rw [hv]; exact (hk i hi).2.2
    refine ⟨fun j v hu => ?_, own _ hyr (show y.Own w B from ⟨by rw [hv, hs]; exact (hk i hi).2.1.1, trivial⟩), hyr⟩
    have hj := h3 y j v hu
    rw [hy] at hu
    by_cases hjo : o = j
    · subst hjo
      rw [Array.getElem?_setIfInBounds_self_of_lt (by simpa [NodeV.cells] using hj)] at hu
      rw [Array.getElem?_setIfInBounds_self_of_lt (by rw [hz]; omega)]
      exact hu
    · rw [Array.getElem?_setIfInBounds_ne hjo] at hu
      rw [Array.getElem?_setIfInBounds_ne (by omega)]
      exact (hk i hi).1 j v hu
  · rw [List.getElem_set_ne e]
    refine ⟨fun j v hu => ?_, own _ (hk k hkl).2.2 (hk k hkl).2.1, (hk k hkl).2.2⟩
    have hj := h3 _ j v hu
    rw [Array.getElem?_setIfInBounds_ne (by omega)]
    exact (hk k hkl).1 j v hu

theorem NodesOn.cellM {B : Nat} {w : World} {g n : Nat} {A D : List NodeV} {x : NodeV} (h : NodesOn B w g n (A ++ x :: D)) (o : Nat) (ho : o < 3) (u : Value) (y : NodeV) (hy : y.cells = x.cells.setIfInBounds o u) (hv : y.subsv = x.subsv) (hs : y.subs = x.subs) :
    NodesOn B (w.setCell ⟨g, A.length * 3 + o, none⟩ u) g n (A ++ y :: D) := by
  have hi : A.length < (A ++ x :: D).length := by simp
  have := h.cell_ hi o ho u y (by rw [get_midN]; exact hy) (by rw [get_midN]; exact hv) (by rw [get_midN]; exact hs)
  rwa [set_midN] at this

theorem NodesOn.subsM {B : Nat} {w w' : World} {g n : Nat} {A D : List NodeV} {x : NodeV} (h : NodesOn B w g n (A ++ x :: D)) (hap : Apart ((A ++ x :: D).map NodeV.row)) (hg : w.grownBy w' x.row) (ys : List ByteArray) (hs : Strs w' B x.subsv ys) :
    NodesOn B w' g n (A ++ { x with subs := ys } :: D) := by
  have hi : A.length < (A ++ x :: D).length := by simp
  have := h.subs hi hap (by rw [get_midN]; exact hg) ys (by rw [get_midN]; exact hs)
  rwa [get_midN, set_midN] at this

theorem NodesOn.getM {B : Nat} {w : World} {g n : Nat} {A D : List NodeV} {x : NodeV} (h : NodesOn B w g n (A ++ x :: D)) : Strs w B x.subsv x.subs ∧ w.cell? ⟨g, A.length * 3, none⟩ = some (.string x.name) ∧ w.cell? ⟨g, A.length * 3 + 1, none⟩ = some x.subsv ∧ w.cell? ⟨g, A.length * 3 + 2, none⟩ = some (.string x.value) ∧
    w.frozen? ⟨g, A.length * 3, none⟩ = false ∧ w.frozen? ⟨g, A.length * 3 + 2, none⟩ = false ∧ g < w.heap.size := by
  have hlt := h.lt
  obtain ⟨hB, cur, hh, hz, hl, hk⟩ := h
  have hi : A.length < (A ++ x :: D).length := by simp
  obtain ⟨h1, h2⟩ := hk _ hi
  rw [get_midN] at h1 h2
  exact ⟨h2.1.1, by rw [Lib.cell_of_heap hh]; exact h1 0 _ rfl, by rw [Lib.cell_of_heap hh]; exact h1 1 _ rfl, by rw [Lib.cell_of_heap hh]; exact h1 2 _ rfl, Lib.frozen_of_heap hh _, Lib.frozen_of_heap hh _, hlt⟩

set_option maxHeartbeats 1000000 in
set_option maxRecDepth 8000 in
theorem markNodeS_on (B g n c k hB : Nat) (xs : List NodeV) (w : World) (h : NodesOn B w g n xs) (hap : Apart (xs.map NodeV.row)) (hlo : ∀ r ∈ xs.map NodeV.row, ∀ b, r = some b → b < hB) (hgB : g < hB) (hk0 : 1 ≤ k) (hk : (k : Int) + cnt xs ≤ 10000000) (hl : (xs.length : Int) ≤ 1048576) :
    Calls Tryz.prog 25 #[.slice (some ⟨g, 0, none⟩) xs.length c, .int .i64 k] w fun e w' => e = .returned (.int .i64 (k + cnt xs)) ∧ NodesOn B w' g n (mkNodes k xs) ∧ Touch B hB w w' := by
  have hBg0 : B ≤ g := h.1
  have HAP := Lib.hid hap
  have HLO := Lib.hid hlo
  have HO0 := Lib.hid h
  clear h hap hlo
  go_enter Tryz.func25, Tryz.ntmps25
  go_wp2_with fail
  go_loopw [1, 5] (fun q i wr => ∃ (p : Nat) (pre post : List NodeV), Hid (xs = pre ++ post) ∧ Hid (pre.length = p) ∧ i = .int .i64 p ∧ q = .int .i64 (k + cnt pre) ∧ Hid (NodesOn B wr g n (mkNodes k pre ++ post)) ∧ Hid (Touch B hB w wr)) (fun _ i _ => xs.length - (intOf i).toNat)
  case atStart => exact ⟨0, [], xs, rfl, rfl, rfl, by simp [cnt], HO0.out, Touch.refl _ _ _⟩
  case round =>
    clear HO0
    obtain ⟨i, pre, post, HX, HPI, rfl, rfl, HO, HT⟩ := hrel
    cases post with
    | nil =>
      have hpl : i = xs.length := by rw [← HPI.out, HX.out, List.append_nil]
      have hxe : xs = pre := by rw [HX.out, List.append_nil]
      subst hxe
      have HO2 : Hid (NodesOn B wr g n (mkNodes k xs)) := by have := HO.out; rw [List.append_nil] at this; exact this
      subst hpl
      clear HX HPI
      go_wp2_with fail
      go_ret
      exact ⟨rfl, HO2.out, HT.out⟩
    | cons x post =>
     as_aux_lemma =>
      have hi := HPI.out
      have hml : (mkNodes k pre).length = i := by rw [mkNodes_len, hi]
      have hlt : i < xs.length := by rw [HX.out]; simp; omega
      have hcx : cnt xs = cnt pre + cntN x + cnt post := by rw [HX.out]; simp [cnt]; omega
      have HCX : Hid (cntN x = x.subs.length + 2) := rfl
      have HCS : Hid (cnt (pre ++ [x]) = cnt pre + cntN x) := cnt_snoc pre x
      have HMS : Hid (mkNodes k (pre ++ [x]) = mkNodes k pre ++ [mkNode (k + cnt pre) x]) := mkNodes_snoc pre k x
      have HMK : Hid (mkNode (k + cnt pre) x = ⟨mtB (k + cnt pre), x.subsv, marks (k + cnt pre + 1) x.subs.length, mtB (k + cnt pre + 1 + x.subs.length)⟩) := rfl
      have HROW : Hid (∀ y : NodeV, y.subsv = x.subsv → Apart ((mkNodes k pre ++ y :: post).map NodeV.row)) := fun y hy => by
        have e : (mkNodes k pre ++ y :: post).map NodeV.row = xs.map NodeV.row := by
          rw [List.map_append, mkNodes_row, HX.out, List.map_append, List.map_cons, List.map_cons, show y.row = x.row by unfold NodeV.row; rw [hy]]
        rw [e]; exact HAP.out
      have HRB : Hid (∀ b, x.row = some b → B ≤ b ∧ b < hB) := fun b hb => ⟨(HO.out.rows x.row (List.mem_map.2 ⟨x, by simp, rfl⟩) b hb).1, HLO.out x.row (by rw [HX.out]; simp) b hb⟩
      have hgw : g < wr.heap.size := HO.out.lt
      have hBg := hBg0
      have HI := Lib.hid hi
      have HXX := Lib.hid (show ∀ p q : List NodeV, p = pre ++ [x] → q = post → xs = p ++ q by intro p q hp hq; subst hp hq; rw [HX.out]; simp)
      have HPL : Hid ((pre ++ [x]).length = i + 1) := by show _ = _; simp [hi]
      generalize cnt pre = cp at *
      generalize cnt post = cq at *
      generalize mkNodes k pre = A at *
      clear HX hi HI HPI
      subst hml
      obtain ⟨name, sv, ss, value⟩ := x
      have hss := HCX.out
      simp only at hss
      obtain ⟨K, hK⟩ : ∃ K, k + cp = K := ⟨_, rfl⟩
      rw [hK] at HMS HMK
      have hKi : (k : Int) + (cp : Int) = ((K : Nat) : Int) := by omega
      have hK1 : 1 ≤ K := by omega
      have hK2 : (K : Int) + ss.length + 2 ≤ 10000000 := by omega
      rw [hKi]
      have k1 : (0 : Int) ≤ (A.length : Int) := by omega
      have k2 : (A.length : Int) < xs.length := by omega
      have HK2 := Lib.hid hK2
      have HMT := Lib.hid (fun W => markText_any K hK1 (by omega) W)
      have HMT2 := Lib.hid (fun W => markText_any (K + 1 + ss.length) (by omega) (by omega) W)
      generalize mtB K = M at *
      generalize mtB (K + 1 + ss.length) = M2 at *
      have hkk1 : ((K : Nat) : Int) + 1 = ((K + 1 : Nat) : Int) := by omega
      have HKK : Hid (((K + 1 : Nat) : Int) + (ss.length : Int) = ((K + 1 + ss.length : Nat) : Int)) := by show _ = _; omega
      clear hk hKi hcx hss hlt
      go_wp2_with fail
      refine (HMT.out _).mono ?_
      rintro e w2 ⟨rfl, b2⟩
      have O2 := Lib.hid (NodesOn.on HO.out b2)
      have T2 := Lib.hid (HT.out.trans (Touch.below b2 (show B ≤ wr.heap.size by omega)))
      have hg2 : B ≤ w2.heap.size := by have := b2.size; omega
      clear b2 HO HT hgw
      obtain ⟨_, c0, c1, c2, f0, f2, _⟩ := O2.out.getM
      simp only at c0 c1 c2
      have O3 : Hid (NodesOn B (w2.setCell ⟨g, A.length * 3, none⟩ (.string M)) g n (A ++ ⟨M, sv, ss, value⟩ :: post)) := by as_aux_lemma => exact O2.out.cellM 0 (by omega) (.string M) ⟨M, sv, ss, value⟩ rfl rfl rfl
      have T3 : Hid (Touch B hB w (w2.setCell ⟨g, A.length * 3, none⟩ (.string M))) := T2.out.trans (Touch.set _ ⟨g, A.length * 3, none⟩ _ hBg hgB)
      clear T2
      have hS3 := O3.out.getM.1
      simp only at hS3
      have HMS3 := Lib.hid (markStringS_own sv ss (K + 1) (by omega) (by omega) _ B hS3 (by have := O3.out.lt; omega))
      clear hS3 O2
      obtain ⟨KI, hKI⟩ : ∃ KI : Int, (K : Int) = KI := ⟨_, rfl⟩
      obtain ⟨KJ, hKJ⟩ : ∃ KJ : Int, ((K + 1 : Nat) : Int) = KJ := ⟨_, rfl⟩
      have bI0 : 0 ≤ KI := by omega
      have bI1 : KI ≤ 10000000 := by omega
      have hkk2 : KI + 1 = KJ := by omega
      rw [hKJ] at HMS3 HKK
      rw [hKI]
      clear hKI hkk1 hKJ hK2
      go_wp2_with fail
      refine HMS3.out.mono ?_
      rintro e w4 ⟨rfl, hs4, hg4⟩
      have O4 := Lib.hid (O3.out.subsM (HROW.out ⟨M, sv, ss, value⟩ rfl) hg4 _ hs4)
      have T4 := Lib.hid (T3.out.trans (Touch.grown hg4 (fun b hb => HRB.out b hb) (by have := O3.out.lt; omega)))
      clear hs4 hg4 O3 T3 HMS3
      rw [HKK.out]
      go_wp2_with fail
      refine (HMT2.out _).mono ?_
      rintro e w5 ⟨rfl, b5⟩
      have O5 := Lib.hid (NodesOn.on O4.out b5)
      have T5 := Lib.hid (T4.out.trans (Touch.below b5 (show B ≤ w4.heap.size by have := O4.out.lt; omega)))
      clear b5 O4 T4 c0 c1 c2 f0 f2
      obtain ⟨_, c0, c1, c2, f0, f2, _⟩ := O5.out.getM
      simp only at c0 c1 c2
      have O6 : Hid (NodesOn B (w5.setCell ⟨g, A.length * 3 + 2, none⟩ (.string M2)) g n (A ++ ⟨M, sv, marks (K + 1) ss.length, M2⟩ :: post)) := by as_aux_lemma => exact O5.out.cellM 2 (by omega) (.string M2) ⟨M, sv, marks (K + 1) ss.length, M2⟩ rfl rfl rfl
      have T6 : Hid (Touch B hB w (w5.setCell ⟨g, A.length * 3 + 2, none⟩ (.string M2))) := T5.out.trans (Touch.set _ ⟨g, A.length * 3 + 2, none⟩ _ hBg hgB)
      clear O5 T5
      have hK2 := HK2.out
      obtain ⟨L, hL⟩ : ∃ L : Int, (K : Int) + 1 + (ss.length : Int) = L := ⟨_, rfl⟩
      have bK : L + 1 ≤ 30000000 := by omega
      have bK0 : 0 ≤ L := by omega
      rw [hL]
      have HL := Lib.hid hL; clear hL hK2
      go_wp2_with fail
      refine ⟨⟨A.length + 1, pre ++ [⟨name, sv, ss, value⟩], post, HXX.out _ _ rfl rfl, HPL, by go_num, ?_, ?_, T6⟩, by simp [intOf]; omega⟩
      · rw [HCS.out, HCX.out]; have := HL.out; congr 1; omega
      · show NodesOn _ _ _ _ _
        rw [HMS.out, HMK.out, List.append_assoc]
        exact O6.out

set_option maxHeartbeats 1000000 in
set_option maxRecDepth 8000 in
theorem heldNodeS_on (B g n c k : Nat) (xs : List NodeV) (w : World) (h : NodesOn B w g n (mkNodes k xs)) (hk0 : 1 ≤ k) (hk : (k : Int) + cnt xs ≤ 10000000) (hl : (xs.length : Int) ≤ 1048576) :
    Calls Tryz.prog 27 #[.slice (some ⟨g, 0, none⟩) xs.length c, .int .i64 k] w fun e w' => e = .returned (.int .i64 (k + cnt xs)) ∧ Below w.heap.size w w' := by
  have HO0 := Lib.hid h
  clear h
  go_enter Tryz.func27, Tryz.ntmps27
  go_wp2_with fail
  go_loopw [1, 5] (fun q i wr => ∃ (p : Nat) (pre post : List NodeV), Hid (xs = pre ++ post) ∧ Hid (pre.length = p) ∧ i = .int .i64 p ∧ q = .int .i64 (k + cnt pre) ∧ Hid (Below w.heap.size w wr)) (fun _ i _ => xs.length - (intOf i).toNat)
  case atStart => exact ⟨0, [], xs, rfl, rfl, rfl, by simp [cnt], below_refl _⟩
  case round =>
    obtain ⟨i, pre, post, HX, HPI, rfl, rfl, HB⟩ := hrel
    cases post with
    | nil =>
      have hpl : i = xs.length := by rw [← HPI.out, HX.out, List.append_nil]
      have hxe : xs = pre := by rw [HX.out, List.append_nil]
      subst hxe
      subst hpl
      clear HX HPI
      go_wp2_with fail
      go_ret
      exact ⟨rfl, HB.out⟩
    | cons x post =>
     as_aux_lemma =>
      have hi := HPI.out
      have hml : (mkNodes k pre).length = i := by rw [mkNodes_len, hi]
      have hlt : i < xs.length := by rw [HX.out]; simp; omega
      have hcx : cnt xs = cnt pre + cntN x + cnt post := by rw [HX.out]; simp [cnt]; omega
      have HCX : Hid (cntN x = x.subs.length + 2) := rfl
      have HCS : Hid (cnt (pre ++ [x]) = cnt pre + cntN x) := cnt_snoc pre x
      have HO : Hid (∀ W, Below w.heap.size w W → NodesOn B W g n (mkNodes k pre ++ mkNode (k + cnt pre) x :: mkNodes (k + cnt pre + cntN x) post)) := fun W hW => by
        have := HO0.out.on hW
        rw [HX.out, mkNodes_append] at this
        exact this
      have HMK : Hid (mkNode (k + cnt pre) x = ⟨mtB (k + cnt pre), x.subsv, marks (k + cnt pre + 1) x.subs.length, mtB (k + cnt pre + 1 + x.subs.length)⟩) := rfl
      have HXX := Lib.hid (show ∀ p q : List NodeV, p = pre ++ [x] → q = post → xs = p ++ q by intro p q hp hq; subst hp hq; rw [HX.out]; simp)
      have HPL : Hid ((pre ++ [x]).length = i + 1) := by show _ = _; simp [hi]
      generalize cnt pre = cp at *
      generalize cnt post = cq at *
      generalize mkNodes k pre = A at *
      generalize mkNodes (k + cp + cntN x) post = D at *
      clear HX hi HPI
      subst hml
      obtain ⟨name, sv, ss, value⟩ := x
      have hss := HCX.out
      simp only at hss
      obtain ⟨K, hK⟩ : ∃ K, k + cp = K := ⟨_, rfl⟩
      rw [hK] at HMK HO
      rw [HMK.out] at HO
      have hKi : (k : Int) + (cp : Int) = ((K : Nat) : Int) := by omega
      have hK1 : 1 ≤ K := by omega
      have hK2 : (K : Int) + ss.length + 2 ≤ 10000000 := by omega
      rw [hKi]
      have k1 : (0 : Int) ≤ (A.length : Int) := by omega
      have k2 : (A.length : Int) < xs.length := by omega
      have HMT := Lib.hid (fun W => markText_any K hK1 (by omega) W)
      have HMT2 := Lib.hid (fun W => markText_any (K + 1 + ss.length) (by omega) (by omega) W)
      have HHS := Lib.hid (fun W h => heldStringS_own sv ss.length (K + 1) (by omega) (by omega) W B h)
      generalize mtB K = M at *
      generalize mtB (K + 1 + ss.length) = M2 at *
      obtain ⟨KI, hKI⟩ : ∃ KI : Int, (K : Int) = KI := ⟨_, rfl⟩
      obtain ⟨KJ, hKJ⟩ : ∃ KJ : Int, ((K + 1 : Nat) : Int) = KJ := ⟨_, rfl⟩
      obtain ⟨L, hL⟩ : ∃ L : Int, ((K + 1 + ss.length : Nat) : Int) = L := ⟨_, rfl⟩
      have bI0 : 0 ≤ KI := by omega
      have bI1 : KI ≤ 10000000 := by omega
      have hkk2 : KI + 1 = KJ := by omega
      have hkl : KJ + (ss.length : Int) = L := by omega
      have bL0 : 0 ≤ L := by omega
      have bL1 : L ≤ 10000000 := by omega
      have HLL : Hid (L + 1 = (k : Int) + ((cp + (ss.length + 2) : Nat) : Int)) := by show _ = _; omega
      rw [hKJ, hkl] at HHS
      rw [hL] at HMT2
      rw [hKI] at HMT ⊢
      clear hKI hKJ hL hkl hK2 hKi hcx hss hlt hk HMK
      have hbel := HB.out
      obtain ⟨_, c0, c1, c2, _, _, _⟩ := (HO.out _ hbel).getM
      simp only at c0 c1 c2
      have HCC : Hid (∀ W, Below w.heap.size w W → W.cell? ⟨g, A.length * 3, none⟩ = some (.string M) ∧ W.cell? ⟨g, A.length * 3 + 1, none⟩ = some sv ∧ W.cell? ⟨g, A.length * 3 + 2, none⟩ = some (.string M2) ∧ Strs W B sv (marks (K + 1) ss.length)) := fun W hW => by
        obtain ⟨q0, q1, q2, q3, _, _, _⟩ := (HO.out _ hW).getM
        exact ⟨q1, q2, q3, q0⟩
      go_wp2_with fail
      go_region_with (go_at_call 26; refine (HMT.out _).mono ?_; rintro e w2 ⟨rfl, hb2⟩; have hb3 : Below w.heap.size w w2 := below_trans hbel ⟨hb2.os, hb2.tape, hb2.output, hb2.size, hb2.block⟩; obtain ⟨d0, d1, d2, d3⟩ := HCC.out _ hb3; clear hb2)
      all_goals
        have D3 := Lib.hid d3; clear d3
        go_wp2_with fail
        refine (HHS.out _ D3.out).mono ?_
        rintro e w4 ⟨rfl, hb4⟩
        have hb5 : Below w.heap.size w w4 := below_trans hb3 hb4
        obtain ⟨e0, e1, e2, e3⟩ := HCC.out _ hb5
        clear hb4 e3 d0 d1 d2
        go_wp2_with fail
        go_region_with (go_at_call 26; refine (HMT2.out _).mono ?_; rintro e w6 ⟨rfl, hb6⟩; have hb7 : Below w.heap.size w w6 := below_trans hb5 ⟨hb6.os, hb6.tape, hb6.output, hb6.size, hb6.block⟩; obtain ⟨z0, z1, z2, z3⟩ := HCC.out _ hb7; clear hb6 z3)
        all_goals
          go_wp2_with fail
          refine ⟨⟨A.length + 1, pre ++ [⟨name, sv, ss, value⟩], post, HXX.out _ _ rfl rfl, HPL, by go_num, ?_, hb7⟩, by simp [intOf]; omega⟩
          rw [HCS.out, HCX.out, HLL.out]

theorem markTree_on (B g n c hB : Nat) (xs : List NodeV) (w : World) (h : NodesOn B w g n xs) (hap : Apart (xs.map NodeV.row)) (hlo : ∀ r ∈ xs.map NodeV.row, ∀ b, r = some b → b < hB) (hgB : g < hB) (hk : (cnt xs : Int) ≤ 9000000) (hl : (xs.length : Int) ≤ 1048576) :
    Calls Tryz.prog 12 #[.agg #[.slice (some ⟨g, 0, none⟩) xs.length c], .int .i64 1] w fun e w' => e = .returned (.int .i64 (1 + cnt xs)) ∧ NodesOn B w' g n (mkNodes 1 xs) ∧ Touch B hB w w' := by
  have hlt := h.lt
  have hba : Below w.heap.size w (w.alloc (.cells #[.slice (some ⟨g, 0, none⟩) xs.length c] 30)) := Joins.below_alloc1 w _
  have HM := Lib.hid (markNodeS_on B g n c 1 hB xs _ (h.on hba) hap hlo hgB (by omega) (by omega) hl)
  have HT := Lib.hid (Touch.below (g := B) (h := hB) hba (by have := h.1; omega))
  clear h hap hlo
  obtain ⟨C, hC⟩ : ∃ C : Int, ((1 : Nat) : Int) + (cnt xs : Int) = C := ⟨_, rfl⟩
  have hC2 : 1 + (cnt xs : Int) = C := hC
  rw [hC] at HM
  rw [hC2]
  clear hC hC2 hk hba
  go_enter Tryz.func12, Tryz.ntmps12
  go_wp2_with fail
  refine HM.out.mono ?_
  rintro e w2 ⟨rfl, hn, ht⟩
  have HN := Lib.hid hn
  have HT2 := Lib.hid (HT.out.trans ht)
  clear hn ht
  go_wp2_with fail
  go_ret
  exact ⟨rfl, HN.out, HT2.out⟩

theorem heldTree_on (B g n c : Nat) (xs : List NodeV) (w : World) (h : NodesOn B w g n (mkNodes 1 xs)) (hk : (cnt xs : Int) ≤ 9000000) (hl : (xs.length : Int) ≤ 1048576) :
    Calls Tryz.prog 14 #[.agg #[.slice (some ⟨g, 0, none⟩) xs.length c], .int .i64 1] w fun e w' => e = .returned (.int .i64 (1 + cnt xs)) ∧ Below w.heap.size w w' := by
  have hba : Below w.heap.size w (w.alloc (.cells #[.slice (some ⟨g, 0, none⟩) xs.length c] 30)) := Joins.below_alloc1 w _
  have HM := Lib.hid (heldNodeS_on B g n c 1 xs _ (h.on hba) (by omega) (by omega) hl)
  clear h
  obtain ⟨C, hC⟩ : ∃ C : Int, ((1 : Nat) : Int) + (cnt xs : Int) = C := ⟨_, rfl⟩
  have hC2 : 1 + (cnt xs : Int) = C := hC
  have hC0 : 0 ≤ C := by omega
  rw [hC] at HM
  rw [hC2]
  clear hC hC2 hk
  go_enter Tryz.func14, Tryz.ntmps14
  go_wp2_with fail
  refine HM.out.mono ?_
  rintro e w2 ⟨rfl, b2⟩
  have HB := Lib.hid (below_trans hba b2)
  clear b2 hba
  go_wp2_with fail
  go_ret
  exact ⟨rfl, HB.out⟩

end Go.Proofs.YtllamjgloilioaaGreatDoor
