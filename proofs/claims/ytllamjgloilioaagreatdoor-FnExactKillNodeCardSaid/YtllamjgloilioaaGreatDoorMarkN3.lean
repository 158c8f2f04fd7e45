/- Marks held: strings, nodes, trees. -/
import Derived.Test.YtllamjgloilioaaGreatDoorMarkN2
namespace Go.Proofs.YtllamjgloilioaaGreatDoor
open Go.RowKit Go.ChangeShapes Go.WideShapes Go.ChangeAt Go.Deep
set_option linter.unusedVariables false

set_option maxRecDepth 8000 in
theorem heldStringS_own (v : Value) (n k : Nat) (hk0 : 1 ≤ k) (hk : (k : Int) + n ≤ 10000000) (w : World) (base : Nat) (h : Strs w base v (marks k n)) :
    Calls Tryz.prog 45 #[v, .int .i64 k] w fun e w' => e = .returned (.int .i64 (k + n)) ∧ Below w.heap.size w w' := by
  obtain ⟨A, c, rfl, hc, hr⟩ := h.at_
  clear h
  rw [marks_len] at *
  go_enter Tryz.func45, Tryz.ntmps45
  go_wp2_with fail
  go_loopw [1, 5] (fun q i wr => ∃ j : Nat, j ≤ n ∧ i = .int .i64 j ∧ q = .int .i64 (k + j) ∧ Below w.heap.size w wr) (fun _ i _ => n - (intOf i).toNat)
  case atStart => exact ⟨0, Nat.zero_le _, rfl, by go_num, below_refl _⟩
  case round =>
    obtain ⟨j, hj, rfl, rfl, hbel⟩ := hrel
    have hbs := hbel.size
    by_cases hlt : j < n
    · have hget : ∀ w', Below w.heap.size w w' → ∃ ad, A = some ad ∧ w'.cell? (ad.add j) = some (.string (mtB (k + j))) := fun w' hb' => by
        obtain ⟨ad, u, e, _, hx, hcl⟩ := (hr.below hb').at_ hlt
        refine ⟨ad, e, ?_⟩
        rw [hcl]
        simp [marks, strVs, List.getElem?_map, List.getElem?_range hlt] at hx
        rw [← hx]
      obtain ⟨ad, rfl, hcell⟩ := hget _ hbel
      have HG : Hid (∀ w', Below w.heap.size w w' → w'.cell? (ad.add j) = some (.string (mtB (k + j)))) := fun w' hb' => by
        obtain ⟨ad', e, hc'⟩ := hget _ hb'
        injection e with e; subst e; exact hc'
      clear hget
      have i0 : (0 : Int) ≤ j := by omega
      have i1 : (j : Int) < n := by omega
      have i2 : ((k + j : Nat) : Int) + 1 ≤ 30000000 := by omega
      have i3 : 1 ≤ k + j := by omega
      have i4 : 0 ≤ ((k + j : Nat) : Int) := by omega
      have ekj : ((k : Int) + j) = ((k + j : Nat) : Int) := by omega
      rw [ekj]
      have HMT := Lib.hid (fun W => markText_any (k + j) i3 (by omega) W)
      generalize mtB (k + j) = M at *
      obtain ⟨kj, hkj⟩ : ∃ kj : Int, ((k + j : Nat) : Int) = kj := ⟨_, rfl⟩
      rw [hkj] at i2 i4 HMT ⊢
      have HKJ := Lib.hid hkj; clear hkj ekj
      go_wp2_with fail
      go_region_with (go_at_call 26; refine (HMT.out _).mono ?_; rintro e w2 ⟨rfl, hb2⟩; have hb3 : Below w.heap.size w w2 := below_trans hbel ⟨hb2.os, hb2.tape, hb2.output, hb2.size, hb2.block⟩; have hc3 := HG.out _ hb3; clear hb2)
      all_goals
        go_wp2_with fail
        refine ⟨⟨j + 1, by omega, by go_num, ?_, hb3⟩, by simp [intOf]; omega⟩
        show Value.int .i64 (kj + 1) = Value.int .i64 ((k : Int) + ((j + 1 : Nat) : Int))
        rw [show kj + 1 = (k : Int) + ((j + 1 : Nat) : Int) by have := HKJ.out; omega]
    · obtain rfl : j = n := by omega
      go_wp2_with fail
      go_ret
      exact ⟨rfl, hbel⟩

theorem mkNodes_append : ∀ (a b : List NodeV) (k : Nat), mkNodes k (a ++ b) = mkNodes k a ++ mkNodes (k + cnt a) b
  | [], b, k => by simp [mkNodes, cnt]
  | x :: r, b, k => by
    rw [List.cons_append, mkNodes, mkNodes_append r, mkNodes, List.cons_append]
    simp only [cnt, List.map_cons, List.sum_cons, Nat.add_assoc]

set_option maxHeartbeats 1000000 in
set_option maxRecDepth 8000 in
theorem heldNodeS_own (g n c k : Nat) (xs : List NodeV) (w : World) (h : NodesOwn w g n (mkNodes k xs)) (hk0 : 1 ≤ k) (hk : (k : Int) + cnt xs ≤ 10000000) (hl : (xs.length : Int) ≤ 1048576) :
    Calls Tryz.prog 27 #[.slice (some ⟨g, 0, none⟩) xs.length c, .int .i64 k] w fun e w' => e = .returned (.int .i64 (k + cnt xs)) ∧ Below w.heap.size w w' := by
  have HO0 := Lib.hid h
  clear h
  go_enter Tryz.func27, Tryz.ntmps27
  go_wp2_with fail
  go_loopw [1, 5] (fun q i wr => ∃ (p : Nat) (pre post : List NodeV), Hid (xs = pre ++ post) ∧ Hid (pre.length = p) ∧ i = .int .i64 p ∧ q = .int .i64 (k + cnt pre) ∧ Hid (Below w.heap.size w wr)) (fun _ i _ => xs.length - (intOf i).toNat)
  case atStart => exact ⟨0, [], xs, rfl, rfl, rfl, by simp [cnt], below_refl _⟩
  case round =>
    obtain ⟨i, pre, post, HX, HPI, rfl, rfl, HB⟩ := hrel
    cases post with
    | nil =>
      have hpl : i = xs.length := by rw [← HPI.out, HX.out, List.append_nil]
      have hxe : xs = pre := by rw [HX.out, List.append_nil]
      subst hxe
      subst hpl
      clear HX HPI
      go_wp2_with fail
      go_ret
      exact ⟨rfl, HB.out⟩
    | cons x post =>
     as_aux_lemma =>
      have hi := HPI.out
      have hml : (mkNodes k pre).length = i := by rw [mkNodes_len, hi]
      have hlt : i < xs.length := by rw [HX.out]; simp; omega
      have hcx : cnt xs = cnt pre + cntN x + cnt post := by rw [HX.out]; simp [cnt]; omega
      have HCX : Hid (cntN x = x.subs.length + 2) := rfl
      have HCS : Hid (cnt (pre ++ [x]) = cnt pre + cntN x) := cnt_snoc pre x
      have HO : Hid (∀ W, Below w.heap.size w W → NodesOwn W g n (mkNodes k pre ++ mkNode (k + cnt pre) x :: mkNodes (k + cnt pre + cntN x) post)) := fun W hW => by
        have := HO0.out.on hW
        rw [HX.out, mkNodes_append] at this
        exact this
      have HMK : Hid (mkNode (k + cnt pre) x = ⟨mtB (k + cnt pre), x.subsv, marks (k + cnt pre + 1) x.subs.length, mtB (k + cnt pre + 1 + x.subs.length)⟩) := rfl
      have HXX := Lib.hid (show ∀ p q : List NodeV, p = pre ++ [x] → q = post → xs = p ++ q by intro p q hp hq; subst hp hq; rw [HX.out]; simp)
      have HPL : Hid ((pre ++ [x]).length = i + 1) := by show _ = _; simp [hi]
      generalize cnt pre = cp at *
      generalize cnt post = cq at *
      generalize mkNodes k pre = A at *
      generalize mkNodes (k + cp + cntN x) post = B at *
      clear HX hi HPI
      subst hml
      obtain ⟨name, sv, ss, value⟩ := x
      have hss := HCX.out
      simp only at hss
      obtain ⟨K, hK⟩ : ∃ K, k + cp = K := ⟨_, rfl⟩
      rw [hK] at HMK HO
      rw [HMK.out] at HO
      have hKi : (k : Int) + (cp : Int) = ((K : Nat) : Int) := by omega
      have hK1 : 1 ≤ K := by omega
      have hK2 : (K : Int) + ss.length + 2 ≤ 10000000 := by omega
      rw [hKi]
      have k1 : (0 : Int) ≤ (A.length : Int) := by omega
      have k2 : (A.length : Int) < xs.length := by omega
      have HMT := Lib.hid (fun W => markText_any K hK1 (by omega) W)
      have HMT2 := Lib.hid (fun W => markText_any (K + 1 + ss.length) (by omega) (by omega) W)
      have HHS := Lib.hid (fun W h => heldStringS_own sv ss.length (K + 1) (by omega) (by omega) W (g + 1) h)
      generalize mtB K = M at *
      generalize mtB (K + 1 + ss.length) = M2 at *
      obtain ⟨KI, hKI⟩ : ∃ KI : Int, (K : Int) = KI := ⟨_, rfl⟩
      obtain ⟨KJ, hKJ⟩ : ∃ KJ : Int, ((K + 1 : Nat) : Int) = KJ := ⟨_, rfl⟩
      obtain ⟨L, hL⟩ : ∃ L : Int, ((K + 1 + ss.length : Nat) : Int) = L := ⟨_, rfl⟩
      have bI0 : 0 ≤ KI := by omega
      have bI1 : KI ≤ 10000000 := by omega
      have hkk2 : KI + 1 = KJ := by omega
      have hkl : KJ + (ss.length : Int) = L := by omega
      have bL0 : 0 ≤ L := by omega
      have bL1 : L ≤ 10000000 := by omega
      have HLL : Hid (L + 1 = (k : Int) + ((cp + (ss.length + 2) : Nat) : Int)) := by show _ = _; omega
      rw [hKJ, hkl] at HHS
      rw [hL] at HMT2
      rw [hKI] at HMT ⊢
      clear hKI hKJ hL hkl hK2 hKi hcx hss hlt hk HMK
      have hbel := HB.out
      obtain ⟨_, c0, c1, c2, _, _, _⟩ := (HO.out _ hbel).getM
      simp only at c0 c1 c2
      have HCC : Hid (∀ W, Below w.heap.size w W → W.cell? ⟨g, A.length * 3, none⟩ = some (.string M) ∧ W.cell? ⟨g, A.length * 3 + 1, none⟩ = some sv ∧ W.cell? ⟨g, A.length * 3 + 2, none⟩ = some (.string M2) ∧ Strs W (g + 1) sv (marks (K + 1) ss.length)) := fun W hW => by
        obtain ⟨q0, q1, q2, q3, _, _, _⟩ := (HO.out _ hW).getM
        exact ⟨q1, q2, q3, q0⟩
      go_wp2_with fail
      go_region_with (go_at_call 26; refine (HMT.out _).mono ?_; rintro e w2 ⟨rfl, hb2⟩; have hb3 : Below w.heap.size w w2 := below_trans hbel ⟨hb2.os, hb2.tape, hb2.output, hb2.size, hb2.block⟩; obtain ⟨d0, d1, d2, d3⟩ := HCC.out _ hb3; clear hb2)
      all_goals
        have D3 := Lib.hid d3; clear d3
        go_wp2_with fail
        refine (HHS.out _ D3.out).mono ?_
        rintro e w4 ⟨rfl, hb4⟩
        have hb5 : Below w.heap.size w w4 := below_trans hb3 hb4
        obtain ⟨e0, e1, e2, e3⟩ := HCC.out _ hb5
        clear hb4 e3 d0 d1 d2
        go_wp2_with fail
        go_region_with (go_at_call 26; refine (HMT2.out _).mono ?_; rintro e w6 ⟨rfl, hb6⟩; have hb7 : Below w.heap.size w w6 := below_trans hb5 ⟨hb6.os, hb6.tape, hb6.output, hb6.size, hb6.block⟩; obtain ⟨z0, z1, z2, z3⟩ := HCC.out _ hb7; clear hb6 z3)
        all_goals
          go_wp2_with fail
          refine ⟨⟨A.length + 1, pre ++ [⟨name, sv, ss, value⟩], post, HXX.out _ _ rfl rfl, HPL, by go_num, ?_, hb7⟩, by simp [intOf]; omega⟩
          rw [HCS.out, HCX.out, HLL.out]

theorem markTree_own (g n c hB : Nat) (xs : List NodeV) (w : World) (h : NodesOwn w g n xs) (hap : Apart (xs.map NodeV.row)) (hlo : ∀ r ∈ xs.map NodeV.row, ∀ b, r = some b → b < hB) (hgB : g < hB) (hk : (cnt xs : Int) ≤ 9000000) (hl : (xs.length : Int) ≤ 1048576) :
    Calls Tryz.prog 12 #[.agg #[.slice (some ⟨g, 0, none⟩) xs.length c], .int .i64 1] w fun e w' => e = .returned (.int .i64 (1 + cnt xs)) ∧ NodesOwn w' g n (mkNodes 1 xs) ∧ Touch g hB w w' := by
  have hlt := h.lt
  have hba : Below w.heap.size w (w.alloc (.cells #[.slice (some ⟨g, 0, none⟩) xs.length c] 30)) := Joins.below_alloc1 w _
  have HM := Lib.hid (markNodeS_own g n c 1 hB xs _ (h.on hba) hap hlo hgB (by omega) (by omega) hl)
  have HT := Lib.hid (Touch.below (g := g) (h := hB) hba (by omega))
  clear h hap hlo
  obtain ⟨C, hC⟩ : ∃ C : Int, ((1 : Nat) : Int) + (cnt xs : Int) = C := ⟨_, rfl⟩
  have hC2 : 1 + (cnt xs : Int) = C := hC
  rw [hC] at HM
  rw [hC2]
  clear hC hC2 hk hba
  go_enter Tryz.func12, Tryz.ntmps12
  go_wp2_with fail
  refine HM.out.mono ?_
  rintro e w2 ⟨rfl, hn, ht⟩
  have HN := Lib.hid hn
  have HT2 := Lib.hid (HT.out.trans ht)
  clear hn ht
  go_wp2_with fail
  go_ret
  exact ⟨rfl, HN.out, HT2.out⟩

theorem heldTree_own (g n c : Nat) (xs : List NodeV) (w : World) (h : NodesOwn w g n (mkNodes 1 xs)) (hk : (cnt xs : Int) ≤ 9000000) (hl : (xs.length : Int) ≤ 1048576) :
    Calls Tryz.prog 14 #[.agg #[.slice (some ⟨g, 0, none⟩) xs.length c], .int .i64 1] w fun e w' => e = .returned (.int .i64 (1 + cnt xs)) ∧ Below w.heap.size w w' := by
  have hba : Below w.heap.size w (w.alloc (.cells #[.slice (some ⟨g, 0, none⟩) xs.length c] 30)) := Joins.below_alloc1 w _
  have HM := Lib.hid (heldNodeS_own g n c 1 xs _ (h.on hba) (by omega) (by omega) hl)
  clear h
  obtain ⟨C, hC⟩ : ∃ C : Int, ((1 : Nat) : Int) + (cnt xs : Int) = C := ⟨_, rfl⟩
  have hC2 : 1 + (cnt xs : Int) = C := hC
  have hC0 : 0 ≤ C := by omega
  rw [hC] at HM
  rw [hC2]
  clear hC hC2 hk
  go_enter Tryz.func14, Tryz.ntmps14
  go_wp2_with fail
  refine HM.out.mono ?_
  rintro e w2 ⟨rfl, b2⟩
  have HB := Lib.hid (below_trans hba b2)
  clear b2 hba
  go_wp2_with fail
  go_ret
  exact ⟨rfl, HB.out⟩

end Go.Proofs.YtllamjgloilioaaGreatDoor
