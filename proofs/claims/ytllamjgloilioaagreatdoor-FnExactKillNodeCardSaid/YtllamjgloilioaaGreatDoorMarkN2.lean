/- A tree of the call's own, its rows apart; its marks. -/
import Derived.Test.YtllamjgloilioaaGreatDoorMarkN
namespace Go.Proofs.YtllamjgloilioaaGreatDoor
open Go.RowKit Go.ChangeShapes Go.WideShapes Go.ChangeAt Go.Deep
set_option linter.unusedVariables false

/-- Of the old blocks only those from g to h may have turned. -/
def Touch (g h : Nat) (w w' : World) : Prop := Below g w w' ∧ ∀ b, h ≤ b → b < w.heap.size → w'.heap[b]? = w.heap[b]?

theorem Touch.refl (g h : Nat) (w : World) : Touch g h w w := ⟨Below.refl _ _, fun _ _ _ => rfl⟩

theorem Touch.trans {g h : Nat} {a b c : World} (h1 : Touch g h a b) (h2 : Touch g h b c) : Touch g h a c :=
  ⟨h1.1.trans h2.1, fun i hi hl => (h2.2 i hi (Nat.lt_of_lt_of_le hl h1.1.size)).trans (h1.2 i hi hl)⟩

theorem Touch.below {g h : Nat} {a b : World} (hb : Below a.heap.size a b) (hg : g ≤ a.heap.size) : Touch g h a b := ⟨hb.mono hg, fun i _ hl => hb.block i hl⟩

theorem Touch.set {g h : Nat} (w : World) (a : Addr) (u : Value) (h1 : g ≤ a.block) (h2 : a.block < h) : Touch g h w (w.setCell a u) :=
  ⟨(Below.refl _ _).setCell h1 u, fun i hi _ => Below.heap_setCell w a u i (by omega)⟩

theorem Touch.grown {g h : Nat} {a b : World} {row : Option Nat} (hg : a.grownBy b row) (hr : ∀ k, row = some k → g ≤ k ∧ k < h) (hs : g ≤ a.heap.size) : Touch g h a b :=
  ⟨⟨hg.os, hg.tape, hg.output, hg.size, fun k hk => hg.block k (by omega) (fun e => by have := hr k e.symm; omega)⟩, fun i hi hl => hg.block i hl (fun e => by have := hr i e.symm; omega)⟩

/-- A row from block h on stays. -/
theorem Touch.strs {g h : Nat} {w w' : World} (ht : Touch g h w w') {v : Value} {xs : List ByteArray} (hs : Strs w h v xs) : Strs w' h v xs := by
  refine ⟨hs.1, ?_⟩
  rcases hs.2 with hn | ⟨k, cap, cur, hv, hk, hh, rest⟩
  · exact .inl hn
  · exact .inr ⟨k, cap, cur, hv, hk, by rw [ht.2 k hk (Array.getElem?_eq_some_iff.1 hh).1]; exact hh, rest⟩

theorem Touch.cells {g h : Nat} {w w' : World} (ht : Touch g h w w') {b : Nat} {vs : List Value} (hb : h ≤ b) (hc : CellsAt w b vs) : CellsAt w' b vs :=
  ⟨Nat.lt_of_lt_of_le hc.1 ht.1.size, fun j u hu => (World.cell?_of_block (w := w) (a := ⟨b, j, none⟩) (ht.2 b hb hc.1)).trans (hc.2 j u hu)⟩

theorem Apart.snoc {rs : List (Option Nat)} {r : Option Nat} (h : Apart rs) (B : Nat) (h1 : ∀ x ∈ rs, ∀ b, x = some b → b < B) (h2 : ∀ b, r = some b → B ≤ b) : Apart (rs ++ [r]) := by
  refine List.pairwise_append.2 ⟨h, List.pairwise_singleton _ _, fun a ha b hb => ?_⟩
  rw [List.mem_singleton] at hb
  subst hb
  cases ha' : a with
  | none => exact .inl rfl
  | some k =>
    right
    intro e
    have i1 := h1 a ha k ha'
    have i2 := h2 k e.symm
    omega

theorem NodesOwn.rows {w : World} {g n : Nat} {xs : List NodeV} (h : NodesOwn w g n xs) : ∀ r ∈ xs.map NodeV.row, ∀ b, r = some b → g < b ∧ b < w.heap.size := by
  obtain ⟨_, _, _, _, hk⟩ := h
  intro r hr b hb
  obtain ⟨x, hx, rfl⟩ := List.mem_map.1 hr
  obtain ⟨k, hkl, rfl⟩ := List.getElem_of_mem hx
  have := (hk k hkl).2.1.lt b hb
  omega

set_option maxRecDepth 8000 in
theorem toNodeS_apart (v : Value) (ns : List NodeV) (w : World) (h : NodesAt w v ns) (hl : ns.length ≤ 1048576) (hok : ∀ x ∈ ns, x.Ok 1048576) :
    Calls Tryz.prog 19 #[v] w fun e w' => ∃ xs, e = .returned (.slice (some ⟨w.heap.size, 0, none⟩) ns.length ns.length) ∧ Hid (xs.map NodeV.dat = ns.map NodeV.dat) ∧ Hid (Apart (xs.map NodeV.row)) ∧ NodesOwn w' w.heap.size ns.length xs ∧ Below w.heap.size w w' := by
  have H := Lib.hid h
  obtain ⟨A, c, rfl, hc, hr⟩ := h
  clear hr
  have HOK := Lib.hid hok; clear hok
  have hmk := fun W => run_make_nodes ns.length hl W
  have HZ : Hid (NodesOwn (w.alloc (.cells (zNode ns.length) 50)) w.heap.size ns.length []) := ⟨_, heap_alloc_new w _, by simp [zNode, madeCells], by simp, fun k h => absurd h (by simp)⟩
  generalize hz : zNode ns.length = zs at *
  clear hz
  go_enter Tryz.func19, Tryz.ntmps19
  go_wp2
  go_loopw [4] (fun i wr => ∃ (k : Nat) (xs : List NodeV), k ≤ ns.length ∧ i = .int .i64 k ∧ xs.length = k ∧ Hid (xs.map NodeV.dat = (ns.take k).map NodeV.dat) ∧ Hid (Apart (xs.map NodeV.row)) ∧ Hid (NodesOwn wr w.heap.size ns.length xs) ∧ Below w.heap.size w wr) (fun i _ => ns.length - (intOf i).toNat)
  case atStart => exact ⟨0, [], Nat.zero_le _, rfl, rfl, rfl, List.Pairwise.nil, HZ.out, Joins.below_alloc1 w _⟩
  case round =>
    obtain ⟨k, xs, hk, rfl, hxl, HD, HAP, HO, hbel⟩ := hrel
    by_cases hlt : k < ns.length
    · have HB := Lib.hid hbel
      obtain ⟨ad, rfl, hbl, hat, a0, a1, a2⟩ := (H.out.on hbel).get hlt
      have HX := Lib.hid (HOK.out _ (List.getElem_mem hlt))
      have HT := Lib.hid (List.take_succ_eq_append_getElem hlt)
      have HAT := Lib.hid hat; clear hat
      generalize ns[k] = x at *
      obtain ⟨name, sv, ys, value⟩ := x
      simp only at a0 a1 a2
      go_wp2_with fail
      refine (toNode_any ⟨name, sv, ys, value⟩ _ HAT.out HX.out).mono ?_
      rintro e w2 ⟨x', rfl, HDx, hox, b2⟩
      have hbs := hbel.size
      have HO2 := Lib.hid (NodesOwn.on HO.out b2)
      have HB2 := Lib.hid (below_trans HB.out b2)
      have HOx := Lib.hid (NodeV.Own.le hox (show w.heap.size + 1 ≤ wr.heap.size by have := NodesOwn.lt HO.out; omega))
      have HAP2 : Hid (Apart ((xs ++ [x']).map NodeV.row)) := by
        show Apart _
        rw [List.map_append]
        exact HAP.out.snoc wr.heap.size (fun r hr b hb => (NodesOwn.rows HO.out r hr b hb).2) (fun b hb => (hox.1.lt b hb).1)
      obtain ⟨u0, u1, u2, s0, s1, s2, f0, f1, f2⟩ := NodesOwn.slot HO2.out hlt
      obtain ⟨nm, sw, zs', vl⟩ := x'
      obtain ⟨Aw, cw, hsw, _, _⟩ := id hox.at_.1
      replace hsw : sw = .slice Aw zs'.length cw := hsw
      subst hsw
      simp only [NodeV.cells]
      clear hox b2 HO a0 a1 a2
      go_wp2_with fail
      refine ⟨⟨k + 1, xs ++ [⟨nm, .slice Aw zs'.length cw, zs', vl⟩], by omega, by go_num, by simp; omega, ?_, HAP2, ?_, ((HB2.out.setCell (p := ⟨w.heap.size, k * 3, none⟩) (Nat.le_refl _) _).setCell (p := ⟨w.heap.size, k * 3 + 1, none⟩) (Nat.le_refl _) _).setCell (p := ⟨w.heap.size, k * 3 + 2, none⟩) (Nat.le_refl _) _⟩, by simp [intOf]; omega⟩
      · show _ = _
        rw [HT.out, List.map_append, List.map_append, HD.out, List.map_cons, List.map_nil, List.map_cons, List.map_nil, HDx.out]
      · have hp := NodesOwn.put HO2.out ⟨nm, .slice Aw zs'.length cw, zs', vl⟩ HOx.out (by omega)
        rw [hxl] at hp
        exact hp
    · obtain rfl : k = ns.length := by omega
      rw [List.take_length] at HD
      go_wp2
      go_ret
      exact ⟨xs, rfl, HD, HAP, HO.out, hbel⟩

set_option maxRecDepth 8000 in
theorem toTree_apart (v : Value) (ns : List NodeV) (w : World) (h : NodesAt w v ns) (hl : ns.length ≤ 1048576) (hok : ∀ x ∈ ns, x.Ok 1048576) :
    Calls Tryz.prog 7 #[.agg #[v]] w fun e w' => ∃ g xs, e = .returned (.agg #[.slice (some ⟨g, 0, none⟩) ns.length ns.length]) ∧ Hid (xs.map NodeV.dat = ns.map NodeV.dat) ∧ Hid (Apart (xs.map NodeV.row)) ∧ w.heap.size ≤ g ∧ NodesOwn w' g ns.length xs ∧ Below w.heap.size w w' := by
  have HN := Lib.hid h
  have HOK := Lib.hid hok; clear hok
  obtain ⟨A, c, rfl, _, _⟩ := h
  have hba : Below w.heap.size w (((w.alloc (.cells #[.slice A ns.length c] 24)).alloc (.cells #[.slice none 0 0] 30)).alloc (.cells #[.slice none 0 0] 30)) := Joins.below_alloc3 w _ _ _
  have hO0 := heap_alloc_new ((w.alloc (.cells #[.slice A ns.length c] 24)).alloc (.cells #[.slice none 0 0] 30)) (.cells #[.slice none 0 0] 30)
  have e2 : ((w.alloc (.cells #[.slice A ns.length c] 24)).alloc (.cells #[.slice none 0 0] 30)).heap.size = w.heap.size + 1 + 1 := by simp
  rw [e2] at hO0
  have HO := Lib.hid hO0
  have hR0 : (((w.alloc (.cells #[.slice A ns.length c] 24)).alloc (.cells #[.slice none 0 0] 30)).alloc (.cells #[.slice none 0 0] 30)).heap[w.heap.size + 1]? = some (.cells #[.slice none 0 0] 30 (0, 0)) := by
    rw [Below.heap_alloc _ _ _ (by simp), show w.heap.size + 1 = (w.alloc (.cells #[.slice A ns.length c] 24)).heap.size by simp]
    exact heap_alloc_new _ _
  have HR := Lib.hid hR0
  have hW0 : (((w.alloc (.cells #[.slice A ns.length c] 24)).alloc (.cells #[.slice none 0 0] 30)).alloc (.cells #[.slice none 0 0] 30)).heap.size = w.heap.size + 1 + 1 + 1 := by simp
  have HW := Lib.hid hW0
  have HBA := Lib.hid hba
  clear hO0 e2 hba hR0 hW0
  go_enter Tryz.func7, Tryz.ntmps7
  go_wp2_with fail
  refine (toNodeS_apart _ ns _ (HN.out.on HBA.out) hl HOK.out).mono ?_
  rintro e w1 ⟨xs, rfl, HD, HAP, ho, b1⟩
  have hO1 := (b1.block (w.heap.size + 1 + 1) (by rw [HW.out]; omega)).trans HO.out
  have hR1 := (b1.block (w.heap.size + 1) (by rw [HW.out]; omega)).trans HR.out
  have B1 := below_trans HBA.out b1
  rw [HW.out] at ho
  rw [HW.out]
  have d0 : w1.cell? ⟨w.heap.size + 1 + 1, 0, none⟩ = some (.slice none 0 0) := by rw [Lib.cell_of_heap hO1]; rfl
  have f0 : w1.frozen? ⟨w.heap.size + 1 + 1, 0, none⟩ = false := Lib.frozen_of_heap hO1 0
  have r0 : w1.cell? ⟨w.heap.size + 1, 0, none⟩ = some (.slice none 0 0) := by rw [Lib.cell_of_heap hR1]; rfl
  have g0 : w1.frozen? ⟨w.heap.size + 1, 0, none⟩ = false := Lib.frozen_of_heap hR1 0
  have HRR := Lib.hid hR1
  have HOO := Lib.hid ho
  clear hO1 hR1 b1 ho HO HR HW HBA
  go_wp2_with fail
  refine bodyPost_ret (results_cell_row rfl _ _ (w.heap.size + 1) 30 #[.slice (some ⟨w.heap.size + 1 + 1 + 1, 0, none⟩) ns.length ns.length] (0, 0) _ rfl ?_ Tryz.underlying30 rfl (by kernel_rfl)) rfl ⟨w.heap.size + 1 + 1 + 1, xs, rfl, HD, HAP, by omega, ?_, ?_⟩
  · have q0 := HRR.out
    rw [← heap_setCell_other w1 ⟨w.heap.size + 1 + 1, 0, none⟩ (w.heap.size + 1) (.slice (some ⟨w.heap.size + 1 + 1 + 1, 0, none⟩) ns.length ns.length) (by simp)] at q0
    exact heap_setCell_same _ _ 0 _ _ _ q0
  · exact (HOO.out.set (by simp) _).set (by simp) _
  · exact (B1.setCell (p := ⟨w.heap.size + 1 + 1, 0, none⟩) (by simp; omega) _).setCell (p := ⟨w.heap.size + 1, 0, none⟩) (by simp) _

theorem set_midN (A B : List NodeV) (x y : NodeV) : (A ++ x :: B).set A.length y = A ++ y :: B := by simp

theorem get_midN (A B : List NodeV) (x : NodeV) (h : A.length < (A ++ x :: B).length) : (A ++ x :: B)[A.length] = x := by simp

theorem NodesOwn.cellM {w : World} {g n : Nat} {A B : List NodeV} {x : NodeV} (h : NodesOwn w g n (A ++ x :: B)) (o : Nat) (ho : o < 3) (u : Value) (y : NodeV) (hy : y.cells = x.cells.setIfInBounds o u) (hv : y.subsv = x.subsv) (hs : y.subs = x.subs) :
    NodesOwn (w.setCell ⟨g, A.length * 3 + o, none⟩ u) g n (A ++ y :: B) := by
  have hi : A.length < (A ++ x :: B).length := by simp
  have := h.cell_ hi o ho u y (by rw [get_midN]; exact hy) (by rw [get_midN]; exact hv) (by rw [get_midN]; exact hs)
  rwa [set_midN] at this

theorem NodesOwn.subsM {w w' : World} {g n : Nat} {A B : List NodeV} {x : NodeV} (h : NodesOwn w g n (A ++ x :: B)) (hap : Apart ((A ++ x :: B).map NodeV.row)) (hg : w.grownBy w' x.row) (ys : List ByteArray) (hs : Strs w' (g + 1) x.subsv ys) :
    NodesOwn w' g n (A ++ { x with subs := ys } :: B) := by
  have hi : A.length < (A ++ x :: B).length := by simp
  have := h.subs hi hap (by rw [get_midN]; exact hg) ys (by rw [get_midN]; exact hs)
  rwa [get_midN, set_midN] at this

theorem NodesOwn.getM {w : World} {g n : Nat} {A B : List NodeV} {x : NodeV} (h : NodesOwn w g n (A ++ x :: B)) : Strs w (g + 1) x.subsv x.subs ∧ w.cell? ⟨g, A.length * 3, none⟩ = some (.string x.name) ∧ w.cell? ⟨g, A.length * 3 + 1, none⟩ = some x.subsv ∧ w.cell? ⟨g, A.length * 3 + 2, none⟩ = some (.string x.value) ∧
    w.frozen? ⟨g, A.length * 3, none⟩ = false ∧ w.frozen? ⟨g, A.length * 3 + 2, none⟩ = false ∧ g < w.heap.size := by
  have hlt := h.lt
  obtain ⟨cur, hh, hz, hl, hk⟩ := h
  have hi : A.length < (A ++ x :: B).length := by simp
  obtain ⟨h1, h2⟩ := hk _ hi
  rw [get_midN] at h1 h2
  exact ⟨h2.1, by rw [Lib.cell_of_heap hh]; exact h1 0 _ rfl, by rw [Lib.cell_of_heap hh]; exact h1 1 _ rfl, by rw [Lib.cell_of_heap hh]; exact h1 2 _ rfl, Lib.frozen_of_heap hh _, Lib.frozen_of_heap hh _, hlt⟩

set_option maxHeartbeats 1000000 in
set_option maxRecDepth 8000 in
theorem markNodeS_own (g n c k hB : Nat) (xs : List NodeV) (w : World) (h : NodesOwn w g n xs) (hap : Apart (xs.map NodeV.row)) (hlo : ∀ r ∈ xs.map NodeV.row, ∀ b, r = some b → b < hB) (hgB : g < hB) (hk0 : 1 ≤ k) (hk : (k : Int) + cnt xs ≤ 10000000) (hl : (xs.length : Int) ≤ 1048576) :
    Calls Tryz.prog 25 #[.slice (some ⟨g, 0, none⟩) xs.length c, .int .i64 k] w fun e w' => e = .returned (.int .i64 (k + cnt xs)) ∧ NodesOwn w' g n (mkNodes k xs) ∧ Touch g hB w w' := by
  have HAP := Lib.hid hap
  have HLO := Lib.hid hlo
  have HO0 := Lib.hid h
  clear h hap hlo
  go_enter Tryz.func25, Tryz.ntmps25
  go_wp2_with fail
  go_loopw [1, 5] (fun q i wr => ∃ (p : Nat) (pre post : List NodeV), Hid (xs = pre ++ post) ∧ Hid (pre.length = p) ∧ i = .int .i64 p ∧ q = .int .i64 (k + cnt pre) ∧ Hid (NodesOwn wr g n (mkNodes k pre ++ post)) ∧ Hid (Touch g hB w wr)) (fun _ i _ => xs.length - (intOf i).toNat)
  case atStart => exact ⟨0, [], xs, rfl, rfl, rfl, by simp [cnt], HO0.out, Touch.refl _ _ _⟩
  case round =>
    clear HO0
    obtain ⟨i, pre, post, HX, HPI, rfl, rfl, HO, HT⟩ := hrel
    cases post with
    | nil =>
      have hpl : i = xs.length := by rw [← HPI.out, HX.out, List.append_nil]
      have hxe : xs = pre := by rw [HX.out, List.append_nil]
      subst hxe
      have HO2 : Hid (NodesOwn wr g n (mkNodes k xs)) := by have := HO.out; rw [List.append_nil] at this; exact this
      subst hpl
      clear HX HPI
      go_wp2_with fail
      go_ret
      exact ⟨rfl, HO2.out, HT.out⟩
    | cons x post =>
     as_aux_lemma =>
      have hi := HPI.out
      have hml : (mkNodes k pre).length = i := by rw [mkNodes_len, hi]
      have hlt : i < xs.length := by rw [HX.out]; simp; omega
      have hcx : cnt xs = cnt pre + cntN x + cnt post := by rw [HX.out]; simp [cnt]; omega
      have HCX : Hid (cntN x = x.subs.length + 2) := rfl
      have HCS : Hid (cnt (pre ++ [x]) = cnt pre + cntN x) := cnt_snoc pre x
      have HMS : Hid (mkNodes k (pre ++ [x]) = mkNodes k pre ++ [mkNode (k + cnt pre) x]) := mkNodes_snoc pre k x
      have HMK : Hid (mkNode (k + cnt pre) x = ⟨mtB (k + cnt pre), x.subsv, marks (k + cnt pre + 1) x.subs.length, mtB (k + cnt pre + 1 + x.subs.length)⟩) := rfl
      have HROW : Hid (∀ y : NodeV, y.subsv = x.subsv → Apart ((mkNodes k pre ++ y :: post).map NodeV.row)) := fun y hy => by
        have e : (mkNodes k pre ++ y :: post).map NodeV.row = xs.map NodeV.row := by
          rw [List.map_append, mkNodes_row, HX.out, List.map_append, List.map_cons, List.map_cons, show y.row = x.row by unfold NodeV.row; rw [hy]]
        rw [e]; exact HAP.out
      have HRB : Hid (∀ b, x.row = some b → g < b ∧ b < hB) := fun b hb => ⟨(HO.out.rows x.row (List.mem_map.2 ⟨x, by simp, rfl⟩) b hb).1, HLO.out x.row (by rw [HX.out]; simp) b hb⟩
      have hgw : g < wr.heap.size := HO.out.lt
      have HI := Lib.hid hi
      have HXX := Lib.hid (show ∀ p q : List NodeV, p = pre ++ [x] → q = post → xs = p ++ q by intro p q hp hq; subst hp hq; rw [HX.out]; simp)
      have HPL : Hid ((pre ++ [x]).length = i + 1) := by show _ = _; simp [hi]
      generalize cnt pre = cp at *
      generalize cnt post = cq at *
      generalize mkNodes k pre = A at *
      clear HX hi HI HPI
      subst hml
      obtain ⟨name, sv, ss, value⟩ := x
      have hss := HCX.out
      simp only at hss
      obtain ⟨K, hK⟩ : ∃ K, k + cp = K := ⟨_, rfl⟩
      rw [hK] at HMS HMK
      have hKi : (k : Int) + (cp : Int) = ((K : Nat) : Int) := by omega
      have hK1 : 1 ≤ K := by omega
      have hK2 : (K : Int) + ss.length + 2 ≤ 10000000 := by omega
      rw [hKi]
      have k1 : (0 : Int) ≤ (A.length : Int) := by omega
      have k2 : (A.length : Int) < xs.length := by omega
      have HK2 := Lib.hid hK2
      have HMT := Lib.hid (fun W => markText_any K hK1 (by omega) W)
      have HMT2 := Lib.hid (fun W => markText_any (K + 1 + ss.length) (by omega) (by omega) W)
      generalize mtB K = M at *
      generalize mtB (K + 1 + ss.length) = M2 at *
      have hkk1 : ((K : Nat) : Int) + 1 = ((K + 1 : Nat) : Int) := by omega
      have HKK : Hid (((K + 1 : Nat) : Int) + (ss.length : Int) = ((K + 1 + ss.length : Nat) : Int)) := by show _ = _; omega
      clear hk hKi hcx hss hlt
      go_wp2_with fail
      refine (HMT.out _).mono ?_
      rintro e w2 ⟨rfl, b2⟩
      have O2 := Lib.hid (NodesOwn.on HO.out b2)
      have T2 := Lib.hid (HT.out.trans (Touch.below b2 (show g ≤ wr.heap.size by omega)))
      have hg2 : g ≤ w2.heap.size := by have := b2.size; omega
      clear b2 HO HT hgw
      obtain ⟨_, c0, c1, c2, f0, f2, _⟩ := O2.out.getM
      simp only at c0 c1 c2
      have O3 : Hid (NodesOwn (w2.setCell ⟨g, A.length * 3, none⟩ (.string M)) g n (A ++ ⟨M, sv, ss, value⟩ :: post)) := by as_aux_lemma => exact O2.out.cellM 0 (by omega) (.string M) ⟨M, sv, ss, value⟩ rfl rfl rfl
      have T3 : Hid (Touch g hB w (w2.setCell ⟨g, A.length * 3, none⟩ (.string M))) := T2.out.trans (Touch.set _ ⟨g, A.length * 3, none⟩ _ (Nat.le_refl _) hgB)
      clear T2
      have hS3 := O3.out.getM.1
      simp only at hS3
      have HMS3 := Lib.hid (markStringS_own sv ss (K + 1) (by omega) (by omega) _ (g + 1) hS3 (by have := O3.out.lt; omega))
      clear hS3 O2
      obtain ⟨KI, hKI⟩ : ∃ KI : Int, (K : Int) = KI := ⟨_, rfl⟩
      obtain ⟨KJ, hKJ⟩ : ∃ KJ : Int, ((K + 1 : Nat) : Int) = KJ := ⟨_, rfl⟩
      have bI0 : 0 ≤ KI := by omega
      have bI1 : KI ≤ 10000000 := by omega
      have hkk2 : KI + 1 = KJ := by omega
      rw [hKJ] at HMS3 HKK
      rw [hKI]
      clear hKI hkk1 hKJ hK2
      go_wp2_with fail
      refine HMS3.out.mono ?_
      rintro e w4 ⟨rfl, hs4, hg4⟩
      have O4 := Lib.hid (O3.out.subsM (HROW.out ⟨M, sv, ss, value⟩ rfl) hg4 _ hs4)
      have T4 := Lib.hid (T3.out.trans (Touch.grown hg4 (fun b hb => ⟨Nat.le_of_lt (HRB.out b hb).1, (HRB.out b hb).2⟩) (by have := O3.out.lt; omega)))
      clear hs4 hg4 O3 T3 HMS3
      rw [HKK.out]
      go_wp2_with fail
      refine (HMT2.out _).mono ?_
      rintro e w5 ⟨rfl, b5⟩
      have O5 := Lib.hid (NodesOwn.on O4.out b5)
      have T5 := Lib.hid (T4.out.trans (Touch.below b5 (show g ≤ w4.heap.size by have := O4.out.lt; omega)))
      clear b5 O4 T4 c0 c1 c2 f0 f2
      obtain ⟨_, c0, c1, c2, f0, f2, _⟩ := O5.out.getM
      simp only at c0 c1 c2
      have O6 : Hid (NodesOwn (w5.setCell ⟨g, A.length * 3 + 2, none⟩ (.string M2)) g n (A ++ ⟨M, sv, marks (K + 1) ss.length, M2⟩ :: post)) := by as_aux_lemma => exact O5.out.cellM 2 (by omega) (.string M2) ⟨M, sv, marks (K + 1) ss.length, M2⟩ rfl rfl rfl
      have T6 : Hid (Touch g hB w (w5.setCell ⟨g, A.length * 3 + 2, none⟩ (.string M2))) := T5.out.trans (Touch.set _ ⟨g, A.length * 3 + 2, none⟩ _ (Nat.le_refl _) hgB)
      clear O5 T5
      have hK2 := HK2.out
      obtain ⟨L, hL⟩ : ∃ L : Int, (K : Int) + 1 + (ss.length : Int) = L := ⟨_, rfl⟩
      have bK : L + 1 ≤ 30000000 := by omega
      have bK0 : 0 ≤ L := by omega
      rw [hL]
      have HL := Lib.hid hL; clear hL hK2
      go_wp2_with fail
      refine ⟨⟨A.length + 1, pre ++ [⟨name, sv, ss, value⟩], post, HXX.out _ _ rfl rfl, HPL, by go_num, ?_, ?_, T6⟩, by simp [intOf]; omega⟩
      · rw [HCS.out, HCX.out]; have := HL.out; congr 1; omega
      · show NodesOwn _ _ _ _
        rw [HMS.out, HMK.out, List.append_assoc]
        exact O6.out

end Go.Proofs.YtllamjgloilioaaGreatDoor
