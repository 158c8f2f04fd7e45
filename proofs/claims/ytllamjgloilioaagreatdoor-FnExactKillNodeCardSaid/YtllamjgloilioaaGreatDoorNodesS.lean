/- Slices of nodes: their sizes, copies, equality. -/
import Derived.Test.YtllamjgloilioaaGreatDoorNodeS
import Derived.RegionTactic
import Derived.Deep.RegionWith
import Derived.StillTailTactics
namespace Go.Proofs.YtllamjgloilioaaGreatDoor
open Go.RowKit Go.ChangeShapes Go.WideShapes Go.ChangeAt Go.Deep
set_option linter.unusedVariables false

/-- Element k of the row at ad holds the struct x. -/
def NodeV.In (x : NodeV) (w : World) (ad : Addr) (k : Nat) : Prop := ∀ j u, x.cells[j]? = some u → w.cell? (ad.add (k * 3 + j)) = some u

def NodesAt (w : World) (v : Value) (ns : List NodeV) : Prop :=
  ∃ A c, v = .slice A ns.length c ∧ ns.length ≤ c ∧ (0 < ns.length → ∃ ad, A = some ad ∧ ad.block < w.heap.size ∧ ∀ k (h : k < ns.length), ns[k].In w ad k ∧ ns[k].At w)

theorem NodesAt.on {w w' : World} {v : Value} {ns : List NodeV} (h : NodesAt w v ns) (hb : Below w.heap.size w w') : NodesAt w' v ns := by
  obtain ⟨A, c, e, hc, hr⟩ := h
  refine ⟨A, c, e, hc, fun hn => ?_⟩
  obtain ⟨ad, e2, ha, hk⟩ := hr hn
  exact ⟨ad, e2, Nat.lt_of_lt_of_le ha hb.size, fun k h => ⟨fun j u hu => (hb.cell (by rw [block_of_add]; exact ha)).trans ((hk k h).1 j u hu), (hk k h).2.on hb⟩⟩

theorem add_pos (a : Addr) (n : Nat) : a.add (n + 1) = ⟨a.block, a.off + (n + 1), none⟩ := by simp [Addr.add]

/-- What the walk needs of element k. -/
theorem NodesAt.get {w : World} {A : Option Addr} {n c : Nat} {ns : List NodeV} (h : NodesAt w (.slice A n c) ns) {k : Nat} (hk : k < ns.length) : ∃ ad, A = some ad ∧ ad.block < w.heap.size ∧ ns[k].At w ∧
    w.cell? (ad.add (k * 3)) = some (.string ns[k].name) ∧ w.cell? ⟨(ad.add (k * 3)).block, (ad.add (k * 3)).off + 1, none⟩ = some ns[k].subsv ∧ w.cell? ⟨(ad.add (k * 3)).block, (ad.add (k * 3)).off + 2, none⟩ = some (.string ns[k].value) := by
  obtain ⟨A', c', e, hc, hr⟩ := h
  injection e with e1 e2 e3
  subst e1
  obtain ⟨ad, e2, ha, hq⟩ := hr (by omega)
  refine ⟨ad, e2, ha, (hq k hk).2, (hq k hk).1 0 _ rfl, ?_, ?_⟩
  · rw [← add_pos, add_of_add]; exact (hq k hk).1 1 _ rfl
  · rw [← add_pos, add_of_add]; exact (hq k hk).1 2 _ rfl

set_option maxRecDepth 8000 in
theorem szNodeS_ex (v : Value) (ns : List NodeV) (left : Int) (w : World) (h : NodesAt w v ns) (h0 : 0 ≤ left) (h1 : left ≤ 1048576) (hl : ns.length ≤ 9223372036854775807) (hok : ∀ x ∈ ns, x.Ok maxLen) :
    Calls Tryz.prog 15 #[v, .int .i64 left] w fun e w' => (∃ q : Int, e = .returned (.int .i64 q) ∧ -1 ≤ q ∧ q ≤ left ∧ (0 ≤ q → ns.length ≤ 1048576 ∧ ∀ x ∈ ns, x.Ok 1048576)) ∧ Below w.heap.size w w' := by
  have H := Lib.hid h
  obtain ⟨A, c, rfl, hc, hr⟩ := h
  clear hr
  have HOK := Lib.hid hok; clear hok
  by_cases hn : left - ns.length < 0
  · go_enter Tryz.func15, Tryz.ntmps15
    go_wp2
    go_ret
    exact ⟨⟨_, rfl, by omega, by omega, fun h => by omega⟩, below_refl _⟩
  · go_enter Tryz.func15, Tryz.ntmps15
    go_wp2
    go_loopw [1, 5] (fun l i wr => ∃ (k : Nat) (q : Int), k ≤ ns.length ∧ i = .int .i64 k ∧ l = .int .i64 q ∧ 0 ≤ q ∧ q ≤ left ∧ Hid (∀ x ∈ ns.take k, x.Ok 1048576) ∧ Below w.heap.size w wr) (fun _ i _ => ns.length - (intOf i).toNat)
    case atStart => exact ⟨0, _, Nat.zero_le _, rfl, rfl, by omega, by omega, fun x hx => by simp at hx, below_refl _⟩
    case round =>
      obtain ⟨k, q, hk, rfl, rfl, hq0, hq1, HI, hbel⟩ := hrel
      by_cases hlt : k < ns.length
      · have HB := Lib.hid hbel
        obtain ⟨ad, rfl, hbl, hat, a0, a1, a2⟩ := (H.out.on hbel).get hlt
        have HX := Lib.hid (HOK.out _ (List.getElem_mem hlt))
        have HT := Lib.hid (List.take_succ_eq_append_getElem hlt)
        have HAT := Lib.hid hat; clear hat
        generalize ns[k] = x at *
        obtain ⟨name, sv, xs, value⟩ := x
        simp only at a0 a1 a2
        go_wp2_with fail
        refine (szNode_ex ⟨name, sv, xs, value⟩ q _ HAT.out hq0 (by omega) HX.out).mono ?_
        rintro e w2 ⟨⟨q', rfl, q1, q2, hq⟩, b2⟩
        have HQ := Lib.hid hq; clear hq a0 a1 a2
        by_cases q0 : q' < 0
        · go_wp2_with fail
          go_ret
          exact ⟨⟨_, rfl, by omega, by omega, fun h => by omega⟩, below_trans HB.out b2⟩
        · go_wp2_with fail
          refine ⟨⟨k + 1, q', by omega, by go_num, rfl, by omega, by omega, ?_, below_trans HB.out b2⟩, by simp [intOf]; omega⟩
          intro x hx
          rw [HT.out] at hx
          rcases List.mem_append.1 hx with hx | hx
          · exact HI.out x hx
          · rw [List.mem_singleton] at hx; subst hx; exact HQ.out (by omega)
      · obtain rfl : k = ns.length := by omega
        rw [List.take_length] at HI
        go_wp2
        go_ret
        exact ⟨⟨_, rfl, by omega, by omega, fun h => ⟨by omega, HI.out⟩⟩, hbel⟩

theorem info_node : (Tryz.prog.info? 50).map (fun i => (i.zero, i.size, i.bytes)) = some (some (.agg #[.string ⟨#[]⟩, .slice none 0 0, .string ⟨#[]⟩]), 3, 56) := by kernel_rfl

def zNode (n : Nat) : Array Value := madeCells #[.string ⟨#[]⟩, .slice none 0 0, .string ⟨#[]⟩] (n * 3)

theorem run_make_nodes (n : Nat) (hn : n ≤ 1048576) (w : World) : (Instr.makeSlice 28 (.int .i64 (n : Int)) (.int .i64 (n : Int))).run Tryz.prog w = .ok (.slice (some ⟨w.heap.size, 0, none⟩) n n) (w.alloc (.cells (zNode n) 50)) := by
  obtain ⟨i0, hi0, hz0, hz1, hz2⟩ := info_parts info_node
  have h := run_make_rowN (P := Tryz.prog) 28 50 i0 _ Tryz.underlying28 hi0 hz0 .i64 .i64 n n (Nat.le_refl _) (by rw [hz2]; omega) (by omega) w
  rw [hz1] at h
  exact h

/-- Block g holds the nodes xs at its beginning, each with lists of its own behind block g. -/
def NodesOwn (w : World) (g n : Nat) (xs : List NodeV) : Prop :=
  ∃ cur, w.heap[g]? = some (.cells cur 50 (0, 0)) ∧ cur.size = n * 3 ∧ xs.length ≤ n ∧ ∀ k (h : k < xs.length), (∀ j u, xs[k].cells[j]? = some u → cur[k * 3 + j]? = some u) ∧ xs[k].Own w (g + 1)

theorem NodeV.Own.le {x : NodeV} {w : World} {b b' : Nat} (h : x.Own w b) (hb : b' ≤ b) : x.Own w b' := ⟨Joins.ownsRow_le h.1 hb, trivial⟩

theorem NodeV.Own.on {x : NodeV} {w w' : World} {b : Nat} (h : x.Own w b) (hb : Below w.heap.size w w') : x.Own w' b := ⟨own_on h.1 hb, trivial⟩

theorem NodeV.Own.set {x : NodeV} {w : World} {b : Nat} (h : x.Own w b) {a : Addr} (ha : a.block < b) (u : Value) : x.Own (w.setCell a u) b := ⟨ownsRow_setCell_below h.1 ha u, trivial⟩

theorem NodesOwn.lt {w : World} {g n : Nat} {xs : List NodeV} (h : NodesOwn w g n xs) : g < w.heap.size := by
  obtain ⟨cur, hh, _⟩ := h
  rcases Nat.lt_or_ge g w.heap.size with h | h
  · exact h
  · rw [Array.getElem?_eq_none h] at hh; cases hh

theorem NodesOwn.on {w w' : World} {g n : Nat} {xs : List NodeV} (h : NodesOwn w g n xs) (hb : Below w.heap.size w w') : NodesOwn w' g n xs := by
  have hlt := h.lt
  obtain ⟨cur, hh, hz, hl, hk⟩ := h
  exact ⟨cur, by rw [hb.block g hlt]; exact hh, hz, hl, fun k h => ⟨(hk k h).1, (hk k h).2.on hb⟩⟩

theorem NodesOwn.slot {w : World} {g n : Nat} {xs : List NodeV} (h : NodesOwn w g n xs) {k : Nat} (hk : k < n) : ∃ u0 u1 u2, w.cell? ⟨g, k * 3, none⟩ = some u0 ∧ w.cell? ⟨g, k * 3 + 1, none⟩ = some u1 ∧ w.cell? ⟨g, k * 3 + 2, none⟩ = some u2 ∧
    w.frozen? ⟨g, k * 3, none⟩ = false ∧ w.frozen? ⟨g, k * 3 + 1, none⟩ = false ∧ w.frozen? ⟨g, k * 3 + 2, none⟩ = false := by
  obtain ⟨cur, hh, hz, _⟩ := h
  refine ⟨cur[k * 3]'(by omega), cur[k * 3 + 1]'(by omega), cur[k * 3 + 2]'(by omega), ?_, ?_, ?_, Lib.frozen_of_heap hh _, Lib.frozen_of_heap hh _, Lib.frozen_of_heap hh _⟩ <;> rw [Lib.cell_of_heap hh] <;> exact Array.getElem?_eq_getElem _

/-- The next node is laid. -/
theorem NodesOwn.put {w : World} {g n : Nat} {xs : List NodeV} (h : NodesOwn w g n xs) (x : NodeV) (hx : x.Own w (g + 1)) (hk : xs.length < n) :
    NodesOwn (((w.setCell ⟨g, xs.length * 3, none⟩ (.string x.name)).setCell ⟨g, xs.length * 3 + 1, none⟩ x.subsv).setCell ⟨g, xs.length * 3 + 2, none⟩ (.string x.value)) g n (xs ++ [x]) := by
  obtain ⟨cur, hh, hz, hl, hq⟩ := h
  refine ⟨_, heap_setCell_same _ _ _ _ _ _ (heap_setCell_same _ _ _ _ _ _ (heap_setCell_same _ _ _ _ _ _ hh)), by simp [hz], by simp; omega, fun k hk' => ?_⟩
  have own : ∀ y : NodeV, y.Own w (g + 1) → y.Own (((w.setCell ⟨g, xs.length * 3, none⟩ (.string x.name)).setCell ⟨g, xs.length * 3 + 1, none⟩ x.subsv).setCell ⟨g, xs.length * 3 + 2, none⟩ (.string x.value)) (g + 1) := fun y hy => ((hy.set (by simp) _).set (by simp) _).set (by simp) _
  rcases Nat.lt_or_ge k xs.length with h1 | h1
  · rw [List.getElem_append_left h1]
    refine ⟨fun j u hu => ?_, own _ (hq k h1).2⟩
    have hj : j < 3 := by
      rcases Nat.lt_or_ge j 3 with h | h
      · exact h
      · rw [Array.getElem?_eq_none (by simpa [NodeV.cells] using h)] at hu; cases hu
    rw [Array.getElem?_setIfInBounds_ne (by omega), Array.getElem?_setIfInBounds_ne (by omega), Array.getElem?_setIfInBounds_ne (by omega)]
    exact (hq k h1).1 j u hu
  · obtain rfl : k = xs.length := by simp at hk'; omega
    rw [List.getElem_append_right (by omega)]
    simp only [Nat.sub_self, List.getElem_cons_zero]
    refine ⟨fun j u hu => ?_, own _ hx⟩
    match j, hu with
    | 0, hu =>
      rw [Array.getElem?_setIfInBounds_ne (by omega), Array.getElem?_setIfInBounds_ne (by omega), Nat.add_zero, Array.getElem?_setIfInBounds_self_of_lt (by omega)]
      exact hu
    | 1, hu =>
      rw [Array.getElem?_setIfInBounds_ne (by omega), Array.getElem?_setIfInBounds_self_of_lt (by simp; omega)]
      exact hu
    | 2, hu =>
      rw [Array.getElem?_setIfInBounds_self_of_lt (by simp; omega)]
      exact hu
    | j + 3, hu => rw [Array.getElem?_eq_none (by simp [NodeV.cells])] at hu; cases hu

set_option maxRecDepth 8000 in
theorem toNodeS_any (v : Value) (ns : List NodeV) (w : World) (h : NodesAt w v ns) (hl : ns.length ≤ 1048576) (hok : ∀ x ∈ ns, x.Ok 1048576) :
    Calls Tryz.prog 19 #[v] w fun e w' => ∃ xs, e = .returned (.slice (some ⟨w.heap.size, 0, none⟩) ns.length ns.length) ∧ Hid (xs.map NodeV.dat = ns.map NodeV.dat) ∧ NodesOwn w' w.heap.size ns.length xs ∧ Below w.heap.size w w' := by
  have H := Lib.hid h
  obtain ⟨A, c, rfl, hc, hr⟩ := h
  clear hr
  have HOK := Lib.hid hok; clear hok
  have hmk := fun W => run_make_nodes ns.length hl W
  have HZ : Hid (NodesOwn (w.alloc (.cells (zNode ns.length) 50)) w.heap.size ns.length []) := ⟨_, heap_alloc_new w _, by simp [zNode, madeCells], by simp, fun k h => absurd h (by simp)⟩
  generalize hz : zNode ns.length = zs at *
  clear hz
  go_enter Tryz.func19, Tryz.ntmps19
  go_wp2
  go_loopw [4] (fun i wr => ∃ (k : Nat) (xs : List NodeV), k ≤ ns.length ∧ i = .int .i64 k ∧ xs.length = k ∧ Hid (xs.map NodeV.dat = (ns.take k).map NodeV.dat) ∧ Hid (NodesOwn wr w.heap.size ns.length xs) ∧ Below w.heap.size w wr) (fun i _ => ns.length - (intOf i).toNat)
  case atStart => exact ⟨0, [], Nat.zero_le _, rfl, rfl, rfl, HZ.out, Joins.below_alloc1 w _⟩
  case round =>
    obtain ⟨k, xs, hk, rfl, hxl, HD, HO, hbel⟩ := hrel
    by_cases hlt : k < ns.length
    · have HB := Lib.hid hbel
      obtain ⟨ad, rfl, hbl, hat, a0, a1, a2⟩ := (H.out.on hbel).get hlt
      have HX := Lib.hid (HOK.out _ (List.getElem_mem hlt))
      have HT := Lib.hid (List.take_succ_eq_append_getElem hlt)
      have HAT := Lib.hid hat; clear hat
      generalize ns[k] = x at *
      obtain ⟨name, sv, ys, value⟩ := x
      simp only at a0 a1 a2
      go_wp2_with fail
      refine (toNode_any ⟨name, sv, ys, value⟩ _ HAT.out HX.out).mono ?_
      rintro e w2 ⟨x', rfl, HDx, hox, b2⟩
      have hbs := hbel.size
      have HO2 := Lib.hid (NodesOwn.on HO.out b2)
      have HB2 := Lib.hid (below_trans HB.out b2)
      have HOx := Lib.hid (NodeV.Own.le hox (show w.heap.size + 1 ≤ wr.heap.size by have := NodesOwn.lt HO.out; omega))
      obtain ⟨u0, u1, u2, s0, s1, s2, f0, f1, f2⟩ := NodesOwn.slot HO2.out hlt
      obtain ⟨nm, sw, zs', vl⟩ := x'
      obtain ⟨Aw, cw, hsw, _, _⟩ := id hox.at_.1
      replace hsw : sw = .slice Aw zs'.length cw := hsw
      subst hsw
      simp only [NodeV.cells]
      clear hox b2 HO a0 a1 a2
      go_wp2_with fail
      refine ⟨⟨k + 1, xs ++ [⟨nm, .slice Aw zs'.length cw, zs', vl⟩], by omega, by go_num, by simp; omega, ?_, ?_, ((HB2.out.setCell (p := ⟨w.heap.size, k * 3, none⟩) (Nat.le_refl _) _).setCell (p := ⟨w.heap.size, k * 3 + 1, none⟩) (Nat.le_refl _) _).setCell (p := ⟨w.heap.size, k * 3 + 2, none⟩) (Nat.le_refl _) _⟩, by simp [intOf]; omega⟩
      · show _ = _
        rw [HT.out, List.map_append, List.map_append, HD.out, List.map_cons, List.map_nil, List.map_cons, List.map_nil, HDx.out]
      · have hp := NodesOwn.put HO2.out ⟨nm, .slice Aw zs'.length cw, zs', vl⟩ HOx.out (by omega)
        rw [hxl] at hp
        exact hp
    · obtain rfl : k = ns.length := by omega
      rw [List.take_length] at HD
      go_wp2
      go_ret
      exact ⟨xs, rfl, HD, HO.out, hbel⟩

theorem NodesOwn.at_ {w : World} {g n c : Nat} {xs : List NodeV} (h : NodesOwn w g n xs) (hn : xs.length = n) (hc : n ≤ c) : NodesAt w (.slice (some ⟨g, 0, none⟩) n c) xs := by
  have hlt := h.lt
  obtain ⟨cur, hh, hz, hl, hq⟩ := h
  refine ⟨_, c, by rw [hn], by omega, fun _ => ⟨_, rfl, hlt, fun k hk => ⟨fun j u hu => ?_, (hq k hk).2.at_⟩⟩⟩
  have e : (⟨g, 0, none⟩ : Addr).add (k * 3 + j) = ⟨g, k * 3 + j, none⟩ := by
    unfold Addr.add
    split
    · rename_i h0; rw [h0]
    · simp
  rw [e, Lib.cell_of_heap hh]
  exact (hq k hk).1 j u hu

theorem dat_len {xs ns : List NodeV} (h : xs.map NodeV.dat = ns.map NodeV.dat) : xs.length = ns.length := by
  have := congrArg List.length h; simpa using this

theorem NodeV.ok_dat {x y : NodeV} (h : x.dat = y.dat) (M : Nat) (hy : y.Ok M) : x.Ok M := by
  obtain ⟨b, c, d, e⟩ := x
  obtain ⟨b2, c2, d2, e2⟩ := y
  simp only [NodeV.dat, Prod.mk.injEq] at h
  obtain ⟨rfl, rfl, rfl⟩ := h
  exact hy

theorem oks_dat {xs ns : List NodeV} (h : xs.map NodeV.dat = ns.map NodeV.dat) (M : Nat) (hn : ∀ x ∈ ns, x.Ok M) : ∀ x ∈ xs, x.Ok M := by
  intro x hx
  have : x.dat ∈ ns.map NodeV.dat := by rw [← h]; exact List.mem_map_of_mem hx
  obtain ⟨y, hy, e⟩ := List.mem_map.1 this
  exact NodeV.ok_dat e.symm M (hn y hy)

set_option maxHeartbeats 1000000 in
set_option maxRecDepth 8000 in
theorem eqNodeS_any (v v2 : Value) (ns ms : List NodeV) (w : World) (h : NodesAt w v ns) (h2 : NodesAt w v2 ms) (hl : ns.length ≤ 1048576) (hok : ∀ x ∈ ns, x.Ok 1048576) :
    Calls Tryz.prog 24 #[v, v2] w fun e w' => e = .returned (.bool (decide (ns.map NodeV.dat = ms.map NodeV.dat))) ∧ Below w.heap.size w w' := by
  obtain ⟨R, hR⟩ : ∃ R : Bool, decide (ns.map NodeV.dat = ms.map NodeV.dat) = R := ⟨_, rfl⟩
  rw [hR]
  have HR := Lib.hid hR; clear hR
  have H := Lib.hid h
  have H2 := Lib.hid h2
  obtain ⟨A, c, rfl, hc, _⟩ := h
  obtain ⟨A2, c2, rfl, hc2, _⟩ := h2
  have HOK := Lib.hid hok; clear hok
  rcases eqForms (ns.length : Int) (ms.length : Int) with ⟨e1, e2, e3⟩ | ⟨e1, e2, e3⟩
  · have hlen : ns.length = ms.length := by have := e3.out; omega
    have e4 : (ns.length == ms.length) = true := by simp [hlen]
    have e5 : (ns.length != ms.length) = false := by simp [hlen]
    have HL := Lib.hid hlen; clear hlen
    go_enter Tryz.func24, Tryz.ntmps24
    go_wp2
    go_loopw [5] (fun i wr => ∃ k : Nat, k ≤ ns.length ∧ i = .int .i64 k ∧ Hid (R = decide ((ns.drop k).map NodeV.dat = (ms.drop k).map NodeV.dat)) ∧ Below w.heap.size w wr) (fun i _ => ns.length - (intOf i).toNat)
    case atStart => exact ⟨0, Nat.zero_le _, rfl, by show _ = _; rw [List.drop_zero, List.drop_zero]; exact HR.out.symm, below_refl _⟩
    case round =>
      clear HR
      obtain ⟨k, hk, rfl, HI, hbel⟩ := hrel
      by_cases hlt : k < ns.length
      · have hlt2 : k < ms.length := by rw [← HL.out]; exact hlt
        have HB : Hid (Below w.heap.size w wr.drew) := hbel.drew
        obtain ⟨ad, rfl, hbl, hat, a0, a1, a2⟩ := (H.out.on hbel).get hlt
        obtain ⟨ad2, rfl, hbl2, hat2, b0, b1, b2⟩ := (H2.out.on hbel).get hlt2
        have HX := Lib.hid (HOK.out _ (List.getElem_mem hlt))
        have HD := Lib.hid (List.drop_eq_getElem_cons hlt)
        have HD2 := Lib.hid (List.drop_eq_getElem_cons hlt2)
        have HAT := Lib.hid hat; clear hat
        have HAT2 := Lib.hid hat2; clear hat2
        generalize ns[k] = x at *
        generalize ms[k] = y at *
        have HE := Lib.hid (fun W (h1 : x.At W) (h2 : y.At W) => eqNode_any x y W h1 h2 HX.out)
        obtain ⟨D, hD⟩ : ∃ D : Bool, decide (x.dat = y.dat) = D := ⟨_, rfl⟩
        rw [hD] at HE
        have HDD := Lib.hid hD; clear hD
        have i0 : (0 : Int) ≤ k := by omega
        have i1 : (k : Int) < ns.length := by omega
        have i2 : (k : Int) < ms.length := by omega
        obtain ⟨name, sv, xs, value⟩ := x
        obtain ⟨name2, sv2, xs2, value2⟩ := y
        simp only at a0 a1 a2 b0 b1 b2
        simp only [NodeV.cells] at HE
        have HA3 : Hid (NodeV.At ⟨name, sv, xs, value⟩ wr.drew) := HAT.out
        have HA4 : Hid (NodeV.At ⟨name2, sv2, xs2, value2⟩ wr.drew) := HAT2.out
        go_wp2_with fail
        have a0' : World.cell? { heap := wr.heap, tape := wr.tape, drawn := wr.drawn + 1, os := wr.os, output := wr.output } (ad.add (k * 3)) = some (.string name) := a0
        have a1' : World.cell? { heap := wr.heap, tape := wr.tape, drawn := wr.drawn + 1, os := wr.os, output := wr.output } ⟨(ad.add (k * 3)).block, (ad.add (k * 3)).off + 1, none⟩ = some (sv) := a1
        have a2' : World.cell? { heap := wr.heap, tape := wr.tape, drawn := wr.drawn + 1, os := wr.os, output := wr.output } ⟨(ad.add (k * 3)).block, (ad.add (k * 3)).off + 2, none⟩ = some (.string value) := a2
        have b0' : World.cell? { heap := wr.heap, tape := wr.tape, drawn := wr.drawn + 1, os := wr.os, output := wr.output } (ad2.add (k * 3)) = some (.string name2) := b0
        have b1' : World.cell? { heap := wr.heap, tape := wr.tape, drawn := wr.drawn + 1, os := wr.os, output := wr.output } ⟨(ad2.add (k * 3)).block, (ad2.add (k * 3)).off + 1, none⟩ = some (sv2) := b1
        have b2' : World.cell? { heap := wr.heap, tape := wr.tape, drawn := wr.drawn + 1, os := wr.os, output := wr.output } ⟨(ad2.add (k * 3)).block, (ad2.add (k * 3)).off + 2, none⟩ = some (.string value2) := b2
        go_still_tail 8, (by kernel_rfl)
        change wpList _ _ _ _ _ wr.drew
        generalize wr.drew = w5 at *
        clear a0 a1 a2 b0 b1 b2 a0' a1' a2' b0' b1' b2'
        go_wp2_with fail
        refine (HE.out _ HA3.out HA4.out).mono ?_
        rintro e w6 ⟨rfl, b6⟩
        have HB6 := Lib.hid (below_trans HB.out b6)
        cases D
        · go_wp2_with fail
          go_ret
          refine ⟨ret_bool ?_, HB6.out⟩
          rw [HI.out, HD.out, HD2.out]
          symm
          rw [decide_eq_false_iff_not]
          intro e
          rw [List.map_cons, List.map_cons, List.cons.injEq] at e
          have := HDD.out
          rw [decide_eq_true e.1] at this
          cases this
        · go_wp2_with fail
          refine ⟨⟨k + 1, by omega, by go_num, ?_, HB6.out⟩, by simp [intOf]; omega⟩
          show _ = _
          have hd := of_decide_eq_true HDD.out
          rw [HI.out, HD.out, HD2.out, List.map_cons, List.map_cons, decide_eq_decide, List.cons.injEq]
          exact ⟨fun h => h.2, fun h => ⟨hd, h⟩⟩
      · go_wp2
        go_ret
        refine ⟨ret_bool ?_, hbel⟩
        have := HL.out
        rw [HI.out, List.drop_eq_nil_of_le (by omega), List.drop_eq_nil_of_le (by omega)]; simp
  · have HL : Hid (R = false) := by
      show _ = _
      rw [← HR.out, decide_eq_false_iff_not]
      intro e; exact e3.out (by rw [dat_len e])
    have e4 : (ns.length == ms.length) = false := by have := e3.out; simp; omega
    have e5 : (ns.length != ms.length) = true := by have := e3.out; simp; omega
    go_enter Tryz.func24, Tryz.ntmps24
    go_wp2
    go_ret
    exact ⟨ret_bool HL.out.symm, below_refl _⟩

end Go.Proofs.YtllamjgloilioaaGreatDoor
