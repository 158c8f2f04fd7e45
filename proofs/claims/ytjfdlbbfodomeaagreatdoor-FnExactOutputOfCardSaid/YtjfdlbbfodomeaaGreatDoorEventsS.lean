/- Slices of events: their sizes, copies, equality. -/
import Derived.Test.YtjfdlbbfodomeaaGreatDoorEventS
import Derived.RegionTactic
import Derived.Deep.RegionWith
import Derived.StillTailTactics
namespace Go.Proofs.YtjfdlbbfodomeaaGreatDoor
open Go.RowKit Go.ChangeShapes Go.WideShapes Go.ChangeAt Go.Deep
set_option linter.unusedVariables false

/-- Element k of the row at ad holds the struct x. -/
def EventV.In (x : EventV) (w : World) (ad : Addr) (k : Nat) : Prop := ∀ j u, x.cells[j]? = some u → w.cell? (ad.add (k * 5 + j)) = some u

def EventsAt (w : World) (v : Value) (ns : List EventV) : Prop :=
  ∃ A c, v = .slice A ns.length c ∧ ns.length ≤ c ∧ (0 < ns.length → ∃ ad, A = some ad ∧ ad.block < w.heap.size ∧ ∀ k (h : k < ns.length), ns[k].In w ad k ∧ ns[k].At w)

theorem EventsAt.on {w w' : World} {v : Value} {ns : List EventV} (h : EventsAt w v ns) (hb : Below w.heap.size w w') : EventsAt w' v ns := by
  obtain ⟨A, c, e, hc, hr⟩ := h
  refine ⟨A, c, e, hc, fun hn => ?_⟩
  obtain ⟨ad, e2, ha, hk⟩ := hr hn
  exact ⟨ad, e2, Nat.lt_of_lt_of_le ha hb.size, fun k h => ⟨fun j u hu => (hb.cell (by rw [block_of_add]; exact ha)).trans ((hk k h).1 j u hu), (hk k h).2.on hb⟩⟩

theorem add_pos (a : Addr) (n : Nat) : a.add (n + 1) = ⟨a.block, a.off + (n + 1), none⟩ := by simp [Addr.add]

/-- What the walk needs of element k. -/
theorem EventsAt.get {w : World} {A : Option Addr} {n c : Nat} {ns : List EventV} (h : EventsAt w (.slice A n c) ns) {k : Nat} (hk : k < ns.length) : ∃ ad, A = some ad ∧ ad.block < w.heap.size ∧ ns[k].At w ∧
    w.cell? (ad.add (k * 5)) = some (.int .i64 ns[k].kind) ∧ w.cell? ⟨(ad.add (k * 5)).block, (ad.add (k * 5)).off + 1, none⟩ = some (.string ns[k].name) ∧ w.cell? ⟨(ad.add (k * 5)).block, (ad.add (k * 5)).off + 2, none⟩ = some ns[k].subsv ∧ w.cell? ⟨(ad.add (k * 5)).block, (ad.add (k * 5)).off + 3, none⟩ = some (.string ns[k].value) ∧ w.cell? ⟨(ad.add (k * 5)).block, (ad.add (k * 5)).off + 4, none⟩ = some (.int .i64 ns[k].n) := by
  obtain ⟨A', c', e, hc, hr⟩ := h
  injection e with e1 e2 e3
  subst e1
  obtain ⟨ad, e2, ha, hq⟩ := hr (by omega)
  refine ⟨ad, e2, ha, (hq k hk).2, (hq k hk).1 0 _ rfl, ?_, ?_, ?_, ?_⟩
  · rw [← add_pos, add_of_add]; exact (hq k hk).1 1 _ rfl
  · rw [← add_pos, add_of_add]; exact (hq k hk).1 2 _ rfl
  · rw [← add_pos, add_of_add]; exact (hq k hk).1 3 _ rfl
  · rw [← add_pos, add_of_add]; exact (hq k hk).1 4 _ rfl

set_option maxRecDepth 8000 in
theorem szEventS_ex (v : Value) (ns : List EventV) (left : Int) (w : World) (h : EventsAt w v ns) (h0 : 0 ≤ left) (h1 : left ≤ 1048576) (hl : ns.length ≤ 9223372036854775807) (hok : ∀ x ∈ ns, x.Ok maxLen) :
    Calls Tryz.prog 50 #[v, .int .i64 left] w fun e w' => (∃ q : Int, e = .returned (.int .i64 q) ∧ -1 ≤ q ∧ q ≤ left ∧ (0 ≤ q → ns.length ≤ 1048576 ∧ ∀ x ∈ ns, x.Ok 1048576)) ∧ Below w.heap.size w w' := by
  have H := Lib.hid h
  obtain ⟨A, c, rfl, hc, hr⟩ := h
  clear hr
  have HOK := Lib.hid hok; clear hok
  by_cases hn : left - ns.length < 0
  · go_enter Tryz.func50, Tryz.ntmps50
    go_wp2
    go_ret
    exact ⟨⟨_, rfl, by omega, by omega, fun h => by omega⟩, below_refl _⟩
  · go_enter Tryz.func50, Tryz.ntmps50
    go_wp2
    go_loopw [1, 5] (fun l i wr => ∃ (k : Nat) (q : Int), k ≤ ns.length ∧ i = .int .i64 k ∧ l = .int .i64 q ∧ 0 ≤ q ∧ q ≤ left ∧ Hid (∀ x ∈ ns.take k, x.Ok 1048576) ∧ Below w.heap.size w wr) (fun _ i _ => ns.length - (intOf i).toNat)
    case atStart => exact ⟨0, _, Nat.zero_le _, rfl, rfl, by omega, by omega, fun x hx => by simp at hx, below_refl _⟩
    case round =>
      obtain ⟨k, q, hk, rfl, rfl, hq0, hq1, HI, hbel⟩ := hrel
      by_cases hlt : k < ns.length
      · have HB := Lib.hid hbel
        obtain ⟨ad, rfl, hbl, hat, a0, a1, a2, a3, a4⟩ := (H.out.on hbel).get hlt
        have HX := Lib.hid (HOK.out _ (List.getElem_mem hlt))
        have HT := Lib.hid (List.take_succ_eq_append_getElem hlt)
        have HAT := Lib.hid hat; clear hat
        generalize ns[k] = x at *
        obtain ⟨kind, name, subsv, subs, value, n⟩ := x
        simp only at a0 a1 a2 a3 a4
        go_wp2_with fail
        refine (szEvent_ex ⟨kind, name, subsv, subs, value, n⟩ q _ HAT.out hq0 (by omega) HX.out).mono ?_
        rintro e w2 ⟨⟨q', rfl, q1, q2, hq⟩, b2⟩
        have HQ := Lib.hid hq; clear hq a0 a1 a2 a3 a4
        by_cases q0 : q' < 0
        · go_wp2_with fail
          go_ret
          exact ⟨⟨_, rfl, by omega, by omega, fun h => by omega⟩, below_trans HB.out b2⟩
        · go_wp2_with fail
          refine ⟨⟨k + 1, q', by omega, by go_num, rfl, by omega, by omega, ?_, below_trans HB.out b2⟩, by simp [intOf]; omega⟩
          intro x hx
          rw [HT.out] at hx
          rcases List.mem_append.1 hx with hx | hx
          · exact HI.out x hx
          · rw [List.mem_singleton] at hx; subst hx; exact HQ.out (by omega)
      · obtain rfl : k = ns.length := by omega
        rw [List.take_length] at HI
        go_wp2
        go_ret
        exact ⟨⟨_, rfl, by omega, by omega, fun h => ⟨by omega, HI.out⟩⟩, hbel⟩

theorem info_event : (Tryz.prog.info? 53).map (fun i => (i.zero, i.size, i.bytes)) = some (some (.agg #[.int .i64 0, .string ⟨#[]⟩, .slice none 0 0, .string ⟨#[]⟩, .int .i64 0]), 5, 72) := by kernel_rfl

def zEvent (n : Nat) : Array Value := madeCells #[.int .i64 0, .string ⟨#[]⟩, .slice none 0 0, .string ⟨#[]⟩, .int .i64 0] (n * 5)

theorem run_make_events (n : Nat) (hn : n ≤ 1048576) (w : World) : (Instr.makeSlice 73 (.int .i64 (n : Int)) (.int .i64 (n : Int))).run Tryz.prog w = .ok (.slice (some ⟨w.heap.size, 0, none⟩) n n) (w.alloc (.cells (zEvent n) 53)) := by
  obtain ⟨i0, hi0, hz0, hz1, hz2⟩ := info_parts info_event
  have h := run_make_rowN (P := Tryz.prog) 73 53 i0 _ Tryz.underlying73 hi0 hz0 .i64 .i64 n n (Nat.le_refl _) (by rw [hz2]; omega) (by omega) w
  rw [hz1] at h
  exact h

/-- Block g holds the events xs at its beginning, each with lists of its own behind block g. -/
def EventsOwn (w : World) (g n : Nat) (xs : List EventV) : Prop :=
  ∃ cur, w.heap[g]? = some (.cells cur 53 (0, 0)) ∧ cur.size = n * 5 ∧ xs.length ≤ n ∧ ∀ k (h : k < xs.length), (∀ j u, xs[k].cells[j]? = some u → cur[k * 5 + j]? = some u) ∧ xs[k].Own w (g + 1)

theorem EventV.Own.le {x : EventV} {w : World} {b b' : Nat} (h : x.Own w b) (hb : b' ≤ b) : x.Own w b' := ⟨Joins.ownsRow_le h.1 hb, trivial⟩

theorem EventV.Own.on {x : EventV} {w w' : World} {b : Nat} (h : x.Own w b) (hb : Below w.heap.size w w') : x.Own w' b := ⟨own_on h.1 hb, trivial⟩

theorem EventV.Own.set {x : EventV} {w : World} {b : Nat} (h : x.Own w b) {a : Addr} (ha : a.block < b) (u : Value) : x.Own (w.setCell a u) b := ⟨ownsRow_setCell_below h.1 ha u, trivial⟩

theorem EventsOwn.lt {w : World} {g n : Nat} {xs : List EventV} (h : EventsOwn w g n xs) : g < w.heap.size := by
  obtain ⟨cur, hh, _⟩ := h
  rcases Nat.lt_or_ge g w.heap.size with h | h
  · exact h
  · rw [Array.getElem?_eq_none h] at hh; cases hh

theorem EventsOwn.on {w w' : World} {g n : Nat} {xs : List EventV} (h : EventsOwn w g n xs) (hb : Below w.heap.size w w') : EventsOwn w' g n xs := by
  have hlt := h.lt
  obtain ⟨cur, hh, hz, hl, hk⟩ := h
  exact ⟨cur, by rw [hb.block g hlt]; exact hh, hz, hl, fun k h => ⟨(hk k h).1, (hk k h).2.on hb⟩⟩

theorem EventsOwn.slot {w : World} {g n : Nat} {xs : List EventV} (h : EventsOwn w g n xs) {k : Nat} (hk : k < n) : ∃ u0 u1 u2 u3 u4, w.cell? ⟨g, k * 5, none⟩ = some u0 ∧ w.cell? ⟨g, k * 5 + 1, none⟩ = some u1 ∧ w.cell? ⟨g, k * 5 + 2, none⟩ = some u2 ∧ w.cell? ⟨g, k * 5 + 3, none⟩ = some u3 ∧ w.cell? ⟨g, k * 5 + 4, none⟩ = some u4 ∧ w.frozen? ⟨g, k * 5, none⟩ = false ∧ w.frozen? ⟨g, k * 5 + 1, none⟩ = false ∧ w.frozen? ⟨g, k * 5 + 2, none⟩ = false ∧ w.frozen? ⟨g, k * 5 + 3, none⟩ = false ∧ w.frozen? ⟨g, k * 5 + 4, none⟩ = false := by
  obtain ⟨cur, hh, hz, _⟩ := h
  refine ⟨cur[k * 5]'(by omega), cur[k * 5 + 1]'(by omega), cur[k * 5 + 2]'(by omega), cur[k * 5 + 3]'(by omega), cur[k * 5 + 4]'(by omega), ?_, ?_, ?_, ?_, ?_, Lib.frozen_of_heap hh _, Lib.frozen_of_heap hh _, Lib.frozen_of_heap hh _, Lib.frozen_of_heap hh _, Lib.frozen_of_heap hh _⟩ <;> rw [Lib.cell_of_heap hh] <;> exact Array.getElem?_eq_getElem _

/-- The next node is laid. -/
theorem EventsOwn.put {w : World} {g n : Nat} {xs : List EventV} (h : EventsOwn w g n xs) (x : EventV) (hx : x.Own w (g + 1)) (hk : xs.length < n) :
    EventsOwn (((((w.setCell ⟨g, xs.length * 5, none⟩ (.int .i64 x.kind)).setCell ⟨g, xs.length * 5 + 1, none⟩ (.string x.name)).setCell ⟨g, xs.length * 5 + 2, none⟩ x.subsv).setCell ⟨g, xs.length * 5 + 3, none⟩ (.string x.value)).setCell ⟨g, xs.length * 5 + 4, none⟩ (.int .i64 x.n)) g n (xs ++ [x]) := by
  obtain ⟨cur, hh, hz, hl, hq⟩ := h
  refine ⟨_, heap_setCell_same _ _ _ _ _ _ (heap_setCell_same _ _ _ _ _ _ (heap_setCell_same _ _ _ _ _ _ (heap_setCell_same _ _ _ _ _ _ (heap_setCell_same _ _ _ _ _ _ hh)))), by simp [hz], by simp; omega, fun k hk' => ?_⟩
  have own : ∀ y : EventV, y.Own w (g + 1) → y.Own (((((w.setCell ⟨g, xs.length * 5, none⟩ (.int .i64 x.kind)).setCell ⟨g, xs.length * 5 + 1, none⟩ (.string x.name)).setCell ⟨g, xs.length * 5 + 2, none⟩ x.subsv).setCell ⟨g, xs.length * 5 + 3, none⟩ (.string x.value)).setCell ⟨g, xs.length * 5 + 4, none⟩ (.int .i64 x.n)) (g + 1) := fun y hy => (((((hy.set (by simp) _).set (by simp) _).set (by simp) _).set (by simp) _).set (by simp) _)
  rcases Nat.lt_or_ge k xs.length with h1 | h1
  · rw [List.getElem_append_left h1]
    refine ⟨fun j u hu => ?_, own _ (hq k h1).2⟩
    have hj : j < 5 := by
      rcases Nat.lt_or_ge j 5 with h | h
      · exact h
      · rw [Array.getElem?_eq_none (by simpa [EventV.cells] using h)] at hu; cases hu
    rw [Array.getElem?_setIfInBounds_ne (by omega), Array.getElem?_setIfInBounds_ne (by omega), Array.getElem?_setIfInBounds_ne (by omega), Array.getElem?_setIfInBounds_ne (by omega), Array.getElem?_setIfInBounds_ne (by omega)]
    exact (hq k h1).1 j u hu
  · obtain rfl : k = xs.length := by simp at hk'; omega
    rw [List.getElem_append_right (by omega)]
    simp only [Nat.sub_self, List.getElem_cons_zero]
    refine ⟨fun j u hu => ?_, own _ hx⟩
    match j, hu with
    | 0, hu =>
      rw [Array.getElem?_setIfInBounds_ne (by omega), Array.getElem?_setIfInBounds_ne (by omega), Array.getElem?_setIfInBounds_ne (by omega), Array.getElem?_setIfInBounds_ne (by omega), Nat.add_zero, Array.getElem?_setIfInBounds_self_of_lt (by omega)]
      exact hu
    | 1, hu =>
      rw [Array.getElem?_setIfInBounds_ne (by omega), Array.getElem?_setIfInBounds_ne (by omega), Array.getElem?_setIfInBounds_ne (by omega), Array.getElem?_setIfInBounds_self_of_lt (by simp; omega)]
      exact hu
    | 2, hu =>
      rw [Array.getElem?_setIfInBounds_ne (by omega), Array.getElem?_setIfInBounds_ne (by omega), Array.getElem?_setIfInBounds_self_of_lt (by simp; omega)]
      exact hu
    | 3, hu =>
      rw [Array.getElem?_setIfInBounds_ne (by omega), Array.getElem?_setIfInBounds_self_of_lt (by simp; omega)]
      exact hu
    | 4, hu =>
      rw [Array.getElem?_setIfInBounds_self_of_lt (by simp; omega)]
      exact hu
    | j + 5, hu => rw [Array.getElem?_eq_none (by simp [EventV.cells])] at hu; cases hu

set_option maxRecDepth 8000 in
theorem toEventS_any (v : Value) (ns : List EventV) (w : World) (h : EventsAt w v ns) (hl : ns.length ≤ 1048576) (hok : ∀ x ∈ ns, x.Ok 1048576) :
    Calls Tryz.prog 52 #[v] w fun e w' => ∃ xs, e = .returned (.slice (some ⟨w.heap.size, 0, none⟩) ns.length ns.length) ∧ Hid (xs.map EventV.dat = ns.map EventV.dat) ∧ EventsOwn w' w.heap.size ns.length xs ∧ Below w.heap.size w w' := by
  have H := Lib.hid h
  obtain ⟨A, c, rfl, hc, hr⟩ := h
  clear hr
  have HOK := Lib.hid hok; clear hok
  have hmk := fun W => run_make_events ns.length hl W
  have HZ : Hid (EventsOwn (w.alloc (.cells (zEvent ns.length) 53)) w.heap.size ns.length []) := ⟨_, heap_alloc_new w _, by simp [zEvent, madeCells], by simp, fun k h => absurd h (by simp)⟩
  generalize hz : zEvent ns.length = zs at *
  clear hz
  go_enter Tryz.func52, Tryz.ntmps52
  go_wp2
  go_loopw [4] (fun i wr => ∃ (k : Nat) (xs : List EventV), k ≤ ns.length ∧ i = .int .i64 k ∧ xs.length = k ∧ Hid (xs.map EventV.dat = (ns.take k).map EventV.dat) ∧ Hid (EventsOwn wr w.heap.size ns.length xs) ∧ Below w.heap.size w wr) (fun i _ => ns.length - (intOf i).toNat)
  case atStart => exact ⟨0, [], Nat.zero_le _, rfl, rfl, rfl, HZ.out, Joins.below_alloc1 w _⟩
  case round =>
    obtain ⟨k, xs, hk, rfl, hxl, HD, HO, hbel⟩ := hrel
    by_cases hlt : k < ns.length
    · have HB := Lib.hid hbel
      obtain ⟨ad, rfl, hbl, hat, a0, a1, a2, a3, a4⟩ := (H.out.on hbel).get hlt
      have HX := Lib.hid (HOK.out _ (List.getElem_mem hlt))
      have HT := Lib.hid (List.take_succ_eq_append_getElem hlt)
      have HAT := Lib.hid hat; clear hat
      generalize ns[k] = x at *
      obtain ⟨kind, name, subsv, subs, value, n⟩ := x
      simp only at a0 a1 a2 a3 a4
      go_wp2_with fail
      refine (toEvent_any ⟨kind, name, subsv, subs, value, n⟩ _ HAT.out HX.out).mono ?_
      rintro e w2 ⟨x', rfl, HDx, hox, b2⟩
      have hbs := hbel.size
      have HO2 := Lib.hid (EventsOwn.on HO.out b2)
      have HB2 := Lib.hid (below_trans HB.out b2)
      have HOx := Lib.hid (EventV.Own.le hox (show w.heap.size + 1 ≤ wr.heap.size by have := EventsOwn.lt HO.out; omega))
      obtain ⟨u0, u1, u2, u3, u4, s0, s1, s2, s3, s4, f0, f1, f2, f3, f4⟩ := EventsOwn.slot HO2.out hlt
      obtain ⟨pkind, pname, sw, zs', pvalue, pn⟩ := x'
      obtain ⟨Aw, cw, hsw, _, _⟩ := id hox.at_.1
      replace hsw : sw = .slice Aw zs'.length cw := hsw
      subst hsw
      simp only [EventV.cells]
      clear hox b2 HO a0 a1 a2 a3 a4
      go_wp2_with fail
      refine ⟨⟨k + 1, xs ++ [⟨pkind, pname, .slice Aw zs'.length cw, zs', pvalue, pn⟩], by omega, by go_num, by simp; omega, ?_, ?_, (((((HB2.out.setCell (p := ⟨w.heap.size, k * 5, none⟩) (Nat.le_refl _) _).setCell (p := ⟨w.heap.size, k * 5 + 1, none⟩) (Nat.le_refl _) _).setCell (p := ⟨w.heap.size, k * 5 + 2, none⟩) (Nat.le_refl _) _).setCell (p := ⟨w.heap.size, k * 5 + 3, none⟩) (Nat.le_refl _) _).setCell (p := ⟨w.heap.size, k * 5 + 4, none⟩) (Nat.le_refl _) _)⟩, by simp [intOf]; omega⟩
      · show _ = _
        rw [HT.out, List.map_append, List.map_append, HD.out, List.map_cons, List.map_nil, List.map_cons, List.map_nil, HDx.out]
      · have hp := EventsOwn.put HO2.out ⟨pkind, pname, .slice Aw zs'.length cw, zs', pvalue, pn⟩ HOx.out (by omega)
        rw [hxl] at hp
        exact hp
    · obtain rfl : k = ns.length := by omega
      rw [List.take_length] at HD
      go_wp2
      go_ret
      exact ⟨xs, rfl, HD, HO.out, hbel⟩

theorem EventsOwn.at_ {w : World} {g n c : Nat} {xs : List EventV} (h : EventsOwn w g n xs) (hn : xs.length = n) (hc : n ≤ c) : EventsAt w (.slice (some ⟨g, 0, none⟩) n c) xs := by
  have hlt := h.lt
  obtain ⟨cur, hh, hz, hl, hq⟩ := h
  refine ⟨_, c, by rw [hn], by omega, fun _ => ⟨_, rfl, hlt, fun k hk => ⟨fun j u hu => ?_, (hq k hk).2.at_⟩⟩⟩
  have e : (⟨g, 0, none⟩ : Addr).add (k * 5 + j) = ⟨g, k * 5 + j, none⟩ := by
    unfold Addr.add
    split
    · rename_i h0; rw [h0]
    · simp
  rw [e, Lib.cell_of_heap hh]
  exact (hq k hk).1 j u hu

theorem dat_len {xs ns : List EventV} (h : xs.map EventV.dat = ns.map EventV.dat) : xs.length = ns.length := by
  have := congrArg List.length h; simpa using this

theorem EventV.ok_dat {x y : EventV} (h : x.dat = y.dat) (M : Nat) (hy : y.Ok M) : x.Ok M := by
  obtain ⟨p0, p1, p2, p3, p4, p5⟩ := x
  obtain ⟨q0, q1, q2, q3, q4, q5⟩ := y
  simp only [EventV.dat, Prod.mk.injEq] at h
  obtain ⟨rfl, rfl, rfl, rfl, rfl⟩ := h
  exact hy

theorem oks_dat {xs ns : List EventV} (h : xs.map EventV.dat = ns.map EventV.dat) (M : Nat) (hn : ∀ x ∈ ns, x.Ok M) : ∀ x ∈ xs, x.Ok M := by
  intro x hx
  have : x.dat ∈ ns.map EventV.dat := by rw [← h]; exact List.mem_map_of_mem hx
  obtain ⟨y, hy, e⟩ := List.mem_map.1 this
  exact EventV.ok_dat e.symm M (hn y hy)

set_option maxHeartbeats 1000000 in
set_option maxRecDepth 8000 in
theorem eqEventS_any (v v2 : Value) (ns ms : List EventV) (w : World) (h : EventsAt w v ns) (h2 : EventsAt w v2 ms) (hl : ns.length ≤ 1048576) (hok : ∀ x ∈ ns, x.Ok 1048576) :
    Calls Tryz.prog 54 #[v, v2] w fun e w' => e = .returned (.bool (decide (ns.map EventV.dat = ms.map EventV.dat))) ∧ Below w.heap.size w w' := by
  obtain ⟨R, hR⟩ : ∃ R : Bool, decide (ns.map EventV.dat = ms.map EventV.dat) = R := ⟨_, rfl⟩
  rw [hR]
  have HR := Lib.hid hR; clear hR
  have H := Lib.hid h
  have H2 := Lib.hid h2
  obtain ⟨A, c, rfl, hc, _⟩ := h
  obtain ⟨A2, c2, rfl, hc2, _⟩ := h2
  have HOK := Lib.hid hok; clear hok
  rcases eqForms (ns.length : Int) (ms.length : Int) with ⟨e1, e2, e3⟩ | ⟨e1, e2, e3⟩
  · have hlen : ns.length = ms.length := by have := e3.out; omega
    have e4 : (ns.length == ms.length) = true := by simp [hlen]
    have e5 : (ns.length != ms.length) = false := by simp [hlen]
    have HL := Lib.hid hlen; clear hlen
    go_enter Tryz.func54, Tryz.ntmps54
    go_wp2
    go_loopw [5] (fun i wr => ∃ k : Nat, k ≤ ns.length ∧ i = .int .i64 k ∧ Hid (R = decide ((ns.drop k).map EventV.dat = (ms.drop k).map EventV.dat)) ∧ Below w.heap.size w wr) (fun i _ => ns.length - (intOf i).toNat)
    case atStart => exact ⟨0, Nat.zero_le _, rfl, by show _ = _; rw [List.drop_zero, List.drop_zero]; exact HR.out.symm, below_refl _⟩
    case round =>
      clear HR
      obtain ⟨k, hk, rfl, HI, hbel⟩ := hrel
      by_cases hlt : k < ns.length
      · have hlt2 : k < ms.length := by rw [← HL.out]; exact hlt
        have HB : Hid (Below w.heap.size w wr.drew) := hbel.drew
        obtain ⟨ad, rfl, hbl, hat, a0, a1, a2, a3, a4⟩ := (H.out.on hbel).get hlt
        obtain ⟨ad2, rfl, hbl2, hat2, b0, b1, b2, b3, b4⟩ := (H2.out.on hbel).get hlt2
        have HX := Lib.hid (HOK.out _ (List.getElem_mem hlt))
        have HD := Lib.hid (List.drop_eq_getElem_cons hlt)
        have HD2 := Lib.hid (List.drop_eq_getElem_cons hlt2)
        have HAT := Lib.hid hat; clear hat
        have HAT2 := Lib.hid hat2; clear hat2
        generalize ns[k] = x at *
        generalize ms[k] = y at *
        have HE := Lib.hid (fun W (h1 : x.At W) (h2 : y.At W) => eqEvent_any x y W h1 h2 HX.out)
        obtain ⟨D, hD⟩ : ∃ D : Bool, decide (x.dat = y.dat) = D := ⟨_, rfl⟩
        rw [hD] at HE
        have HDD := Lib.hid hD; clear hD
        have i0 : (0 : Int) ≤ k := by omega
        have i1 : (k : Int) < ns.length := by omega
        have i2 : (k : Int) < ms.length := by omega
        obtain ⟨kind, name, subsv, subs, value, n⟩ := x
        obtain ⟨kind2, name2, subsv2, subs2, value2, n2⟩ := y
        simp only at a0 a1 a2 a3 a4 b0 b1 b2 b3 b4
        simp only [EventV.cells] at HE
        have HA3 : Hid (EventV.At ⟨kind, name, subsv, subs, value, n⟩ wr.drew) := HAT.out
        have HA4 : Hid (EventV.At ⟨kind2, name2, subsv2, subs2, value2, n2⟩ wr.drew) := HAT2.out
        go_wp2_with fail
        have a0' : World.cell? { heap := wr.heap, tape := wr.tape, drawn := wr.drawn + 1, os := wr.os, output := wr.output } (ad.add (k * 5)) = some (.int .i64 kind) := a0
        have a1' : World.cell? { heap := wr.heap, tape := wr.tape, drawn := wr.drawn + 1, os := wr.os, output := wr.output } ⟨(ad.add (k * 5)).block, (ad.add (k * 5)).off + 1, none⟩ = some (.string name) := a1
        have a2' : World.cell? { heap := wr.heap, tape := wr.tape, drawn := wr.drawn + 1, os := wr.os, output := wr.output } ⟨(ad.add (k * 5)).block, (ad.add (k * 5)).off + 2, none⟩ = some (subsv) := a2
        have a3' : World.cell? { heap := wr.heap, tape := wr.tape, drawn := wr.drawn + 1, os := wr.os, output := wr.output } ⟨(ad.add (k * 5)).block, (ad.add (k * 5)).off + 3, none⟩ = some (.string value) := a3
        have a4' : World.cell? { heap := wr.heap, tape := wr.tape, drawn := wr.drawn + 1, os := wr.os, output := wr.output } ⟨(ad.add (k * 5)).block, (ad.add (k * 5)).off + 4, none⟩ = some (.int .i64 n) := a4
        have b0' : World.cell? { heap := wr.heap, tape := wr.tape, drawn := wr.drawn + 1, os := wr.os, output := wr.output } (ad2.add (k * 5)) = some (.int .i64 kind2) := b0
        have b1' : World.cell? { heap := wr.heap, tape := wr.tape, drawn := wr.drawn + 1, os := wr.os, output := wr.output } ⟨(ad2.add (k * 5)).block, (ad2.add (k * 5)).off + 1, none⟩ = some (.string name2) := b1
        have b2' : World.cell? { heap := wr.heap, tape := wr.tape, drawn := wr.drawn + 1, os := wr.os, output := wr.output } ⟨(ad2.add (k * 5)).block, (ad2.add (k * 5)).off + 2, none⟩ = some (subsv2) := b2
        have b3' : World.cell? { heap := wr.heap, tape := wr.tape, drawn := wr.drawn + 1, os := wr.os, output := wr.output } ⟨(ad2.add (k * 5)).block, (ad2.add (k * 5)).off + 3, none⟩ = some (.string value2) := b3
        have b4' : World.cell? { heap := wr.heap, tape := wr.tape, drawn := wr.drawn + 1, os := wr.os, output := wr.output } ⟨(ad2.add (k * 5)).block, (ad2.add (k * 5)).off + 4, none⟩ = some (.int .i64 n2) := b4
        go_still_tail 8, (by kernel_rfl)
        change wpList _ _ _ _ _ wr.drew
        generalize wr.drew = w5 at *
        clear a0 a1 a2 a3 a4 b0 b1 b2 b3 b4 a0' a1' a2' a3' a4' b0' b1' b2' b3' b4'
        go_wp2_with fail
        refine (HE.out _ HA3.out HA4.out).mono ?_
        rintro e w6 ⟨rfl, b6⟩
        have HB6 := Lib.hid (below_trans HB.out b6)
        cases D
        · go_wp2_with fail
          go_ret
          refine ⟨ret_bool ?_, HB6.out⟩
          rw [HI.out, HD.out, HD2.out]
          symm
          rw [decide_eq_false_iff_not]
          intro e
          rw [List.map_cons, List.map_cons, List.cons.injEq] at e
          have := HDD.out
          rw [decide_eq_true e.1] at this
          cases this
        · go_wp2_with fail
          refine ⟨⟨k + 1, by omega, by go_num, ?_, HB6.out⟩, by simp [intOf]; omega⟩
          show _ = _
          have hd := of_decide_eq_true HDD.out
          rw [HI.out, HD.out, HD2.out, List.map_cons, List.map_cons, decide_eq_decide, List.cons.injEq]
          exact ⟨fun h => h.2, fun h => ⟨hd, h⟩⟩
      · go_wp2
        go_ret
        refine ⟨ret_bool ?_, hbel⟩
        have := HL.out
        rw [HI.out, List.drop_eq_nil_of_le (by omega), List.drop_eq_nil_of_le (by omega)]; simp
  · have HL : Hid (R = false) := by
      show _ = _
      rw [← HR.out, decide_eq_false_iff_not]
      intro e; exact e3.out (by rw [dat_len e])
    have e4 : (ns.length == ms.length) = false := by have := e3.out; simp; omega
    have e5 : (ns.length != ms.length) = true := by have := e3.out; simp; omega
    go_enter Tryz.func54, Tryz.ntmps54
    go_wp2
    go_ret
    exact ⟨ret_bool HL.out.symm, below_refl _⟩

end Go.Proofs.YtjfdlbbfodomeaaGreatDoor
