/- Patterns: the law file's own copy. -/
import Derived.Test.YtcjlokojppicnaaDoorPatMem
import Derived.Lib.SmallJoins
import Derived.Laws.Rows
namespace Go.Proofs.YtcjlokojppicnaaDoor
open Go.RowKit
set_option linter.unusedVariables false

theorem cell_set_far (w : World) (a p : Addr) (u : Value) (h : p.block ≠ a.block) : (w.setCell a u).cell? p = w.cell? p :=
  World.cell?_of_block (w := w) (Below.heap_setCell w a u p.block h)

theorem addr_row (g k : Nat) : (⟨g, 0, none⟩ : Addr).add k = ⟨g, k, none⟩ := by
  unfold Addr.add
  split
  · rename_i h0; rw [h0]
  · simp

theorem heap_lt {w : World} {g : Nat} {o : Obj} (h : w.heap[g]? = some o) : g < w.heap.size := by
  rcases Nat.lt_or_ge g w.heap.size with h' | h'
  · exact h'
  · rw [Array.getElem?_eq_none h'] at h; cases h

theorem info_pat : (Tryd.prog.info? 36).map (fun i => (i.zero, i.size, i.bytes)) = some (some (.agg #[.int .i64 0, .int .i64 0, .string ⟨#[]⟩, .string ⟨#[]⟩, .slice none 0 0]), 5, 72) := by kernel_rfl

theorem info_pats : (Tryd.prog.info? 25).map (fun i => (i.zero, i.size, i.bytes)) = some (some (.slice none 0 0), 1, 24) := by kernel_rfl

def zPat (n : Nat) : Array Value := madeCells #[.int .i64 0, .int .i64 0, .string ⟨#[]⟩, .string ⟨#[]⟩, .slice none 0 0] (n * 5)

def zPats (n : Nat) : Array Value := madeCells #[.slice none 0 0] (n * 1)

theorem run_make_pat (n : Nat) (hn : n ≤ 1048576) (w : World) : (Instr.makeSlice 25 (.int .i64 (n : Int)) (.int .i64 (n : Int))).run Tryd.prog w = .ok (.slice (some ⟨w.heap.size, 0, none⟩) n n) (w.alloc (.cells (zPat n) 36)) := by
  obtain ⟨i0, hi0, hz0, hz1, hz2⟩ := info_parts info_pat
  have h := run_make_rowN (P := Tryd.prog) 25 36 i0 _ Tryd.underlying25 hi0 hz0 .i64 .i64 n n (Nat.le_refl _) (by rw [hz2]; omega) (by omega) w
  rw [hz1] at h
  exact h

theorem run_make_pats (n : Nat) (hn : n ≤ 1048576) (w : World) : (Instr.makeSlice 34 (.int .i64 (n : Int)) (.int .i64 (n : Int))).run Tryd.prog w = .ok (.slice (some ⟨w.heap.size, 0, none⟩) n n) (w.alloc (.cells (zPats n) 25)) := by
  obtain ⟨i0, hi0, hz0, hz1, hz2⟩ := info_parts info_pats
  have h := run_make_rowN (P := Tryd.prog) 34 25 i0 _ Tryd.underlying34 hi0 hz0 .i64 .i64 n n (Nat.le_refl _) (by rw [hz2]; omega) (by omega) w
  rw [hz1] at h
  exact h

/-- Block g holds the patterns ys at its beginning, each in blocks behind g. -/
def AltsRow (n : Nat) (w : World) (g m : Nat) (ys : List (List (Pat n))) : Prop :=
  ∃ cur, w.heap[g]? = some (.cells cur 25 (0, 0)) ∧ cur.size = m ∧ ys.length ≤ m ∧ ∀ k (h : k < ys.length), ∃ pv, cur[k]? = some pv ∧ PatsAt n w (g + 1) w.heap.size pv ys[k]

theorem AltsRow.on {n : Nat} {w w' : World} {g m : Nat} {ys : List (List (Pat n))} (h : AltsRow n w g m ys) (hb : Below w.heap.size w w') : AltsRow n w' g m ys := by
  obtain ⟨cur, hh, hz, hl, hk⟩ := h
  refine ⟨cur, by rw [hb.block g (heap_lt hh)]; exact hh, hz, hl, fun k h => ?_⟩
  obtain ⟨pv, h1, h2⟩ := hk k h
  exact ⟨pv, h1, PatsAt.imp n h2 (fun p _ hp => hb.cell hp) (Nat.le_refl _) hb.size⟩

theorem AltsRow.slot {n : Nat} {w : World} {g m : Nat} {ys : List (List (Pat n))} (h : AltsRow n w g m ys) {k : Nat} (hk : k < m) : ∃ u, w.cell? ⟨g, k, none⟩ = some u ∧ w.frozen? ⟨g, k, none⟩ = false := by
  obtain ⟨cur, hh, hz, _⟩ := h
  refine ⟨cur[k]'(by omega), ?_, Lib.frozen_of_heap hh _⟩
  rw [Lib.cell_of_heap hh]; exact Array.getElem?_eq_getElem _

theorem AltsRow.put {n : Nat} {w : World} {g m : Nat} {ys : List (List (Pat n))} (h : AltsRow n w g m ys) (v : Value) (y : List (Pat n)) (hy : PatsAt n w (g + 1) w.heap.size v y) (hk : ys.length < m) :
    AltsRow n (w.setCell ⟨g, ys.length, none⟩ v) g m (ys ++ [y]) := by
  obtain ⟨cur, hh, hz, hl, hq⟩ := h
  have keep : ∀ (pv : Value) (z : List (Pat n)), PatsAt n w (g + 1) w.heap.size pv z → PatsAt n (w.setCell ⟨g, ys.length, none⟩ v) (g + 1) (w.setCell ⟨g, ys.length, none⟩ v).heap.size pv z := fun pv z hp =>
    PatsAt.imp n hp (fun p h1 _ => cell_set_far w _ p v (by show p.block ≠ g; omega)) (Nat.le_refl _) (by simp)
  refine ⟨_, heap_setCell_same _ _ _ _ _ _ hh, by simp [hz], by simp; omega, fun k hk' => ?_⟩
  rcases Nat.lt_or_ge k ys.length with h1 | h1
  · rw [List.getElem_append_left h1]
    obtain ⟨pv, h2, h3⟩ := hq k h1
    exact ⟨pv, by rw [Array.getElem?_setIfInBounds_ne (by omega)]; exact h2, keep _ _ h3⟩
  · obtain rfl : k = ys.length := by simp at hk'; omega
    rw [List.getElem_append_right (by omega)]
    simp only [Nat.sub_self, List.getElem_cons_zero]
    exact ⟨v, by rw [Array.getElem?_setIfInBounds_self_of_lt (by omega)], keep _ _ hy⟩

theorem AltsRow.at_ {n : Nat} {w : World} {g m : Nat} {ys : List (List (Pat n))} (h : AltsRow n w g m ys) (hm : ys.length = m) : AltsAt (PatsAt n w g w.heap.size) w g w.heap.size (.slice (some ⟨g, 0, none⟩) m m) ys := by
  obtain ⟨cur, hh, hz, hl, hq⟩ := h
  refine ⟨_, m, by rw [hm], by omega, fun _ => ⟨_, rfl, Nat.le_refl _, heap_lt hh, fun k hk => ?_⟩⟩
  obtain ⟨pv, h1, h2⟩ := hq k hk
  exact ⟨pv, by rw [addr_row, Lib.cell_of_heap hh]; exact h1, PatsAt.imp n h2 (fun _ _ _ => rfl) (by omega) (Nat.le_refl _)⟩

/-- Block g holds the items xs at its beginning, their other patterns in blocks behind g. -/
def PatsRow (n : Nat) (w : World) (g m : Nat) (xs : List (PatC (List (Pat n)))) : Prop :=
  ∃ cur, w.heap[g]? = some (.cells cur 36 (0, 0)) ∧ cur.size = m * 5 ∧ xs.length ≤ m ∧ ∀ k (h : k < xs.length), ∃ av, (∀ j u, (xs[k].cells av)[j]? = some u → cur[k * 5 + j]? = some u) ∧ AltsAt (PatsAt n w (g + 1) w.heap.size) w (g + 1) w.heap.size av xs[k].alts

theorem PatsRow.on {n : Nat} {w w' : World} {g m : Nat} {xs : List (PatC (List (Pat n)))} (h : PatsRow n w g m xs) (hb : Below w.heap.size w w') : PatsRow n w' g m xs := by
  obtain ⟨cur, hh, hz, hl, hk⟩ := h
  refine ⟨cur, by rw [hb.block g (heap_lt hh)]; exact hh, hz, hl, fun k h => ?_⟩
  obtain ⟨av, h1, h2⟩ := hk k h
  exact ⟨av, h1, h2.imp (fun pv y _ hq => PatsAt.imp n hq (fun p _ hp => hb.cell hp) (Nat.le_refl _) hb.size) (fun p _ hp => hb.cell hp) (Nat.le_refl _) hb.size⟩

theorem PatsRow.slot {n : Nat} {w : World} {g m : Nat} {xs : List (PatC (List (Pat n)))} (h : PatsRow n w g m xs) {k : Nat} (hk : k < m) : ∃ u0 u1 u2 u3 u4, w.cell? ⟨g, k * 5, none⟩ = some u0 ∧ w.cell? ⟨g, k * 5 + 1, none⟩ = some u1 ∧ w.cell? ⟨g, k * 5 + 2, none⟩ = some u2 ∧ w.cell? ⟨g, k * 5 + 3, none⟩ = some u3 ∧ w.cell? ⟨g, k * 5 + 4, none⟩ = some u4 ∧
    w.frozen? ⟨g, k * 5, none⟩ = false ∧ w.frozen? ⟨g, k * 5 + 1, none⟩ = false ∧ w.frozen? ⟨g, k * 5 + 2, none⟩ = false ∧ w.frozen? ⟨g, k * 5 + 3, none⟩ = false ∧ w.frozen? ⟨g, k * 5 + 4, none⟩ = false := by
  obtain ⟨cur, hh, hz, _⟩ := h
  refine ⟨cur[k * 5]'(by omega), cur[k * 5 + 1]'(by omega), cur[k * 5 + 2]'(by omega), cur[k * 5 + 3]'(by omega), cur[k * 5 + 4]'(by omega), ?_, ?_, ?_, ?_, ?_, Lib.frozen_of_heap hh _, Lib.frozen_of_heap hh _, Lib.frozen_of_heap hh _, Lib.frozen_of_heap hh _, Lib.frozen_of_heap hh _⟩ <;> rw [Lib.cell_of_heap hh] <;> exact Array.getElem?_eq_getElem _

theorem PatsRow.put {n : Nat} {w : World} {g m : Nat} {xs : List (PatC (List (Pat n)))} (h : PatsRow n w g m xs) (x : PatC (List (Pat n))) (av : Value) (hx : AltsAt (PatsAt n w (g + 1) w.heap.size) w (g + 1) w.heap.size av x.alts) (hk : xs.length < m) :
    PatsRow n (((((w.setCell ⟨g, xs.length * 5, none⟩ (.int .i64 x.low)).setCell ⟨g, xs.length * 5 + 1, none⟩ (.int .i64 x.high)).setCell ⟨g, xs.length * 5 + 2, none⟩ (.string x.codes)).setCell ⟨g, xs.length * 5 + 3, none⟩ (.string x.text)).setCell ⟨g, xs.length * 5 + 4, none⟩ av) g m (xs ++ [x]) := by
  obtain ⟨cur, hh, hz, hl, hq⟩ := h
  have far : ∀ p : Addr, g + 1 ≤ p.block → (((((w.setCell ⟨g, xs.length * 5, none⟩ (.int .i64 x.low)).setCell ⟨g, xs.length * 5 + 1, none⟩ (.int .i64 x.high)).setCell ⟨g, xs.length * 5 + 2, none⟩ (.string x.codes)).setCell ⟨g, xs.length * 5 + 3, none⟩ (.string x.text)).setCell ⟨g, xs.length * 5 + 4, none⟩ av).cell? p = w.cell? p := fun p hp => by
    rw [cell_set_far _ _ p _ (by show p.block ≠ g; omega), cell_set_far _ _ p _ (by show p.block ≠ g; omega), cell_set_far _ _ p _ (by show p.block ≠ g; omega), cell_set_far _ _ p _ (by show p.block ≠ g; omega), cell_set_far _ _ p _ (by show p.block ≠ g; omega)]
  have keep : ∀ (bv : Value) (zs : List (List (Pat n))), AltsAt (PatsAt n w (g + 1) w.heap.size) w (g + 1) w.heap.size bv zs → AltsAt (PatsAt n _ (g + 1) _) _ (g + 1) _ bv zs := fun bv zs hp =>
    hp.imp (fun pv y _ hq => PatsAt.imp n hq (fun p h1 _ => far p h1) (Nat.le_refl _) (Nat.le_refl _)) (fun p h1 _ => far p h1) (Nat.le_refl _) (Nat.le_refl _)
  refine ⟨_, heap_setCell_same _ _ _ _ _ _ (heap_setCell_same _ _ _ _ _ _ (heap_setCell_same _ _ _ _ _ _ (heap_setCell_same _ _ _ _ _ _ (heap_setCell_same _ _ _ _ _ _ hh)))), by simp [hz], by simp; omega, fun k hk' => ?_⟩
  have hsz : (((((w.setCell ⟨g, xs.length * 5, none⟩ (.int .i64 x.low)).setCell ⟨g, xs.length * 5 + 1, none⟩ (.int .i64 x.high)).setCell ⟨g, xs.length * 5 + 2, none⟩ (.string x.codes)).setCell ⟨g, xs.length * 5 + 3, none⟩ (.string x.text)).setCell ⟨g, xs.length * 5 + 4, none⟩ av).heap.size = w.heap.size := by simp
  rw [hsz]
  rcases Nat.lt_or_ge k xs.length with h1 | h1
  · rw [List.getElem_append_left h1]
    obtain ⟨bv, h2, h3⟩ := hq k h1
    refine ⟨bv, fun j u hu => ?_, keep _ _ h3⟩
    have hj : j < 5 := by
      rcases Nat.lt_or_ge j 5 with h | h
      · exact h
      · rw [Array.getElem?_eq_none (by simpa [PatC.cells] using h)] at hu; cases hu
    rw [Array.getElem?_setIfInBounds_ne (by omega), Array.getElem?_setIfInBounds_ne (by omega), Array.getElem?_setIfInBounds_ne (by omega), Array.getElem?_setIfInBounds_ne (by omega), Array.getElem?_setIfInBounds_ne (by omega)]
    exact h2 j u hu
  · obtain rfl : k = xs.length := by simp at hk'; omega
    rw [List.getElem_append_right (by omega)]
    simp only [Nat.sub_self, List.getElem_cons_zero]
    refine ⟨av, fun j u hu => ?_, keep _ _ hx⟩
    match j, hu with
    | 0, hu =>
      rw [Array.getElem?_setIfInBounds_ne (by omega), Array.getElem?_setIfInBounds_ne (by omega), Array.getElem?_setIfInBounds_ne (by omega), Array.getElem?_setIfInBounds_ne (by omega), Nat.add_zero, Array.getElem?_setIfInBounds_self_of_lt (by omega)]
      exact hu
    | 1, hu =>
      rw [Array.getElem?_setIfInBounds_ne (by omega), Array.getElem?_setIfInBounds_ne (by omega), Array.getElem?_setIfInBounds_ne (by omega), Array.getElem?_setIfInBounds_self_of_lt (by simp; omega)]
      exact hu
    | 2, hu =>
      rw [Array.getElem?_setIfInBounds_ne (by omega), Array.getElem?_setIfInBounds_ne (by omega), Array.getElem?_setIfInBounds_self_of_lt (by simp; omega)]
      exact hu
    | 3, hu =>
      rw [Array.getElem?_setIfInBounds_ne (by omega), Array.getElem?_setIfInBounds_self_of_lt (by simp; omega)]
      exact hu
    | 4, hu =>
      rw [Array.getElem?_setIfInBounds_self_of_lt (by simp; omega)]
      exact hu
    | j + 5, hu => rw [Array.getElem?_eq_none (by simp [PatC.cells])] at hu; cases hu

theorem PatsRow.at_ {n : Nat} {w : World} {g m : Nat} {xs : List (PatC (List (Pat n)))} (h : PatsRow n w g m xs) (hm : xs.length = m) : PatsAt (n + 1) w g w.heap.size (.slice (some ⟨g, 0, none⟩) m m) xs := by
  obtain ⟨cur, hh, hz, hl, hq⟩ := h
  refine ⟨some ⟨g, 0, none⟩, m, by rw [← hm]; rfl, by show xs.length ≤ m; omega, fun _ => ⟨_, rfl, Nat.le_refl _, heap_lt hh, fun k x hx => ?_⟩⟩
  obtain ⟨hk, rfl⟩ := List.getElem?_eq_some_iff.1 hx
  obtain ⟨av, h1, h2⟩ := hq k hk
  exact ⟨av, fun j u hu => by rw [addr_row, Lib.cell_of_heap hh]; exact h1 j u hu, h2.imp (fun pv y _ hq => PatsAt.imp n hq (fun _ _ _ => rfl) (by omega) (Nat.le_refl _)) (fun _ _ _ => rfl) (by omega) (Nat.le_refl _)⟩

def ToS (n : Nat) : Prop := ∀ (v : Value) (xs : List (Pat n)) (w : World), Pats n w v xs → PatsOk n 1048576 xs →
  Calls Tryd.prog 6 #[v] w fun e w' => ∃ v', e = .returned v' ∧ PatsAt n w' w.heap.size w'.heap.size v' xs ∧ Below w.heap.size w w'

set_option maxRecDepth 8000 in
theorem toAlts_any {n : Nat} (IH : ToS n) (v : Value) (ys : List (List (Pat n))) (w : World) (h : AltsOf n w v ys) (hl : ys.length ≤ 1048576) (hok : ∀ y ∈ ys, PatsOk n 1048576 y) :
    Calls Tryd.prog 21 #[v] w fun e w' => ∃ v', e = .returned v' ∧ AltsAt (PatsAt n w' w.heap.size w'.heap.size) w' w.heap.size w'.heap.size v' ys ∧ Below w.heap.size w w' := by
  have H := Lib.hid h
  have HI := Lib.hid IH; clear IH
  have HOK := Lib.hid hok; clear hok
  obtain ⟨A, c, rfl⟩ := h.form; clear h
  have hmk := fun W => run_make_pats ys.length hl W
  have HZ : Hid (AltsRow n (w.alloc (.cells (zPats ys.length) 25)) w.heap.size ys.length []) := ⟨_, heap_alloc_new w _, by simp [zPats, madeCells], by simp, fun k h => absurd h (by simp)⟩
  generalize hz : zPats ys.length = zs at *
  clear hz
  go_enter Tryd.func21, Tryd.ntmps21
  go_wp2
  go_loopw [4] (fun i wr => ∃ k : Nat, k ≤ ys.length ∧ i = .int .i64 k ∧ Hid (AltsRow n wr w.heap.size ys.length (ys.take k)) ∧ Below w.heap.size w wr) (fun i _ => ys.length - (intOf i).toNat)
  case atStart => exact ⟨0, Nat.zero_le _, rfl, HZ.out, ((Below.refl _ _).alloc (Nat.le_refl _) _)⟩
  case round =>
    obtain ⟨k, hk, rfl, HO, hbel⟩ := hrel
    by_cases hlt : k < ys.length
    · have HB := Lib.hid hbel
      obtain ⟨ad, pv, rfl, hbl, hc, hp⟩ := (H.out.on hbel).get hlt
      have HT := Lib.hid (List.take_succ_eq_append_getElem hlt)
      have HC := Lib.hid (HI.out pv ys[k] wr hp (HOK.out _ (List.getElem_mem hlt)))
      have htk : (ys.take k).length = k := by simp; omega
      have HTK := Lib.hid htk; clear htk
      clear hp
      generalize ys[k] = y at *
      go_wp2_with fail
      refine HC.out.mono ?_
      rintro e w2 ⟨v', rfl, hp2, b2⟩
      have hbs := hbel.size
      have HO2 := Lib.hid (AltsRow.on HO.out b2)
      have HB2 := Lib.hid (below_trans HB.out b2)
      have HP2 := Lib.hid (PatsAt.imp n hp2 (fun _ _ _ => rfl) (show w.heap.size + 1 ≤ wr.heap.size by obtain ⟨cur, hh, _⟩ := HO.out; have := heap_lt hh; omega) (Nat.le_refl _))
      obtain ⟨u0, s0, f0⟩ := AltsRow.slot HO2.out hlt
      obtain ⟨A2, c2, rfl⟩ := hp2.form
      clear hp2 b2 HO hc
      go_wp2_with fail
      refine ⟨⟨k + 1, by omega, by go_num, ?_, HB2.out.setCell (p := ⟨w.heap.size, k, none⟩) (Nat.le_refl _) _⟩, by simp [intOf]; omega⟩
      show AltsRow _ _ _ _ _
      have hp := AltsRow.put HO2.out _ y HP2.out (by rw [HTK.out]; exact hlt)
      rw [HTK.out] at hp
      rw [HT.out]
      exact hp
    · obtain rfl : k = ys.length := by omega
      rw [List.take_length] at HO
      go_wp2
      go_ret
      exact ⟨_, rfl, HO.out.at_ rfl, hbel⟩

set_option maxHeartbeats 1000000 in
set_option maxRecDepth 8000 in
theorem toItem_any {n : Nat} (IH : ToS n) (x : PatC (List (Pat n))) (av : Value) (w : World) (h : AltsOf n w av x.alts) (hl : x.alts.length ≤ 1048576) (hok : ∀ y ∈ x.alts, PatsOk n 1048576 y) :
    Calls Tryd.prog 12 #[.agg (x.cells av)] w fun e w' => ∃ av', e = .returned (.agg (x.cells av')) ∧ AltsAt (PatsAt n w' w.heap.size w'.heap.size) w' w.heap.size w'.heap.size av' x.alts ∧ Below w.heap.size w w' := by
  obtain ⟨lo, hi, codes, text, alts⟩ := x
  simp only [PatC.cells] at *
  have H := Lib.hid h
  have HI := Lib.hid (fun W (h1 : AltsOf n W av alts) => toAlts_any IH av alts W h1 hl hok); clear IH hok
  obtain ⟨A, c, rfl⟩ := h.form; clear h
  obtain ⟨W1, hW1⟩ : ∃ W1, w.alloc (.cells #[.int .i64 lo, .int .i64 hi, .string codes, .string text, .slice A alts.length c] 32) = W1 := ⟨_, rfl⟩
  have hb1 : Below w.heap.size w W1 := by rw [← hW1]; exact ((Below.refl _ _).alloc (Nat.le_refl _) _)
  have hs1 : W1.heap.size = w.heap.size + 1 := by rw [← hW1]; simp
  have C0 : W1.heap[w.heap.size]? = some (.cells #[.int .i64 lo, .int .i64 hi, .string codes, .string text, .slice A alts.length c] 32 (0, 0)) := by rw [← hW1]; exact heap_alloc_new _ _
  obtain ⟨W2, hW2⟩ : ∃ W2, W1.alloc (.cells #[.int .i64 0, .int .i64 0, .string ⟨#[]⟩, .string ⟨#[]⟩, .slice none 0 0] 36) = W2 := ⟨_, rfl⟩
  have hb2 : Below W1.heap.size W1 W2 := by rw [← hW2]; exact ((Below.refl _ _).alloc (Nat.le_refl _) _)
  have hs2 : W2.heap.size = w.heap.size + 1 + 1 := by rw [← hW2]; simp [hs1]
  have R0 : W2.heap[w.heap.size + 1]? = some (.cells #[.int .i64 0, .int .i64 0, .string ⟨#[]⟩, .string ⟨#[]⟩, .slice none 0 0] 36 (0, 0)) := by rw [← hW2, ← hs1]; exact heap_alloc_new _ _
  obtain ⟨W3, hW3⟩ : ∃ W3, W2.alloc (.cells #[.int .i64 lo, .int .i64 hi, .string codes, .string text, .slice none 0 0] 36) = W3 := ⟨_, rfl⟩
  have hb3 : Below W2.heap.size W2 W3 := by rw [← hW3]; exact ((Below.refl _ _).alloc (Nat.le_refl _) _)
  have hs3 : W3.heap.size = w.heap.size + 1 + 1 + 1 := by rw [← hW3]; simp [hs2]
  have O0 : W3.heap[w.heap.size + 1 + 1]? = some (.cells #[.int .i64 lo, .int .i64 hi, .string codes, .string text, .slice none 0 0] 36 (0, 0)) := by rw [← hW3, ← hs2]; exact heap_alloc_new _ _
  have R3 : W3.heap[w.heap.size + 1]? = some (.cells #[.int .i64 0, .int .i64 0, .string ⟨#[]⟩, .string ⟨#[]⟩, .slice none 0 0] 36 (0, 0)) := (hb3.block _ (by omega)).trans R0
  have C3 : W3.heap[w.heap.size]? = some (.cells #[.int .i64 lo, .int .i64 hi, .string codes, .string text, .slice A alts.length c] 32 (0, 0)) := (hb3.block _ (by omega)).trans ((hb2.block _ (by omega)).trans C0)
  have HB3 := Lib.hid (below_trans (below_trans hb1 hb2) hb3)
  have HE : Hid (((w.alloc (.cells #[.int .i64 lo, .int .i64 hi, .string codes, .string text, .slice A alts.length c] 32)).alloc (.cells #[.int .i64 0, .int .i64 0, .string ⟨#[]⟩, .string ⟨#[]⟩, .slice none 0 0] 36)).alloc (.cells #[.int .i64 lo, .int .i64 hi, .string codes, .string text, .slice none 0 0] 36) = W3) := by show _ = _; rw [hW1, hW2, hW3]
  have HC := Lib.hid (HI.out W3 (H.out.on HB3.out))
  have HO := Lib.hid O0; have HR := Lib.hid R3; have HCC := Lib.hid C3; have HS3 := Lib.hid hs3
  clear hW1 hW2 hW3 hb1 hb2 hb3 hs1 hs2 hs3 C0 R0 O0 R3 C3 HI H
  go_enter Tryd.func12, Tryd.ntmps12
  go_wp2_with fail
  rw [HE.out]
  refine HC.out.mono ?_
  rintro e w1 ⟨av', rfl, hal, b1⟩
  have hO1 := (b1.block _ (by rw [HS3.out]; omega)).trans HO.out
  have hR1 := (b1.block _ (by rw [HS3.out]; omega)).trans HR.out
  have hC1 := (b1.block _ (by rw [HS3.out]; omega)).trans HCC.out
  have B1 := below_trans HB3.out b1
  have hw3 : w.heap.size + 1 + 1 + 1 ≤ W3.heap.size := by rw [HS3.out]; omega
  have hs1 : w.heap.size + 1 + 1 + 1 ≤ w1.heap.size := by have := b1.size; rw [HS3.out] at this; exact this
  have HAL := Lib.hid hal
  obtain ⟨A2, c2, hv2, _⟩ := hal
  subst hv2
  clear HO HR HCC HC HE b1 HB3 HS3
  have c1_0 : w1.cell? ⟨w.heap.size, 0, none⟩ = some (.int .i64 lo) := by rw [Lib.cell_of_heap hC1]; rfl
  have d1_0 : w1.cell? ⟨w.heap.size + 1 + 1, 0, none⟩ = some (.int .i64 lo) := by rw [Lib.cell_of_heap hO1]; rfl
  have d1_1 : w1.cell? ⟨w.heap.size + 1 + 1, 1, none⟩ = some (.int .i64 hi) := by rw [Lib.cell_of_heap hO1]; rfl
  have d1_2 : w1.cell? ⟨w.heap.size + 1 + 1, 2, none⟩ = some (.string codes) := by rw [Lib.cell_of_heap hO1]; rfl
  have d1_3 : w1.cell? ⟨w.heap.size + 1 + 1, 3, none⟩ = some (.string text) := by rw [Lib.cell_of_heap hO1]; rfl
  have d1_4 : w1.cell? ⟨w.heap.size + 1 + 1, 4, none⟩ = some (.slice none 0 0) := by rw [Lib.cell_of_heap hO1]; rfl
  have f1_4 : w1.frozen? ⟨w.heap.size + 1 + 1, 4, none⟩ = false := Lib.frozen_of_heap hO1 4
  have r0 : w1.cell? ⟨w.heap.size + 1, 0, none⟩ = some (.int .i64 0) := by rw [Lib.cell_of_heap hR1]; rfl
  have r1 : w1.cell? ⟨w.heap.size + 1, 1, none⟩ = some (.int .i64 0) := by rw [Lib.cell_of_heap hR1]; rfl
  have r2 : w1.cell? ⟨w.heap.size + 1, 2, none⟩ = some (.string ⟨#[]⟩) := by rw [Lib.cell_of_heap hR1]; rfl
  have r3 : w1.cell? ⟨w.heap.size + 1, 3, none⟩ = some (.string ⟨#[]⟩) := by rw [Lib.cell_of_heap hR1]; rfl
  have r4 : w1.cell? ⟨w.heap.size + 1, 4, none⟩ = some (.slice none 0 0) := by rw [Lib.cell_of_heap hR1]; rfl
  have g0 : w1.frozen? ⟨w.heap.size + 1, 0, none⟩ = false := Lib.frozen_of_heap hR1 0
  have g1 : w1.frozen? ⟨w.heap.size + 1, 1, none⟩ = false := Lib.frozen_of_heap hR1 1
  have g2 : w1.frozen? ⟨w.heap.size + 1, 2, none⟩ = false := Lib.frozen_of_heap hR1 2
  have g3 : w1.frozen? ⟨w.heap.size + 1, 3, none⟩ = false := Lib.frozen_of_heap hR1 3
  have g4 : w1.frozen? ⟨w.heap.size + 1, 4, none⟩ = false := Lib.frozen_of_heap hR1 4
  have HRR := Lib.hid hR1
  clear hO1 hR1 hC1
  go_wp2_with fail
  have far : ∀ p : Addr, w.heap.size + 1 + 1 < p.block → ((((((w1.setCell ⟨w.heap.size + 1 + 1, 4, none⟩ (.slice A2 alts.length c2)).setCell ⟨w.heap.size + 1, 0, none⟩ (.int .i64 lo)).setCell ⟨w.heap.size + 1, 1, none⟩ (.int .i64 hi)).setCell ⟨w.heap.size + 1, 2, none⟩ (.string codes)).setCell ⟨w.heap.size + 1, 3, none⟩ (.string text)).setCell ⟨w.heap.size + 1, 4, none⟩ (.slice A2 alts.length c2)).cell? p = w1.cell? p := fun p hp => by
    rw [cell_set_far _ _ p _ (by show p.block ≠ w.heap.size + 1; omega), cell_set_far _ _ p _ (by show p.block ≠ w.heap.size + 1; omega), cell_set_far _ _ p _ (by show p.block ≠ w.heap.size + 1; omega), cell_set_far _ _ p _ (by show p.block ≠ w.heap.size + 1; omega), cell_set_far _ _ p _ (by show p.block ≠ w.heap.size + 1; omega), cell_set_far _ _ p _ (by show p.block ≠ w.heap.size + 1 + 1; omega)]
  refine bodyPost_ret (results_cell_row rfl _ _ (w.heap.size + 1) 36 #[.int .i64 lo, .int .i64 hi, .string codes, .string text, .slice A2 alts.length c2] (0, 0) _ rfl ?_ Tryd.underlying36 rfl (by kernel_rfl)) rfl ⟨.slice A2 alts.length c2, rfl, ?_, ?_⟩
  · have q0 := HRR.out
    rw [← heap_setCell_other w1 ⟨w.heap.size + 1 + 1, 4, none⟩ (w.heap.size + 1) (.slice A2 alts.length c2) (by simp)] at q0
    exact (heap_setCell_same _ _ 4 _ _ _ (heap_setCell_same _ _ 3 _ _ _ (heap_setCell_same _ _ 2 _ _ _ (heap_setCell_same _ _ 1 _ _ _ (heap_setCell_same _ _ 0 _ _ _ q0)))))
  · exact HAL.out.imp (fun pv y _ hq => PatsAt.imp n hq (fun p h1 _ => far p (by omega)) (by omega) (by simp)) (fun p h1 _ => far p (by omega)) (by omega) (by simp)
  · exact (((((B1.setCell (p := ⟨w.heap.size + 1 + 1, 4, none⟩) (by simp; omega) _).setCell (p := ⟨w.heap.size + 1, 0, none⟩) (by simp) _).setCell (p := ⟨w.heap.size + 1, 1, none⟩) (by simp) _).setCell (p := ⟨w.heap.size + 1, 2, none⟩) (by simp) _).setCell (p := ⟨w.heap.size + 1, 3, none⟩) (by simp) _).setCell (p := ⟨w.heap.size + 1, 4, none⟩) (by simp) _

set_option maxRecDepth 8000 in
theorem toPats_succ {n : Nat} (IH : ToS n) : ToS (n + 1) := by
  intro v xs0 w h hok
  obtain ⟨xs, hxs⟩ : ∃ xs : List (PatC (List (Pat n))), xs = xs0 := ⟨xs0, rfl⟩
  subst hxs
  have hl : xs.length ≤ 1048576 := hok.1
  have HOK : Hid (∀ x ∈ xs, x.codes.size ≤ 1048576 ∧ x.text.size ≤ 1048576 ∧ x.alts.length ≤ 1048576 ∧ ∀ y ∈ x.alts, PatsOk n 1048576 y) := hok.2
  have H : Hid (Pats (n + 1) w v xs) := h
  have HI := Lib.hid IH; clear IH hok
  obtain ⟨A, c, hv⟩ : ∃ A c, v = .slice A xs.length c := h.form
  subst hv; clear h
  have hmk := fun W => run_make_pat xs.length hl W
  have HZ : Hid (PatsRow n (w.alloc (.cells (zPat xs.length) 36)) w.heap.size xs.length []) := ⟨_, heap_alloc_new w _, by simp [zPat, madeCells], by simp, fun k h => absurd h (by simp)⟩
  generalize hz : zPat xs.length = zs at *
  clear hz
  go_enter Tryd.func6, Tryd.ntmps6
  go_wp2
  go_loopw [4] (fun i wr => ∃ k : Nat, k ≤ xs.length ∧ i = .int .i64 k ∧ Hid (PatsRow n wr w.heap.size xs.length (xs.take k)) ∧ Below w.heap.size w wr) (fun i _ => xs.length - (intOf i).toNat)
  case atStart => exact ⟨0, Nat.zero_le _, rfl, HZ.out, ((Below.refl _ _).alloc (Nat.le_refl _) _)⟩
  case round =>
    obtain ⟨k, hk, rfl, HO, hbel⟩ := hrel
    by_cases hlt : k < xs.length
    · have HB := Lib.hid hbel
      obtain ⟨ad, av, rfl, hbl, hal, a0, a1, a2, a3, a4⟩ := (Pats.on H.out hbel).get hlt
      have HT := Lib.hid (List.take_succ_eq_append_getElem hlt)
      have hx := HOK.out _ (List.getElem_mem hlt)
      have HC := Lib.hid (toItem_any HI.out xs[k] av wr hal hx.2.2.1 hx.2.2.2)
      have htk : (xs.take k).length = k := by simp; omega
      have HTK := Lib.hid htk; clear htk
      clear hx
      obtain ⟨A', c', rfl⟩ := hal.form; clear hal
      generalize xs[k] = x at *
      obtain ⟨lo, hi, codes, text, alts⟩ := x
      simp only [PatC.cells] at *
      go_wp2_with fail
      refine HC.out.mono ?_
      rintro e w2 ⟨v', rfl, hp2, b2⟩
      have hbs := hbel.size
      have HO2 := Lib.hid (PatsRow.on HO.out b2)
      have HB2 := Lib.hid (below_trans HB.out b2)
      have hg : w.heap.size + 1 ≤ wr.heap.size := by obtain ⟨cur, hh, _⟩ := HO.out; have := heap_lt hh; omega
      have HP2 := Lib.hid (hp2.imp (Q' := PatsAt n w2 (w.heap.size + 1) w2.heap.size) (fun pv y _ hq => PatsAt.imp n hq (fun _ _ _ => rfl) hg (Nat.le_refl _)) (fun _ _ _ => rfl) hg (Nat.le_refl _))
      obtain ⟨u0, u1, u2, u3, u4, s0, s1, s2, s3, s4, f0, f1, f2, f3, f4⟩ := PatsRow.slot HO2.out hlt
      obtain ⟨A2, c2, hv2, _⟩ := hp2
      subst hv2
      clear b2 HO a0 a1 a2 a3 a4 hg
      go_wp2_with fail
      refine ⟨⟨k + 1, by omega, by go_num, ?_, ((((HB2.out.setCell (p := ⟨w.heap.size, k * 5, none⟩) (Nat.le_refl _) _).setCell (p := ⟨w.heap.size, k * 5 + 1, none⟩) (Nat.le_refl _) _).setCell (p := ⟨w.heap.size, k * 5 + 2, none⟩) (Nat.le_refl _) _).setCell (p := ⟨w.heap.size, k * 5 + 3, none⟩) (Nat.le_refl _) _).setCell (p := ⟨w.heap.size, k * 5 + 4, none⟩) (Nat.le_refl _) _⟩, by simp [intOf]; omega⟩
      show PatsRow _ _ _ _ _
      have hp := PatsRow.put HO2.out ⟨lo, hi, codes, text, alts⟩ _ HP2.out (by rw [HTK.out]; exact hlt)
      rw [HTK.out] at hp
      rw [HT.out]
      exact hp
    · obtain rfl : k = xs.length := by omega
      rw [List.take_length] at HO
      go_wp2
      go_ret
      exact ⟨_, rfl, PatsRow.at_ HO.out rfl, hbel⟩

set_option maxRecDepth 8000 in
theorem toPats_zero : ToS 0 := by
  intro v xs w h hok
  obtain ⟨A, c, rfl⟩ := h
  obtain ⟨zs, hmk⟩ : ∃ zs, ∀ W : World, (Instr.makeSlice 25 (.int .i64 0) (.int .i64 0)).run Tryd.prog W = .ok (.slice (some ⟨W.heap.size, 0, none⟩) 0 0) (W.alloc (.cells zs 36)) := ⟨_, fun W => run_make_pat 0 (by omega) W⟩
  go_enter Tryd.func6, Tryd.ntmps6
  go_wp2
  go_loop [4] (fun i => i = .int .i64 0) (fun _ => 0)
  case atStart => rfl
  case round =>
    obtain rfl := hrel
    go_wp2
    go_ret
    exact ⟨_, rfl, ⟨_, _, rfl⟩, ((Below.refl _ _).alloc (Nat.le_refl _) _)⟩

theorem toPats_any : ∀ n, ToS n
  | 0 => toPats_zero
  | n + 1 => toPats_succ (toPats_any n)

end Go.Proofs.YtcjlokojppicnaaDoor
