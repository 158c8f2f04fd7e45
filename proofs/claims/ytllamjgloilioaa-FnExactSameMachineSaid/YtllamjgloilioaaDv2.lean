/- Plain data in memory: strings' slices, read both ways; a row under construction; equality. -/
import Derived.Test.YtllamjgloilioaaDv
import Derived.Test.YtllamjgloilioaaSubsL
namespace Go.Proofs.Ytllamjgloilioaa
open Go.RowKit Go.WideShapes Go.ChangeShapes Go.Deep
set_option linter.unusedVariables false

/-- b tells whether two data are one. -/
def EqB (b : Bool) (x y : DV) : Prop := b = true ↔ x = y

/-- A call has told whether two data are one. -/
def GotB (e : Ending) (x y : DV) : Prop := ∃ b, e = .returned (.bool b) ∧ EqB b x y

/-- A slice of strings as data. -/
theorem Rd.strs_list : ∀ (n : Nat) (ds : List DV) (w : World) (lo hi : Nat) (A : Option Addr) (c : Nat), ds.length = n → Rd w lo hi (.sl .str) [.slice A n c] (.sl ds) → ∃ xs : List ByteArray, ds = xs.map .str ∧ n ≤ c ∧ (0 < n → ∃ ad, A = some ad ∧ lo ≤ ad.block ∧ ad.block < hi ∧ ∀ k x, xs[k]? = some x → w.cell? (ad.add k) = some (.string x)) := by
  intro n ds w lo hi A c hn h
  cases h with
  | sl0 A c => exact ⟨[], rfl, Nat.zero_le _, fun h => absurd h (by omega)⟩
  | sl ad c ds ec h1 h2 h3 h4 h5 =>
    have hg : ∀ k, ∃ x : ByteArray, k < ds.length → ds[k]? = some (.str x) ∧ w.cell? (ad.add k) = some (.string x) := fun k => by
      by_cases hk : k < ds.length
      · have e := List.getElem?_eq_getElem hk
        obtain ⟨x, hx, hd⟩ := (h5 k _ e).inv_str
        refine ⟨x, fun _ => ⟨by rw [e, hd], ?_⟩⟩
        have := (h4 k _ e).2 0 (.string x) (by rw [hx]; rfl)
        simpa [Ty.size] using this
      · exact ⟨⟨#[]⟩, fun h => absurd h hk⟩
    obtain ⟨f, hf⟩ := Classical.axiomOfChoice hg
    refine ⟨(List.range ds.length).map f, ?_, h1, fun _ => ⟨ad, rfl, h2, h3, fun k x hx => ?_⟩⟩
    · apply List.ext_getElem?
      intro k
      rw [List.getElem?_map, List.getElem?_map]
      by_cases hk : k < ds.length
      · rw [(hf k hk).1, List.getElem?_range hk]; rfl
      · rw [List.getElem?_eq_none (by omega), List.getElem?_eq_none (by simp; omega)]; rfl
    · rw [List.getElem?_map] at hx
      have hk : k < ds.length := by
        rcases Nat.lt_or_ge k ds.length with h | h
        · exact h
        · rw [List.getElem?_eq_none (by simpa using h)] at hx; cases hx
      rw [List.getElem?_range hk] at hx
      simp at hx
      subst hx
      exact (hf k hk).2

theorem At.strs {w : World} {v : Value} {d : DV} (h : At w (.sl .str) [v] d) : ∃ xs : List ByteArray, d = .sl (xs.map .str) ∧ StrsAt w w.heap.size v xs := by
  obtain ⟨A, c, ds, e, rfl, _, h1⟩ := Rd.inv_sl h
  simp only [List.cons.injEq, and_true] at e
  subst e
  obtain ⟨xs, rfl, h2, h3⟩ := Rd.strs_list _ _ _ _ _ _ _ rfl h1
  rw [List.length_map] at h2 h3 ⊢
  refine ⟨xs, rfl, A, c, rfl, h2, by simp [strVs], fun hn => ?_⟩
  obtain ⟨ad, rfl, _, hb, hc⟩ := h3 hn
  refine ⟨ad, rfl, hb, fun j u hu => ?_⟩
  rw [strVs, List.getElem?_map] at hu
  cases hx : xs[j]? with
  | none => rw [hx] at hu; cases hu
  | some x => rw [hx] at hu; simp at hu; subst hu; exact hc j x hx

theorem Strs.rd {w : World} {base : Nat} {v : Value} {xs : List ByteArray} (h : Strs w base v xs) : Rd w base w.heap.size (.sl .str) [v] (.sl (xs.map .str)) := by
  have hl := World.ownsRow.lt h
  rcases h.2 with ⟨rfl, hn⟩ | ⟨g, cap, cur, rfl, hg, hh, hr⟩
  · obtain rfl : xs = [] := List.eq_nil_of_length_eq_zero hn
    exact .sl0 _ _
  · have hb := (hl g rfl).2
    have := Rd.sl (w := w) (lo := base) (hi := w.heap.size) (e := .str) ⟨g, 0, none⟩ cap (xs.map .str) (fun k => match xs[k]? with | some x => [.string x] | none => []) (by rw [List.length_map]; exact hr.1) hg hb (fun k d hd => by
      rw [List.getElem?_map] at hd
      cases hx : xs[k]? with
      | none => rw [hx] at hd; cases hd
      | some x =>
        refine ⟨rfl, fun j u hu => ?_⟩
        match j, hu with
        | 0, hu =>
          simp at hu
          subst hu
          have := World.ownsRow.cells (g := g) h rfl k (.string x) (by rw [strVs, List.getElem?_map, hx]; rfl)
          simpa [Ty.size] using this
        | j + 1, hu => simp at hu) (fun k d hd => by
      rw [List.getElem?_map] at hd
      cases hx : xs[k]? with
      | none => rw [hx] at hd; cases hd
      | some x => rw [hx] at hd; simp at hd; subst hd; exact .str x)
    rw [List.length_map] at this
    exact this

theorem strs_fits {M : Nat} {xs : List ByteArray} (h : Fits M (.sl (xs.map .str))) : xs.length ≤ M ∧ ∀ x ∈ xs, x.size ≤ M := by
  refine ⟨by have := h.len; rwa [List.length_map] at this, fun x hx => ?_⟩
  exact (h.mem (.str x) (List.mem_map_of_mem hx)).str_

theorem fits_strs {M : Nat} {xs : List ByteArray} (h1 : xs.length ≤ M) (h2 : ∀ x ∈ xs, x.size ≤ M) : Fits M (.sl (xs.map .str)) :=
  .sl _ (by rwa [List.length_map]) (fun d hd => by obtain ⟨x, hx, rfl⟩ := List.mem_map.1 hd; exact .str x (h2 x hx))

theorem map_str_inj : ∀ {xs ys : List ByteArray}, xs.map DV.str = ys.map DV.str → xs = ys
  | [], [], _ => rfl
  | x :: r, y :: s, h => by
    rw [List.map_cons, List.map_cons, List.cons.injEq] at h
    obtain ⟨h1, h2⟩ := h
    injection h1 with h1
    rw [h1, map_str_inj h2]
  | [], y :: s, h => by simp at h
  | x :: r, [], h => by simp at h

theorem strs_inj {xs ys : List ByteArray} : (DV.sl (xs.map .str) = .sl (ys.map .str)) ↔ xs = ys := by
  constructor
  · intro h
    injection h with h
    exact map_str_inj h
  · intro h; rw [h]

theorem szStringS_dv (v : Value) (d : DV) (left : Int) (w : World) (h : At w (.sl .str) [v] d) (hf : Fits maxLen d) (h0 : 0 ≤ left) (h1 : left ≤ 1048576) :
    Calls Try.prog 9 #[v, .int .i64 left] w fun e w' => (∃ q : Int, e = .returned (.int .i64 q) ∧ -1 ≤ q ∧ q ≤ left ∧ Hid (0 ≤ q → Fits 1048576 d)) ∧ Below w.heap.size w w' := by
  obtain ⟨xs, rfl, hs⟩ := h.strs
  obtain ⟨f1, f2⟩ := strs_fits hf
  refine (szStringS_ex v xs left w _ hs h0 h1 f1 f2).mono ?_
  rintro e w' ⟨q, rfl, rfl, q1, q2, hq⟩
  refine ⟨⟨q, rfl, q1, q2, fun h => ?_⟩, below_refl _⟩
  have := hq h
  exact fits_strs (by omega) (fun x hx => by have := size_le_total hx; omega)

theorem toStringS_dv (v : Value) (d : DV) (w : World) (h : At w (.sl .str) [v] d) (hf : Fits 1048576 d) :
    Calls Try.prog 17 #[v] w fun e w' => ∃ v', e = .returned v' ∧ Rd w' w.heap.size w'.heap.size (.sl .str) [v'] d ∧ Below w.heap.size w w' := by
  obtain ⟨xs, rfl, hs⟩ := h.strs
  obtain ⟨f1, f2⟩ := strs_fits hf
  refine (toStringS_any v xs w _ hs (Nat.le_refl _) f1).mono ?_
  rintro e w' ⟨v', rfl, ho, hb⟩
  exact ⟨v', rfl, ho.rd, hb⟩

theorem eqStringS_dv (v v2 : Value) (d d2 : DV) (w : World) (h : At w (.sl .str) [v] d) (h2 : At w (.sl .str) [v2] d2) (hf : Fits 1048576 d) :
    Calls Try.prog 31 #[v, v2] w fun e w' => GotB e d d2 ∧ Below w.heap.size w w' := by
  obtain ⟨xs, rfl, hs⟩ := h.strs
  obtain ⟨ys, rfl, hs2⟩ := h2.strs
  obtain ⟨f1, f2⟩ := strs_fits hf
  refine (eqStringS_any v v2 xs ys w _ hs hs2 f1).mono ?_
  rintro e w' ⟨rfl, n, rfl⟩
  refine ⟨⟨_, rfl, ?_⟩, below_drewN _ _⟩
  show _ ↔ _
  rw [strs_inj, decide_eq_true_iff]

theorem slicesEqualS_dv (v v2 : Value) (d d2 : DV) (w : World) (h : At w (.sl .str) [v] d) (h2 : At w (.sl .str) [v2] d2) (hf : Fits 1048576 d) :
    Calls Try.prog 24 #[v, v2] w fun e w' => GotB e d d2 ∧ Below w.heap.size w w' := by
  obtain ⟨xs, rfl, hs⟩ := h.strs
  obtain ⟨ys, rfl, hs2⟩ := h2.strs
  obtain ⟨f1, f2⟩ := strs_fits hf
  refine (slicesEqual_any v v2 xs ys w _ hs hs2 f1).mono ?_
  rintro e w' ⟨rfl, n, rfl⟩
  refine ⟨⟨_, rfl, ?_⟩, below_drewN _ _⟩
  show _ ↔ _
  rw [strs_inj, decide_eq_true_iff]

theorem l02Same_dv (v v2 : Value) (d d2 : DV) (w : World) (h : At w (.sl .str) [v] d) (h2 : At w (.sl .str) [v2] d2) (hf : Fits 1048576 d) :
    Calls Try.prog 44 #[v, v2] w fun e w' => GotB e d d2 ∧ Below w.heap.size w w' := by
  obtain ⟨xs, rfl, hs⟩ := h.strs
  obtain ⟨ys, rfl, hs2⟩ := h2.strs
  obtain ⟨f1, f2⟩ := strs_fits hf
  refine (l02Same_any v v2 xs ys w _ hs hs2 f1).mono ?_
  rintro e w' ⟨rfl, n, rfl⟩
  refine ⟨⟨_, rfl, ?_⟩, below_drewN _ _⟩
  show _ ↔ _
  rw [strs_inj, decide_eq_true_iff]

theorem SameSubs_dv (v v2 : Value) (d d2 : DV) (w : World) (h : At w (.sl .str) [v] d) (h2 : At w (.sl .str) [v2] d2) (hf : Fits 1048576 d) :
    Calls Try.prog 83 #[v, v2] w fun e w' => GotB e d d2 ∧ Below w.heap.size w w' := by
  obtain ⟨xs, rfl, hs⟩ := h.strs
  obtain ⟨ys, rfl, hs2⟩ := h2.strs
  obtain ⟨f1, f2⟩ := strs_fits hf
  refine (sSameSubs_any v v2 xs ys w _ hs hs2 f1).mono ?_
  rintro e w' ⟨rfl, n, rfl⟩
  refine ⟨⟨_, rfl, ?_⟩, below_drewN _ _⟩
  show _ ↔ _
  rw [strs_inj, decide_eq_true_iff]

/-- Cells written one behind the other. -/
def setRow (w : World) (g : Nat) : Nat → List Value → World
  | _, [] => w
  | off, u :: r => setRow (w.setCell ⟨g, off, none⟩ u) g (off + 1) r

def setArr (cur : Array Value) : Nat → List Value → Array Value
  | _, [] => cur
  | off, u :: r => setArr (cur.setIfInBounds off u) (off + 1) r

theorem setArr_size : ∀ (us : List Value) (cur : Array Value) (off : Nat), (setArr cur off us).size = cur.size
  | [], _, _ => rfl
  | u :: r, cur, off => by rw [setArr, setArr_size r, Array.size_setIfInBounds]

theorem setArr_out : ∀ (us : List Value) (cur : Array Value) (off i : Nat), i < off ∨ off + us.length ≤ i → (setArr cur off us)[i]? = cur[i]?
  | [], _, _, _, _ => rfl
  | u :: r, cur, off, i, h => by
    rw [List.length_cons] at h
    rw [setArr, setArr_out r _ _ _ (by omega), Array.getElem?_setIfInBounds_ne (by omega)]

theorem setArr_in : ∀ (us : List Value) (cur : Array Value) (off j : Nat), off + us.length ≤ cur.size → j < us.length → (setArr cur off us)[off + j]? = us[j]?
  | [], _, _, _, _, h => absurd h (by simp)
  | u :: r, cur, off, 0, hc, _ => by
    rw [List.length_cons] at hc
    rw [setArr, setArr_out r _ _ _ (by omega), Nat.add_zero, Array.getElem?_setIfInBounds_self_of_lt (by omega)]; rfl
  | u :: r, cur, off, j + 1, hc, h => by
    rw [List.length_cons] at hc h
    rw [setArr, show off + (j + 1) = off + 1 + j by omega, setArr_in r _ _ _ (by rw [Array.size_setIfInBounds]; omega) (by omega)]; rfl

theorem setRow_heap : ∀ (us : List Value) (w : World) (g off : Nat) (cur : Array Value) (T : TypeId), w.heap[g]? = some (.cells cur T (0, 0)) → (setRow w g off us).heap[g]? = some (.cells (setArr cur off us) T (0, 0))
  | [], _, _, _, _, _, h => h
  | u :: r, w, g, off, cur, T, h => setRow_heap r _ g (off + 1) _ T (heap_setCell_same _ _ _ _ _ _ h)

theorem setRow_below : ∀ (us : List Value) (w w0 : World) (B g off : Nat), B ≤ g → Below B w0 w → Below B w0 (setRow w g off us)
  | [], _, _, _, _, _, _, h => h
  | u :: r, w, w0, B, g, off, hg, h => setRow_below r _ w0 B g (off + 1) hg (h.setCell (p := ⟨g, off, none⟩) hg u)

theorem setRow_size : ∀ (us : List Value) (w : World) (g off : Nat), (setRow w g off us).heap.size = w.heap.size
  | [], _, _, _ => rfl
  | u :: r, w, g, off => by rw [setRow, setRow_size r]; simp

theorem setRow_rd : ∀ (us : List Value) (w : World) (g off : Nat) {lo hi : Nat} {t : Ty} {cs : List Value} {d : DV}, Rd w lo hi t cs d → g < lo ∨ hi ≤ g → Rd (setRow w g off us) lo hi t cs d
  | [], _, _, _, _, _, _, _, _, h, _ => h
  | u :: r, w, g, off, lo, hi, t, cs, d, h, hg => setRow_rd r _ g (off + 1) (h.set ⟨g, off, none⟩ u hg) hg

/-- Block g is a row of n elements of the shape e; the first hold ds; what they hold lies behind block g. -/
def Part (w : World) (g n : Nat) (T : TypeId) (e : Ty) (ds : List DV) : Prop :=
  ∃ cur, w.heap[g]? = some (.cells cur T (0, 0)) ∧ cur.size = n * e.size ∧ ds.length ≤ n ∧ ∀ k d, ds[k]? = some d → ∃ ec : List Value, ec.length = e.size ∧ (∀ j u, ec[j]? = some u → cur[k * e.size + j]? = some u) ∧ Rd w (g + 1) w.heap.size e ec d

theorem Part.lt {w : World} {g n : Nat} {T : TypeId} {e : Ty} {ds : List DV} (h : Part w g n T e ds) : g < w.heap.size := by
  obtain ⟨cur, hh, _⟩ := h
  rcases Nat.lt_or_ge g w.heap.size with h | h
  · exact h
  · rw [Array.getElem?_eq_none h] at hh; cases hh

theorem Part.on {w w' : World} {g n : Nat} {T : TypeId} {e : Ty} {ds : List DV} (h : Part w g n T e ds) (hb : Below w.heap.size w w') : Part w' g n T e ds := by
  have hlt := h.lt
  obtain ⟨cur, hh, hz, hl, hk⟩ := h
  refine ⟨cur, by rw [hb.block g hlt]; exact hh, hz, hl, fun k d hd => ?_⟩
  obtain ⟨ec, h1, h2, h3⟩ := hk k d hd
  exact ⟨ec, h1, h2, h3.imp (fun p _ hp => hb.cell hp) (Nat.le_refl _) hb.size⟩

theorem Part.put {w : World} {g n : Nat} {T : TypeId} {e : Ty} {ds : List DV} (h : Part w g n T e ds) (ec : List Value) (d : DV) (hr : Rd w (g + 1) w.heap.size e ec d) (hn : ds.length < n) : Part (setRow w g (ds.length * e.size) ec) g n T e (ds ++ [d]) := by
  obtain ⟨cur, hh, hz, hl, hk⟩ := h
  have hel := hr.len
  have hmul : (ds.length + 1) * e.size ≤ n * e.size := Nat.mul_le_mul_right _ hn
  rw [Nat.succ_mul] at hmul
  refine ⟨_, setRow_heap ec w g _ cur T hh, by rw [setArr_size, hz], by simp; omega, fun k d' hd => ?_⟩
  rw [setRow_size]
  rcases Nat.lt_trichotomy k ds.length with h1 | h1 | h1
  · rw [List.getElem?_append_left h1] at hd
    obtain ⟨ec', i1, i2, i3⟩ := hk k d' hd
    refine ⟨ec', i1, fun j u hu => ?_, setRow_rd _ _ _ _ i3 (by omega)⟩
    have hj : j < e.size := by rw [← i1]; exact (List.getElem?_eq_some_iff.1 hu).1
    have hm2 : (k + 1) * e.size ≤ ds.length * e.size := Nat.mul_le_mul_right _ h1
    rw [Nat.succ_mul] at hm2
    rw [setArr_out _ _ _ _ (by omega)]
    exact i2 j u hu
  · subst h1
    rw [List.getElem?_append_right (Nat.le_refl _), Nat.sub_self] at hd
    simp at hd
    subst hd
    refine ⟨ec, hel, fun j u hu => ?_, setRow_rd _ _ _ _ hr (by omega)⟩
    have hj := (List.getElem?_eq_some_iff.1 hu).1
    rw [setArr_in _ _ _ _ (by rw [hz, hel]; omega) hj, hu]
  · rw [List.getElem?_eq_none (by simp; omega)] at hd; cases hd

theorem Part.slot {w : World} {g n : Nat} {T : TypeId} {e : Ty} {ds : List DV} (h : Part w g n T e ds) {k : Nat} (hk : k < n) (j : Nat) (hj : j < e.size) : (∃ u, w.cell? ⟨g, k * e.size + j, none⟩ = some u) ∧ w.frozen? ⟨g, k * e.size + j, none⟩ = false := by
  obtain ⟨cur, hh, hz, _⟩ := h
  have hm2 : (k + 1) * e.size ≤ n * e.size := Nat.mul_le_mul_right _ hk
  rw [Nat.succ_mul] at hm2
  refine ⟨⟨cur[k * e.size + j]'(by omega), ?_⟩, Lib.frozen_of_heap hh _⟩
  rw [Lib.cell_of_heap hh]; exact Array.getElem?_eq_getElem _

theorem Part.rd {w : World} {g n c : Nat} {T : TypeId} {e : Ty} {ds : List DV} (h : Part w g n T e ds) (hn : ds.length = n) (hc : n ≤ c) : Rd w g w.heap.size (.sl e) [.slice (some ⟨g, 0, none⟩) n c] (.sl ds) := by
  have hlt := h.lt
  obtain ⟨cur, hh, hz, hl, hk⟩ := h
  subst hn
  have hg : ∀ k, ∃ ec : List Value, ∀ d, ds[k]? = some d → ec.length = e.size ∧ (∀ j u, ec[j]? = some u → cur[k * e.size + j]? = some u) ∧ Rd w (g + 1) w.heap.size e ec d := fun k => by
    cases hd : ds[k]? with
    | none => exact ⟨[], fun d h => by cases h⟩
    | some d =>
      obtain ⟨ec, h1⟩ := hk k d hd
      exact ⟨ec, fun d' h => by injection h with h; subst h; exact h1⟩
  obtain ⟨f, hf⟩ := Classical.axiomOfChoice hg
  refine .sl _ c ds f hc (Nat.le_refl _) hlt (fun k d hd => ⟨(hf k d hd).1, fun j u hu => ?_⟩) (fun k d hd => (hf k d hd).2.2.imp (fun _ _ _ => rfl) (by omega) (Nat.le_refl _))
  have e : (⟨g, 0, none⟩ : Addr).add (k * e.size + j) = ⟨g, k * e.size + j, none⟩ := by
    unfold Addr.add
    split
    · rename_i h0; rw [h0]
    · simp
  rw [e, Lib.cell_of_heap hh]
  exact (hf k d hd).2.1 j u hu

/-- A new row. -/
theorem Part.new (w : World) (cur : Array Value) (n : Nat) (T : TypeId) (e : Ty) (hz : cur.size = n * e.size) : Part (w.alloc (.cells cur T)) w.heap.size n T e [] := ⟨cur, heap_alloc_new w _, hz, by simp, fun k d h => by simp at h⟩

theorem sl_cons {x y : DV} {r s : List DV} : DV.sl (x :: r) = .sl (y :: s) ↔ x = y ∧ DV.sl r = .sl s := by
  constructor
  · intro h; injection h with h; injection h with h1 h2; exact ⟨h1, by rw [h2]⟩
  · rintro ⟨rfl, h⟩; injection h with h; rw [h]

theorem sl_len {r s : List DV} (h : DV.sl r = .sl s) : r.length = s.length := by injection h with h; rw [h]

end Go.Proofs.Ytllamjgloilioaa
