/- Patterns in memory: what a slice of patterns holds, in the blocks from lo on and below hi. -/
import Derived.Test.YtcjlokojppicnaaDoorPatMath
import Derived.Test.YtcjlokojppicnaaDoorStrs
namespace Go.Proofs.YtcjlokojppicnaaDoor
open Go.RowKit
set_option linter.unusedVariables false

/-- A slice of cells, each read by Q. -/
def AltsAt {α : Type} (Q : Value → α → Prop) (w : World) (lo hi : Nat) (v : Value) (ys : List α) : Prop :=
  ∃ A c, v = .slice A ys.length c ∧ ys.length ≤ c ∧ (0 < ys.length → ∃ ad, A = some ad ∧ lo ≤ ad.block ∧ ad.block < hi ∧ ∀ k (h : k < ys.length), ∃ pv, w.cell? (ad.add k) = some pv ∧ Q pv ys[k])

def PatC.cells {α : Type} (x : PatC α) (av : Value) : Array Value := #[.int .i64 x.low, .int .i64 x.high, .string x.codes, .string x.text, av]

def ItemIn {α : Type} (x : PatC α) (av : Value) (w : World) (ad : Addr) (k : Nat) : Prop := ∀ j u, (x.cells av)[j]? = some u → w.cell? (ad.add (k * 5 + j)) = some u

def PatsAt : (n : Nat) → World → Nat → Nat → Value → List (Pat n) → Prop
  | 0, w, lo, hi, v, xs => ∃ A c, v = .slice A 0 c
  | n + 1, w, lo, hi, v, xs => ∃ A c, v = .slice A xs.length c ∧ xs.length ≤ c ∧ (0 < xs.length → ∃ ad, A = some ad ∧ lo ≤ ad.block ∧ ad.block < hi ∧
      ∀ k (x : PatC (List (Pat n))), (show List (PatC (List (Pat n))) from xs)[k]? = some x → ∃ av, ItemIn x av w ad k ∧ AltsAt (PatsAt n w lo hi) w lo hi av x.alts)

theorem AltsAt.imp {α : Type} {Q Q' : Value → α → Prop} {w w' : World} {lo hi lo' hi' : Nat} {v : Value} {ys : List α} (h : AltsAt Q w lo hi v ys) (hq : ∀ pv y, y ∈ ys → Q pv y → Q' pv y) (hk : ∀ p : Addr, lo ≤ p.block → p.block < hi → w'.cell? p = w.cell? p) (hlo : lo' ≤ lo) (hhi : hi ≤ hi') : AltsAt Q' w' lo' hi' v ys := by
  obtain ⟨A, c, e, hc, hr⟩ := h
  refine ⟨A, c, e, hc, fun h0 => ?_⟩
  obtain ⟨ad, e2, h1, h2, h3⟩ := hr h0
  refine ⟨ad, e2, by omega, by omega, fun k hk' => ?_⟩
  obtain ⟨pv, h4, h5⟩ := h3 k hk'
  exact ⟨pv, (hk _ (by rw [block_of_add]; exact h1) (by rw [block_of_add]; exact h2)).trans h4, hq _ _ (List.getElem_mem _) h5⟩

theorem PatsAt.imp : ∀ (n : Nat) {w w' : World} {lo hi lo' hi' : Nat} {v : Value} {xs : List (Pat n)}, PatsAt n w lo hi v xs → (∀ p : Addr, lo ≤ p.block → p.block < hi → w'.cell? p = w.cell? p) → lo' ≤ lo → hi ≤ hi' → PatsAt n w' lo' hi' v xs
  | 0, _, _, _, _, _, _, _, _, h, _, _, _ => h
  | n + 1, w, w', lo, hi, lo', hi', v, xs, h, hk, hlo, hhi => by
    obtain ⟨A, c, e, hc, hr⟩ := h
    refine ⟨A, c, e, hc, fun h0 => ?_⟩
    obtain ⟨ad, e2, h1, h2, h3⟩ := hr h0
    refine ⟨ad, e2, by omega, by omega, fun k x hx => ?_⟩
    obtain ⟨av, h4, h5⟩ := h3 k x hx
    exact ⟨av, fun j u hu => (hk _ (by rw [block_of_add]; exact h1) (by rw [block_of_add]; exact h2)).trans (h4 j u hu), h5.imp (fun pv y _ hq => PatsAt.imp n hq hk hlo hhi) hk hlo hhi⟩

theorem PatsAt.on {n : Nat} {w w' : World} {lo hi : Nat} {v : Value} {xs : List (Pat n)} (h : PatsAt n w lo hi v xs) (hb : Below w.heap.size w w') (hh : hi ≤ w.heap.size) : PatsAt n w' lo hi v xs :=
  PatsAt.imp n h (fun p _ hp => hb.cell (Nat.lt_of_lt_of_le hp hh)) (Nat.le_refl _) (Nat.le_refl _)

/-- A pattern that lies below the world's end, somewhere. -/
def Pats (n : Nat) (w : World) (v : Value) (xs : List (Pat n)) : Prop := PatsAt n w 0 w.heap.size v xs

theorem Pats.on {n : Nat} {w w' : World} {v : Value} {xs : List (Pat n)} (h : Pats n w v xs) (hb : Below w.heap.size w w') : Pats n w' v xs :=
  PatsAt.imp n h (fun p _ hp => hb.cell hp) (Nat.le_refl _) hb.size

def AltsOf (n : Nat) (w : World) (v : Value) (ys : List (List (Pat n))) : Prop := AltsAt (PatsAt n w 0 w.heap.size) w 0 w.heap.size v ys

theorem AltsOf.on {n : Nat} {w w' : World} {v : Value} {ys : List (List (Pat n))} (h : AltsOf n w v ys) (hb : Below w.heap.size w w') : AltsOf n w' v ys :=
  h.imp (fun pv y _ hq => Pats.on hq hb) (fun p _ hp => hb.cell hp) (Nat.le_refl _) hb.size

theorem PatsAt.form {n : Nat} {w : World} {lo hi : Nat} {v : Value} {xs : List (Pat n)} (h : PatsAt n w lo hi v xs) : ∃ A c, v = .slice A xs.length c := by
  cases n with
  | zero => obtain ⟨A, c, e⟩ := h; rw [pats_zero xs]; exact ⟨A, c, e⟩
  | succ n => obtain ⟨A, c, e, _⟩ := h; exact ⟨A, c, e⟩

theorem pat_pos (a : Addr) (n : Nat) : a.add (n + 1) = ⟨a.block, a.off + (n + 1), none⟩ := by simp [Addr.add]

/-- What the walk needs of item k. -/
theorem Pats.get {n : Nat} {w : World} {A : Option Addr} {m c : Nat} {xs : List (PatC (List (Pat n)))} (h : Pats (n + 1) w (.slice A m c) xs) {k : Nat} (hk : k < xs.length) : ∃ ad av, A = some ad ∧ ad.block < w.heap.size ∧ AltsOf n w av xs[k].alts ∧
    w.cell? (ad.add (k * 5)) = some (.int .i64 xs[k].low) ∧ w.cell? ⟨(ad.add (k * 5)).block, (ad.add (k * 5)).off + 1, none⟩ = some (.int .i64 xs[k].high) ∧ w.cell? ⟨(ad.add (k * 5)).block, (ad.add (k * 5)).off + 2, none⟩ = some (.string xs[k].codes) ∧
    w.cell? ⟨(ad.add (k * 5)).block, (ad.add (k * 5)).off + 3, none⟩ = some (.string xs[k].text) ∧ w.cell? ⟨(ad.add (k * 5)).block, (ad.add (k * 5)).off + 4, none⟩ = some av := by
  obtain ⟨A', c', e, hc, hr⟩ := h
  injection e with e1 e2 e3
  subst e1
  obtain ⟨ad, e2, _, ha, hq⟩ := hr (Nat.lt_of_le_of_lt (Nat.zero_le _) hk)
  obtain ⟨av, h1, h2⟩ := hq k _ (List.getElem?_eq_getElem hk)
  refine ⟨ad, av, e2, ha, h2, h1 0 _ rfl, ?_, ?_, ?_, ?_⟩
  · rw [← pat_pos, add_of_add]; exact h1 1 _ rfl
  · rw [← pat_pos, add_of_add]; exact h1 2 _ rfl
  · rw [← pat_pos, add_of_add]; exact h1 3 _ rfl
  · rw [← pat_pos, add_of_add]; exact h1 4 _ rfl

theorem AltsOf.form {n : Nat} {w : World} {v : Value} {ys : List (List (Pat n))} (h : AltsOf n w v ys) : ∃ A c, v = .slice A ys.length c := by
  obtain ⟨A, c, e, _⟩ := h; exact ⟨A, c, e⟩

theorem AltsOf.get {n : Nat} {w : World} {A : Option Addr} {m c : Nat} {ys : List (List (Pat n))} (h : AltsOf n w (.slice A m c) ys) {k : Nat} (hk : k < ys.length) : ∃ ad pv, A = some ad ∧ ad.block < w.heap.size ∧ w.cell? (ad.add k) = some pv ∧ Pats n w pv ys[k] := by
  obtain ⟨A', c', e, hc, hr⟩ := h
  injection e with e1 e2 e3
  subst e1
  obtain ⟨ad, e2, _, ha, hq⟩ := hr (by omega)
  obtain ⟨pv, h1, h2⟩ := hq k hk
  exact ⟨ad, pv, e2, ha, h1, h2⟩

end Go.Proofs.YtcjlokojppicnaaDoor
