/- Plain data of any shape: how it lies in memory; an argument that is such data, opened. -/
import Derived.Test.YtllamjgloilioaaStrs
import Derived.ProofKit
import Derived.Deep.Slices
namespace Go.Proofs.Ytllamjgloilioaa
open Go.RowKit Go.WideShapes Go.ChangeShapes Go.Deep
set_option linter.unusedVariables false

/-- The shape of plain data: numbers, truth values, strings, structs (a chain of pairs), slices. -/
inductive Ty where
  | num | bool | str | unit
  | pair (a b : Ty)
  | sl (e : Ty)

inductive DV where
  | num (n : Int) | bool (b : Bool) | str (s : ByteArray) | unit
  | pair (a b : DV)
  | sl (es : List DV)

/-- How many cells it takes. -/
def Ty.size : Ty → Nat
  | .num => 1 | .bool => 1 | .str => 1 | .unit => 0
  | .pair a b => a.size + b.size
  | .sl _ => 1

/-- The cells cs hold the datum d of the shape t; all that it holds lies in the blocks from lo on, below hi. -/
inductive Rd (w : World) (lo hi : Nat) : Ty → List Value → DV → Prop
  | num (n : Int) : Rd w lo hi .num [.int .i64 n] (.num n)
  | bool (b : Bool) : Rd w lo hi .bool [.bool b] (.bool b)
  | str (s : ByteArray) : Rd w lo hi .str [.string s] (.str s)
  | unit : Rd w lo hi .unit [] .unit
  | pair {a b : Ty} {c1 c2 : List Value} {d1 d2 : DV} : Rd w lo hi a c1 d1 → Rd w lo hi b c2 d2 → Rd w lo hi (.pair a b) (c1 ++ c2) (.pair d1 d2)
  | sl0 {e : Ty} (A : Option Addr) (c : Nat) : Rd w lo hi (.sl e) [.slice A 0 c] (.sl [])
  | sl {e : Ty} (ad : Addr) (c : Nat) (ds : List DV) (ec : Nat → List Value) : ds.length ≤ c → lo ≤ ad.block → ad.block < hi →
      (∀ k d, ds[k]? = some d → (ec k).length = e.size ∧ (∀ j u, (ec k)[j]? = some u → w.cell? (ad.add (k * e.size + j)) = some u)) →
      (∀ k d, ds[k]? = some d → Rd w lo hi e (ec k) d) → Rd w lo hi (.sl e) [.slice (some ad) ds.length c] (.sl ds)

theorem Rd.len {w : World} {lo hi : Nat} {t : Ty} {cs : List Value} {d : DV} (h : Rd w lo hi t cs d) : cs.length = t.size := by
  induction h with
  | pair h1 h2 i1 i2 => rw [List.length_append, i1, i2]; rfl
  | _ => rfl

theorem Rd.imp {w w' : World} {lo hi lo' hi' : Nat} {t : Ty} {cs : List Value} {d : DV} (h : Rd w lo hi t cs d) (hk : ∀ p : Addr, lo ≤ p.block → p.block < hi → w'.cell? p = w.cell? p) (h1 : lo' ≤ lo) (h2 : hi ≤ hi') : Rd w' lo' hi' t cs d := by
  induction h with
  | num n => exact .num n
  | bool n => exact .bool n
  | str n => exact .str n
  | unit => exact .unit
  | pair _ _ i1 i2 => exact .pair i1 i2
  | sl0 A c => exact .sl0 A c
  | sl ad c ds ec hc ha hb hcell _ ih => exact .sl ad c ds ec hc (by omega) (by omega) (fun k d hd => ⟨(hcell k d hd).1, fun j u hu => (hk _ (by rw [block_of_add]; exact ha) (by rw [block_of_add]; exact hb)).trans ((hcell k d hd).2 j u hu)⟩) ih

theorem Rd.on {w w' : World} {lo hi : Nat} {t : Ty} {cs : List Value} {d : DV} (h : Rd w lo hi t cs d) (hb : Below w.heap.size w w') (hh : hi ≤ w.heap.size) : Rd w' lo hi t cs d :=
  h.imp (fun p _ hp => hb.cell (Nat.lt_of_lt_of_le hp hh)) (Nat.le_refl _) (Nat.le_refl _)

/-- Somewhere below the world's end. -/
def At (w : World) (t : Ty) (cs : List Value) (d : DV) : Prop := Rd w 0 w.heap.size t cs d

theorem At.on {w w' : World} {t : Ty} {cs : List Value} {d : DV} (h : At w t cs d) (hb : Below w.heap.size w w') : At w' t cs d :=
  Rd.imp h (fun p _ hp => hb.cell hp) (Nat.le_refl _) hb.size

theorem Rd.at_ {w : World} {lo hi : Nat} {t : Ty} {cs : List Value} {d : DV} (h : Rd w lo hi t cs d) (hh : hi ≤ w.heap.size) : At w t cs d := h.imp (fun _ _ _ => rfl) (Nat.zero_le _) hh

/-- A cell is written outside. -/
theorem Rd.set {w : World} {lo hi : Nat} {t : Ty} {cs : List Value} {d : DV} (h : Rd w lo hi t cs d) (a : Addr) (u : Value) (ha : a.block < lo ∨ hi ≤ a.block) : Rd (w.setCell a u) lo hi t cs d :=
  h.imp (fun p h1 h2 => World.cell?_of_block (w := w) (Below.heap_setCell w a u p.block (by omega))) (Nat.le_refl _) (Nat.le_refl _)

section
variable {w : World} {lo hi : Nat} {cs : List Value} {d : DV} {a b : Ty}
theorem Rd.inv_num (h : Rd w lo hi .num cs d) : ∃ n, cs = [.int .i64 n] ∧ d = .num n := by cases h; exact ⟨_, rfl, rfl⟩
theorem Rd.inv_bool (h : Rd w lo hi .bool cs d) : ∃ n, cs = [.bool n] ∧ d = .bool n := by cases h; exact ⟨_, rfl, rfl⟩
theorem Rd.inv_str (h : Rd w lo hi .str cs d) : ∃ n, cs = [.string n] ∧ d = .str n := by cases h; exact ⟨_, rfl, rfl⟩
theorem Rd.inv_unit (h : Rd w lo hi .unit cs d) : cs = [] ∧ d = .unit := by cases h; exact ⟨rfl, rfl⟩
theorem Rd.inv_pair (h : Rd w lo hi (.pair a b) cs d) : ∃ c1 c2 d1 d2, cs = c1 ++ c2 ∧ d = .pair d1 d2 ∧ Rd w lo hi a c1 d1 ∧ Rd w lo hi b c2 d2 := by cases h; exact ⟨_, _, _, _, rfl, rfl, by assumption, by assumption⟩
theorem Rd.inv_sl (h : Rd w lo hi (.sl a) cs d) : ∃ A c ds, cs = [.slice A ds.length c] ∧ d = .sl ds ∧ ds.length ≤ c ∧ Rd w lo hi (.sl a) [.slice A ds.length c] (.sl ds) := by
  cases h with
  | sl0 A c => exact ⟨A, c, [], rfl, rfl, Nat.zero_le _, .sl0 A c⟩
  | sl ad c ds ec h1 h2 h3 h4 h5 => exact ⟨some ad, c, ds, rfl, rfl, h1, .sl ad c ds ec h1 h2 h3 h4 h5⟩
theorem Rd.inv_num_ {r : Ty} (h : Rd w lo hi (.pair .num r) cs d) : ∃ n cs' d', cs = .int .i64 n :: cs' ∧ d = .pair (.num n) d' ∧ Rd w lo hi r cs' d' := by
  obtain ⟨c1, c2, d1, d2, rfl, rfl, h1, h2⟩ := h.inv_pair; obtain ⟨n, rfl, rfl⟩ := h1.inv_num; exact ⟨n, c2, d2, rfl, rfl, h2⟩
theorem Rd.inv_bool_ {r : Ty} (h : Rd w lo hi (.pair .bool r) cs d) : ∃ n cs' d', cs = .bool n :: cs' ∧ d = .pair (.bool n) d' ∧ Rd w lo hi r cs' d' := by
  obtain ⟨c1, c2, d1, d2, rfl, rfl, h1, h2⟩ := h.inv_pair; obtain ⟨n, rfl, rfl⟩ := h1.inv_bool; exact ⟨n, c2, d2, rfl, rfl, h2⟩
theorem Rd.inv_str_ {r : Ty} (h : Rd w lo hi (.pair .str r) cs d) : ∃ n cs' d', cs = .string n :: cs' ∧ d = .pair (.str n) d' ∧ Rd w lo hi r cs' d' := by
  obtain ⟨c1, c2, d1, d2, rfl, rfl, h1, h2⟩ := h.inv_pair; obtain ⟨n, rfl, rfl⟩ := h1.inv_str; exact ⟨n, c2, d2, rfl, rfl, h2⟩
theorem Rd.inv_sl_ {e r : Ty} (h : Rd w lo hi (.pair (.sl e) r) cs d) : ∃ A c ds cs' d', cs = .slice A ds.length c :: cs' ∧ d = .pair (.sl ds) d' ∧ Rd w lo hi (.sl e) [.slice A ds.length c] (.sl ds) ∧ Rd w lo hi r cs' d' := by
  obtain ⟨c1, c2, d1, d2, rfl, rfl, h1, h2⟩ := h.inv_pair; obtain ⟨A, c, ds, rfl, rfl, _, h3⟩ := h1.inv_sl; exact ⟨A, c, ds, c2, d2, rfl, rfl, h3, h2⟩
end

/-- All lengths in it are at most M. -/
inductive Fits (M : Nat) : DV → Prop
  | num (n : Int) : Fits M (.num n)
  | bool (b : Bool) : Fits M (.bool b)
  | str (s : ByteArray) : s.size ≤ M → Fits M (.str s)
  | unit : Fits M .unit
  | pair {a b : DV} : Fits M a → Fits M b → Fits M (.pair a b)
  | sl (ds : List DV) : ds.length ≤ M → (∀ d ∈ ds, Fits M d) → Fits M (.sl ds)

theorem Fits.fst {M : Nat} {a b : DV} (h : Fits M (.pair a b)) : Fits M a := by cases h; assumption
theorem Fits.snd {M : Nat} {a b : DV} (h : Fits M (.pair a b)) : Fits M b := by cases h; assumption
theorem Fits.str_ {M : Nat} {s : ByteArray} (h : Fits M (.str s)) : s.size ≤ M := by cases h; assumption
theorem Fits.len {M : Nat} {ds : List DV} (h : Fits M (.sl ds)) : ds.length ≤ M := by cases h; assumption
theorem Fits.mem {M : Nat} {ds : List DV} (h : Fits M (.sl ds)) : ∀ d ∈ ds, Fits M d := by cases h; assumption

/-- Element k of a slice. -/
theorem Rd.get {w : World} {lo hi : Nat} {e : Ty} {A : Option Addr} {n c : Nat} {ds : List DV} (h : Rd w lo hi (.sl e) [.slice A n c] (.sl ds)) {k : Nat} (hk : k < ds.length) :
    ∃ ad ec, A = some ad ∧ lo ≤ ad.block ∧ ad.block < hi ∧ (∀ j u, ec[j]? = some u → w.cell? (ad.add (k * e.size + j)) = some u) ∧ Rd w lo hi e ec ds[k] := by
  cases h with
  | sl0 A c => exact absurd hk (by simp)
  | sl ad c ds ec h1 h2 h3 h4 h5 => exact ⟨ad, ec k, rfl, h2, h3, (h4 k _ (List.getElem?_eq_getElem hk)).2, h5 k _ (List.getElem?_eq_getElem hk)⟩

/-- The program's type T has the shape ty. -/
def shaped (P : Program) : Nat → TypeId → Ty → Bool
  | 0, _, _ => false
  | n + 1, T, ty =>
    match P.underlying T with
    | some (.int k) => match ty with | .num => decide (k = .i64) | _ => false
    | some .bool => match ty with | .bool => true | _ => false
    | some .string => match ty with | .str => true | _ => false
    | some (.slice e) => match ty with | .sl t => shaped P n e t && decide (P.cellsOf e = t.size ∧ 0 < t.size) | _ => false
    | some (.struct fs) => decide (P.cellsOf T = ty.size) && go (shaped P n) (P.cellsOf ·) fs.toList 0 ty
    | _ => false
where
  go (f : TypeId → Ty → Bool) (c : TypeId → Nat) : List Field → Nat → Ty → Bool
    | [], _, .unit => true
    | x :: r, off, .pair a b => decide (x.offset = off) && decide (c x.type = a.size) && f x.type a && go f c r (off + a.size) b
    | _, _, _ => false

section
variable {H : Type} {enc : TypeId × Value → H} {P : Program} {w : World} {spare : Nat → Bool} {held : Bool}
theorem reads_fields (n m : Nat) (IH : ∀ (T : TypeId) (ty : Ty) (cs : List Value) (x : DataW H × List MemPlace), shaped P n T ty = true → DataW.trod enc P w 0 spare held m T cs = some x → ∃ d, Rd w 0 w.heap.size ty cs d ∧ Fits maxLen d) :
    ∀ (fs : List Field) (off : Nat) (ty : Ty) (cs : List Value), shaped.go (shaped P n) (P.cellsOf ·) fs off ty = true → cs.length = off + ty.size →
      (∀ f ∈ fs, ∃ x, DataW.trod enc P w 0 spare held m f.type ((cs.drop f.offset).take (P.cellsOf f.type)) = some x) → ∃ d, Rd w 0 w.heap.size ty (cs.drop off) d ∧ Fits maxLen d
  | [], off, ty, cs, hs, hl, _ => by
    cases ty <;> simp [shaped.go] at hs
    refine ⟨.unit, ?_, .unit⟩
    rw [List.drop_eq_nil_of_le (by rw [hl]; simp [Ty.size])]
    exact .unit
  | x :: r, off, ty, cs, hs, hl, hf => by
    cases ty with
    | pair a b =>
      simp only [shaped.go, Bool.and_eq_true, decide_eq_true_eq] at hs
      obtain ⟨⟨⟨h1, h2⟩, h3⟩, h4⟩ := hs
      obtain ⟨y, hy⟩ := hf x List.mem_cons_self
      rw [h1, h2] at hy
      obtain ⟨d1, r1, f1⟩ := IH x.type a _ y h3 hy
      have hl2 : cs.length = off + a.size + b.size := by rw [hl]; simp [Ty.size]; omega
      obtain ⟨d2, r2, f2⟩ := reads_fields n m IH r (off + a.size) b cs h4 hl2 (fun f hm => hf f (List.mem_cons_of_mem _ hm))
      refine ⟨.pair d1 d2, ?_, .pair f1 f2⟩
      have e : cs.drop off = (cs.drop off).take a.size ++ cs.drop (off + a.size) := by
        rw [← List.drop_drop, List.take_append_drop]
      rw [e]
      exact .pair r1 r2
    | _ => simp [shaped.go] at hs

theorem reads_of_trod : ∀ (n : Nat) (m : Nat) (T : TypeId) (ty : Ty) (cs : List Value) (x : DataW H × List MemPlace), shaped P n T ty = true → DataW.trod enc P w 0 spare held m T cs = some x → ∃ d, Rd w 0 w.heap.size ty cs d ∧ Fits maxLen d
  | 0, _, _, _, _, _, hs, _ => by simp [shaped] at hs
  | n + 1, m, T, ty, cs, x, hs, h => by
    unfold shaped at hs
    split at hs
    · rename_i k hu
      cases ty <;> simp at hs
      subst hs
      obtain ⟨z, rfl, _, _⟩ := DataW.trod_int hu h
      exact ⟨_, .num z, .num z⟩
    · rename_i hu
      cases ty <;> simp at hs
      obtain ⟨z, rfl, _⟩ := DataW.trod_bool hu h
      exact ⟨_, .bool z, .bool z⟩
    · rename_i hu
      cases ty <;> simp at hs
      obtain ⟨z, rfl, _, hz⟩ := DataW.trod_string hu h
      exact ⟨_, .str z, .str z hz⟩
    · rename_i e hu
      cases ty <;> simp at hs
      rename_i t
      obtain ⟨hs1, hs2, hs3⟩ := hs
      rcases open_slice hu h with ⟨rfl, _⟩ | ⟨a, len, cap, m', n', D, Pl, rfl, _, hl, hm, hmm, _, hi⟩
      · exact ⟨.sl [], .sl0 none 0, .sl [] (by simp) (fun d hd => by cases hd)⟩
      · have hml : len ≤ m' := by rw [hmm]; split <;> omega
        have hg : ∀ i, ∃ (ec : List Value) (d : DV), i < len → ec.length = t.size ∧ (∀ j u, ec[j]? = some u → w.cell? (a.add (i * t.size + j)) = some u) ∧ Rd w 0 w.heap.size t ec d ∧ Fits maxLen d := fun i => by
          by_cases hlt : i < len
          · obtain ⟨cs', hc, ht⟩ := hi i (by omega)
            obtain ⟨_, hcl, hat⟩ := World.cells?_some hc
            obtain ⟨d, h1, h2⟩ := reads_of_trod n n' e t cs' _ hs1 ht
            refine ⟨cs', d, fun _ => ⟨by rw [hcl, hs2], fun j u hu' => ?_, h1, h2⟩⟩
            have hj : j < cs'.length := (List.getElem?_eq_some_iff.1 hu').1
            have h3 := hat j (by omega)
            rw [add_of_add, hs2] at h3
            rw [h3, hu']
          · exact ⟨[], .unit, fun h => absurd h hlt⟩
        obtain ⟨ec, hec⟩ := Classical.axiomOfChoice hg
        obtain ⟨D', hD⟩ := Classical.axiomOfChoice hec
        have hlen : ((List.range len).map D').length = len := by simp
        have hget : ∀ k d, ((List.range len).map D')[k]? = some d → k < len ∧ d = D' k := fun k d hd => by
          rw [List.getElem?_map] at hd
          have hk : k < len := by
            rcases Nat.lt_or_ge k len with h | h
            · exact h
            · rw [List.getElem?_eq_none (by simpa using h)] at hd; cases hd
          rw [List.getElem?_range hk] at hd
          simp at hd
          exact ⟨hk, hd.symm⟩
        refine ⟨.sl ((List.range len).map D'), ?_, .sl _ (by rw [hlen]; omega) (fun d hd => ?_)⟩
        · by_cases h0 : len = 0
          · subst h0
            exact .sl0 _ _
          · have hb : a.block < w.heap.size := by
              have hq := hD 0 (by omega)
              have := lt_of_cell (hq.2.1 0 _ (List.getElem?_eq_getElem (by rw [hq.1]; omega)))
              rwa [block_of_add] at this
            have := Rd.sl (w := w) (lo := 0) (hi := w.heap.size) (e := t) a cap ((List.range len).map D') ec (by rw [hlen]; exact hl) (Nat.zero_le _) hb (fun k d hd => by
              obtain ⟨hk, rfl⟩ := hget k d hd
              exact ⟨(hD k hk).1, (hD k hk).2.1⟩) (fun k d hd => by
              obtain ⟨hk, rfl⟩ := hget k d hd
              exact (hD k hk).2.2.1)
            rw [hlen] at this
            exact this
        · obtain ⟨k, hk, rfl⟩ := List.mem_map.1 hd
          exact (hD k (by simpa using hk)).2.2.2
    · rename_i fs hu
      rw [Bool.and_eq_true, decide_eq_true_eq] at hs
      obtain ⟨xs, n', rfl, _, hcl, hxl, hf⟩ := DataW.trod_struct hu h
      have := reads_fields n n' (fun T ty cs x hs h => reads_of_trod n n' T ty cs x hs h) fs.toList 0 ty cs hs.2 (by rw [hcl, hs.1]; omega) (fun f hm => by
        obtain ⟨i, hi, rfl⟩ := List.getElem_of_mem hm
        have hi' : i < fs.size := by simpa using hi
        have h1 := hf i _ (Array.getElem?_eq_getElem hi')
        rw [List.getElem?_eq_getElem (by omega)] at h1
        exact ⟨_, by simpa using h1⟩)
      simpa using this
    · simp at hs
end

end Go.Proofs.Ytllamjgloilioaa
