/- An argument that is a slice of patterns, opened; the law of PatternOk. -/
import Derived.Test.YtcjlokojppicnaaDoorPatSp
import Derived.Test.YtcjlokojppicnaaDoorPatSz
import Derived.Test.YtcjlokojppicnaaDoorPatTo
import Derived.Test.YtcjlokojppicnaaDoorPatEq
import Derived.ProofKit
import Derived.Lib.SmallJoins
import Derived.Deep.Slices
import Derived.Deep.Fields
import Derived.ChangeSame
namespace Go.Proofs.YtcjlokojppicnaaDoor
open Go.RowKit Go.ChangeShapes Go.WideShapes Go.ChangeAt Go.Deep
set_option linter.unusedVariables false

theorem list_ofP {α : Type} (p : Nat → α → Prop) : ∀ n, (∀ i, i < n → ∃ x, p i x) → ∃ l : List α, l.length = n ∧ ∀ i (h : i < l.length), p i l[i]
  | 0, _ => ⟨[], rfl, fun i h => absurd h (by simp)⟩
  | n + 1, h => by
    obtain ⟨l, hl, hp⟩ := list_ofP p n (fun i hi => h i (by omega))
    obtain ⟨x, hx⟩ := h n (by omega)
    refine ⟨l ++ [x], by simp [hl], fun i hi => ?_⟩
    rcases Nat.lt_or_ge i l.length with h1 | h1
    · rw [List.getElem_append_left h1]; exact hp i h1
    · have : i = l.length := by simp at hi; omega
      subst this
      rw [List.getElem_append_right (by omega)]
      simp only [Nat.sub_self, List.getElem_cons_zero]
      rw [hl]; exact hx

section
variable {H : Type} {enc : TypeId × Value → H} {P : Program} {w : World} {base : Nat} {spare : Nat → Bool} {held : Bool}

/-- A slice's elements, each read with less fuel. -/
theorem slice_each {t e : TypeId} {fuel : Nat} {v : Value} {x : DataW H × List MemPlace} (ht : P.underlying t = some (.slice e)) (h : DataW.trod enc P w base spare held fuel t [v] = some x) :
    v = .slice none 0 0 ∨ ∃ (a : Addr) (len cap n : Nat), fuel = n + 1 ∧ v = .slice (some a) len cap ∧ len ≤ cap ∧ cap ≤ maxLen ∧ ∀ i, i < len → ∃ cs' y, w.cells? base (a.add (i * P.cellsOf e)) (P.cellsOf e) = some cs' ∧ DataW.trod enc P w base spare held n e cs' = some y := by
  rcases DataW.trod_slice ht h with ⟨h0, _⟩ | ⟨a, len, cap, elems, rest, n, hn, hcs, rfl, hb, hl, hm, hlen, hel, hsp, hns⟩
  · left; simpa using h0
  · right
    refine ⟨a, len, cap, n, hn, by simpa using hcs, hl, hm, fun i hi => ?_⟩
    have h1 := hel i hi
    rw [List.getElem?_eq_getElem (by omega)] at h1
    obtain ⟨cs', h2, h3⟩ := Option.bind_eq_some_iff.1 h1
    exact ⟨cs', _, h2, h3⟩

/-- A struct's cells, each field read with less fuel. -/
theorem struct_each {t : TypeId} {fs : Array Field} {fuel : Nat} {cs : List Value} {a : Addr} {x : DataW H × List MemPlace} (he : P.underlying t = some (.struct fs)) (hone : oneCellFields P fs = true) (hC : P.cellsOf t = fs.size)
    (hc : w.cells? base a (P.cellsOf t) = some cs) (h : DataW.trod enc P w base spare held fuel t cs = some x) :
    ∃ n, fuel = n + 1 ∧ ∀ (j : Nat) (f : Field), fs[j]? = some f → ∃ (v : Value) (y : DataW H × List MemPlace), w.cell? (a.add j) = some v ∧ DataW.trod enc P w base spare held n f.type [v] = some y := by
  obtain ⟨ys, n', hn', hy, hlen, hyl, hf⟩ := DataW.trod_struct he h
  rw [hC] at hc
  obtain ⟨_, hcl, hat⟩ := World.cells?_some hc
  refine ⟨n', hn', fun j f hj => ?_⟩
  obtain ⟨ho, hk⟩ := hone_of hone j f hj
  have hjl : j < fs.size := (Array.getElem?_eq_some_iff.1 hj).1
  have hcell := hat j hjl
  have hv : cs[j]? = some (cs[j]'(by omega)) := List.getElem?_eq_getElem (by omega)
  have h1 := hf j f hj
  rw [ho, hk] at h1
  have hone' : (cs.drop j).take 1 = [cs[j]'(by omega)] := by
    rw [List.drop_eq_getElem_cons (by omega)]
    rfl
  rw [hone'] at h1
  have hys : ys[j]? = some (ys[j]'(by omega)) := List.getElem?_eq_getElem (by omega)
  exact ⟨_, _, hcell.trans hv, h1.trans hys⟩

theorem one_cell {a : Addr} {cs : List Value} (hc : w.cells? base a 1 = some cs) : ∃ v, cs = [v] ∧ w.cell? a = some v := by
  obtain ⟨_, hcl, hat⟩ := World.cells?_some hc
  match cs, hcl with
  | [v], _ =>
    have := hat 0 (by omega)
    exact ⟨v, rfl, by simpa [Addr.add] using this⟩
end

set_option maxRecDepth 20000 in
theorem open_pats {H : Type} {enc : TypeId × Value → H} {W : World} : ∀ (N fuel : Nat) (v : Value) (x : DataW H × List MemPlace), fuel ≤ N → DataW.trod enc Tryd.prog W 0 (fun _ => true) true fuel 22 [v] = some x → ∃ xs : List (Pat N), Pats N W v xs ∧ PatsOk N maxLen xs
  | 0, fuel, v, x, hN, h => by
    obtain rfl : fuel = 0 := by omega
    simp [DataW.trod] at h
  | N + 1, fuel, v, x, hN, h => by
    rcases slice_each Tryd.underlying22 h with rfl | ⟨a, len, cap, n, hn, rfl, hl, hm, hi⟩
    · exact ⟨[], ⟨none, 0, rfl, Nat.le_refl _, fun h => absurd h (by simp)⟩, by show 0 ≤ maxLen; omega, fun y hy => by cases hy⟩
    have hC : Tryd.prog.cellsOf 32 = 5 := by kernel_rfl
    have hC1 : Tryd.prog.cellsOf 22 = 1 := by kernel_rfl
    obtain ⟨xs, hxl, hxs⟩ := list_ofP (fun i (y : PatC (List (Pat N))) => (∃ av, ItemIn y av W a i ∧ AltsOf N W av y.alts) ∧ y.codes.size ≤ maxLen ∧ y.text.size ≤ maxLen ∧ y.alts.length ≤ maxLen ∧ ∀ ys ∈ y.alts, PatsOk N maxLen ys) len (fun i hi' => by
      obtain ⟨cs', y, h1, h2⟩ := hi i hi'
      obtain ⟨n2, hn2, hf⟩ := struct_each Tryd.underlying32 (by kernel_rfl) (by kernel_rfl) h1 h2
      obtain ⟨v0, y0, c0, t0⟩ := hf 0 _ rfl
      obtain ⟨v1, y1, c1, t1⟩ := hf 1 _ rfl
      obtain ⟨v2, y2, c2, t2⟩ := hf 2 _ rfl
      obtain ⟨v3, y3, c3, t3⟩ := hf 3 _ rfl
      obtain ⟨v4, y4, c4, t4⟩ := hf 4 _ rfl
      obtain ⟨lo, hlo, _, _⟩ := DataW.trod_int Tryd.underlying2 t0
      obtain ⟨hi2, hhi, _, _⟩ := DataW.trod_int Tryd.underlying2 t1
      obtain ⟨s2, hs2, _, hz2⟩ := DataW.trod_string Tryd.underlying9 t2
      obtain ⟨s3, hs3, _, hz3⟩ := DataW.trod_string Tryd.underlying9 t3
      simp only [List.cons.injEq, and_true] at hlo hhi hs2 hs3
      subst hlo hhi hs2 hs3
      rw [hC] at c0 c1 c2 c3 c4
      rw [add_of_add] at c0 c1 c2 c3 c4
      have hcell : ∀ (al : List (List (Pat N))), ItemIn (⟨lo, hi2, s2, s3, al⟩ : PatC (List (Pat N))) v4 W a i := fun al j u hu => by
        match j, hu with
        | 0, hu => simp [PatC.cells] at hu; subst hu; exact c0
        | 1, hu => simp [PatC.cells] at hu; subst hu; exact c1
        | 2, hu => simp [PatC.cells] at hu; subst hu; exact c2
        | 3, hu => simp [PatC.cells] at hu; subst hu; exact c3
        | 4, hu => simp [PatC.cells] at hu; subst hu; exact c4
        | j + 5, hu => rw [Array.getElem?_eq_none (by simp [PatC.cells])] at hu; cases hu
      rcases slice_each Tryd.underlying30 t4 with rfl | ⟨b, blen, bcap, n3, hn3, rfl, bl, bm, bi⟩
      · exact ⟨⟨lo, hi2, s2, s3, []⟩, ⟨_, hcell [], ⟨none, 0, rfl, Nat.le_refl _, fun h => absurd h (by simp)⟩⟩, hz2, hz3, by show 0 ≤ maxLen; omega, fun y hy => by cases hy⟩
      · rw [hC1] at bi
        obtain ⟨al, hal, hals⟩ := list_ofP (fun k (ys : List (Pat N)) => ∃ pv, W.cell? (b.add k) = some pv ∧ Pats N W pv ys ∧ PatsOk N maxLen ys) blen (fun k hk => by
          obtain ⟨cs2, yk, g1, g2⟩ := bi k hk
          rw [Nat.mul_one] at g1
          obtain ⟨pv, rfl, g3⟩ := one_cell g1
          obtain ⟨ys, g4, g5⟩ := open_pats N n3 pv yk (by omega) g2
          exact ⟨ys, pv, g3, g4, g5⟩)
        refine ⟨⟨lo, hi2, s2, s3, al⟩, ⟨_, hcell al, ⟨some b, bcap, by show _ = Value.slice (some b) al.length bcap; rw [hal], by show al.length ≤ bcap; omega, fun h0 => ⟨b, rfl, Nat.zero_le _, ?_, fun k hk => ?_⟩⟩⟩, hz2, hz3, by show al.length ≤ maxLen; omega, fun ys hys => ?_⟩
        · obtain ⟨pv, g3, _⟩ := hals 0 h0
          have := lt_of_cell g3
          rwa [block_of_add] at this
        · obtain ⟨pv, g3, g4, _⟩ := hals k hk
          exact ⟨pv, g3, g4⟩
        · obtain ⟨k, hk, rfl⟩ := List.getElem_of_mem hys
          obtain ⟨pv, _, _, g5⟩ := hals k hk
          exact g5)
    refine ⟨xs, ⟨some a, cap, by rw [← hxl]; rfl, by show xs.length ≤ cap; omega, fun h0 => ⟨a, rfl, Nat.zero_le _, ?_, fun k y hy => ?_⟩⟩, by show xs.length ≤ maxLen; omega, fun y hy => ?_⟩
    · obtain ⟨⟨av, g1, _⟩, _⟩ := hxs 0 h0
      have := lt_of_cell (g1 0 _ rfl)
      rwa [block_of_add] at this
    · obtain ⟨hk, rfl⟩ := List.getElem?_eq_some_iff.1 hy
      obtain ⟨⟨av, g1, g2⟩, _⟩ := hxs k hk
      exact ⟨av, g1, g2⟩
    · obtain ⟨k, hk, rfl⟩ := List.getElem_of_mem hy
      exact (hxs k hk).2

set_option maxRecDepth 20000 in
theorem open_patsV {H : Type} {enc : TypeId × Value → H} {W : World} {base : Nat} {v : Value} {d : DataW H} {p : List MemPlace} (hk : Value.okWide Tryd.prog W .any base 22 v)
    (h : DataW.Trod enc Tryd.prog W 0 (fun _ => true) true 22 v d p) : ∃ x : Nat, ∀ N, x ≤ N → ∃ xs : List (Pat N), Pats N W v xs ∧ PatsOk N maxLen xs := by
  obtain ⟨a0, len, cap, rfl⟩ := okWide_slice Tryd.underlying22 hk
  obtain ⟨fuel, hf⟩ := h
  exact ⟨fuel, fun N hN => open_pats N fuel _ _ hN hf⟩

end Go.Proofs.YtcjlokojppicnaaDoor
