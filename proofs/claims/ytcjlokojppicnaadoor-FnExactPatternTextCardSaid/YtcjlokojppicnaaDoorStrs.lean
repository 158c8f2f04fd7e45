/- Slices of strings: what a slice holds; the law file's own szStringS, toStringS, eqStringS. -/
import Derived.Test.YtcjlokojppicnaaDoorBase
import Derived.Deep.AppendLies
import Derived.Deep.Draws
import Derived.Laws.OwnMore
namespace Go.Proofs.YtcjlokojppicnaaDoor
open Go.RowKit
set_option linter.unusedVariables false

theorem block_of_add (a : Addr) (n : Nat) : (a.add n).block = a.block := by unfold Addr.add; split <;> rfl

theorem add_of_add (a : Addr) (i j : Nat) : (a.add i).add j = a.add (i + j) := by
  unfold Addr.add
  by_cases hi : i = 0 <;> by_cases hj : j = 0 <;> simp [hi, hj, Nat.add_assoc]

/-- The slice value '.slice A n c' holds the cells xs and lies below block B. -/
def Reads (w : World) (B size : Nat) (A : Option Addr) (n : Nat) (xs : List Value) : Prop :=
  xs.length = n * size ∧ (0 < n → ∃ ad, A = some ad ∧ ad.block < B ∧ ∀ j u, xs[j]? = some u → w.cell? (ad.add j) = some u)

section
variable {w w' : World} {B B' size n : Nat} {A : Option Addr} {xs : List Value}

theorem Reads.none_ : Reads w B size A 0 [] := ⟨by simp, fun h => absurd h (by omega)⟩

theorem Reads.at_ {k : Nat} (h : Reads w B 1 A n xs) (hk : k < n) : ∃ ad u, A = some ad ∧ ad.block < B ∧ xs[k]? = some u ∧ w.cell? (ad.add k) = some u := by
  obtain ⟨ad, e, hb, hc⟩ := h.2 (by omega)
  have hl : k < xs.length := by have := h.1; omega
  exact ⟨ad, xs[k], e, hb, List.getElem?_eq_getElem hl, hc k _ (List.getElem?_eq_getElem hl)⟩

theorem Reads.keep (h : Reads w B size A n xs) (hk : ∀ p : Addr, p.block < B → w'.cell? p = w.cell? p) : Reads w' B size A n xs :=
  ⟨h.1, fun hn => by
    obtain ⟨ad, e, hb, hc⟩ := h.2 hn
    exact ⟨ad, e, hb, fun j u hu => (hk _ (by rw [block_of_add]; exact hb)).trans (hc j u hu)⟩⟩

theorem Reads.more (h : Reads w B size A n xs) (hB : B ≤ B') : Reads w B' size A n xs :=
  ⟨h.1, fun hn => by
    obtain ⟨ad, e, hb, hc⟩ := h.2 hn
    exact ⟨ad, e, by omega, hc⟩⟩

theorem Reads.below (h : Reads w B size A n xs) (hb : Below B w w') : Reads w' B size A n xs := h.keep fun _ hp => hb.cell hp

theorem Reads.drewN (h : Reads w B size A n xs) (k : Nat) : Reads (w.drewN k) B size A n xs := h

theorem Reads.alloc (h : Reads w B size A n xs) (hB : B ≤ w.heap.size) (o : Obj) : Reads (w.alloc o) B size A n xs := h.keep fun p hp => World.cell?_alloc_lt w o p (by omega)
end

def strVs (xs : List ByteArray) : List Value := xs.map Value.string

theorem strVs_append (xs ys : List ByteArray) : strVs (xs ++ ys) = strVs xs ++ strVs ys := by simp [strVs]

theorem strVs_length (xs : List ByteArray) : (strVs xs).length = xs.length := by simp [strVs]

/-- The slice value v holds the strings xs, in memory below block B. -/
def StrsAt (w : World) (B : Nat) (v : Value) (xs : List ByteArray) : Prop :=
  ∃ A c, v = .slice A xs.length c ∧ xs.length ≤ c ∧ Reads w B 1 A xs.length (strVs xs)

theorem StrsAt.below {w w' : World} {B : Nat} {v : Value} {xs : List ByteArray} (h : StrsAt w B v xs) (hb : Below B w w') : StrsAt w' B v xs := by
  obtain ⟨A, c, e, hc, hr⟩ := h; exact ⟨A, c, e, hc, hr.below hb⟩

theorem StrsAt.more {w : World} {B B' : Nat} {v : Value} {xs : List ByteArray} (h : StrsAt w B v xs) (hB : B ≤ B') : StrsAt w B' v xs := by
  obtain ⟨A, c, e, hc, hr⟩ := h; exact ⟨A, c, e, hc, hr.more hB⟩

theorem Reads.strAt {w : World} {B : Nat} {A : Option Addr} {xs : List ByteArray} (h : Reads w B 1 A xs.length (strVs xs)) {k : Nat} (hk : k < xs.length) : ∃ ad, A = some ad ∧ ad.block < B ∧ w.cell? (ad.add k) = some (.string xs[k]) := by
  obtain ⟨ad, u, e, hb, hx, hc⟩ := h.at_ hk
  refine ⟨ad, e, hb, ?_⟩
  rw [hc]; simp [strVs, List.getElem?_eq_getElem hk] at hx; rw [hx]

/-- What szStringS takes off. -/
def szStrs : List ByteArray → Int → Int
  | [], left => left
  | x :: r, left => if left - x.size < 0 then -1 else szStrs r (left - x.size)

def szStringS (xs : List ByteArray) (left : Int) : Int := if left - xs.length < 0 then -1 else szStrs xs (left - xs.length)

theorem szStrs_le : ∀ (xs : List ByteArray) (q : Int), 0 ≤ q → -1 ≤ szStrs xs q ∧ szStrs xs q ≤ q
  | [], q, h => by simp [szStrs]; omega
  | x :: r, q, h => by
    unfold szStrs
    split
    · omega
    · have := szStrs_le r (q - x.size) (by omega); omega

theorem szStringS_le (xs : List ByteArray) (q : Int) (h : 0 ≤ q) : -1 ≤ szStringS xs q ∧ szStringS xs q ≤ q := by
  unfold szStringS
  split
  · omega
  · have := szStrs_le xs (q - xs.length) (by omega); omega

/-- The total length. -/
def total (xs : List ByteArray) : Nat := (xs.map ByteArray.size).sum

theorem szStrs_ok : ∀ (xs : List ByteArray) (q : Int), 0 ≤ szStrs xs q → 0 ≤ q → (total xs : Int) + szStrs xs q = q
  | [], q, h, _ => by simp [szStrs, total]
  | x :: r, q, h, h0 => by
    unfold szStrs at h ⊢
    by_cases hx : q - x.size < 0
    · rw [if_pos hx] at h; omega
    · rw [if_neg hx] at h ⊢
      have := szStrs_ok r _ h (by omega)
      simp only [total, List.map_cons, List.sum_cons] at this ⊢
      omega

theorem szStringS_ok {xs : List ByteArray} {q : Int} (h0 : 0 ≤ q) (h : 0 ≤ szStringS xs q) : (xs.length : Int) + total xs + szStringS xs q = q := by
  unfold szStringS at h ⊢
  by_cases hx : q - xs.length < 0
  · rw [if_pos hx] at h; omega
  · rw [if_neg hx] at h ⊢
    have := szStrs_ok xs _ h (by omega); omega

theorem size_le_total {xs : List ByteArray} {x : ByteArray} (h : x ∈ xs) : x.size ≤ total xs := by
  induction xs with
  | nil => cases h
  | cons y r ih =>
    simp only [total, List.map_cons, List.sum_cons]
    rcases List.mem_cons.1 h with rfl | h
    · omega
    · have := ih h; unfold total at this; omega

theorem info_str : (Tryd.prog.info? 9).map (fun i => (i.zero, i.size, i.bytes)) = some (some (.string ⟨#[]⟩), 1, 16) := by kernel_rfl

theorem run_make_rowN {P : Program} (t e : TypeId) (i : TypeInfo) (z : Value) (ht : P.underlying t = some (.slice e)) (hi : P.info? e = some i) (hz : i.zero = some z)
    (kl kc : IntKind) (n c : Nat) (hnc : n ≤ c) (hbytes : i.bytes * c ≤ 281474976710656) (h63 : c ≤ 9223372036854775807) (w : World) :
    (Instr.makeSlice t (.int kl (n : Int)) (.int kc (c : Int))).run P w = .ok (.slice (some ⟨w.heap.size, 0, none⟩) n c) (w.alloc (.cells (madeCells z.cells (c * i.size)) e)) := by
  have hb : (i.bytes : Int) * (c : Int) ≤ 281474976710656 := by
    have h : ((i.bytes * c : Nat) : Int) ≤ 281474976710656 := by omega
    rwa [Int.natCast_mul] at h
  have hr := run_make (P := P) w t e i z ht hi hz kl kc n c (by omega) (by omega) hb (by omega)
  simp only [Int.toNat_natCast] at hr
  exact hr

theorem run_make_strs (n : Nat) (hn : n ≤ 1048576) (w : World) : (Instr.makeSlice 42 (.int .i64 (n : Int)) (.int .i64 (n : Int))).run Tryd.prog w = .ok (.slice (some ⟨w.heap.size, 0, none⟩) n n) (w.alloc (.cells (madeCells #[.string ⟨#[]⟩] n) 9)) := by
  obtain ⟨i0, hi0, hz0, hz1, hz2⟩ := info_parts info_str
  have h := run_make_rowN (P := Tryd.prog) 42 9 i0 _ Tryd.underlying42 hi0 hz0 .i64 .i64 n n (Nat.le_refl _) (by rw [hz2]; omega) (by omega) w
  rw [hz1, Nat.mul_one] at h
  exact h

/-- The slice value v holds the strings xs in a row of the call's own, from block base on. -/
def Strs (w : World) (base : Nat) (v : Value) (xs : List ByteArray) : Prop := w.ownsRow base 9 1 v xs.length (strVs xs)

theorem Strs.at_ {w : World} {base : Nat} {v : Value} {xs : List ByteArray} (h : Strs w base v xs) : StrsAt w w.heap.size v xs := by
  obtain ⟨h1, h2⟩ := id h
  rcases h2 with ⟨rfl, hn⟩ | ⟨g, cap, cur, rfl, hg, hh, hr⟩
  · have : xs = [] := List.eq_nil_of_length_eq_zero hn
    subst this
    exact ⟨none, 0, rfl, Nat.le_refl _, Reads.none_⟩
  · refine ⟨_, cap, rfl, hr.1, ⟨by simp [strVs], fun hn => ⟨_, rfl, ?_, ?_⟩⟩⟩
    · rcases Nat.lt_or_ge g w.heap.size with h | h
      · exact h
      · rw [Array.getElem?_eq_none h] at hh; cases hh
    · exact World.ownsRow.cells h rfl

theorem Strs.below {w w' : World} {base : Nat} {v : Value} {xs : List ByteArray} (h : Strs w base v xs) (hb : Below w.heap.size w w') : Strs w' base v xs := by
  rcases h with ⟨h1, h2 | ⟨g, cap, cur, hv, hg, hh, hr⟩⟩
  · exact ⟨h1, .inl h2⟩
  · refine ⟨h1, .inr ⟨g, cap, cur, hv, hg, ?_, hr⟩⟩
    have hlt : g < w.heap.size := by
      rcases Nat.lt_or_ge g w.heap.size with h | h
      · exact h
      · rw [Array.getElem?_eq_none h] at hh; cases hh
    rw [hb.block g hlt]; exact hh

/-- What toStringS has filled after k rounds. -/
def fillS (xs : List ByteArray) (k : Nat) : Array Value := (strVs (xs.take k) ++ List.replicate (xs.length - k) (Value.string ⟨#[]⟩)).toArray

theorem fillS_zero (xs : List ByteArray) : fillS xs 0 = madeCells #[.string ⟨#[]⟩] xs.length := by
  apply Array.toList_inj.1
  rw [toList_madeCells_one]; simp [fillS, strVs]

theorem fillS_all (xs : List ByteArray) : fillS xs xs.length = (strVs xs).toArray := by simp [fillS]

theorem fillS_get {xs : List ByteArray} {k : Nat} (h : k < xs.length) : (fillS xs k)[k]? = some (.string ⟨#[]⟩) := by
  simp only [fillS, List.getElem?_toArray]
  rw [List.getElem?_append_right (by simp [strVs]; omega)]
  rw [strVs_length, List.length_take, Nat.min_eq_left (Nat.le_of_lt h), Nat.sub_self, List.getElem?_replicate]
  rw [if_pos (by omega)]

theorem fillS_set {xs : List ByteArray} {k : Nat} (h : k < xs.length) : (fillS xs k).setIfInBounds k (.string xs[k]) = fillS xs (k + 1) := by
  apply Array.toList_inj.1
  simp only [fillS, Array.toList_setIfInBounds]
  have e1 : (strVs (xs.take k)).length = k := by simp [strVs, Nat.min_eq_left (Nat.le_of_lt h)]
  have e2 : xs.length - k = (xs.length - (k + 1)) + 1 := by omega
  rw [List.set_append_right _ _ (by omega), e1, Nat.sub_self, e2, List.replicate_succ, List.set_cons_zero]
  rw [List.take_succ_eq_append_getElem h, strVs_append, List.append_assoc]
  rfl

theorem fillS_size {xs : List ByteArray} {k : Nat} (h : k ≤ xs.length) : (fillS xs k).size = xs.length := by
  simp [fillS, strVs, Nat.min_eq_left h]; omega

end Go.Proofs.YtcjlokojppicnaaDoor
