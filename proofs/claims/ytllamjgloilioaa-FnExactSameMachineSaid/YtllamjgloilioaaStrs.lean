/- Slices of strings: what a slice holds; the law file's own szStringS, toStringS, eqStringS. -/
import Derived.Test.YtllamjgloilioaaBase
import Derived.Deep.AppendLies
import Derived.Deep.Draws
import Derived.Laws.OwnMore
namespace Go.Proofs.Ytllamjgloilioaa
open Go.RowKit
set_option linter.unusedVariables false

theorem block_of_add (a : Addr) (n : Nat) : (a.add n).block = a.block := by unfold Addr.add; split <;> rfl

theorem add_of_add (a : Addr) (i j : Nat) : (a.add i).add j = a.add (i + j) := by
  unfold Addr.add
  by_cases hi : i = 0 <;> by_cases hj : j = 0 <;> simp [hi, hj, Nat.add_assoc]

/-- The slice value '.slice A n c' holds the cells xs and lies below block B. -/
def Reads (w : World) (B size : Nat) (A : Option Addr) (n : Nat) (xs : List Value) : Prop :=
  xs.length = n * size ∧ (0 < n → ∃ ad, A = some ad ∧ ad.block < B ∧ ∀ j u, xs[j]? = some u → w.cell? (ad.add j) = some u)

section
variable {w w' : World} {B B' size n : Nat} {A : Option Addr} {xs : List Value}

theorem Reads.none_ : Reads w B size A 0 [] := ⟨by simp, fun h => absurd h (by omega)⟩

theorem Reads.at_ {k : Nat} (h : Reads w B 1 A n xs) (hk : k < n) : ∃ ad u, A = some ad ∧ ad.block < B ∧ xs[k]? = some u ∧ w.cell? (ad.add k) = some u := by
  obtain ⟨ad, e, hb, hc⟩ := h.2 (by omega)
  have hl : k < xs.length := by have := h.1; omega
  exact ⟨ad, xs[k], e, hb, List.getElem?_eq_getElem hl, hc k _ (List.getElem?_eq_getElem hl)⟩

theorem Reads.keep (h : Reads w B size A n xs) (hk : ∀ p : Addr, p.block < B → w'.cell? p = w.cell? p) : Reads w' B size A n xs :=
  ⟨h.1, fun hn => by
    obtain ⟨ad, e, hb, hc⟩ := h.2 hn
    exact ⟨ad, e, hb, fun j u hu => (hk _ (by rw [block_of_add]; exact hb)).trans (hc j u hu)⟩⟩

theorem Reads.more (h : Reads w B size A n xs) (hB : B ≤ B') : Reads w B' size A n xs :=
  ⟨h.1, fun hn => by
    obtain ⟨ad, e, hb, hc⟩ := h.2 hn
    exact ⟨ad, e, by omega, hc⟩⟩

theorem Reads.below (h : Reads w B size A n xs) (hb : Below B w w') : Reads w' B size A n xs := h.keep fun _ hp => hb.cell hp

theorem Reads.drewN (h : Reads w B size A n xs) (k : Nat) : Reads (w.drewN k) B size A n xs := h

theorem Reads.alloc (h : Reads w B size A n xs) (hB : B ≤ w.heap.size) (o : Obj) : Reads (w.alloc o) B size A n xs := h.keep fun p hp => World.cell?_alloc_lt w o p (by omega)
end

def strVs (xs : List ByteArray) : List Value := xs.map Value.string

theorem strVs_append (xs ys : List ByteArray) : strVs (xs ++ ys) = strVs xs ++ strVs ys := by simp [strVs]

theorem strVs_length (xs : List ByteArray) : (strVs xs).length = xs.length := by simp [strVs]

/-- The slice value v holds the strings xs, in memory below block B. -/
def StrsAt (w : World) (B : Nat) (v : Value) (xs : List ByteArray) : Prop :=
  ∃ A c, v = .slice A xs.length c ∧ xs.length ≤ c ∧ Reads w B 1 A xs.length (strVs xs)

theorem StrsAt.below {w w' : World} {B : Nat} {v : Value} {xs : List ByteArray} (h : StrsAt w B v xs) (hb : Below B w w') : StrsAt w' B v xs := by
  obtain ⟨A, c, e, hc, hr⟩ := h; exact ⟨A, c, e, hc, hr.below hb⟩

theorem StrsAt.more {w : World} {B B' : Nat} {v : Value} {xs : List ByteArray} (h : StrsAt w B v xs) (hB : B ≤ B') : StrsAt w B' v xs := by
  obtain ⟨A, c, e, hc, hr⟩ := h; exact ⟨A, c, e, hc, hr.more hB⟩

theorem Reads.strAt {w : World} {B : Nat} {A : Option Addr} {xs : List ByteArray} (h : Reads w B 1 A xs.length (strVs xs)) {k : Nat} (hk : k < xs.length) : ∃ ad, A = some ad ∧ ad.block < B ∧ w.cell? (ad.add k) = some (.string xs[k]) := by
  obtain ⟨ad, u, e, hb, hx, hc⟩ := h.at_ hk
  refine ⟨ad, e, hb, ?_⟩
  rw [hc]; simp [strVs, List.getElem?_eq_getElem hk] at hx; rw [hx]

/-- What szStringS takes off. -/
def szStrs : List ByteArray → Int → Int
  | [], left => left
  | x :: r, left => if left - x.size < 0 then -1 else szStrs r (left - x.size)

def szStringS (xs : List ByteArray) (left : Int) : Int := if left - xs.length < 0 then -1 else szStrs xs (left - xs.length)

theorem szStringS_any (v : Value) (xs : List ByteArray) (left : Int) (w : World) (B : Nat) (h : StrsAt w B v xs) (h0 : 0 ≤ left) (h1 : left ≤ 1048576) (hl : xs.length ≤ maxLen) (hz : ∀ x ∈ xs, x.size ≤ maxLen) :
    Calls Try.prog 9 #[v, .int .i64 left] w fun e w' => e = .returned (.int .i64 (szStringS xs left)) ∧ w = w' := by
  obtain ⟨A, c, rfl, hc, hr⟩ := h
  unfold maxLen at hl
  by_cases hn : left - xs.length < 0
  · have HV : Hid (szStringS xs left = -1) := by unfold szStringS; exact if_pos hn
    go_enter Try.func9, Try.ntmps9
    go_wp2
    go_ret
    exact ⟨ret_int HV.out.symm, rfl⟩
  · have HV : Hid (szStringS xs left = szStrs xs (left - xs.length)) := by unfold szStringS; exact if_neg hn
    go_enter Try.func9, Try.ntmps9
    go_wp2
    go_loop [1, 5] (fun l i => ∃ (k : Nat) (q : Int), k ≤ xs.length ∧ i = .int .i64 k ∧ l = .int .i64 q ∧ 0 ≤ q ∧ q ≤ 1048576 ∧ szStrs xs (left - xs.length) = szStrs (xs.drop k) q) (fun _ i => xs.length - (intOf i).toNat)
    case atStart => exact ⟨0, _, Nat.zero_le _, rfl, rfl, by omega, by omega, by simp⟩
    case round =>
      obtain ⟨k, q, hk, rfl, rfl, hq0, hq1, hinv⟩ := hrel
      have HI := Lib.hid hinv; clear hinv
      by_cases hlt : k < xs.length
      · obtain ⟨ad, rfl, _, hcell⟩ := hr.strAt hlt
        have HD := Lib.hid (List.drop_eq_getElem_cons hlt)
        have hzx : xs[k].size ≤ maxLen := hz _ (List.getElem_mem hlt)
        unfold maxLen at hzx
        generalize xs[k] = x at *
        by_cases hq : q - x.size < 0
        · go_wp2
          go_ret
          exact ⟨ret_int (by rw [HV.out, HI.out, HD.out, szStrs, if_pos hq]), rfl⟩
        · go_wp2
          exact ⟨⟨k + 1, q - x.size, by omega, by go_num, rfl, by omega, by omega, by rw [HI.out, HD.out, szStrs, if_neg hq]⟩, by simp [intOf]; omega⟩
      · go_wp2
        go_ret
        exact ⟨ret_int (by rw [HV.out, HI.out, List.drop_eq_nil_of_le (by omega)]; rfl), rfl⟩

theorem szStrs_le : ∀ (xs : List ByteArray) (q : Int), 0 ≤ q → -1 ≤ szStrs xs q ∧ szStrs xs q ≤ q
  | [], q, h => by simp [szStrs]; omega
  | x :: r, q, h => by
    unfold szStrs
    split
    · omega
    · have := szStrs_le r (q - x.size) (by omega); omega

theorem szStringS_le (xs : List ByteArray) (q : Int) (h : 0 ≤ q) : -1 ≤ szStringS xs q ∧ szStringS xs q ≤ q := by
  unfold szStringS
  split
  · omega
  · have := szStrs_le xs (q - xs.length) (by omega); omega

/-- The total length. -/
def total (xs : List ByteArray) : Nat := (xs.map ByteArray.size).sum

theorem szStrs_ok : ∀ (xs : List ByteArray) (q : Int), 0 ≤ szStrs xs q → 0 ≤ q → (total xs : Int) + szStrs xs q = q
  | [], q, h, _ => by simp [szStrs, total]
  | x :: r, q, h, h0 => by
    unfold szStrs at h ⊢
    by_cases hx : q - x.size < 0
    · rw [if_pos hx] at h; omega
    · rw [if_neg hx] at h ⊢
      have := szStrs_ok r _ h (by omega)
      simp only [total, List.map_cons, List.sum_cons] at this ⊢
      omega

theorem szStringS_ok {xs : List ByteArray} {q : Int} (h0 : 0 ≤ q) (h : 0 ≤ szStringS xs q) : (xs.length : Int) + total xs + szStringS xs q = q := by
  unfold szStringS at h ⊢
  by_cases hx : q - xs.length < 0
  · rw [if_pos hx] at h; omega
  · rw [if_neg hx] at h ⊢
    have := szStrs_ok xs _ h (by omega); omega

theorem size_le_total {xs : List ByteArray} {x : ByteArray} (h : x ∈ xs) : x.size ≤ total xs := by
  induction xs with
  | nil => cases h
  | cons y r ih =>
    simp only [total, List.map_cons, List.sum_cons]
    rcases List.mem_cons.1 h with rfl | h
    · omega
    · have := ih h; unfold total at this; omega

theorem szStringS_ex (v : Value) (xs : List ByteArray) (left : Int) (w : World) (B : Nat) (h : StrsAt w B v xs) (h0 : 0 ≤ left) (h1 : left ≤ 1048576) (hl : xs.length ≤ maxLen) (hz : ∀ x ∈ xs, x.size ≤ maxLen) :
    Calls Try.prog 9 #[v, .int .i64 left] w fun e w' => ∃ q : Int, e = .returned (.int .i64 q) ∧ w = w' ∧ -1 ≤ q ∧ q ≤ left ∧ (0 ≤ q → (xs.length : Int) + total xs + q = left) :=
  (szStringS_any v xs left w B h h0 h1 hl hz).mono fun e w' ⟨he, hw⟩ => ⟨_, he, hw, (szStringS_le xs left h0).1, (szStringS_le xs left h0).2, szStringS_ok h0⟩

theorem info_str : (Try.prog.info? 9).map (fun i => (i.zero, i.size, i.bytes)) = some (some (.string ⟨#[]⟩), 1, 16) := by kernel_rfl

theorem run_make_rowN {P : Program} (t e : TypeId) (i : TypeInfo) (z : Value) (ht : P.underlying t = some (.slice e)) (hi : P.info? e = some i) (hz : i.zero = some z)
    (kl kc : IntKind) (n c : Nat) (hnc : n ≤ c) (hbytes : i.bytes * c ≤ 281474976710656) (h63 : c ≤ 9223372036854775807) (w : World) :
    (Instr.makeSlice t (.int kl (n : Int)) (.int kc (c : Int))).run P w = .ok (.slice (some ⟨w.heap.size, 0, none⟩) n c) (w.alloc (.cells (madeCells z.cells (c * i.size)) e)) := by
  have hb : (i.bytes : Int) * (c : Int) ≤ 281474976710656 := by
    have h : ((i.bytes * c : Nat) : Int) ≤ 281474976710656 := by omega
    rwa [Int.natCast_mul] at h
  have hr := run_make (P := P) w t e i z ht hi hz kl kc n c (by omega) (by omega) hb (by omega)
  simp only [Int.toNat_natCast] at hr
  exact hr

theorem run_make_strs (n : Nat) (hn : n ≤ 1048576) (w : World) : (Instr.makeSlice 22 (.int .i64 (n : Int)) (.int .i64 (n : Int))).run Try.prog w = .ok (.slice (some ⟨w.heap.size, 0, none⟩) n n) (w.alloc (.cells (madeCells #[.string ⟨#[]⟩] n) 9)) := by
  obtain ⟨i0, hi0, hz0, hz1, hz2⟩ := info_parts info_str
  have h := run_make_rowN (P := Try.prog) 22 9 i0 _ Try.underlying22 hi0 hz0 .i64 .i64 n n (Nat.le_refl _) (by rw [hz2]; omega) (by omega) w
  rw [hz1, Nat.mul_one] at h
  exact h

/-- The slice value v holds the strings xs in a row of the call's own, from block base on. -/
def Strs (w : World) (base : Nat) (v : Value) (xs : List ByteArray) : Prop := w.ownsRow base 9 1 v xs.length (strVs xs)

theorem Strs.at_ {w : World} {base : Nat} {v : Value} {xs : List ByteArray} (h : Strs w base v xs) : StrsAt w w.heap.size v xs := by
  obtain ⟨h1, h2⟩ := id h
  rcases h2 with ⟨rfl, hn⟩ | ⟨g, cap, cur, rfl, hg, hh, hr⟩
  · have : xs = [] := List.eq_nil_of_length_eq_zero hn
    subst this
    exact ⟨none, 0, rfl, Nat.le_refl _, Reads.none_⟩
  · refine ⟨_, cap, rfl, hr.1, ⟨by simp [strVs], fun hn => ⟨_, rfl, ?_, ?_⟩⟩⟩
    · rcases Nat.lt_or_ge g w.heap.size with h | h
      · exact h
      · rw [Array.getElem?_eq_none h] at hh; cases hh
    · exact World.ownsRow.cells h rfl

theorem Strs.below {w w' : World} {base : Nat} {v : Value} {xs : List ByteArray} (h : Strs w base v xs) (hb : Below w.heap.size w w') : Strs w' base v xs := by
  rcases h with ⟨h1, h2 | ⟨g, cap, cur, hv, hg, hh, hr⟩⟩
  · exact ⟨h1, .inl h2⟩
  · refine ⟨h1, .inr ⟨g, cap, cur, hv, hg, ?_, hr⟩⟩
    have hlt : g < w.heap.size := by
      rcases Nat.lt_or_ge g w.heap.size with h | h
      · exact h
      · rw [Array.getElem?_eq_none h] at hh; cases hh
    rw [hb.block g hlt]; exact hh

/-- What toStringS has filled after k rounds. -/
def fillS (xs : List ByteArray) (k : Nat) : Array Value := (strVs (xs.take k) ++ List.replicate (xs.length - k) (Value.string ⟨#[]⟩)).toArray

theorem fillS_zero (xs : List ByteArray) : fillS xs 0 = madeCells #[.string ⟨#[]⟩] xs.length := by
  apply Array.toList_inj.1
  rw [toList_madeCells_one]; simp [fillS, strVs]

theorem fillS_all (xs : List ByteArray) : fillS xs xs.length = (strVs xs).toArray := by simp [fillS]

theorem fillS_get {xs : List ByteArray} {k : Nat} (h : k < xs.length) : (fillS xs k)[k]? = some (.string ⟨#[]⟩) := by
  simp only [fillS, List.getElem?_toArray]
  rw [List.getElem?_append_right (by simp [strVs]; omega)]
  rw [strVs_length, List.length_take, Nat.min_eq_left (Nat.le_of_lt h), Nat.sub_self, List.getElem?_replicate]
  rw [if_pos (by omega)]

theorem fillS_set {xs : List ByteArray} {k : Nat} (h : k < xs.length) : (fillS xs k).setIfInBounds k (.string xs[k]) = fillS xs (k + 1) := by
  apply Array.toList_inj.1
  simp only [fillS, Array.toList_setIfInBounds]
  have e1 : (strVs (xs.take k)).length = k := by simp [strVs, Nat.min_eq_left (Nat.le_of_lt h)]
  have e2 : xs.length - k = (xs.length - (k + 1)) + 1 := by omega
  rw [List.set_append_right _ _ (by omega), e1, Nat.sub_self, e2, List.replicate_succ, List.set_cons_zero]
  rw [List.take_succ_eq_append_getElem h, strVs_append, List.append_assoc]
  rfl

theorem fillS_size {xs : List ByteArray} {k : Nat} (h : k ≤ xs.length) : (fillS xs k).size = xs.length := by
  simp [fillS, strVs, Nat.min_eq_left h]; omega

theorem toStringS_any (v : Value) (xs : List ByteArray) (w : World) (B : Nat) (h : StrsAt w B v xs) (hB : B ≤ w.heap.size) (hl : xs.length ≤ 1048576) :
    Calls Try.prog 17 #[v] w fun e w' => ∃ v', e = .returned v' ∧ Strs w' w.heap.size v' xs ∧ Below w.heap.size w w' := by
  obtain ⟨A, c, rfl, hc, hr⟩ := h
  have hmk := fun W => run_make_strs xs.length hl W
  go_enter Try.func17, Try.ntmps17
  go_wp2
  go_loopw [4] (fun i wr => ∃ k : Nat, k ≤ xs.length ∧ i = .int .i64 k ∧ wr = w.alloc (.cells (fillS xs k) 9)) (fun i _ => xs.length - (intOf i).toNat)
  case atStart => exact ⟨0, Nat.zero_le _, rfl, by rw [fillS_zero]⟩
  case round =>
    obtain ⟨k, hk, rfl, rfl⟩ := hrel
    by_cases hlt : k < xs.length
    · obtain ⟨ad, rfl, hbl, hcell⟩ := (hr.alloc hB (.cells (fillS xs k) 9)).strAt hlt
      have hg := fillS_get hlt
      have HS := Lib.hid (fillS_set hlt)
      generalize xs[k] = x at *
      generalize fillS xs k = cur at *
      go_wp2
      exact ⟨⟨k + 1, by omega, by go_num, by rw [HS.out]⟩, by simp [intOf]; omega⟩
    · have hk' : k = xs.length := by omega
      subst hk'
      rw [fillS_all]
      go_wp2
      go_ret
      refine ⟨_, rfl, ?_, (Below.refl _ _).alloc (Nat.le_refl _) _⟩
      have := World.ownsRow_lit (base := w.heap.size) (e := 9) (size := 1) w (strVs xs).toArray xs.length (Nat.le_refl _) (by unfold maxLen; omega) (by simp [strVs])
      show World.ownsRow _ _ _ _ _ _ _
      simpa using this

theorem eqStringS_any (v v2 : Value) (xs ys : List ByteArray) (w : World) (B : Nat) (h : StrsAt w B v xs) (h2 : StrsAt w B v2 ys) (hl : xs.length ≤ 1048576) :
    Calls Try.prog 31 #[v, v2] w fun e w' => e = .returned (.bool (decide (xs = ys))) ∧ ∃ n, w' = w.drewN n := by
  obtain ⟨A, c, rfl, hc, hr⟩ := h
  obtain ⟨A2, c2, rfl, hc2, hr2⟩ := h2
  rcases eqForms (xs.length : Int) (ys.length : Int) with ⟨e1, e2, e3⟩ | ⟨e1, e2, e3⟩
  · have hlen : xs.length = ys.length := by have := e3.out; omega
    have e4 : (xs.length == ys.length) = true := by simp [hlen]
    have e5 : (xs.length != ys.length) = false := by simp [hlen]
    have HL := Lib.hid hlen; clear hlen
    go_enter Try.func31, Try.ntmps31
    go_wp2
    go_loopw [5] (fun i wr => ∃ k : Nat, k ≤ xs.length ∧ i = .int .i64 k ∧ (decide (xs = ys) = decide (xs.drop k = ys.drop k)) ∧ ∃ n, wr = w.drewN n) (fun i _ => xs.length - (intOf i).toNat)
    case atStart => exact ⟨0, Nat.zero_le _, rfl, by simp, 0, rfl⟩
    case round =>
      obtain ⟨k, hk, rfl, hinv, n, rfl⟩ := hrel
      have HI := Lib.hid hinv; clear hinv
      by_cases hlt : k < xs.length
      · have hlt2 : k < ys.length := by rw [← HL.out]; exact hlt
        obtain ⟨ad, rfl, hbl, hcell⟩ := hr.strAt hlt
        obtain ⟨ad2, rfl, hbl2, hcell2⟩ := hr2.strAt hlt2
        have HD := Lib.hid (List.drop_eq_getElem_cons hlt)
        have HD2 := Lib.hid (List.drop_eq_getElem_cons hlt2)
        generalize xs[k] = x at *
        generalize ys[k] = y at *
        have i1 : (0 : Int) ≤ k := by omega
        have i2 : (k : Int) < (xs.length : Int) := by omega
        have i3 : (k : Int) < (ys.length : Int) := by omega
        by_cases hxy : x = y
        · subst hxy
          go_wp2
          go_quiet (fail)
          go_wp2
          refine ⟨⟨k + 1, by omega, by go_num, ?_, _, rfl⟩, by simp [intOf]; omega⟩
          rw [HI.out, HD.out, HD2.out]; simp
        · have hne : (x.toList == y.toList) = false := by
            rw [ba_toList, ba_toList]; exact beq_eq_false_iff_ne.2 (fun h => hxy (ba_ext h))
          go_wp2
          go_quiet (fail)
          go_wp2
          go_ret
          refine ⟨ret_bool ?_, _, World.drewN_drewN _ _ _⟩
          rw [HI.out, HD.out, HD2.out]; simp [hxy]
      · go_wp2
        go_ret
        refine ⟨ret_bool ?_, _, rfl⟩
        have := HL.out
        rw [HI.out, List.drop_eq_nil_of_le (by omega), List.drop_eq_nil_of_le (by omega)]; simp
  · have HL : Hid (decide (xs = ys) = false) := by
      refine decide_eq_false (fun h => e3.out (by rw [h]))
    have e4 : (xs.length == ys.length) = false := by have := e3.out; simp; omega
    have e5 : (xs.length != ys.length) = true := by have := e3.out; simp; omega
    go_enter Try.func31, Try.ntmps31
    go_wp2
    go_ret
    exact ⟨ret_bool HL.out.symm, 0, rfl⟩

theorem l02Same_any (v v2 : Value) (xs ys : List ByteArray) (w : World) (B : Nat) (h : StrsAt w B v xs) (h2 : StrsAt w B v2 ys) (hl : xs.length ≤ 1048576) :
    Calls Try.prog 44 #[v, v2] w fun e w' => e = .returned (.bool (decide (xs = ys))) ∧ ∃ n, w' = w.drewN n := by
  obtain ⟨A, c, rfl, hc, hr⟩ := h
  obtain ⟨A2, c2, rfl, hc2, hr2⟩ := h2
  rcases eqForms (xs.length : Int) (ys.length : Int) with ⟨e1, e2, e3⟩ | ⟨e1, e2, e3⟩
  · have hlen : xs.length = ys.length := by have := e3.out; omega
    have e4 : (xs.length == ys.length) = true := by simp [hlen]
    have e5 : (xs.length != ys.length) = false := by simp [hlen]
    have HL := Lib.hid hlen; clear hlen
    go_enter Try.func44, Try.ntmps44
    go_wp2
    go_loopw [5] (fun i wr => ∃ k : Nat, k ≤ xs.length ∧ i = .int .i64 k ∧ (decide (xs = ys) = decide (xs.drop k = ys.drop k)) ∧ ∃ n, wr = w.drewN n) (fun i _ => xs.length - (intOf i).toNat)
    case atStart => exact ⟨0, Nat.zero_le _, rfl, by simp, 0, rfl⟩
    case round =>
      obtain ⟨k, hk, rfl, hinv, n, rfl⟩ := hrel
      have HI := Lib.hid hinv; clear hinv
      by_cases hlt : k < xs.length
      · have hlt2 : k < ys.length := by rw [← HL.out]; exact hlt
        obtain ⟨ad, rfl, hbl, hcell⟩ := hr.strAt hlt
        obtain ⟨ad2, rfl, hbl2, hcell2⟩ := hr2.strAt hlt2
        have HD := Lib.hid (List.drop_eq_getElem_cons hlt)
        have HD2 := Lib.hid (List.drop_eq_getElem_cons hlt2)
        generalize xs[k] = x at *
        generalize ys[k] = y at *
        have i1 : (0 : Int) ≤ k := by omega
        have i2 : (k : Int) < (xs.length : Int) := by omega
        have i3 : (k : Int) < (ys.length : Int) := by omega
        by_cases hxy : x = y
        · subst hxy
          go_wp2
          go_quiet (fail)
          go_wp2
          refine ⟨⟨k + 1, by omega, by go_num, ?_, _, rfl⟩, by simp [intOf]; omega⟩
          rw [HI.out, HD.out, HD2.out]; simp
        · have hne : (x.toList == y.toList) = false := by
            rw [ba_toList, ba_toList]; exact beq_eq_false_iff_ne.2 (fun h => hxy (ba_ext h))
          go_wp2
          go_quiet (fail)
          go_wp2
          go_ret
          refine ⟨ret_bool ?_, _, World.drewN_drewN _ _ _⟩
          rw [HI.out, HD.out, HD2.out]; simp [hxy]
      · go_wp2
        go_ret
        refine ⟨ret_bool ?_, _, rfl⟩
        have := HL.out
        rw [HI.out, List.drop_eq_nil_of_le (by omega), List.drop_eq_nil_of_le (by omega)]; simp
  · have HL : Hid (decide (xs = ys) = false) := by
      refine decide_eq_false (fun h => e3.out (by rw [h]))
    have e4 : (xs.length == ys.length) = false := by have := e3.out; simp; omega
    have e5 : (xs.length != ys.length) = true := by have := e3.out; simp; omega
    go_enter Try.func44, Try.ntmps44
    go_wp2
    go_ret
    exact ⟨ret_bool HL.out.symm, 0, rfl⟩

theorem slicesEqual_any (v v2 : Value) (xs ys : List ByteArray) (w : World) (B : Nat) (h : StrsAt w B v xs) (h2 : StrsAt w B v2 ys) (hl : xs.length ≤ 1048576) :
    Calls Try.prog 24 #[v, v2] w fun e w' => e = .returned (.bool (decide (xs = ys))) ∧ ∃ n, w' = w.drewN n := by
  obtain ⟨A, c, rfl, hc, hr⟩ := h
  obtain ⟨A2, c2, rfl, hc2, hr2⟩ := h2
  rcases eqForms (xs.length : Int) (ys.length : Int) with ⟨e1, e2, e3⟩ | ⟨e1, e2, e3⟩
  · have hlen : xs.length = ys.length := by have := e3.out; omega
    have e4 : (xs.length == ys.length) = true := by simp [hlen]
    have e5 : (xs.length != ys.length) = false := by simp [hlen]
    have HL := Lib.hid hlen; clear hlen
    go_enter Try.func24, Try.ntmps24
    go_wp2
    go_loopw [5, 13] (fun _ i wr => ∃ k : Nat, k ≤ xs.length ∧ i = .int .i64 k ∧ (decide (xs = ys) = decide (xs.drop k = ys.drop k)) ∧ ∃ n, wr = w.drewN n) (fun _ i _ => xs.length - (intOf i).toNat)
    case atStart => exact ⟨0, Nat.zero_le _, rfl, by simp, 0, rfl⟩
    case round =>
      obtain ⟨k, hk, rfl, hinv, n, rfl⟩ := hrel
      have HI := Lib.hid hinv; clear hinv
      by_cases hlt : k < xs.length
      · have hlt2 : k < ys.length := by rw [← HL.out]; exact hlt
        obtain ⟨ad, rfl, hbl, hcell⟩ := hr.strAt hlt
        obtain ⟨ad2, rfl, hbl2, hcell2⟩ := hr2.strAt hlt2
        have HD := Lib.hid (List.drop_eq_getElem_cons hlt)
        have HD2 := Lib.hid (List.drop_eq_getElem_cons hlt2)
        generalize xs[k] = x at *
        generalize ys[k] = y at *
        have i1 : (0 : Int) ≤ k := by omega
        have i2 : (k : Int) < (xs.length : Int) := by omega
        have i3 : (k : Int) < (ys.length : Int) := by omega
        by_cases hxy : x = y
        · subst hxy
          go_wp2
          go_quiet (fail)
          go_wp2
          refine ⟨⟨k + 1, by omega, by go_num, ?_, _, rfl⟩, by simp [intOf]; omega⟩
          rw [HI.out, HD.out, HD2.out]; simp
        · have hne : (x.toList == y.toList) = false := by
            rw [ba_toList, ba_toList]; exact beq_eq_false_iff_ne.2 (fun h => hxy (ba_ext h))
          go_wp2
          go_quiet (fail)
          go_wp2
          go_ret
          refine ⟨ret_bool ?_, _, World.drewN_drewN _ _ _⟩
          rw [HI.out, HD.out, HD2.out]; simp [hxy]
      · go_wp2
        go_ret
        refine ⟨ret_bool ?_, _, rfl⟩
        have := HL.out
        rw [HI.out, List.drop_eq_nil_of_le (by omega), List.drop_eq_nil_of_le (by omega)]; simp
  · have HL : Hid (decide (xs = ys) = false) := by
      refine decide_eq_false (fun h => e3.out (by rw [h]))
    have e4 : (xs.length == ys.length) = false := by have := e3.out; simp; omega
    have e5 : (xs.length != ys.length) = true := by have := e3.out; simp; omega
    go_enter Try.func24, Try.ntmps24
    go_wp2
    go_ret
    exact ⟨ret_bool HL.out.symm, 0, rfl⟩

end Go.Proofs.Ytllamjgloilioaa
