/- Slices of int64: what a slice holds; the law file's own toInt64S, eqInt64S; spec.l00Same; slices.Equal. -/
import Derived.Test.YtjedmpkjopgklaaGreatDoorStrs
import Derived.Test.YtjedmpkjopgklaaGreatDoorSubsL
namespace Go.Proofs.YtjedmpkjopgklaaGreatDoor
open Go.RowKit
set_option linter.unusedVariables false

def intVs (xs : List Int) : List Value := xs.map (Value.int .i64)

theorem intVs_append (xs ys : List Int) : intVs (xs ++ ys) = intVs xs ++ intVs ys := by simp [intVs]

theorem intVs_length (xs : List Int) : (intVs xs).length = xs.length := by simp [intVs]

/-- The slice value v holds the numbers xs, in memory below block B. -/
def IntsAt (w : World) (B : Nat) (v : Value) (xs : List Int) : Prop :=
  ∃ A c, v = .slice A xs.length c ∧ xs.length ≤ c ∧ Reads w B 1 A xs.length (intVs xs)

theorem IntsAt.below {w w' : World} {B : Nat} {v : Value} {xs : List Int} (h : IntsAt w B v xs) (hb : Below B w w') : IntsAt w' B v xs := by
  obtain ⟨A, c, e, hc, hr⟩ := h; exact ⟨A, c, e, hc, hr.below hb⟩

theorem IntsAt.more {w : World} {B B' : Nat} {v : Value} {xs : List Int} (h : IntsAt w B v xs) (hB : B ≤ B') : IntsAt w B' v xs := by
  obtain ⟨A, c, e, hc, hr⟩ := h; exact ⟨A, c, e, hc, hr.more hB⟩

theorem Reads.intAt {w : World} {B : Nat} {A : Option Addr} {xs : List Int} (h : Reads w B 1 A xs.length (intVs xs)) {k : Nat} (hk : k < xs.length) : ∃ ad, A = some ad ∧ ad.block < B ∧ w.cell? (ad.add k) = some (.int .i64 xs[k]) := by
  obtain ⟨ad, u, e, hb, hx, hc⟩ := h.at_ hk
  refine ⟨ad, e, hb, ?_⟩
  rw [hc]; simp [intVs, List.getElem?_eq_getElem hk] at hx; rw [hx]

theorem IntsAt.on {w w' : World} {v : Value} {xs : List Int} (h : IntsAt w w.heap.size v xs) (hb : Below w.heap.size w w') : IntsAt w' w'.heap.size v xs := (h.below hb).more hb.size

theorem info_i64 : (Tryz.prog.info? 2).map (fun i => (i.zero, i.size, i.bytes)) = some (some (.int .i64 0), 1, 8) := by kernel_rfl

theorem run_make_ints (n : Nat) (hn : n ≤ 1048576) (w : World) : (Instr.makeSlice 23 (.int .i64 (n : Int)) (.int .i64 (n : Int))).run Tryz.prog w = .ok (.slice (some ⟨w.heap.size, 0, none⟩) n n) (w.alloc (.cells (madeCells #[.int .i64 0] n) 2)) := by
  obtain ⟨i0, hi0, hz0, hz1, hz2⟩ := info_parts info_i64
  have h := run_make_rowN (P := Tryz.prog) 23 2 i0 _ Tryz.underlying23 hi0 hz0 .i64 .i64 n n (Nat.le_refl _) (by rw [hz2]; omega) (by omega) w
  rw [hz1, Nat.mul_one] at h
  exact h

/-- The slice value v holds the numbers xs in a row of the call's own, from block base on. -/
def Ints (w : World) (base : Nat) (v : Value) (xs : List Int) : Prop := w.ownsRow base 2 1 v xs.length (intVs xs)

theorem Ints.at_ {w : World} {base : Nat} {v : Value} {xs : List Int} (h : Ints w base v xs) : IntsAt w w.heap.size v xs := by
  obtain ⟨h1, h2⟩ := id h
  rcases h2 with ⟨rfl, hn⟩ | ⟨g, cap, cur, rfl, hg, hh, hr⟩
  · have : xs = [] := List.eq_nil_of_length_eq_zero hn
    subst this
    exact ⟨none, 0, rfl, Nat.le_refl _, Reads.none_⟩
  · refine ⟨_, cap, rfl, hr.1, ⟨by simp [intVs], fun hn => ⟨_, rfl, ?_, ?_⟩⟩⟩
    · rcases Nat.lt_or_ge g w.heap.size with h | h
      · exact h
      · rw [Array.getElem?_eq_none h] at hh; cases hh
    · exact World.ownsRow.cells h rfl

theorem Ints.below {w w' : World} {base : Nat} {v : Value} {xs : List Int} (h : Ints w base v xs) (hb : Below w.heap.size w w') : Ints w' base v xs := by
  rcases h with ⟨h1, h2 | ⟨g, cap, cur, hv, hg, hh, hr⟩⟩
  · exact ⟨h1, .inl h2⟩
  · refine ⟨h1, .inr ⟨g, cap, cur, hv, hg, ?_, hr⟩⟩
    have hlt : g < w.heap.size := by
      rcases Nat.lt_or_ge g w.heap.size with h | h
      · exact h
      · rw [Array.getElem?_eq_none h] at hh; cases hh
    rw [hb.block g hlt]; exact hh

/-- What toInt64S has filled after k rounds. -/
def fillI (xs : List Int) (k : Nat) : Array Value := (intVs (xs.take k) ++ List.replicate (xs.length - k) (Value.int .i64 0)).toArray

theorem fillI_zero (xs : List Int) : fillI xs 0 = madeCells #[.int .i64 0] xs.length := by
  apply Array.toList_inj.1
  rw [toList_madeCells_one]; simp [fillI, intVs]

theorem fillI_all (xs : List Int) : fillI xs xs.length = (intVs xs).toArray := by simp [fillI]

theorem fillI_get {xs : List Int} {k : Nat} (h : k < xs.length) : (fillI xs k)[k]? = some (.int .i64 0) := by
  simp only [fillI, List.getElem?_toArray]
  rw [List.getElem?_append_right (by simp [intVs]; omega)]
  rw [intVs_length, List.length_take, Nat.min_eq_left (Nat.le_of_lt h), Nat.sub_self, List.getElem?_replicate]
  rw [if_pos (by omega)]

theorem fillI_set {xs : List Int} {k : Nat} (h : k < xs.length) : (fillI xs k).setIfInBounds k (.int .i64 xs[k]) = fillI xs (k + 1) := by
  apply Array.toList_inj.1
  simp only [fillI, Array.toList_setIfInBounds]
  have e1 : (intVs (xs.take k)).length = k := by simp [intVs, Nat.min_eq_left (Nat.le_of_lt h)]
  have e2 : xs.length - k = (xs.length - (k + 1)) + 1 := by omega
  rw [List.set_append_right _ _ (by omega), e1, Nat.sub_self, e2, List.replicate_succ, List.set_cons_zero]
  rw [List.take_succ_eq_append_getElem h, intVs_append, List.append_assoc]
  rfl

theorem fillI_size {xs : List Int} {k : Nat} (h : k ≤ xs.length) : (fillI xs k).size = xs.length := by
  simp [fillI, intVs, Nat.min_eq_left h]; omega

theorem toInt64S_any (v : Value) (xs : List Int) (w : World) (B : Nat) (h : IntsAt w B v xs) (hB : B ≤ w.heap.size) (hl : xs.length ≤ 1048576) :
    Calls Tryz.prog 36 #[v] w fun e w' => ∃ v', e = .returned v' ∧ Ints w' w.heap.size v' xs ∧ Below w.heap.size w w' := by
  obtain ⟨A, c, rfl, hc, hr⟩ := h
  have hmk := fun W => run_make_ints xs.length hl W
  go_enter Tryz.func36, Tryz.ntmps36
  go_wp2
  go_loopw [4] (fun i wr => ∃ k : Nat, k ≤ xs.length ∧ i = .int .i64 k ∧ wr = w.alloc (.cells (fillI xs k) 2)) (fun i _ => xs.length - (intOf i).toNat)
  case atStart => exact ⟨0, Nat.zero_le _, rfl, by rw [fillI_zero]⟩
  case round =>
    obtain ⟨k, hk, rfl, rfl⟩ := hrel
    by_cases hlt : k < xs.length
    · obtain ⟨ad, rfl, hbl, hcell⟩ := (hr.alloc hB (.cells (fillI xs k) 2)).intAt hlt
      have hg := fillI_get hlt
      have HS := Lib.hid (fillI_set hlt)
      generalize xs[k] = x at *
      generalize fillI xs k = cur at *
      go_wp2
      exact ⟨⟨k + 1, by omega, by go_num, by rw [HS.out]⟩, by simp [intOf]; omega⟩
    · have hk' : k = xs.length := by omega
      subst hk'
      rw [fillI_all]
      go_wp2
      go_ret
      refine ⟨_, rfl, ?_, (Below.refl _ _).alloc (Nat.le_refl _) _⟩
      have := World.ownsRow_lit (base := w.heap.size) (e := 2) (size := 1) w (intVs xs).toArray xs.length (Nat.le_refl _) (by unfold maxLen; omega) (by simp [intVs])
      show World.ownsRow _ _ _ _ _ _ _
      simpa using this

theorem eqInt64S_any (v v2 : Value) (xs ys : List Int) (w : World) (B : Nat) (h : IntsAt w B v xs) (h2 : IntsAt w B v2 ys) (hl : xs.length ≤ 1048576) :
    Calls Tryz.prog 38 #[v, v2] w fun e w' => e = .returned (.bool (decide (xs = ys))) ∧ ∃ n, w' = w.drewN n := by
  obtain ⟨A, c, rfl, hc, hr⟩ := h
  obtain ⟨A2, c2, rfl, hc2, hr2⟩ := h2
  rcases eqForms (xs.length : Int) (ys.length : Int) with ⟨e1, e2, e3⟩ | ⟨e1, e2, e3⟩
  · have hlen : xs.length = ys.length := by have := e3.out; omega
    have e4 : (xs.length == ys.length) = true := by simp [hlen]
    have e5 : (xs.length != ys.length) = false := by simp [hlen]
    have HL := Lib.hid hlen; clear hlen
    go_enter Tryz.func38, Tryz.ntmps38
    go_wp2
    go_loopw [5] (fun i wr => ∃ k : Nat, k ≤ xs.length ∧ i = .int .i64 k ∧ (decide (xs = ys) = decide (xs.drop k = ys.drop k)) ∧ ∃ n, wr = w.drewN n) (fun i _ => xs.length - (intOf i).toNat)
    case atStart => exact ⟨0, Nat.zero_le _, rfl, by simp, 0, rfl⟩
    case round =>
      obtain ⟨k, hk, rfl, hinv, n, rfl⟩ := hrel
      have HI := Lib.hid hinv; clear hinv
      by_cases hlt : k < xs.length
      · have hlt2 : k < ys.length := by rw [← HL.out]; exact hlt
        obtain ⟨ad, rfl, hbl, hcell⟩ := hr.intAt hlt
        obtain ⟨ad2, rfl, hbl2, hcell2⟩ := hr2.intAt hlt2
        have HD := Lib.hid (List.drop_eq_getElem_cons hlt)
        have HD2 := Lib.hid (List.drop_eq_getElem_cons hlt2)
        generalize xs[k] = x at *
        generalize ys[k] = y at *
        have i1 : (0 : Int) ≤ k := by omega
        have i2 : (k : Int) < (xs.length : Int) := by omega
        have i3 : (k : Int) < (ys.length : Int) := by omega
        by_cases hxy : x = y
        · subst hxy
          go_wp2
          go_quiet (fail)
          go_wp2
          refine ⟨⟨k + 1, by omega, by go_num, ?_, _, rfl⟩, by simp [intOf]; omega⟩
          rw [HI.out, HD.out, HD2.out]; simp
        · have hne : (x == y) = false := beq_eq_false_iff_ne.2 hxy
          have hne2 : (x != y) = true := by rw [bne, hne]; rfl
          go_wp2
          go_quiet (fail)
          go_wp2
          go_ret
          refine ⟨ret_bool ?_, _, World.drewN_drewN _ _ _⟩
          rw [HI.out, HD.out, HD2.out]; simp [hxy]
      · go_wp2
        go_ret
        refine ⟨ret_bool ?_, _, rfl⟩
        have := HL.out
        rw [HI.out, List.drop_eq_nil_of_le (by omega), List.drop_eq_nil_of_le (by omega)]; simp
  · have HL : Hid (decide (xs = ys) = false) := by
      refine decide_eq_false (fun h => e3.out (by rw [h]))
    have e4 : (xs.length == ys.length) = false := by have := e3.out; simp; omega
    have e5 : (xs.length != ys.length) = true := by have := e3.out; simp; omega
    go_enter Tryz.func38, Tryz.ntmps38
    go_wp2
    go_ret
    exact ⟨ret_bool HL.out.symm, 0, rfl⟩

theorem szInt64S_ex (v : Value) (xs : List Int) (left : Int) (w : World) (B : Nat) (h : IntsAt w B v xs) (h0 : 0 ≤ left) (h1 : left ≤ 1048576) (hl : xs.length ≤ 9223372036854775807) :
    Calls Tryz.prog 34 #[v, .int .i64 left] w fun e w' => ∃ q : Int, e = .returned (.int .i64 q) ∧ w = w' ∧ -1 ≤ q ∧ q ≤ left ∧ (0 ≤ q → (xs.length : Int) + q = left) := by
  obtain ⟨A, c, rfl, hc, hr⟩ := h
  by_cases hn : left - xs.length < 0
  · go_enter Tryz.func34, Tryz.ntmps34
    go_wp2
    go_ret
    exact ⟨_, rfl, rfl, by omega, by omega, fun h => by omega⟩
  · go_enter Tryz.func34, Tryz.ntmps34
    go_wp2
    go_ret
    exact ⟨_, rfl, rfl, by omega, by omega, fun h => by omega⟩

end Go.Proofs.YtjedmpkjopgklaaGreatDoor
