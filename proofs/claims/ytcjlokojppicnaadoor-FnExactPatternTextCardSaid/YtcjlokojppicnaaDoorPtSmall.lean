/- PatternText: how often an item may stand, as a text. -/
import Derived.Test.YtcjlokojppicnaaDoorPatMem
import Derived.Test.YtcjlokojppicnaaDoorPatMath
import Derived.Laws.Rows
import Derived.Test.YtcjlokojppicnaaDoorNumText2
import Derived.Test.YtcjlokojppicnaaDoorBytes
import Derived.ProofKit
import Derived.StillTailTactics
namespace Go.Proofs.YtcjlokojppicnaaDoor
open Go.RowKit
set_option linter.unusedVariables false

/-- How often, as a text. -/
def timesT (lo hi : Int) : List UInt8 := if hi = lo then Lib.itoa lo else (if lo = 0 then [] else Lib.itoa lo) ++ 46 :: (if hi = -1 then [] else Lib.itoa hi)

theorem digs_two {n : Nat} (h : ¬ n < 10) : Lib.decDigits n = Lib.decDigits (n / 10) ++ [UInt8.ofNat (48 + n % 10)] := by
  rw [← NT.dd_pos (show n ≠ 0 by omega), ← NT.dd_pos (show n / 10 ≠ 0 by omega)]
  exact NT.dd_step (by omega)

set_option maxRecDepth 8000 in
theorem small_lt (n : Nat) (hn : n < 10) (w : World) : Calls Tryd.prog 30 #[.int .i64 (n : Int)] w fun e w' => ∃ r : ByteArray, e = .returned (.string r) ∧ r.size ≤ 1 ∧ Hid (r.data.toList = Lib.decDigits n) ∧ Below w.heap.size w w' := by
  have HE := Lib.hid (Lib.decDigits_one hn)
  have hc : ((UInt8.ofNat (48 + n)).toNat : Int) = 48 + (n : Int) := by
    have := digit_nat n
    rw [show n % 10 = n by omega] at this
    omega
  obtain ⟨c, hcc⟩ : ∃ c, UInt8.ofNat (48 + n) = c := ⟨_, rfl⟩
  rw [hcc] at hc HE
  have hcv := fun W => one_byte c W
  have hc256 : c.toNat < 256 := UInt8.toNat_lt c
  have h4 : IntKind.u8.wrap (c.toNat : Int) = c.toNat := IntWalk.u8_in _ (by omega)
  have h1 : (n : Int) < 10 := by omega
  have h3 : IntKind.i64.wrap (48 + (n : Int)) = c.toNat := by rw [IntWalk.i64_in _ (by omega)]; omega
  have h5 : 48 + (n : Int) = c.toNat := by omega
  clear hcc hc
  go_enter Tryd.func30, Tryd.ntmps30
  go_wp2_with fail
  go_ret
  exact ⟨⟨#[c]⟩, rfl, by show 1 ≤ 1; omega, by rw [HE.out]; exact rfl, (below_refl w).alloc (Nat.le_refl _) _⟩

set_option maxRecDepth 8000 in
set_option maxHeartbeats 1000000 in
theorem l04Small_any (n : Nat) (hn : n ≤ 99) (w : World) : Calls Tryd.prog 30 #[.int .i64 (n : Int)] w fun e w' => ∃ r : ByteArray, e = .returned (.string r) ∧ r.size ≤ 2 ∧ Hid (r.data.toList = Lib.decDigits n) ∧ Below w.heap.size w w' := by
  by_cases h10 : n < 10
  · refine (small_lt n h10 w).mono ?_
    rintro e w' ⟨r, rfl, h1, h2⟩
    exact ⟨r, rfl, by omega, h2⟩
  obtain ⟨m, hm⟩ : ∃ m, n / 10 = m := ⟨_, rfl⟩
  have HR := Lib.hid (small_lt m (by omega))
  obtain ⟨c, hc⟩ : ∃ c, UInt8.ofNat (48 + n % 10) = c := ⟨_, rfl⟩
  have hcn := digit_nat n
  rw [hc] at hcn
  have hc256 : c.toNat < 256 := UInt8.toNat_lt c
  have HS := Lib.hid (digs_two h10)
  rw [hm, hc] at HS
  have hcv := fun W => one_byte c W
  have h4 : IntKind.u8.wrap (c.toNat : Int) = c.toNat := IntWalk.u8_in _ (by omega)
  have h1 : IntKind.i64.wrap ((n : Int) / 10) = m := by rw [IntWalk.i64_in _ (by omega)]; omega
  have h2 : (n : Int).tmod 10 = (n : Int) % 10 := Int.tmod_eq_emod_of_nonneg (by omega)
  have h3 : IntKind.i64.wrap (48 + (n : Int) % 10) = c.toNat := by rw [IntWalk.i64_in _ (by omega)]; omega
  have h5 : ¬ (n : Int) < 10 := by omega
  clear hc hm hcn hc256 hn h10
  have hcv3 := one_byte_later c w _ (below_refl _)
  go_enter Tryd.func30, Tryd.ntmps30
  go_wp2_with fail
  go_region_with (go_at_call 30; refine (HR.out _).mono ?_; rintro e w1 ⟨r, rfl, hrs, HD, hb⟩; (first | (with_reducible have hcv2 := one_byte_later c w _ hb; have hb2 : Below w.heap.size w w1 := below_trans (below_alloc1' w _) hb; clear hb hcv) | (have hb2 : Below w.heap.size w w1 := ⟨hb.os, hb.tape, hb.output, hb.size, hb.block⟩; clear hb)))
  all_goals
    go_wp2_with fail
    go_ret
    have hl : (r ++ ⟨#[c]⟩ : ByteArray).data.toList = Lib.decDigits n := by rw [HS.out, ← HD.out]; simp
    refine ⟨_, rfl, by rw [ByteArray.size_append]; show r.size + 1 ≤ 2; omega, hl, ?_⟩
    first
    | exact hb2
    | exact below_trans hb2 ((Below.refl _ _).alloc (Nat.le_refl _) _)

theorem box_cells {w W : World} {cs : Array Value} (hb : Below (w.alloc (.cells cs 36)).heap.size (w.alloc (.cells cs 36)) W) (j : Nat) (u : Value) (hu : cs[j]? = some u) : W.cell? ⟨w.heap.size, j, none⟩ = some u := by
  have h := (hb.block w.heap.size (by simp)).trans (Go.heap_alloc_new w (.cells cs 36))
  rw [Lib.cell_of_heap h]; exact hu

theorem itoa_cast (n : Nat) : Lib.itoa (n : Int) = Lib.decDigits n := Lib.itoa_nonneg n

set_option maxRecDepth 8000 in
set_option maxHeartbeats 1000000 in
theorem l04Times2_any {α : Type} (x : PatC α) (av : Value) (w : World) (hx : timesB x.low x.high = true) : Calls Tryd.prog 18 #[.agg (x.cells av)] w fun e w' => ∃ r : ByteArray, e = .returned (.string r) ∧ r.size ≤ 5 ∧ Hid (r.data.toList = timesT x.low x.high) ∧ Below w.heap.size w w' := by
  obtain ⟨lo, hi, codes, text, alts⟩ := x
  simp only [PatC.cells] at *
  unfold timesB at hx
  simp only [Bool.and_eq_true, Bool.or_eq_true, decide_eq_true_eq] at hx
  obtain ⟨⟨l0, l1⟩, hh⟩ := hx
  obtain ⟨n, rfl⟩ : ∃ n : Nat, lo = n := ⟨lo.toNat, by omega⟩
  have hn : n ≤ 99 := by omega
  have HBW : Below w.heap.size w (w.alloc (.cells #[.int .i64 n, .int .i64 hi, .string codes, .string text, av] 36)) := (below_refl w).alloc (Nat.le_refl _) _
  have HB0 := Lib.hid HBW; clear HBW
  have HN := Lib.hid (fun W => l04Small_any n hn W)
  by_cases he : hi = n
  · subst he
    have HT : Hid (timesT (n : Int) n = Lib.decDigits n) := by show _ = _; unfold timesT; rw [if_pos rfl, itoa_cast]
    clear hh l0 l1 hn
    go_enter Tryd.func18, Tryd.ntmps18
    go_wp2_with fail
    refine (HN.out _).mono ?_
    rintro e w1 ⟨r, rfl, hr, HD, b1⟩
    have B1 := Lib.hid (below_trans HB0.out b1)
    go_wp2_with fail
    go_ret
    exact ⟨r, rfl, by omega, by rw [HT.out]; exact HD.out, B1.out⟩
  have e1 : (hi == (n : Int)) = false := by simp [he]
  have HM : Hid (0 ≤ hi → ∀ W, Calls Tryd.prog 30 #[.int .i64 hi] W fun e w' => ∃ r : ByteArray, e = .returned (.string r) ∧ r.size ≤ 2 ∧ Hid (r.data.toList = Lib.itoa hi) ∧ Below W.heap.size W w') := fun h0 W => by
    obtain ⟨m, rfl⟩ : ∃ m : Nat, hi = m := ⟨hi.toNat, by omega⟩
    rw [itoa_cast]
    exact l04Small_any m (by omega) W
  have hway : hi = -1 ∨ 0 ≤ hi := by omega
  have HT : Hid (timesT (n : Int) hi = (if (n : Int) = 0 then [] else Lib.decDigits n) ++ 46 :: (if hi = -1 then [] else Lib.itoa hi)) := by
    show _ = _
    unfold timesT
    rw [if_neg he, itoa_cast]
  have hc1 : ∀ W, Below (w.alloc (.cells #[.int .i64 n, .int .i64 hi, .string codes, .string text, av] 36)).heap.size (w.alloc (.cells #[.int .i64 n, .int .i64 hi, .string codes, .string text, av] 36)) W → W.cell? ⟨w.heap.size, 1, none⟩ = some (.int .i64 hi) := fun W hW => box_cells hW 1 _ rfl
  have HC1 := Lib.hid hc1
  clear hh hc1 he
  by_cases n0 : n = 0
  · subst n0
    rcases hway with h | h
    · subst h
      go_enter Tryd.func18, Tryd.ntmps18
      go_wp2_with fail
      go_ret
      exact ⟨⟨#[46]⟩, rfl, by decide, by show _ = timesT ((0 : Nat) : Int) (-1); rw [HT.out]; rfl, HB0.out⟩
    · have HMC := Lib.hid (HM.out h)
      have h1 : ¬ hi = -1 := by omega
      go_enter Tryd.func18, Tryd.ntmps18
      go_wp2_with fail
      refine (HMC.out _).mono ?_
      rintro e w1 ⟨r, rfl, hr, HD, b1⟩
      have B1 := Lib.hid (below_trans HB0.out b1)
      go_wp2_with fail
      go_ret
      refine ⟨_, rfl, by rw [ByteArray.size_append]; show 1 + r.size ≤ 5; omega, ?_, B1.out⟩
      show _ = _
      rw [HT.out, if_neg h1, ba_app, HD.out]; rfl
  · have n1 : 0 < (n : Int) := by omega
    have n2 : ¬ (n : Int) = 0 := by omega
    rcases hway with h | h
    · subst h
      go_enter Tryd.func18, Tryd.ntmps18
      go_wp2_with fail
      refine (HN.out _).mono ?_
      rintro e w1 ⟨r, rfl, hr, HD, b1⟩
      have B1 := Lib.hid (below_trans HB0.out b1)
      have c1 := HC1.out _ b1
      clear b1
      go_wp2_with fail
      go_ret
      refine ⟨_, rfl, by rw [ByteArray.size_append]; show r.size + 1 ≤ 5; omega, ?_, B1.out⟩
      show _ = _
      rw [HT.out, if_neg n2, ba_app, HD.out]; rfl
    · have HMC := Lib.hid (HM.out h)
      have h1 : ¬ hi = -1 := by omega
      go_enter Tryd.func18, Tryd.ntmps18
      go_wp2_with fail
      refine (HN.out _).mono ?_
      rintro e w1 ⟨r, rfl, hr, HD, b1⟩
      have B1 := Lib.hid (below_trans HB0.out b1)
      have c1 := HC1.out _ b1
      clear b1
      go_wp2_with fail
      refine (HMC.out _).mono ?_
      rintro e w2 ⟨r2, rfl, hr2, HD2, b2⟩
      have B2 := Lib.hid (below_trans B1.out b2)
      clear b2
      go_wp2_with fail
      go_ret
      refine ⟨_, rfl, by rw [ByteArray.size_append, ByteArray.size_append]; show r.size + 1 + r2.size ≤ 5; omega, ?_, B2.out⟩
      show _ = _
      rw [HT.out, if_neg n2, if_neg h1, ba_app, ba_app, HD.out, HD2.out]; simp

end Go.Proofs.YtcjlokojppicnaaDoor
