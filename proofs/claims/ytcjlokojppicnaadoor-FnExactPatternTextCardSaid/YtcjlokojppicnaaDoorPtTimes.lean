/- PatternText: impl.timesText. -/
import Derived.Test.YtcjlokojppicnaaDoorPtSmall
import Derived.RegionTactic
import Derived.Deep.RegionHeld3
import Derived.StillTailTactics
namespace Go.Proofs.YtcjlokojppicnaaDoor
open Go.RowKit
set_option linter.unusedVariables false

def itB (n : Int) : ByteArray := ⟨(Lib.itoa n).toArray⟩

theorem itB_list (n : Int) : (itB n).data.toList = Lib.itoa n := by simp [itB]

theorem itB_size {x : Int} (h0 : -1 ≤ x) (h1 : x ≤ 99) : (itB x).size ≤ 2 := by
  rw [ba_size, itB_list]
  rcases Int.lt_or_le x 0 with h | h
  · obtain rfl : x = -1 := by omega
    have e : Lib.itoa (-1) = 45 :: Lib.decDigits 1 := Lib.itoa_neg 1 (by omega)
    rw [e, Lib.decDigits_one (by omega)]
    exact Nat.le_refl _
  · obtain ⟨n, rfl⟩ : ∃ n : Nat, x = n := ⟨x.toNat, by omega⟩
    rw [itoa_cast]
    by_cases h10 : n < 10
    · rw [Lib.decDigits_one h10]; simp
    · rw [digs_two h10, Lib.decDigits_one (by omega)]; simp

theorem FmtI_any (x : Int) (h0 : -1 ≤ x) (h1 : x ≤ 99) (w : World) (hT : T10 w) : Calls Tryd.prog 36 #[.int .i64 x, .int .i64 10] w fun e w' => e = .returned (.string (itB x)) ∧ Below w.heap.size w w' := by
  refine (Tryd.strconv_FormatInt_10 x (by omega) (by omega) w hT).mono fun e w' ⟨he, k, os, hw⟩ => ⟨he, ?_⟩
  subst hw
  exact ⟨rfl, rfl, rfl, by show w.heap.size ≤ (w.heap ++ os).size; rw [Array.size_append]; omega, fun j hj => by show (w.heap ++ os)[j]? = _; rw [Array.getElem?_append_left hj]⟩

set_option maxRecDepth 8000 in
set_option maxHeartbeats 1000000 in
theorem timesText_any {α : Type} (x : PatC α) (av : Value) (w : World) (hT : T10 w) (hx : timesB x.low x.high = true) : Calls Tryd.prog 24 #[.agg (x.cells av)] w fun e w' => ∃ r : ByteArray, e = .returned (.string r) ∧ r.size ≤ 10 ∧ Hid (r.data.toList = timesT x.low x.high) ∧ Below w.heap.size w w' := by
  obtain ⟨lo, hi, codes, text, alts⟩ := x
  simp only [PatC.cells] at *
  unfold timesB at hx
  simp only [Bool.and_eq_true, Bool.or_eq_true, decide_eq_true_eq] at hx
  obtain ⟨⟨l0, l1⟩, hh⟩ := hx
  have h0 : -1 ≤ hi := by omega
  have h1 : hi ≤ 99 := by omega
  obtain ⟨W0, hW⟩ : ∃ W0, (w.alloc (.cells #[.int .i64 lo, .int .i64 hi, .string codes, .string text, av] 36)) = W0 := ⟨_, rfl⟩
  have HBW : Hid (Below w.heap.size w W0) := by rw [← hW]; exact (below_refl w).alloc (Nat.le_refl _) _
  have HC : Hid (∀ W, Below W0.heap.size W0 W → W.cell? ⟨w.heap.size, 0, none⟩ = some (.int .i64 lo) ∧ W.cell? ⟨w.heap.size, 1, none⟩ = some (.int .i64 hi)) := fun W hb => by
    rw [← hW] at hb
    exact ⟨box_cells hb 0 _ rfl, box_cells hb 1 _ rfl⟩
  have HT := Lib.hid hT
  have HL : Hid (∀ W, Below W0.heap.size W0 W → Calls Tryd.prog 36 #[.int .i64 lo, .int .i64 10] W fun e w' => e = .returned (.string (itB lo)) ∧ Below W.heap.size W w') := fun W hb => FmtI_any lo (by omega) (by omega) W (HT.out.below (below_trans HBW.out hb))
  have HH : Hid (∀ W, Below W0.heap.size W0 W → Calls Tryd.prog 36 #[.int .i64 hi, .int .i64 10] W fun e w' => e = .returned (.string (itB hi)) ∧ Below W.heap.size W w') := fun W hb => FmtI_any hi h0 h1 W (HT.out.below (below_trans HBW.out hb))
  have HE := Lib.hid hW
  have z0 := itB_size (show -1 ≤ lo by omega) (show lo ≤ 99 by omega)
  have z1 := itB_size h0 h1
  clear hT HT hh hW
  go_enter Tryd.func24, Tryd.ntmps24
  go_wp2_with fail
  rw [HE.out]
  have HB0 : Hid (Below W0.heap.size W0 W0.drew) := (below_refl W0).drew
  have HS0 := HC.out _ HB0.out
  go_region_held3 (fun W => W.cell? ⟨w.heap.size, 0, none⟩ = some (.int .i64 lo) ∧ W.cell? ⟨w.heap.size, 1, none⟩ = some (.int .i64 hi)) (first | exact HS0 | exact HS1 | exact HS2)
    (first | (go_at_call 36; first | (refine (HL.out _ HB0.out).mono ?_; rintro e w5 ⟨rfl, b5⟩; have HB5 := Lib.hid (below_trans HB0.out b5); have HS1 := HC.out _ HB5.out; clear b5) | (refine (HH.out _ HB5.out).mono ?_; rintro e w6 ⟨rfl, b6⟩; have HB6 := Lib.hid (below_trans HB5.out b6); have HS2 := HC.out _ HB6.out; clear b6) | (refine (HH.out _ HB0.out).mono ?_; rintro e w5 ⟨rfl, b5⟩; have HB5 := Lib.hid (below_trans HB0.out b5); have HS1 := HC.out _ HB5.out; clear b5) | (refine (HL.out _ HB5.out).mono ?_; rintro e w6 ⟨rfl, b6⟩; have HB6 := Lib.hid (below_trans HB5.out b6); have HS2 := HC.out _ HB6.out; clear b6)))
  have B6 := Lib.hid (below_trans HBW.out HB6.out)
  obtain ⟨c0, c1⟩ := HS2
  have HL0 := Lib.hid (itB_list lo)
  have HL1 := Lib.hid (itB_list hi)
  generalize itB lo = a at *
  generalize itB hi = b at *
  have HT : Hid (timesT lo hi = if hi = lo then Lib.itoa lo else (if lo = 0 then [] else Lib.itoa lo) ++ 46 :: (if hi = -1 then [] else Lib.itoa hi)) := rfl
  clear HB6 HB5 HB0 HBW HE HC HL HH
  rcases eqForms hi lo with ⟨e1, e2, e3⟩ | ⟨e1, e2, e3⟩
  · go_wp2_with fail
    go_ret
    exact ⟨_, rfl, by omega, by show _ = _; rw [HT.out, if_pos e3.out, HL0.out], B6.out⟩
  rcases eqForms lo 0 with ⟨f1, f2, f3⟩ | ⟨f1, f2, f3⟩ <;> rcases eqForms hi (-1) with ⟨g1, g2, g3⟩ | ⟨g1, g2, g3⟩
  · go_wp2_with fail
    go_ret
    exact ⟨_, rfl, by decide, by show _ = _; rw [HT.out, if_neg e3.out, if_pos f3.out, if_pos g3.out]; rfl, B6.out⟩
  · go_wp2_with fail
    go_ret
    refine ⟨_, rfl, ?_, by show _ = _; rw [HT.out, if_neg e3.out, if_pos f3.out, if_neg g3.out, ba_app, HL1.out]; rfl, B6.out⟩
    simp only [ByteArray.size_append]; show 1 + b.size ≤ 10; omega
  · go_wp2_with fail
    go_ret
    refine ⟨_, rfl, ?_, by show _ = _; rw [HT.out, if_neg e3.out, if_neg f3.out, if_pos g3.out, ba_app, ba_app, HL0.out]; simp, B6.out⟩
    simp only [ByteArray.size_append]; show a.size + 1 ≤ 10; omega
  · go_wp2_with fail
    go_ret
    refine ⟨_, rfl, ?_, by show _ = _; rw [HT.out, if_neg e3.out, if_neg f3.out, if_neg g3.out, ba_app, ba_app, HL0.out, HL1.out]; simp, B6.out⟩
    simp only [ByteArray.size_append]; show a.size + 1 + b.size ≤ 10; omega

end Go.Proofs.YtcjlokojppicnaaDoor
