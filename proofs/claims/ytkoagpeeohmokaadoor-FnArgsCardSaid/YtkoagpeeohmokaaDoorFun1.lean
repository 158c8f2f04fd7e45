/- PureFun: the small functions of both sides. -/
import Derived.Test.YtkoagpeeohmokaaDoorFunMath
namespace Go.Proofs.YtkoagpeeohmokaaDoor
open Go.RowKit
set_option linter.unusedVariables false

theorem withinD_any (n a b : Int) (w : World) : Calls Tryd.prog 31 #[.int .i64 n, .int .i64 a, .int .i64 b] w fun e w' => e = .returned (.bool (decide (a ≤ n ∧ n ≤ b))) ∧ w = w' := by
  by_cases h1 : a ≤ n
  · by_cases h2 : n ≤ b
    · go_enter Tryd.func31, Tryd.ntmps31
      go_wp2
      go_ret
      exact ⟨ret_bool (by simp [h1, h2]), rfl⟩
    · go_enter Tryd.func31, Tryd.ntmps31
      go_wp2
      go_ret
      exact ⟨ret_bool (by simp [h2]), rfl⟩
  · go_enter Tryd.func31, Tryd.ntmps31
    go_wp2
    go_ret
    exact ⟨ret_bool (by first | (rw [decide_eq_false (show ¬ (a ≤ n ∧ n ≤ b) by omega)]; done) | (simp; omega)), rfl⟩

theorem l00InD_any (n a b : Int) (w : World) : Calls Tryd.prog 102 #[.int .i64 n, .int .i64 a, .int .i64 b] w fun e w' => e = .returned (.bool (decide (a ≤ n ∧ n ≤ b))) ∧ w = w' := by
  by_cases h1 : a ≤ n
  · by_cases h2 : n ≤ b
    · go_enter Tryd.func102, Tryd.ntmps102
      go_wp2
      go_ret
      exact ⟨ret_bool (by simp [h1, h2]), rfl⟩
    · go_enter Tryd.func102, Tryd.ntmps102
      go_wp2
      go_ret
      exact ⟨ret_bool (by simp [h2]), rfl⟩
  · go_enter Tryd.func102, Tryd.ntmps102
    go_wp2
    go_ret
    exact ⟨ret_bool (by first | (rw [decide_eq_false (show ¬ (a ≤ n ∧ n ≤ b) by omega)]; done) | (simp; omega)), rfl⟩

theorem integer_any (s : ByteArray) (w : World) (hs : s.size ≤ 1048576) : Calls Tryd.prog 70 #[.string s] w fun e w' => ∃ n : Int, e = .returned (.int .i64 n) ∧ -1000000000000 ≤ n ∧ n ≤ 1000000000000 ∧ Hid (n = wholeV s) ∧ Below w.heap.size w w' := by
  have HB := Lib.hid (whole_tdiv _ (NM.numOf_bd s.data.toList).1 (NM.numOf_bd s.data.toList).2)
  go_enter Tryd.func70, Tryd.ntmps70
  go_wp2_with fail
  refine (NumOf_any s _ hs).mono ?_
  rintro e w1 ⟨n, rfl, HN, hb1⟩
  have HBE := Lib.hid hb1; clear hb1
  have hb := HB.out
  rw [← HN.out] at hb
  have hw : wrap64 (n.tdiv 1000000) = n.tdiv 1000000 := IntWalk.wrap64_in _ (by omega)
  have HBB := Lib.hid hb; clear hb
  go_wp2_with fail
  go_ret
  have hb := HBB.out
  exact ⟨n.tdiv 1000000, by simp [hw], hb.1, hb.2, by show _ = _; unfold wholeV; rw [← HN.out], HBE.out⟩

theorem argument_any (v : Value) (xs : List ByteArray) (k d : Int) (kn : Nat) (hk : k = kn) (hk9 : kn ≤ 9) (hd0 : -1000000000000 ≤ d) (hd1 : d ≤ 1000000000000) (w : World) (B : Nat) (h : StrsAt w B v xs) (hl : xs.length ≤ 1048576) (hz : ∀ x ∈ xs, x.size ≤ 1048576) :
    Calls Tryd.prog 65 #[v, .int .i64 k, .int .i64 d] w fun e w' => ∃ n : Int, e = .returned (.int .i64 n) ∧ -1000000000000 ≤ n ∧ n ≤ 1000000000000 ∧ Hid (n = argV xs kn d) ∧ Below w.heap.size w w' := by
  subst hk
  obtain ⟨A, c, rfl, hc, hr⟩ := h
  have Z := Lib.hid hz; clear hz
  by_cases hlt : kn < xs.length
  · obtain ⟨ad, rfl, _, hcell⟩ := hr.strAt hlt
    have HA := Lib.hid (argV_lt hlt d)
    have HI := Lib.hid (fun W => integer_any xs[kn] W (Z.out _ (List.getElem_mem hlt)))
    generalize xs[kn] = x at *
    go_enter Tryd.func65, Tryd.ntmps65
    go_wp2_with fail
    refine (HI.out _).mono ?_
    rintro e w1 ⟨n, rfl, n0, n1, HN, hb1⟩
    have HBE := Lib.hid hb1; clear hb1
    go_wp2_with fail
    go_ret
    exact ⟨n, rfl, n0, n1, by show _ = _; rw [HA.out, HN.out], HBE.out⟩
  · have HA := Lib.hid (argV_ge hlt d)
    go_enter Tryd.func65, Tryd.ntmps65
    go_wp2_with fail
    go_ret
    exact ⟨d, rfl, hd0, hd1, HA.out.symm, below_refl _⟩

theorem ascii_any (s : ByteArray) (n : Int) (w : World) (hs : s.size ≤ 1048576) : Calls Tryd.prog 64 #[.string s, .int .i64 n] w fun e w' => e = .returned (.int .i64 (asciiV s n)) ∧ w = w' := by
  have HE := Lib.hid (ExtractOf_any s n n w hs)
  by_cases hn : n < 1
  · have HV := Lib.hid (asciiV_small s hn)
    generalize extractOf s n n = r at *
    go_enter Tryd.func64, Tryd.ntmps64
    go_wp2_with fail
    refine HE.out.mono ?_
    rintro e w' ⟨rfl, rfl⟩
    go_wp2_with fail
    go_ret
    exact ⟨ret_int HV.out.symm, rfl⟩
  by_cases hz : (extractOf s n n).size = 0
  · have HV := Lib.hid (asciiV_none s hz)
    have he := empty_of hz
    clear hz
    generalize extractOf s n n = r at *
    go_enter Tryd.func64, Tryd.ntmps64
    go_wp2_with fail
    refine HE.out.mono ?_
    rintro e w' ⟨rfl, rfl⟩
    go_wp2_with fail
    go_ret
    exact ⟨ret_int HV.out.symm, rfl⟩
  · have hz0 : 0 < (extractOf s n n).size := by omega
    have HV := Lib.hid (asciiV_some s hn hz0)
    have he := nonempty_of hz
    clear hz
    generalize extractOf s n n = r at *
    have hr8 := r[0].toNat_lt
    have hr9 : (r[0].toNat : Int) ≤ 255 := by omega
    have hwr : wrap64 (r[0].toNat : Int) = r[0].toNat := IntWalk.wrap64_in _ (by omega)
    clear hr8
    go_enter Tryd.func64, Tryd.ntmps64
    go_wp2_with fail
    refine HE.out.mono ?_
    rintro e w' ⟨rfl, rfl⟩
    go_wp2_with fail
    go_ret
    exact ⟨ret_int (by first | exact HV.out.symm | (rw [hwr]; exact HV.out.symm)), rfl⟩

theorem numeral_any (n : Int) (h0 : -1000000000000 < n) (h1 : n < 1000000000000) (w : World) (hT : T10 w) : Calls Tryd.prog 63 #[.int .i64 n] w fun e w' => ∃ r : ByteArray, e = .returned (.string r) ∧ Hid (r.data.toList = numeralL n) ∧ Below w.heap.size w w' := by
  have HT := Lib.hid (fun m => NumText_any m w hT); clear hT
  go_enter Tryd.func63, Tryd.ntmps63
  go_wp2_with fail
  refine (HT.out _).mono ?_
  rintro e w1 ⟨r, rfl, hr, HR, hb1⟩
  have HBE := Lib.hid hb1; clear hb1
  go_wp2_with fail
  go_ret
  exact ⟨r, rfl, HR, HBE.out⟩

end Go.Proofs.YtkoagpeeohmokaaDoor
