/- PureFun: what spec's l10Fun gives for each name, all but TR. -/
import Derived.Test.YtkoagpeeohmokaaGreatDoorFun4
namespace Go.Proofs.YtkoagpeeohmokaaGreatDoor
open Go.RowKit
set_option linter.unusedVariables false

theorem l10Ask_val (v : Value) (xs : List ByteArray) (k d : Int) (kn : Nat) (hk : k = kn) (hk9 : kn ≤ 9) (hd0 : -1000000000000 ≤ d) (hd1 : d ≤ 1000000000000) (w : World) (h : StrsAt w w.heap.size v xs) (hl : xs.length ≤ 1048576) (hz : ∀ x ∈ xs, x.size ≤ 1048576) :
    Calls Tryz.prog 51 #[v, .int .i64 k, .int .i64 d] w fun e w' => e = .returned (.int .i64 (argV xs kn d)) ∧ w = w' :=
  (l10Ask_any v xs k d kn hk hk9 hd0 hd1 w _ h hl hz).mono fun e w' ⟨n, he, _, _, hn, hw⟩ => ⟨by rw [he, hn.out], hw⟩

theorem argV_bd (xs : List ByteArray) (k : Nat) (d : Int) (h0 : -1000000000000 ≤ d) (h1 : d ≤ 1000000000000) : -1000000000000 ≤ argV xs k d ∧ argV xs k d ≤ 1000000000000 := by
  unfold argV
  split
  · exact wholeV_bd _
  · exact ⟨h0, h1⟩

theorem l01Text_got (n : Int) (h0 : -100000000000 ≤ n) (h1 : n ≤ 100000000000) (w : World) : Calls Tryz.prog 49 #[.int .i64 (n * 1000000)] w fun e w' => GotStr (numeralL n) e ∧ Below w.heap.size w w' :=
  (l01Text_any (n * 1000000) (by omega) (by omega) w).mono fun e w' ⟨r, he, _, hr, hb⟩ => ⟨⟨r, he, hr.out⟩, hb⟩

theorem extract_none (s : ByteArray) {n : Int} (h : n < 1) : (extractOf s n n).size = 0 := by
  unfold extractOf
  rw [if_pos]
  · rfl
  · split <;> split <;> omega

theorem numeral_neg : numeralL (-1) = [45, 49] := by
  have e : (-1 : Int) * 1000000 = -1000000 := rfl
  unfold numeralL numTextB
  rw [e, isNumB_of (by omega) (by omega), if_pos rfl]
  unfold NT.numText
  rw [if_neg (by omega), if_pos (by omega), show (-1000000 : Int).natAbs = 1000000 from rfl]
  unfold NT.magT
  rw [show 1000000 / 1000000 = 1 from rfl, show 1000000 % 1000000 = 0 from rfl, if_pos rfl, NT.dd_pos (by omega), Lib.decDigits_one (by omega)]
  rfl

theorem funRes_quiet (L : List UInt8) (h : L.length ≤ 64) : (if 64 < L.length then (([] : List UInt8), (4 : Int)) else (L, 0)) = (L, 0) := if_neg (by omega)

set_option maxRecDepth 8000 in
theorem l10Ascii_any (v : Value) (xs : List ByteArray) (x0 : ByteArray) (g0 : xs[0]? = some x0) (w : World) (h : StrsAt w w.heap.size v xs) (hl : xs.length ≤ 1048576) (hz : ∀ x ∈ xs, x.size ≤ 1048576) :
    Calls Tryz.prog 46 #[v] w fun e w' => GotStr (numeralL (asciiV x0 (argV xs 1 1))) e ∧ Below w.heap.size w w' := by
  have hs0 := hz x0 (mem_of_get g0)
  have hln := lt_of_get g0
  have i0 : (0 : Int) < xs.length := by omega
  have HA : Hid (∀ W, Below w.heap.size w W → Calls Tryz.prog 51 #[v, .int .i64 1, .int .i64 1] W _) := fun W hb => l10Ask_val v xs 1 1 1 rfl (by omega) (by omega) (by omega) W (h.on hb) hl hz
  obtain ⟨A, c, rfl, _, _⟩ := id h
  obtain ⟨ad, rfl, hc0⟩ := h.cell g0
  rw [add_zero] at hc0
  generalize argV xs 1 1 = a at *
  have HX := Lib.hid (fun W => l10Extract_any x0 a a W hs0)
  have HN := Lib.hid (@asciiV_none x0 a)
  have HSM := Lib.hid (@asciiV_some x0 a)
  have HEN := Lib.hid (@extract_none x0 a)
  have HB := Lib.hid (asciiV_bd x0 a)
  generalize extractOf x0 a a = r at *
  have HD : Hid (∀ n, Below w.heap.size w (w.drewN n)) := fun n => below_drewN _ _
  clear hz h g0
  by_cases hr : r.size = 0
  · have he := empty_of hr
    have HV := Lib.hid (HN.out hr)
    clear hr
    go_enter Tryz.func46, Tryz.ntmps46
    go_wp2_with fail
    go_quiet ((first | (go_at_call 51; exact Calls.quiet_of_same ((HA.out _ (by first | exact below_refl _ | exact HD.out _)).mono fun e w' ⟨h1, h2⟩ => ⟨h1, h2.symm⟩)) | (go_at_call 108; exact Calls.quiet_of_same ((HX.out _).mono fun e w' ⟨h1, h2⟩ => ⟨h1, h2.symm⟩))))
    go_wp2_with fail
    go_ret
    exact ⟨⟨_, rfl, by rw [HV.out, numeral_neg]⟩, HD.out _⟩
  · have he := nonempty_of hr
    have ha : ¬ a < 1 := fun h => hr (HEN.out h)
    have hr0 : 0 < r.size := by omega
    have HV := Lib.hid (HSM.out ha hr0)
    have hb := HB.out
    rw [HV.out] at hb
    obtain ⟨hb0, hb1⟩ := hb
    have HT := Lib.hid (fun W => l01Text_got r[0].toNat (by omega) (by omega) W)
    have da : decide (a < 1) = false := decide_eq_false ha
    clear hr
    go_enter Tryz.func46, Tryz.ntmps46
    go_wp2_with fail
    go_quiet ((first | (go_at_call 51; exact Calls.quiet_of_same ((HA.out _ (by first | exact below_refl _ | exact HD.out _)).mono fun e w' ⟨h1, h2⟩ => ⟨h1, h2.symm⟩)) | (go_at_call 108; exact Calls.quiet_of_same ((HX.out _).mono fun e w' ⟨h1, h2⟩ => ⟨h1, h2.symm⟩))))
    go_wp2_with fail
    refine (HA.out _ (HD.out _)).mono ?_
    rintro e w' ⟨rfl, rfl⟩
    go_wp2_with fail
    refine (HT.out _).mono ?_
    rintro e w6 ⟨⟨q, rfl, hq⟩, b6⟩
    have HQ := Lib.hid hq; clear hq
    have HB6 := Lib.hid (below_trans (HD.out _) b6); clear b6
    go_wp2_with fail
    go_ret
    exact ⟨⟨_, rfl, by rw [HV.out]; exact HQ.out⟩, HB6.out⟩

set_option maxRecDepth 8000 in
theorem l10Part_any (v : Value) (xs : List ByteArray) (x0 : ByteArray) (g0 : xs[0]? = some x0) (w : World) (h : StrsAt w w.heap.size v xs) (hl : xs.length ≤ 1048576) (hz : ∀ x ∈ xs, x.size ≤ 1048576) :
    Calls Tryz.prog 48 #[v] w fun e w' => GotStr (extL x0 xs) e ∧ Below w.heap.size w w' := by
  have hs0 := hz x0 (mem_of_get g0)
  have hln := lt_of_get g0
  have i0 : (0 : Int) < xs.length := by omega
  have HA : Hid (∀ W k d kn, k = ((kn : Nat) : Int) → kn ≤ 9 → -1000000000000 ≤ d → d ≤ 1000000000000 → Below w.heap.size w W → Calls Tryz.prog 51 #[v, .int .i64 k, .int .i64 d] W _) := fun W k d kn e h9 d0 d1 hb => l10Ask_val v xs k d kn e h9 d0 d1 W (h.on hb) hl hz
  obtain ⟨A, c, rfl, _, _⟩ := id h
  obtain ⟨ad, rfl, hc0⟩ := h.cell g0
  rw [add_zero] at hc0
  have HV : Hid (extL x0 xs = if xs.length < 3 ∧ argV xs 1 1 < 1 then [] else (extractOf x0 (argV xs 1 1) (argV xs 2 (argV xs 1 1))).data.toList) := rfl
  obtain ⟨m0, m1⟩ := argV_bd xs 1 1 (by omega) (by omega)
  have HA1 := Lib.hid (HA.out w 1 1 1 rfl (by omega) (by omega) (by omega) (below_refl _))
  generalize argV xs 1 1 = m at *
  have HA2 := Lib.hid (fun W hb => HA.out W 2 m 2 rfl (by omega) m0 m1 hb)
  have HX := Lib.hid (fun W => l10Extract_any x0 m (argV xs 2 m) W hs0)
  generalize argV xs 2 m = n at *
  have HD : Hid (∀ n, Below w.heap.size w (w.drewN n)) := fun n => below_drewN _ _
  clear hz h g0 HA
  by_cases hm : xs.length < 3 ∧ m < 1
  · have HE := Lib.hid (HV.out.trans (if_pos hm))
    obtain ⟨t1, t2⟩ := hm
    go_enter Tryz.func48, Tryz.ntmps48
    go_wp2_with fail
    refine HA1.out.mono ?_
    rintro e w' ⟨rfl, rfl⟩
    go_wp2_with fail
    go_ret
    exact ⟨⟨_, rfl, HE.out.symm⟩, below_refl _⟩
  · have HE := Lib.hid (HV.out.trans (if_neg hm))
    have hm2 : ¬ xs.length < 3 ∨ (xs.length < 3 ∧ ¬ m < 1) := by omega
    clear hm
    rcases hm2 with t1 | ⟨t1, t2⟩
    all_goals
      go_enter Tryz.func48, Tryz.ntmps48
      go_wp2_with fail
      refine HA1.out.mono ?_
      rintro e w' ⟨rfl, rfl⟩
      go_wp2_with fail
      go_quiet ((first | (go_at_call 51; exact Calls.quiet_of_same ((HA2.out _ (by first | exact below_refl _ | exact HD.out _)).mono fun e w' ⟨h1, h2⟩ => ⟨h1, h2.symm⟩)) | (go_at_call 108; exact Calls.quiet_of_same ((HX.out _).mono fun e w' ⟨h1, h2⟩ => ⟨h1, h2.symm⟩))))
      go_wp2_with fail
      go_ret
      exact ⟨⟨_, rfl, HE.out.symm⟩, HD.out _⟩

theorem l10PieceV_got (s d : ByteArray) (m n : Int) (w : World) (hs : s.size ≤ 1048576) (hd : d.size ≤ 1048576) : Calls Tryz.prog 113 #[.string s, .string d, .int .i64 m, .int .i64 n] w fun e w' => GotStr (pieceV s d m n) e ∧ Below w.heap.size w w' :=
  (l10Piece_any s d m n (if 1 < m then m else 1) (if n < (piecesX s d).length then n else (piecesX s d).length) (piecesX s d) (piecesX_is s d) (by split <;> omega) (by split <;> omega) w hs hd).mono fun e w' ⟨r, he, hr, hb⟩ => ⟨⟨r, he, hr.out⟩, hb⟩

set_option maxRecDepth 8000 in
theorem l10PieceFun_any (v : Value) (xs : List ByteArray) (x0 x1 : ByteArray) (g0 : xs[0]? = some x0) (g1 : xs[1]? = some x1) (w : World) (h : StrsAt w w.heap.size v xs) (hl : xs.length ≤ 1048576) (hz : ∀ x ∈ xs, x.size ≤ 1048576) :
    Calls Tryz.prog 56 #[v] w fun e w' => GotStr (pieL x0 x1 xs) e ∧ Below w.heap.size w w' := by
  have hs0 := hz x0 (mem_of_get g0)
  have hs1 := hz x1 (mem_of_get g1)
  have hln0 := lt_of_get g0
  have hln := lt_of_get g1
  have i1 : (1 : Int) < xs.length := by omega
  have i0 : (0 : Int) < xs.length := by omega
  have HA : Hid (∀ W k d kn, k = ((kn : Nat) : Int) → kn ≤ 9 → -1000000000000 ≤ d → d ≤ 1000000000000 → Below w.heap.size w W → Calls Tryz.prog 51 #[v, .int .i64 k, .int .i64 d] W _) := fun W k d kn e h9 d0 d1 hb => l10Ask_val v xs k d kn e h9 d0 d1 W (h.on hb) hl hz
  obtain ⟨A, c, rfl, _, _⟩ := id h
  obtain ⟨ad, rfl, hc0⟩ := h.cell g0
  obtain ⟨ad', ha, hc1⟩ := h.cell g1
  injection ha with ha
  subst ha
  rw [add_succ] at hc1
  rw [add_zero] at hc0
  have HC : Hid (∀ W, Below w.heap.size w W → W.cell? ad = some (.string x0) ∧ W.cell? ⟨ad.block, ad.off + 1, none⟩ = some (.string x1)) := fun W hb => ⟨(hb.cell (lt_of_cell hc0)).trans hc0, (hb.cell (lt_of_cell hc1)).trans hc1⟩
  have HV : Hid (pieL x0 x1 xs = if xs.length < 4 ∧ argV xs 2 1 < 1 then [] else pieceV x0 x1 (argV xs 2 1) (argV xs 3 (argV xs 2 1))) := rfl
  obtain ⟨m0, m1⟩ := argV_bd xs 2 1 (by omega) (by omega)
  have HA1 := Lib.hid (HA.out w 2 1 2 rfl (by omega) (by omega) (by omega) (below_refl _))
  generalize argV xs 2 1 = m at *
  have HA2 := Lib.hid (fun W hb => HA.out W 3 m 3 rfl (by omega) m0 m1 hb)
  have HX := Lib.hid (fun W => l10PieceV_got x0 x1 m (argV xs 3 m) W hs0 hs1)
  generalize argV xs 3 m = n at *
  clear hz h g0 g1 HA hc0 hc1
  by_cases hm : xs.length < 4 ∧ m < 1
  · have HE := Lib.hid (HV.out.trans (if_pos hm))
    obtain ⟨t1, t2⟩ := hm
    go_enter Tryz.func56, Tryz.ntmps56
    go_wp2_with fail
    refine HA1.out.mono ?_
    rintro e w' ⟨rfl, rfl⟩
    go_wp2_with fail
    go_ret
    exact ⟨⟨_, rfl, HE.out.symm⟩, below_refl _⟩
  · have HE := Lib.hid (HV.out.trans (if_neg hm))
    have hm2 : ¬ xs.length < 4 ∨ (xs.length < 4 ∧ ¬ m < 1) := by omega
    clear hm
    have HB0 : Hid (Below w.heap.size w w.drew) := (below_refl w).drew
    rcases hm2 with t1 | ⟨t1, t2⟩
    all_goals
      go_enter Tryz.func56, Tryz.ntmps56
      go_wp2_with fail
      refine HA1.out.mono ?_
      rintro e w' ⟨rfl, rfl⟩
      go_wp2_with fail
      have HS0 := HC.out _ HB0.out
      go_region_held3 (fun W => W.cell? ad = some (.string x0) ∧ W.cell? ⟨ad.block, ad.off + 1, none⟩ = some (.string x1)) (first | exact HS0 | exact HS2)
        (first | (go_at_call 51; refine (HA2.out _ HB0.out).mono ?_; rintro e w5 ⟨rfl, rfl⟩) | (go_at_call 113; refine (HX.out _).mono ?_; rintro e w6 ⟨⟨r, rfl, hr⟩, b6⟩; have HR := Lib.hid hr; clear hr; have HB6 := Lib.hid (below_trans HB0.out b6); have HS2 := HC.out _ HB6.out; clear b6))
      go_wp2_with fail
      go_ret
      exact ⟨⟨_, rfl, by rw [HE.out]; exact HR.out⟩, HB6.out⟩

theorem sfA (v : Value) (xs : List ByteArray) (x0 : ByteArray) (g0 : xs[0]? = some x0) (w : World) (h : StrsAt w w.heap.size v xs) (hl : xs.length ≤ 1048576) (hz : ∀ x ∈ xs, x.size ≤ 1048576) (V : List UInt8) (hV : numeralL (asciiV x0 (argV xs 1 1)) = V) :
    Calls Tryz.prog 24 #[.string ⟨#[65]⟩, v] w fun e w' => GotFun (V, 0) e ∧ Below w.heap.size w w' := by
  have HC := Lib.hid (l10Ascii_any v xs x0 g0 w h hl hz)
  rw [hV] at HC
  obtain ⟨A, c, rfl, _, _⟩ := h
  clear hz g0 hV
  go_enter Tryz.func24, Tryz.ntmps24
  go_wp2_with fail
  refine HC.out.mono ?_
  rintro e w1 ⟨⟨r, rfl, hr⟩, b1⟩
  have HR := Lib.hid hr; clear hr
  go_wp2_with fail
  go_ret2
  exact ⟨⟨r, 0, rfl, by rw [HR.out]⟩, b1⟩

theorem sfE (v : Value) (xs : List ByteArray) (x0 : ByteArray) (g0 : xs[0]? = some x0) (w : World) (h : StrsAt w w.heap.size v xs) (hl : xs.length ≤ 1048576) (hz : ∀ x ∈ xs, x.size ≤ 1048576) (V : List UInt8) (hV : extL x0 xs = V) :
    Calls Tryz.prog 24 #[.string ⟨#[69]⟩, v] w fun e w' => GotFun (V, 0) e ∧ Below w.heap.size w w' := by
  have HC := Lib.hid (l10Part_any v xs x0 g0 w h hl hz)
  rw [hV] at HC
  obtain ⟨A, c, rfl, _, _⟩ := h
  clear hz g0 hV
  go_enter Tryz.func24, Tryz.ntmps24
  go_wp2_with fail
  refine HC.out.mono ?_
  rintro e w1 ⟨⟨r, rfl, hr⟩, b1⟩
  have HR := Lib.hid hr; clear hr
  go_wp2_with fail
  go_ret2
  exact ⟨⟨r, 0, rfl, by rw [HR.out]⟩, b1⟩

theorem sfC (v : Value) (xs : List ByteArray) (w : World) (h : StrsAt w w.heap.size v xs) (hl : xs.length ≤ 1048576) (hz : ∀ x ∈ xs, x.size ≤ 1048576) :
    Calls Tryz.prog 24 #[.string ⟨#[67]⟩, v] w fun e w' => GotFun (charL xs, 0) e ∧ Below w.heap.size w w' := by
  have HC := Lib.hid (l10Char_any v xs w h hl hz)
  obtain ⟨A, c, rfl, _, _⟩ := h
  clear hz
  go_enter Tryz.func24, Tryz.ntmps24
  go_wp2_with fail
  refine HC.out.mono ?_
  rintro e w1 ⟨⟨r, rfl, hr⟩, b1⟩
  have HR := Lib.hid hr; clear hr
  go_wp2_with fail
  go_ret2
  exact ⟨⟨r, 0, rfl, by rw [HR.out]⟩, b1⟩

theorem sfP (v : Value) (xs : List ByteArray) (x0 x1 : ByteArray) (g0 : xs[0]? = some x0) (g1 : xs[1]? = some x1) (w : World) (h : StrsAt w w.heap.size v xs) (hl : xs.length ≤ 1048576) (hz : ∀ x ∈ xs, x.size ≤ 1048576) :
    Calls Tryz.prog 24 #[.string ⟨#[80]⟩, v] w fun e w' => GotFun (pieL x0 x1 xs, 0) e ∧ Below w.heap.size w w' := by
  have HC := Lib.hid (l10PieceFun_any v xs x0 x1 g0 g1 w h hl hz)
  obtain ⟨A, c, rfl, _, _⟩ := h
  clear hz g0 g1
  go_enter Tryz.func24, Tryz.ntmps24
  go_wp2_with fail
  refine HC.out.mono ?_
  rintro e w1 ⟨⟨r, rfl, hr⟩, b1⟩
  have HR := Lib.hid hr; clear hr
  go_wp2_with fail
  go_ret2
  exact ⟨⟨r, 0, rfl, by rw [HR.out]⟩, b1⟩

theorem sfRE (v : Value) (xs : List ByteArray) (x0 : ByteArray) (g0 : xs[0]? = some x0) (w : World) (h : StrsAt w w.heap.size v xs) (hl : xs.length ≤ 1048576) (hz : ∀ x ∈ xs, x.size ≤ 1048576) :
    Calls Tryz.prog 24 #[.string ⟨#[82, 69]⟩, v] w fun e w' => GotFun (x0.data.toList.reverse, 0) e ∧ Below w.heap.size w w' := by
  have HC := Lib.hid (l10Reverse_any x0 w (hz x0 (mem_of_get g0)))
  have hln := lt_of_get g0
  obtain ⟨A, c, rfl, _, _⟩ := id h
  obtain ⟨ad, rfl, hc0⟩ := h.cell g0
  rw [add_zero] at hc0
  have i0 : (0 : Int) < xs.length := by omega
  clear hz g0 h
  go_enter Tryz.func24, Tryz.ntmps24
  go_wp2_with fail
  refine HC.out.mono ?_
  rintro e w1 ⟨⟨r, rfl, hr⟩, b1⟩
  have HR := Lib.hid hr; clear hr
  go_wp2_with fail
  go_ret2
  exact ⟨⟨r, 0, rfl, by rw [HR.out]⟩, b1⟩

set_option maxRecDepth 8000 in
theorem sfF (v : Value) (xs : List ByteArray) (x0 x1 : ByteArray) (g0 : xs[0]? = some x0) (g1 : xs[1]? = some x1) (w : World) (h : StrsAt w w.heap.size v xs) (hl : xs.length ≤ 1048576) (hz : ∀ x ∈ xs, x.size ≤ 1048576) :
    Calls Tryz.prog 24 #[.string ⟨#[70]⟩, v] w fun e w' => GotFun (numeralL (findOf x0 x1 (argV xs 2 1)), 0) e ∧ Below w.heap.size w w' := by
  have hs0 := hz x0 (mem_of_get g0)
  have hs1 := hz x1 (mem_of_get g1)
  have hln0 := lt_of_get g0
  have hln := lt_of_get g1
  have i1 : (1 : Int) < xs.length := by omega
  have i0 : (0 : Int) < xs.length := by omega
  have HB0 : Hid (Below w.heap.size w w.drew) := (below_refl w).drew
  have HA := Lib.hid (l10Ask_val v xs 2 1 2 rfl (by omega) (by omega) (by omega) w.drew (h.on HB0.out) hl hz)
  obtain ⟨A, c, rfl, _, _⟩ := id h
  obtain ⟨ad, rfl, hc0⟩ := h.cell g0
  obtain ⟨ad', ha, hc1⟩ := h.cell g1
  injection ha with ha
  subst ha
  rw [add_succ] at hc1
  rw [add_zero] at hc0
  have HC : Hid (∀ W, Below w.heap.size w W → W.cell? ad = some (.string x0) ∧ W.cell? ⟨ad.block, ad.off + 1, none⟩ = some (.string x1)) := fun W hb => ⟨(hb.cell (lt_of_cell hc0)).trans hc0, (hb.cell (lt_of_cell hc1)).trans hc1⟩
  generalize argV xs 2 1 = a at *
  have HX := Lib.hid (fun W => l10Find_any x0 x1 a W hs0 hs1)
  have hbd := findOf_bd x0 x1 a
  generalize findOf x0 x1 a = f at *
  obtain ⟨f0, f1⟩ := hbd
  have hw : IntKind.i64.wrap (f * 1000000) = f * 1000000 := IntWalk.i64_in _ (by omega)
  have HT := Lib.hid (fun W => l01Text_got f (by omega) (by omega) W)
  clear hz hc0 hc1 h g0 g1
  go_enter Tryz.func24, Tryz.ntmps24
  go_wp2_with fail
  have HS0 := HC.out _ HB0.out
  go_region_held3 (fun W => W.cell? ad = some (.string x0) ∧ W.cell? ⟨ad.block, ad.off + 1, none⟩ = some (.string x1)) (first | exact HS0 | exact HS2)
    (first | (go_at_call 51; refine HA.out.mono ?_; rintro e w5 ⟨rfl, rfl⟩) | (go_at_call 50; refine (HX.out _).mono ?_; rintro e w' ⟨rfl, rfl⟩) | (go_at_call 49; refine (HT.out _).mono ?_; rintro e w6 ⟨⟨r, rfl, hr⟩, b6⟩; have HR := Lib.hid hr; clear hr; have HB6 := Lib.hid (below_trans HB0.out b6); have HS2 := HC.out _ HB6.out; clear b6))
  go_wp2_with fail
  go_ret2
  exact ⟨⟨r, 0, rfl, by rw [HR.out]⟩, HB6.out⟩

/-- What is longer than a value may be is refused. -/
def cutRes (L : List UInt8) : List UInt8 × Int := if 64 < L.length then ([], 4) else (L, 0)

def longS (r : ByteArray) : ByteArray := if 64 < r.size then ⟨#[]⟩ else r

def longC (r : ByteArray) : Int := if 64 < r.size then 4 else 0

theorem l10Long_any (r : ByteArray) (hr : r.size ≤ 9223372036854775807) (w : World) : Calls Tryz.prog 52 #[.string r] w fun e w' => e = .returned (.tuple #[.string (longS r), .int .i64 (longC r)]) ∧ w = w' := by
  by_cases h : 64 < r.size
  · have e1 : longS r = ⟨#[]⟩ := if_pos h
    have e2 : longC r = 4 := if_pos h
    rw [e1, e2]
    clear e1 e2
    go_enter Tryz.func52, Tryz.ntmps52
    go_wp2_with fail
    go_ret2
    exact ⟨rfl, rfl⟩
  · have e1 : longS r = r := if_neg h
    have e2 : longC r = 0 := if_neg h
    rw [e1, e2]
    clear e1 e2
    go_enter Tryz.func52, Tryz.ntmps52
    go_wp2_with fail
    go_ret2
    exact ⟨rfl, rfl⟩

set_option maxRecDepth 8000 in
theorem sfJ (v : Value) (xs : List ByteArray) (x0 x1 : ByteArray) (g0 : xs[0]? = some x0) (g1 : xs[1]? = some x1) (w : World) (h : StrsAt w w.heap.size v xs) (hl : xs.length ≤ 1048576) (hz : ∀ x ∈ xs, x.size ≤ 1048576) :
    Calls Tryz.prog 24 #[.string ⟨#[74]⟩, v] w fun e w' => GotFun (cutRes (justL x0 (wholeV x1))) e ∧ Below w.heap.size w w' := by
  have hs0 := hz x0 (mem_of_get g0)
  have hs1 := hz x1 (mem_of_get g1)
  have hln0 := lt_of_get g0
  have hln := lt_of_get g1
  have i1 : (1 : Int) < xs.length := by omega
  have i0 : (0 : Int) < xs.length := by omega
  have HB0 : Hid (Below w.heap.size w w.drew) := (below_refl w).drew
  obtain ⟨A, c, rfl, _, _⟩ := id h
  obtain ⟨ad, rfl, hc0⟩ := h.cell g0
  obtain ⟨ad', ha, hc1⟩ := h.cell g1
  injection ha with ha
  subst ha
  rw [add_succ] at hc1
  rw [add_zero] at hc0
  have HC : Hid (∀ W, Below w.heap.size w W → W.cell? ad = some (.string x0) ∧ W.cell? ⟨ad.block, ad.off + 1, none⟩ = some (.string x1)) := fun W hb => ⟨(hb.cell (lt_of_cell hc0)).trans hc0, (hb.cell (lt_of_cell hc1)).trans hc1⟩
  have HX := Lib.hid (fun q W => l10Justify_any x0 q W hs0)
  have HJ := Lib.hid (fun q => justN_le x0 q)
  clear hz hc0 hc1 h g0 g1
  go_enter Tryz.func24, Tryz.ntmps24
  go_wp2_with fail
  have HS0 := HC.out _ HB0.out
  go_region_held3 (fun W => W.cell? ad = some (.string x0) ∧ W.cell? ⟨ad.block, ad.off + 1, none⟩ = some (.string x1)) (first | exact HS0 | exact HS2)
    (first | (go_at_call 54; refine (l10Whole_any x1 _ hs1).mono ?_; rintro e w5 ⟨q, rfl, q0, q1, HQ, rfl⟩) | (go_at_call 53; refine (HX.out q _).mono ?_; rintro e w6 ⟨⟨r, rfl, hr⟩, b6⟩; have HR := Lib.hid hr; clear hr; have HB6 := Lib.hid (below_trans HB0.out b6); have HS2 := HC.out _ HB6.out; clear b6; have hrz : r.size ≤ 9223372036854775807 := by (rw [ba_size, HR.out]; unfold justL; have := HJ.out q; simp; omega)) | (go_at_call 52; refine (l10Long_any r hrz _).mono ?_; rintro e w' ⟨rfl, rfl⟩))
  go_wp2_with fail
  go_ret2
  refine ⟨⟨_, _, rfl, ?_⟩, HB6.out⟩
  rw [← HQ.out, ← HR.out]
  unfold longS longC cutRes
  rw [← ba_size]
  by_cases h64 : 64 < r.size
  · rw [if_pos h64, if_pos h64, if_pos h64]
  · rw [if_neg h64, if_neg h64, if_neg h64]

theorem sLengthV_got (s d : ByteArray) (w : World) (hs : s.size ≤ 1048576) (hd : d.size ≤ 1048576) : Calls Tryz.prog 55 #[.string s, .string d] w fun e w' => e = .returned (.int .i64 (piecesX s d).length) ∧ Below w.heap.size w w' := by
  have HP := Lib.hid (sPieces_any s d w hs hd)
  have HI := Lib.hid (piecesX_is s d)
  go_enter Tryz.func55, Tryz.ntmps55
  go_wp2_with fail
  refine HP.out.mono ?_
  rintro e w1 ⟨v, xs, rfl, ho, HX, hb1⟩
  obtain ⟨A, c, rfl, hc, hr⟩ := ho.at_
  have hx := HX.out.len
  clear hr ho
  go_wp2_with fail
  go_ret
  exact ⟨by rw [← HX.out.inj HI.out]; rfl, hb1⟩

set_option maxRecDepth 8000 in
theorem sfL (v : Value) (xs : List ByteArray) (x0 : ByteArray) (g0 : xs[0]? = some x0) (w : World) (h : StrsAt w w.heap.size v xs) (hl : xs.length ≤ 1048576) (hz : ∀ x ∈ xs, x.size ≤ 1048576) :
    Calls Tryz.prog 24 #[.string ⟨#[76]⟩, v] w fun e w' => GotFun (lenL x0 (xs[1]?.getD ⟨#[]⟩) xs, 0) e ∧ Below w.heap.size w w' := by
  have hs0 := hz x0 (mem_of_get g0)
  have hln0 := lt_of_get g0
  have i0 : (0 : Int) < xs.length := by omega
  obtain ⟨A, c, rfl, _, _⟩ := id h
  obtain ⟨ad, rfl, hc0⟩ := h.cell g0
  rw [add_zero] at hc0
  by_cases t1 : 1 < xs.length
  · have g1 : xs[1]? = some xs[1] := List.getElem?_eq_getElem t1
    rw [g1]
    have hs1 := hz _ (List.getElem_mem t1)
    generalize xs[1] = x1 at *
    obtain ⟨ad', ha, hc1⟩ := h.cell g1
    injection ha with ha
    subst ha
    rw [add_succ] at hc1
    have HV : Hid (lenL x0 x1 xs = numeralL (piecesX x0 x1).length) := if_pos t1
    have HPL := Lib.hid (piecesX_is x0 x1).len
    have HCC : Hid (w.cell? ad = some (.string x0) ∧ w.cell? ⟨ad.block, ad.off + 1, none⟩ = some (.string x1)) := ⟨hc0, hc1⟩
    have HBD : Hid (Below w.heap.size w w.drew) := (below_refl w).drew
    have HP := Lib.hid (sLengthV_got x0 x1 w.drew hs0 hs1)
    show Calls Tryz.prog 24 #[_, _] w fun e w' => GotFun (lenL x0 x1 xs, 0) e ∧ Below w.heap.size w w'
    generalize lenL x0 x1 xs = V at *
    generalize (piecesX x0 x1).length = q at *
    have hq := HPL.out
    have i1 : (1 : Int) < xs.length := by omega
    have t2 : ((xs.length : Int) == 1) = false := by simp; omega
    have t3 : (xs.length == 1) = false := by simp; omega
    clear hz hc0 hc1 h g0 g1
    go_enter Tryz.func24, Tryz.ntmps24
    go_wp2_with fail
    have z0 : w.cell? ad = some (.string x0) := HCC.out.1
    have z1 : w.cell? ⟨ad.block, ad.off + 1, none⟩ = some (.string x1) := HCC.out.2
    have a0' : World.cell? { heap := w.heap, tape := w.tape, drawn := w.drawn + 1, os := w.os, output := w.output } ad = some (.string x0) := HCC.out.1
    have b0' : World.cell? { heap := w.heap, tape := w.tape, drawn := w.drawn + 1, os := w.os, output := w.output } ⟨ad.block, ad.off + 1, none⟩ = some (.string x1) := HCC.out.2
    go_still_tail 6, (by kernel_rfl)
    change wpList _ _ _ _ _ w.drew
    generalize w.drew = w5 at *
    clear a0' b0' z0 z1
    go_wp2_with fail
    refine HP.out.mono ?_
    rintro e w6 ⟨rfl, b6⟩
    have HB6 := Lib.hid (below_trans HBD.out b6); clear b6
    go_wp2_with fail
    refine (l01Text_got q (by omega) (by omega) _).mono ?_
    rintro e w7 ⟨⟨r, rfl, hr⟩, b7⟩
    have HR := Lib.hid hr; clear hr
    have HB7 := Lib.hid (below_trans HB6.out b7); clear b7
    go_wp2_with fail
    go_ret2
    exact ⟨⟨_, _, rfl, by rw [HV.out, HR.out]⟩, HB7.out⟩
  · have HV : Hid (lenL x0 (xs[1]?.getD ⟨#[]⟩) xs = numeralL x0.size) := if_neg t1
    generalize lenL x0 (xs[1]?.getD ⟨#[]⟩) xs = V at *
    have t2 : ((xs.length : Int) == 1) = true := by simp; omega
    have t3 : (xs.length == 1) = true := by simp; omega
    have HT := Lib.hid (l01Text_got x0.size (by omega) (by omega) w)
    clear hz h g0
    go_enter Tryz.func24, Tryz.ntmps24
    go_wp2_with fail
    refine HT.out.mono ?_
    rintro e w7 ⟨⟨r, rfl, hr⟩, b7⟩
    have HR := Lib.hid hr; clear hr
    have HB7 := Lib.hid b7; clear b7
    go_wp2_with fail
    go_ret2
    exact ⟨⟨_, _, rfl, by rw [HV.out, HR.out]⟩, HB7.out⟩

end Go.Proofs.YtkoagpeeohmokaaGreatDoor
