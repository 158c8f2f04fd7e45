/- PureFun: the program's own function for each name. -/
import Derived.Test.YtkoagpeeohmokaaDoorFun3
import Derived.Test.YtkoagpeeohmokaaDoorRevB
namespace Go.Proofs.YtkoagpeeohmokaaDoor
open Go.RowKit
set_option linter.unusedVariables false

theorem StrsAt.cell {w : World} {A : Option Addr} {n c : Nat} {xs : List ByteArray} (h : StrsAt w w.heap.size (.slice A n c) xs) {k : Nat} {x : ByteArray} (hk : xs[k]? = some x) : ∃ ad, A = some ad ∧ w.cell? (ad.add k) = some (.string x) := by
  obtain ⟨hlt, rfl⟩ := List.getElem?_eq_some_iff.1 hk
  exact h.at0 hlt

theorem add_succ (a : Addr) (n : Nat) : a.add (n + 1) = ⟨a.block, a.off + (n + 1), none⟩ := by simp [Addr.add]

theorem add_zero (a : Addr) : a.add 0 = a := by simp [Addr.add]

theorem mem_of_get {xs : List ByteArray} {k : Nat} {x : ByteArray} (h : xs[k]? = some x) : x ∈ xs := List.mem_of_getElem? h

theorem lt_of_get {xs : List ByteArray} {k : Nat} {x : ByteArray} (h : xs[k]? = some x) : k < xs.length := (List.getElem?_eq_some_iff.1 h).1

set_option maxRecDepth 8000 in
theorem extract_any (v : Value) (xs : List ByteArray) (x0 : ByteArray) (g0 : xs[0]? = some x0) (w : World) (h : StrsAt w w.heap.size v xs) (hl : xs.length ≤ 1048576) (hz : ∀ x ∈ xs, x.size ≤ 1048576) :
    Calls Tryd.prog 67 #[v] w fun e w' => GotStr (extL x0 xs) e ∧ Below w.heap.size w w' := by
  have hs0 := hz x0 (mem_of_get g0)
  have hln := lt_of_get g0
  have HA : Hid (∀ W k d kn, k = ((kn : Nat) : Int) → kn ≤ 9 → -1000000000000 ≤ d → d ≤ 1000000000000 → Below w.heap.size w W → Calls Tryd.prog 65 #[v, .int .i64 k, .int .i64 d] W _) := fun W k d kn e h9 d0 d1 hb => argument_any v xs k d kn e h9 d0 d1 W _ (h.on hb) hl hz
  obtain ⟨A, c, rfl, _, _⟩ := id h
  obtain ⟨ad, rfl, hc0⟩ := h.cell g0
  rw [add_zero] at hc0
  have HC : Hid (∀ W, Below w.heap.size w W → W.cell? ad = some (.string x0)) := fun W hb => (hb.cell (lt_of_cell hc0)).trans hc0
  clear hz hc0 h g0
  go_enter Tryd.func67, Tryd.ntmps67
  go_wp2_with fail
  refine (HA.out _ 1 1 1 rfl (by omega) (by omega) (by omega) (below_refl _)).mono ?_
  rintro e w1 ⟨m, rfl, m0, m1, HM, b1⟩
  have HB1 := Lib.hid b1; clear b1
  go_wp2_with fail
  refine (HA.out _ 2 m 2 rfl (by omega) m0 m1 HB1.out).mono ?_
  rintro e w2 ⟨n, rfl, n0, n1, HN, b2⟩
  have HB2 := Lib.hid (below_trans HB1.out b2); clear b2
  have hc2 := HC.out _ HB2.out
  by_cases hm : xs.length < 3 ∧ m < 1
  · obtain ⟨t1, t2⟩ := hm
    have HV : Hid (extL x0 xs = []) := by show _ = _; unfold extL; exact if_pos ⟨t1, by rw [← HM.out]; exact t2⟩
    go_wp2_with fail
    go_ret
    exact ⟨⟨_, rfl, HV.out.symm⟩, HB2.out⟩
  · have HV : Hid (extL x0 xs = (extractOf x0 m n).data.toList) := by
      show _ = _
      unfold extL
      rw [if_neg (by rw [← HM.out]; exact hm), HN.out, HM.out]
    have hm2 : ¬ xs.length < 3 ∨ ¬ m < 1 := by omega
    clear hm
    rcases hm2 with t1 | t1
    · go_wp2_with fail
      refine (ExtractOf_any x0 m n _ hs0).mono ?_
      rintro e w' ⟨rfl, rfl⟩
      go_wp2_with fail
      go_ret
      exact ⟨⟨_, rfl, HV.out.symm⟩, HB2.out⟩
    · by_cases t2 : xs.length < 3
      all_goals
        go_wp2_with fail
        refine (ExtractOf_any x0 m n _ hs0).mono ?_
        rintro e w' ⟨rfl, rfl⟩
        go_wp2_with fail
        go_ret
        exact ⟨⟨_, rfl, HV.out.symm⟩, HB2.out⟩

theorem pieceV_got (s d : ByteArray) (m n : Int) (w : World) (hml : ML w) (hs : s.size ≤ 1048576) (hd : d.size ≤ 1048576) : Calls Tryd.prog 96 #[.string s, .string d, .int .i64 m, .int .i64 n] w fun e w' => GotStr (pieceV s d m n) e ∧ Below w.heap.size w w' :=
  (PieceOf_any s d m n (if 1 < m then m else 1) (if n < (piecesX s d).length then n else (piecesX s d).length) (piecesX s d) (piecesX_is s d) (by split <;> omega) (by split <;> omega) w hml hs hd).mono fun e w' ⟨r, he, hr, hb⟩ => ⟨⟨r, he, hr.out⟩, hb⟩

set_option maxRecDepth 8000 in
theorem piece_any (v : Value) (xs : List ByteArray) (x0 x1 : ByteArray) (g0 : xs[0]? = some x0) (g1 : xs[1]? = some x1) (w : World) (hml : ML w) (h : StrsAt w w.heap.size v xs) (hl : xs.length ≤ 1048576) (hz : ∀ x ∈ xs, x.size ≤ 1048576) :
    Calls Tryd.prog 72 #[v] w fun e w' => GotStr (pieL x0 x1 xs) e ∧ Below w.heap.size w w' := by
  have hs0 := hz x0 (mem_of_get g0)
  have hs1 := hz x1 (mem_of_get g1)
  have hln0 := lt_of_get g0
  have hln := lt_of_get g1
  have HML := Lib.hid hml; clear hml
  have HA : Hid (∀ W k d kn, k = ((kn : Nat) : Int) → kn ≤ 9 → -1000000000000 ≤ d → d ≤ 1000000000000 → Below w.heap.size w W → Calls Tryd.prog 65 #[v, .int .i64 k, .int .i64 d] W _) := fun W k d kn e h9 d0 d1 hb => argument_any v xs k d kn e h9 d0 d1 W _ (h.on hb) hl hz
  obtain ⟨A, c, rfl, _, _⟩ := id h
  obtain ⟨ad, rfl, hc0⟩ := h.cell g0
  obtain ⟨ad', ha, hc1⟩ := h.cell g1
  injection ha with ha
  subst ha
  rw [add_succ] at hc1
  rw [add_zero] at hc0
  have HC : Hid (∀ W, Below w.heap.size w W → W.cell? ad = some (.string x0) ∧ W.cell? ⟨ad.block, ad.off + 1, none⟩ = some (.string x1)) := fun W hb => ⟨(hb.cell (lt_of_cell hc0)).trans hc0, (hb.cell (lt_of_cell hc1)).trans hc1⟩
  clear hz hc0 hc1 h g0 g1
  go_enter Tryd.func72, Tryd.ntmps72
  go_wp2_with fail
  refine (HA.out _ 2 1 2 rfl (by omega) (by omega) (by omega) (below_refl _)).mono ?_
  rintro e w1 ⟨m, rfl, m0, m1, HM, b1⟩
  have HB1 := Lib.hid b1; clear b1
  go_wp2_with fail
  refine (HA.out _ 3 m 3 rfl (by omega) m0 m1 HB1.out).mono ?_
  rintro e w2 ⟨n, rfl, n0, n1, HN, b2⟩
  have HB2 := Lib.hid (below_trans HB1.out b2); clear b2
  by_cases hm : xs.length < 4 ∧ m < 1
  · obtain ⟨t1, t2⟩ := hm
    have HV : Hid (pieL x0 x1 xs = []) := by show _ = _; unfold pieL; exact if_pos ⟨t1, by rw [← HM.out]; exact t2⟩
    go_wp2_with fail
    go_ret
    exact ⟨⟨_, rfl, HV.out.symm⟩, HB2.out⟩
  · have HV : Hid (pieL x0 x1 xs = pieceV x0 x1 m n) := by
      show _ = _
      unfold pieL
      rw [if_neg (by rw [← HM.out]; exact hm), HN.out, HM.out]
    have hm2 : ¬ xs.length < 4 ∨ (xs.length < 4 ∧ ¬ m < 1) := by omega
    clear hm
    have HP : Hid (Calls Tryd.prog 96 #[.string x0, .string x1, .int .i64 m, .int .i64 n] w2.drew _) := pieceV_got x0 x1 m n w2.drew (HML.out.below HB2.out.drew) hs0 hs1
    have HBD : Hid (Below w.heap.size w w2.drew) := HB2.out.drew
    have HCC := Lib.hid (HC.out _ HB2.out.drew)
    rcases hm2 with t1 | ⟨t1, t2⟩
    all_goals
      go_wp2_with fail
      have z0 : w2.cell? ad = some (.string x0) := HCC.out.1
      have z1 : w2.cell? ⟨ad.block, ad.off + 1, none⟩ = some (.string x1) := HCC.out.2
      have a0' : World.cell? { heap := w2.heap, tape := w2.tape, drawn := w2.drawn + 1, os := w2.os, output := w2.output } ad = some (.string x0) := HCC.out.1
      have b0' : World.cell? { heap := w2.heap, tape := w2.tape, drawn := w2.drawn + 1, os := w2.os, output := w2.output } ⟨ad.block, ad.off + 1, none⟩ = some (.string x1) := HCC.out.2
      have i1 : (1 : Int) < xs.length := by omega
      have i0 : (0 : Int) < xs.length := by omega
      go_still_tail 8, (by kernel_rfl)
      change wpList _ _ _ _ _ w2.drew
      generalize w2.drew = w5 at *
      clear a0' b0' z0 z1
      go_wp2_with fail
      refine HP.out.mono ?_
      rintro e w6 ⟨⟨r, rfl, hr⟩, b6⟩
      have HR := Lib.hid hr; clear hr
      have HB6 := Lib.hid (below_trans HBD.out b6); clear b6
      go_wp2_with fail
      go_ret
      exact ⟨⟨_, rfl, by rw [HV.out]; exact HR.out⟩, HB6.out⟩

def trToL (xs : List ByteArray) : ByteArray := xs[2]?.getD ⟨#[]⟩

set_option maxRecDepth 8000 in
theorem translate_any (v : Value) (xs : List ByteArray) (x0 x1 : ByteArray) (g0 : xs[0]? = some x0) (g1 : xs[1]? = some x1) (w : World) (h : StrsAt w w.heap.size v xs) (hl : xs.length ≤ 1048576) (hz : ∀ x ∈ xs, x.size ≤ 1048576) :
    Calls Tryd.prog 73 #[v] w fun e w' => GotStr (trans (sfx x0 0) (sfx x1 0) (sfx (trToL xs) 0)) e ∧ Below w.heap.size w w' := by
  have hs0 := hz x0 (mem_of_get g0)
  have hs1 := hz x1 (mem_of_get g1)
  have hln0 := lt_of_get g0
  have hln := lt_of_get g1
  obtain ⟨A, c, rfl, _, _⟩ := id h
  obtain ⟨ad, rfl, hc0⟩ := h.cell g0
  obtain ⟨ad', ha, hc1⟩ := h.cell g1
  injection ha with ha
  subst ha
  rw [add_succ] at hc1
  rw [add_zero] at hc0
  have HCC : Hid (w.drew.cell? ad = some (.string x0) ∧ w.drew.cell? ⟨ad.block, ad.off + 1, none⟩ = some (.string x1)) := ⟨hc0, hc1⟩
  have HBD : Hid (Below w.heap.size w w.drew) := (below_refl w).drew
  by_cases t1 : 2 < xs.length
  · have g2 : xs[2]? = some xs[2] := List.getElem?_eq_getElem t1
    have hs2 := hz _ (List.getElem_mem t1)
    have HV : Hid (trToL xs = xs[2]) := by show _ = _; unfold trToL; rw [g2]; rfl
    generalize xs[2] = x2 at *
    obtain ⟨ad', ha, hc2⟩ := h.cell g2
    injection ha with ha
    subst ha
    rw [add_succ] at hc2
    have i2 : (2 : Int) < xs.length := by omega
    have HP : Hid (Calls Tryd.prog 97 #[.string x0, .string x1, .string x2] w.drew _) := TranslateOf_any x0 x1 x2 w.drew hs0 hs2
    clear hz hc0 hc1 h g0 g1 g2
    go_enter Tryd.func73, Tryd.ntmps73
    go_wp2_with fail
    have z0 : w.cell? ad = some (.string x0) := HCC.out.1
    have z1 : w.cell? ⟨ad.block, ad.off + 1, none⟩ = some (.string x1) := HCC.out.2
    have a0' : World.cell? { heap := w.heap, tape := w.tape, drawn := w.drawn + 1, os := w.os, output := w.output } ad = some (.string x0) := HCC.out.1
    have b0' : World.cell? { heap := w.heap, tape := w.tape, drawn := w.drawn + 1, os := w.os, output := w.output } ⟨ad.block, ad.off + 1, none⟩ = some (.string x1) := HCC.out.2
    have i1 : (1 : Int) < xs.length := by omega
    have i0 : (0 : Int) < xs.length := by omega
    go_still_tail 7, (by kernel_rfl)
    change wpList _ _ _ _ _ w.drew
    generalize w.drew = w5 at *
    clear a0' b0' z0 z1
    go_wp2_with fail
    refine HP.out.mono ?_
    rintro e w6 ⟨⟨r, rfl, hr⟩, b6⟩
    have HR := Lib.hid hr; clear hr
    have HB6 := Lib.hid (below_trans HBD.out b6); clear b6
    go_wp2_with fail
    go_ret
    exact ⟨⟨_, rfl, by rw [HV.out]; exact HR.out⟩, HB6.out⟩
  · have HV : Hid (trToL xs = ⟨#[]⟩) := by show _ = _; unfold trToL; rw [List.getElem?_eq_none (by omega)]; rfl
    have HP : Hid (Calls Tryd.prog 97 #[.string x0, .string x1, .string ⟨#[]⟩] w.drew _) := TranslateOf_any x0 x1 ⟨#[]⟩ w.drew hs0 (by decide)
    clear hz hc0 hc1 h g0 g1
    go_enter Tryd.func73, Tryd.ntmps73
    go_wp2_with fail
    have z0 : w.cell? ad = some (.string x0) := HCC.out.1
    have z1 : w.cell? ⟨ad.block, ad.off + 1, none⟩ = some (.string x1) := HCC.out.2
    have a0' : World.cell? { heap := w.heap, tape := w.tape, drawn := w.drawn + 1, os := w.os, output := w.output } ad = some (.string x0) := HCC.out.1
    have b0' : World.cell? { heap := w.heap, tape := w.tape, drawn := w.drawn + 1, os := w.os, output := w.output } ⟨ad.block, ad.off + 1, none⟩ = some (.string x1) := HCC.out.2
    have i1 : (1 : Int) < xs.length := by omega
    have i0 : (0 : Int) < xs.length := by omega
    go_still_tail 7, (by kernel_rfl)
    change wpList _ _ _ _ _ w.drew
    generalize w.drew = w5 at *
    clear a0' b0' z0 z1
    go_wp2_with fail
    refine HP.out.mono ?_
    rintro e w6 ⟨⟨r, rfl, hr⟩, b6⟩
    have HR := Lib.hid hr; clear hr
    have HB6 := Lib.hid (below_trans HBD.out b6); clear b6
    go_wp2_with fail
    go_ret
    exact ⟨⟨_, rfl, by rw [HV.out]; exact HR.out⟩, HB6.out⟩

theorem lengthV_got (s d : ByteArray) (w : World) (hml : ML w) (hs : s.size ≤ 1048576) (hd : d.size ≤ 1048576) : Calls Tryd.prog 95 #[.string s, .string d] w fun e w' => e = .returned (.int .i64 (piecesX s d).length) ∧ Below w.heap.size w w' :=
  (LengthOf_any s d w hml hs hd).mono fun e w' ⟨xs, he, hx, hb⟩ => ⟨by rw [he, hx.out.inj (piecesX_is s d)], hb⟩

set_option maxRecDepth 8000 in
theorem length_any (v : Value) (xs : List ByteArray) (x0 : ByteArray) (g0 : xs[0]? = some x0) (w : World) (hT : T10 w) (hml : ML w) (h : StrsAt w w.heap.size v xs) (hl : xs.length ≤ 1048576) (hz : ∀ x ∈ xs, x.size ≤ 1048576) :
    Calls Tryd.prog 71 #[v] w fun e w' => GotStr (lenL x0 (xs[1]?.getD ⟨#[]⟩) xs) e ∧ Below w.heap.size w w' := by
  have hs0 := hz x0 (mem_of_get g0)
  have hln0 := lt_of_get g0
  have HML := Lib.hid hml; clear hml
  have HT := Lib.hid hT; clear hT
  obtain ⟨A, c, rfl, _, _⟩ := id h
  obtain ⟨ad, rfl, hc0⟩ := h.cell g0
  rw [add_zero] at hc0
  by_cases t1 : 1 < xs.length
  · have g1 : xs[1]? = some xs[1] := List.getElem?_eq_getElem t1
    rw [g1]
    have hs1 := hz _ (List.getElem_mem t1)
    generalize xs[1] = x1 at *
    obtain ⟨ad', ha, hc1⟩ := h.cell g1
    injection ha with ha
    subst ha
    rw [add_succ] at hc1
    have HV : Hid (lenL x0 x1 xs = numeralL (piecesX x0 x1).length) := if_pos t1
    have HPL := Lib.hid (piecesX_is x0 x1).len
    have HCC : Hid (w.drew.cell? ad = some (.string x0) ∧ w.drew.cell? ⟨ad.block, ad.off + 1, none⟩ = some (.string x1)) := ⟨hc0, hc1⟩
    have HBD : Hid (Below w.heap.size w w.drew) := (below_refl w).drew
    have HP : Hid (Calls Tryd.prog 95 #[.string x0, .string x1] w.drew _) := lengthV_got x0 x1 w.drew (HML.out.below HBD.out) hs0 hs1
    show Calls Tryd.prog 71 #[_] w fun e w' => GotStr (lenL x0 x1 xs) e ∧ Below w.heap.size w w'
    generalize lenL x0 x1 xs = V at *
    generalize (piecesX x0 x1).length = q at *
    have hq := HPL.out
    clear hz hc0 hc1 h g0 g1
    go_enter Tryd.func71, Tryd.ntmps71
    go_wp2_with fail
    have z0 : w.cell? ad = some (.string x0) := HCC.out.1
    have z1 : w.cell? ⟨ad.block, ad.off + 1, none⟩ = some (.string x1) := HCC.out.2
    have a0' : World.cell? { heap := w.heap, tape := w.tape, drawn := w.drawn + 1, os := w.os, output := w.output } ad = some (.string x0) := HCC.out.1
    have b0' : World.cell? { heap := w.heap, tape := w.tape, drawn := w.drawn + 1, os := w.os, output := w.output } ⟨ad.block, ad.off + 1, none⟩ = some (.string x1) := HCC.out.2
    have i1 : (1 : Int) < xs.length := by omega
    have i0 : (0 : Int) < xs.length := by omega
    go_still_tail 6, (by kernel_rfl)
    change wpList _ _ _ _ _ w.drew
    generalize w.drew = w5 at *
    clear a0' b0' z0 z1
    go_wp2_with fail
    refine HP.out.mono ?_
    rintro e w6 ⟨rfl, b6⟩
    have HB6 := Lib.hid (below_trans HBD.out b6); clear b6
    go_wp2_with fail
    refine (numeral_any _ (by omega) (by omega) _ (HT.out.below HB6.out)).mono ?_
    rintro e w7 ⟨r, rfl, HR, b7⟩
    have HB7 := Lib.hid (below_trans HB6.out b7); clear b7
    go_wp2_with fail
    go_ret
    exact ⟨⟨_, rfl, by rw [HV.out]; exact HR.out⟩, HB7.out⟩
  · have HV : Hid (lenL x0 (xs[1]?.getD ⟨#[]⟩) xs = numeralL x0.size) := if_neg t1
    generalize lenL x0 (xs[1]?.getD ⟨#[]⟩) xs = V at *
    clear hz h g0
    go_enter Tryd.func71, Tryd.ntmps71
    go_wp2_with fail
    refine (numeral_any _ (by omega) (by omega) _ HT.out).mono ?_
    rintro e w7 ⟨r, rfl, HR, b7⟩
    have HB7 := Lib.hid b7; clear b7
    go_wp2_with fail
    go_ret
    exact ⟨⟨_, rfl, by rw [HV.out]; exact HR.out⟩, HB7.out⟩

end Go.Proofs.YtkoagpeeohmokaaDoor
