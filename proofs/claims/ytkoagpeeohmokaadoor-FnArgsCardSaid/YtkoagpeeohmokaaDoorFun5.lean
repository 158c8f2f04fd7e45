/- PureFun: what pureFun gives for each name. -/
import Derived.Test.YtkoagpeeohmokaaDoorFun4
namespace Go.Proofs.YtkoagpeeohmokaaDoor
open Go.RowKit
set_option linter.unusedVariables false

theorem pfC (v : Value) (xs : List ByteArray) (w : World) (h : StrsAt w w.heap.size v xs) (hl : xs.length ≤ 1048576) (hz : ∀ x ∈ xs, x.size ≤ 1048576) :
    Calls Tryd.prog 33 #[.string ⟨#[67]⟩, v] w fun e w' => GotStr (charL xs) e ∧ Below w.heap.size w w' := by
  have HC := Lib.hid (characters_any v xs w h hl hz)
  obtain ⟨A, c, rfl, _, _⟩ := h
  clear hz
  go_enter Tryd.func33, Tryd.ntmps33
  go_wp2_with fail
  refine HC.out.mono ?_
  rintro e w1 ⟨⟨r, rfl, hr⟩, b1⟩
  have HR := Lib.hid hr; clear hr
  go_wp2_with fail
  go_ret
  exact ⟨⟨r, rfl, HR.out⟩, b1⟩

theorem pfE (v : Value) (xs : List ByteArray) (x0 : ByteArray) (g0 : xs[0]? = some x0) (w : World) (h : StrsAt w w.heap.size v xs) (hl : xs.length ≤ 1048576) (hz : ∀ x ∈ xs, x.size ≤ 1048576) :
    Calls Tryd.prog 33 #[.string ⟨#[69]⟩, v] w fun e w' => GotStr (extL x0 xs) e ∧ Below w.heap.size w w' := by
  have HC := Lib.hid (extract_any v xs x0 g0 w h hl hz)
  obtain ⟨A, c, rfl, _, _⟩ := h
  clear hz g0
  go_enter Tryd.func33, Tryd.ntmps33
  go_wp2_with fail
  refine HC.out.mono ?_
  rintro e w1 ⟨⟨r, rfl, hr⟩, b1⟩
  have HR := Lib.hid hr; clear hr
  go_wp2_with fail
  go_ret
  exact ⟨⟨r, rfl, HR.out⟩, b1⟩

theorem pfL (v : Value) (xs : List ByteArray) (x0 : ByteArray) (g0 : xs[0]? = some x0) (w : World) (hT : T10 w) (hml : ML w) (h : StrsAt w w.heap.size v xs) (hl : xs.length ≤ 1048576) (hz : ∀ x ∈ xs, x.size ≤ 1048576) :
    Calls Tryd.prog 33 #[.string ⟨#[76]⟩, v] w fun e w' => GotStr (lenL x0 (xs[1]?.getD ⟨#[]⟩) xs) e ∧ Below w.heap.size w w' := by
  have HC := Lib.hid (length_any v xs x0 g0 w hT hml h hl hz)
  obtain ⟨A, c, rfl, _, _⟩ := h
  generalize lenL x0 (xs[1]?.getD ⟨#[]⟩) xs = V at *
  clear hz g0 hT hml
  go_enter Tryd.func33, Tryd.ntmps33
  go_wp2_with fail
  refine HC.out.mono ?_
  rintro e w1 ⟨⟨r, rfl, hr⟩, b1⟩
  have HR := Lib.hid hr; clear hr
  go_wp2_with fail
  go_ret
  exact ⟨⟨r, rfl, HR.out⟩, b1⟩

theorem pfP (v : Value) (xs : List ByteArray) (x0 x1 : ByteArray) (g0 : xs[0]? = some x0) (g1 : xs[1]? = some x1) (w : World) (hml : ML w) (h : StrsAt w w.heap.size v xs) (hl : xs.length ≤ 1048576) (hz : ∀ x ∈ xs, x.size ≤ 1048576) :
    Calls Tryd.prog 33 #[.string ⟨#[80]⟩, v] w fun e w' => GotStr (pieL x0 x1 xs) e ∧ Below w.heap.size w w' := by
  have HC := Lib.hid (piece_any v xs x0 x1 g0 g1 w hml h hl hz)
  obtain ⟨A, c, rfl, _, _⟩ := h
  clear hz g0 g1 hml
  go_enter Tryd.func33, Tryd.ntmps33
  go_wp2_with fail
  refine HC.out.mono ?_
  rintro e w1 ⟨⟨r, rfl, hr⟩, b1⟩
  have HR := Lib.hid hr; clear hr
  go_wp2_with fail
  go_ret
  exact ⟨⟨r, rfl, HR.out⟩, b1⟩

theorem pfTR (v : Value) (xs : List ByteArray) (x0 x1 : ByteArray) (g0 : xs[0]? = some x0) (g1 : xs[1]? = some x1) (w : World) (h : StrsAt w w.heap.size v xs) (hl : xs.length ≤ 1048576) (hz : ∀ x ∈ xs, x.size ≤ 1048576) :
    Calls Tryd.prog 33 #[.string ⟨#[84, 82]⟩, v] w fun e w' => GotStr (trans (sfx x0 0) (sfx x1 0) (sfx (trToL xs) 0)) e ∧ Below w.heap.size w w' := by
  have HC := Lib.hid (translate_any v xs x0 x1 g0 g1 w h hl hz)
  obtain ⟨A, c, rfl, _, _⟩ := h
  generalize trans (sfx x0 0) (sfx x1 0) (sfx (trToL xs) 0) = V at *
  clear hz g0 g1
  go_enter Tryd.func33, Tryd.ntmps33
  go_wp2_with fail
  refine HC.out.mono ?_
  rintro e w1 ⟨⟨r, rfl, hr⟩, b1⟩
  have HR := Lib.hid hr; clear hr
  go_wp2_with fail
  go_ret
  exact ⟨⟨r, rfl, HR.out⟩, b1⟩

theorem pfRE (v : Value) (xs : List ByteArray) (x0 : ByteArray) (g0 : xs[0]? = some x0) (w : World) (h : StrsAt w w.heap.size v xs) (hl : xs.length ≤ 1048576) (hz : ∀ x ∈ xs, x.size ≤ 1048576) :
    Calls Tryd.prog 33 #[.string ⟨#[82, 69]⟩, v] w fun e w' => GotStr x0.data.toList.reverse e ∧ Below w.heap.size w w' := by
  have HC := Lib.hid (reverse_any x0 w (hz x0 (mem_of_get g0)))
  have hln := lt_of_get g0
  obtain ⟨A, c, rfl, _, _⟩ := id h
  obtain ⟨ad, rfl, hc0⟩ := h.cell g0
  rw [add_zero] at hc0
  have i0 : (0 : Int) < xs.length := by omega
  clear hz g0 h
  go_enter Tryd.func33, Tryd.ntmps33
  go_wp2_with fail
  refine HC.out.mono ?_
  rintro e w1 ⟨⟨r, rfl, hr⟩, b1⟩
  have HR := Lib.hid hr; clear hr
  go_wp2_with fail
  go_ret
  exact ⟨⟨r, rfl, HR.out⟩, b1⟩

theorem pfA_at (v : Value) (xs : List ByteArray) (x0 : ByteArray) (g0 : xs[0]? = some x0) (w : World) (hT : T10 w) (h : StrsAt w w.heap.size v xs) (hl : xs.length ≤ 1048576) (hz : ∀ x ∈ xs, x.size ≤ 1048576) :
    Calls Tryd.prog 33 #[.string ⟨#[65]⟩, v] w fun e w' => GotStr (numeralL (asciiV x0 (argV xs 1 1))) e ∧ Below w.heap.size w w' := by
  cases xs with
  | nil => cases g0
  | cons y r0 =>
    injection g0 with g0
    subst g0
    exact pfA v y r0 w hT h hl hz

set_option maxRecDepth 8000 in
theorem pfF (v : Value) (xs : List ByteArray) (x0 x1 : ByteArray) (g0 : xs[0]? = some x0) (g1 : xs[1]? = some x1) (w : World) (hT : T10 w) (hml : ML w) (h : StrsAt w w.heap.size v xs) (hl : xs.length ≤ 1048576) (hz : ∀ x ∈ xs, x.size ≤ 1048576) :
    Calls Tryd.prog 33 #[.string ⟨#[70]⟩, v] w fun e w' => GotStr (numeralL (findOf x0 x1 (argV xs 2 1))) e ∧ Below w.heap.size w w' := by
  have hs0 := hz x0 (mem_of_get g0)
  have hs1 := hz x1 (mem_of_get g1)
  have hln0 := lt_of_get g0
  have hln := lt_of_get g1
  have i1 : (1 : Int) < xs.length := by omega
  have i0 : (0 : Int) < xs.length := by omega
  have HML := Lib.hid hml; clear hml
  have HT := Lib.hid hT; clear hT
  have HA : Hid (∀ W, Below w.heap.size w W → Calls Tryd.prog 65 #[v, .int .i64 2, .int .i64 1] W _) := fun W hb => argument_any v xs 2 1 2 rfl (by omega) (by omega) (by omega) W _ (h.on hb) hl hz
  obtain ⟨A, c, rfl, _, _⟩ := id h
  obtain ⟨ad, rfl, hc0⟩ := h.cell g0
  obtain ⟨ad', ha, hc1⟩ := h.cell g1
  injection ha with ha
  subst ha
  rw [add_succ] at hc1
  rw [add_zero] at hc0
  have HC : Hid (∀ W, Below w.heap.size w W → W.cell? ad = some (.string x0) ∧ W.cell? ⟨ad.block, ad.off + 1, none⟩ = some (.string x1)) := fun W hb => ⟨(hb.cell (lt_of_cell hc0)).trans hc0, (hb.cell (lt_of_cell hc1)).trans hc1⟩
  clear hz hc0 hc1 h g0 g1
  go_enter Tryd.func33, Tryd.ntmps33
  go_wp2_with fail
  have HB0 : Hid (Below w.heap.size w w.drew) := (below_refl w).drew
  have HS0 := HC.out _ HB0.out
  go_region_held3 (fun W => W.cell? ad = some (.string x0) ∧ W.cell? ⟨ad.block, ad.off + 1, none⟩ = some (.string x1)) (first | exact HS0 | exact HS1 | exact HS2)
    (first | (go_at_call 65; refine (HA.out _ HB0.out).mono ?_; rintro e w5 ⟨n, rfl, n0, n1, HN, b5⟩; have HB5 := Lib.hid (below_trans HB0.out b5); have HS1 := HC.out _ HB5.out; clear b5) | (go_at_call 68; refine (FindOf_any x0 x1 n _ (HML.out.below HB5.out) hs0 hs1).mono ?_; rintro e w' ⟨rfl, rfl⟩; have hbd := findOf_bd x0 x1 n) | (go_at_call 63; refine (numeral_any _ (by omega) (by omega) _ (HT.out.below HB5.out)).mono ?_; rintro e w6 ⟨r, rfl, HR, b6⟩; have HB6 := Lib.hid (below_trans HB5.out b6); have HS2 := HC.out _ HB6.out; clear b6))
  go_wp2_with fail
  go_ret
  exact ⟨⟨r, rfl, by rw [HR.out, HN.out]⟩, HB6.out⟩

set_option maxRecDepth 8000 in
theorem pfJ (v : Value) (xs : List ByteArray) (x0 x1 : ByteArray) (g0 : xs[0]? = some x0) (g1 : xs[1]? = some x1) (w : World) (h : StrsAt w w.heap.size v xs) (hl : xs.length ≤ 1048576) (hz : ∀ x ∈ xs, x.size ≤ 1048576) :
    Calls Tryd.prog 33 #[.string ⟨#[74]⟩, v] w fun e w' => GotStr (justL x0 (wholeV x1)) e ∧ Below w.heap.size w w' := by
  have hs0 := hz x0 (mem_of_get g0)
  have hs1 := hz x1 (mem_of_get g1)
  have hln0 := lt_of_get g0
  have hln := lt_of_get g1
  have i1 : (1 : Int) < xs.length := by omega
  have i0 : (0 : Int) < xs.length := by omega
  obtain ⟨A, c, rfl, _, _⟩ := id h
  obtain ⟨ad, rfl, hc0⟩ := h.cell g0
  obtain ⟨ad', ha, hc1⟩ := h.cell g1
  injection ha with ha
  subst ha
  rw [add_succ] at hc1
  rw [add_zero] at hc0
  have HC : Hid (∀ W, Below w.heap.size w W → W.cell? ad = some (.string x0) ∧ W.cell? ⟨ad.block, ad.off + 1, none⟩ = some (.string x1)) := fun W hb => ⟨(hb.cell (lt_of_cell hc0)).trans hc0, (hb.cell (lt_of_cell hc1)).trans hc1⟩
  clear hz hc0 hc1 h g0 g1
  go_enter Tryd.func33, Tryd.ntmps33
  go_wp2_with fail
  have HB0 : Hid (Below w.heap.size w w.drew) := (below_refl w).drew
  have HS0 := HC.out _ HB0.out
  go_region_held3 (fun W => W.cell? ad = some (.string x0) ∧ W.cell? ⟨ad.block, ad.off + 1, none⟩ = some (.string x1)) (first | exact HS0 | exact HS1 | exact HS2)
    (first | (go_at_call 70; refine (integer_any x1 _ hs1).mono ?_; rintro e w5 ⟨n, rfl, n0, n1, HN, b5⟩; have HB5 := Lib.hid (below_trans HB0.out b5); have HS1 := HC.out _ HB5.out; clear b5) | (go_at_call 69; refine (JustifyOf_any x0 n _ hs0).mono ?_; rintro e w6 ⟨⟨r, rfl, hr⟩, b6⟩; have HR := Lib.hid hr; clear hr; have HB6 := Lib.hid (below_trans HB5.out b6); have HS2 := HC.out _ HB6.out; clear b6))
  go_wp2_with fail
  go_ret
  exact ⟨⟨r, rfl, by rw [HR.out, HN.out]⟩, HB6.out⟩

end Go.Proofs.YtkoagpeeohmokaaDoor
