/- PureFun: what the program's own function gives for each name. -/
import Derived.Test.YtkoagpeeohmokaaDoorFun1
import Derived.RegionTactic
import Derived.Deep.RegionHeld3
import Derived.StillTailTactics
namespace Go.Proofs.YtkoagpeeohmokaaDoor
open Go.RowKit
set_option linter.unusedVariables false

def GotStr (L : List UInt8) (e : Ending) : Prop := ∃ r : ByteArray, e = .returned (.string r) ∧ r.data.toList = L

theorem StrsAt.at0 {w : World} {A : Option Addr} {n c : Nat} {xs : List ByteArray} (h : StrsAt w w.heap.size (.slice A n c) xs) {k : Nat} (hk : k < xs.length) : ∃ ad, A = some ad ∧ w.cell? (ad.add k) = some (.string xs[k]) := by
  obtain ⟨A', c', e, _, hr⟩ := h
  injection e with e1 e2 e3
  subst e1
  obtain ⟨ad, h1, _, h2⟩ := hr.strAt hk
  exact ⟨ad, h1, h2⟩

set_option maxRecDepth 8000 in
theorem pfA (v : Value) (x0 : ByteArray) (r0 : List ByteArray) (w : World) (hT : T10 w) (h : StrsAt w w.heap.size v (x0 :: r0)) (hl : (x0 :: r0).length ≤ 1048576) (hz : ∀ x ∈ x0 :: r0, x.size ≤ 1048576) :
    Calls Tryd.prog 33 #[.string ⟨#[65]⟩, v] w fun e w' => GotStr (numeralL (asciiV x0 (argV (x0 :: r0) 1 1))) e ∧ Below w.heap.size w w' := by
  have H := Lib.hid h
  have HT := Lib.hid hT; clear hT
  have hs0 := hz x0 List.mem_cons_self
  obtain ⟨A, c, rfl, _, _⟩ := h
  obtain ⟨ad, rfl, hc0⟩ := H.out.at0 (show 0 < (x0 :: r0).length by simp)
  replace hc0 : w.cell? ad = some (.string x0) := by simpa [Addr.add] using hc0
  have HA : Hid (∀ W, Below w.heap.size w W → Calls Tryd.prog 65 #[_, .int .i64 1, .int .i64 1] W _) := fun W hb => argument_any _ _ 1 1 1 rfl (by omega) (by omega) (by omega) W _ (H.out.on hb) hl hz
  have hlen : 0 < (x0 :: r0).length := by simp
  have HC0 : Hid (w.cell? ad = some (.string x0)) := hc0
  clear hz hc0
  go_enter Tryd.func33, Tryd.ntmps33
  go_wp2_with fail
  have HB0 : Hid (Below w.heap.size w w.drew) := (below_refl w).drew
  have HS0 : w.drew.cell? ad = some (.string x0) := HC0.out
  go_region_held3 (fun W => W.cell? ad = some (.string x0)) (first | exact HS0 | exact HS1 | exact HS2)
    (first | (go_at_call 65; refine (HA.out _ HB0.out).mono ?_; rintro e w5 ⟨n, rfl, n0, n1, HN, b5⟩; have HB5 := Lib.hid (below_trans HB0.out b5); have HS1 := (HB5.out.cell (lt_of_cell HC0.out)).trans HC0.out; clear b5) | (go_at_call 64; refine (ascii_any x0 n _ hs0).mono ?_; rintro e w' ⟨rfl, rfl⟩; have hbd := asciiV_bd x0 n) | (go_at_call 63; refine (numeral_any _ (by omega) (by omega) _ (HT.out.below HB5.out)).mono ?_; rintro e w6 ⟨r, rfl, HR, b6⟩; have HB6 := Lib.hid (below_trans HB5.out b6); have HS2 := (HB6.out.cell (lt_of_cell HC0.out)).trans HC0.out; clear b6))
  go_wp2_with fail
  go_ret
  exact ⟨⟨r, rfl, by rw [HR.out, HN.out]⟩, HB6.out⟩

end Go.Proofs.YtkoagpeeohmokaaDoor
