/- PutSubs and KeyOf: spec's side, and the walks of the two laws. -/
import Derived.Test.YtjedmpkjopgklaaGreatDoorPutSubs
import Derived.Test.YtjedmpkjopgklaaGreatDoorLoc
namespace Go.Proofs.YtjedmpkjopgklaaGreatDoor
open Go.RowKit
set_option linter.unusedVariables false

set_option maxRecDepth 8000 in
theorem l02Put_any (v : Value) (xs : List ByteArray) (w : World) (h : StrsAt w w.heap.size v xs) (h4 : xs.length ≤ 4) (h24 : ∀ x ∈ xs, x.size ≤ 24) :
    Calls Tryz.prog 181 #[v] w fun e w' => ∃ r : ByteArray, e = .returned (.string r) ∧ Hid (r.data.toList = putB xs) ∧ Below w.heap.size w w' := by
  have H24 := Lib.hid h24; clear h24
  obtain ⟨A, c, rfl, hc, hr⟩ := h
  go_enter Tryz.func181, Tryz.ntmps181
  go_wp2_with fail
  go_loopw [3, 4] (fun t i wr => ∃ (k : Nat) (T : ByteArray), k ≤ xs.length ∧ i = .int .i64 k ∧ t = .string T ∧ T.size ≤ 84 * k ∧ Hid (T.data.toList = putB (xs.take k)) ∧ Below w.heap.size w wr) (fun _ i _ => xs.length - (intOf i).toNat)
  case atStart => exact ⟨0, ⟨#[]⟩, Nat.zero_le _, rfl, rfl, by decide, by show _ = _; rfl, below_refl _⟩
  case round =>
    obtain ⟨k, T, hk, rfl, rfl, hT, HI, hbel⟩ := hrel
    have hbs := hbel.size
    by_cases hlt : k < xs.length
    · obtain ⟨ad, rfl, _, hcell⟩ := (hr.below hbel).strAt hlt
      have hzx := H24.out _ (List.getElem_mem hlt)
      have HD : Hid (putB (xs.take (k + 1)) = putB (xs.take k) ++ keyB xs[k]) := by
        show putB _ = _
        unfold putB
        rw [List.take_succ_eq_append_getElem hlt, List.flatMap_append, List.flatMap_cons, List.flatMap_nil, List.append_nil]
      have hkl := keyB_len xs[k]
      generalize xs[k] = x at *
      go_wp2_with fail
      refine (l02Key_any x _ (by omega)).mono ?_
      rintro e w2 ⟨r, rfl, HR, hb2⟩
      have hrs : r.size ≤ 84 := by rw [ba_size, HR.out]; omega
      go_wp2_with fail
      refine ⟨⟨k + 1, _, by omega, by go_num, rfl, by simp; omega, ?_, below_trans hbel hb2⟩, by simp [intOf]; omega⟩
      show _ = _
      rw [ba_app, HI.out, HR.out, HD.out]
    · obtain rfl : k = xs.length := by omega
      rw [List.take_length] at HI
      go_wp2_with fail
      go_ret
      exact ⟨_, rfl, HI, hbel⟩

def keyOfB (name : ByteArray) (xs : List ByteArray) : List UInt8 := if locOk name xs then name.data.toList ++ 1 :: putB xs else []

end Go.Proofs.YtjedmpkjopgklaaGreatDoor
