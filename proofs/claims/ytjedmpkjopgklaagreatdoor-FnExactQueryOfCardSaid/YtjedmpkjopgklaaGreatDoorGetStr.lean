/- impl.getString: reads an encoded text. -/
import Derived.Test.YtjedmpkjopgklaaGreatDoorGetSubs
namespace Go.Proofs.YtjedmpkjopgklaaGreatDoor
open Go.RowKit
set_option linter.unusedVariables false

/-- The text up to two noughts, and what is behind it. -/
def decS : List UInt8 → Option (List UInt8 × List UInt8)
  | [] => none
  | [_] => none
  | a :: b :: r => if a = 0 then (if b = 0 then some ([], r) else if b = 255 then (decS r).map fun x => (0 :: x.1, x.2) else none) else (decS (b :: r)).map fun x => (a :: x.1, x.2)

def addS (L : List UInt8) (x : Option (List UInt8 × List UInt8)) : Option (List UInt8 × List UInt8) := x.map fun y => (L ++ y.1, y.2)

theorem addS_nil (x : Option (List UInt8 × List UInt8)) : addS [] x = x := by cases x <;> simp [addS]

theorem addS_addS (L M : List UInt8) (x : Option (List UInt8 × List UInt8)) : addS L (addS M x) = addS (L ++ M) x := by cases x <;> simp [addS]

theorem decS_other {a b : UInt8} {r : List UInt8} (h : a ≠ 0) : decS (a :: b :: r) = addS [a] (decS (b :: r)) := by rw [decS, if_neg h]; rfl

theorem decS_end (r : List UInt8) : decS (0 :: 0 :: r) = some ([], r) := by rw [decS, if_pos rfl, if_pos rfl]

theorem decS_zero (r : List UInt8) : decS (0 :: 255 :: r) = addS [0] (decS r) := by rw [decS, if_pos rfl, if_neg (by decide), if_pos rfl]; rfl

theorem decS_bad {b : UInt8} {r : List UInt8} (h0 : b ≠ 0) (h1 : b ≠ 255) : decS (0 :: b :: r) = none := by rw [decS, if_pos rfl, if_neg h0, if_neg h1]

theorem decS_short {l : List UInt8} (h : l.length ≤ 1) : decS l = none := by
  match l, h with
  | [], _ => rfl
  | [_], _ => rfl
  | _ :: _ :: _, h => simp at h

/-- What a read of an encoded text hands back. -/
def StrGot (l : List UInt8) (e : Ending) : Prop := ∃ (r t : ByteArray) (b : Bool), e = .returned (.tuple #[.string r, .string t, .bool b]) ∧ ((b = true ∧ decS l = some (r.data.toList, t.data.toList)) ∨ (b = false ∧ decS l = none))

set_option maxHeartbeats 1000000 in
set_option maxRecDepth 8000 in
theorem getString_any (s : ByteArray) (w : World) (hs : s.size ≤ 1048576) : Calls Tryz.prog 201 #[.string s] w fun e w' => StrGot s.data.toList e ∧ Below w.heap.size w w' := by
  go_enter Tryz.func201, Tryz.ntmps201
  go_wp2
  go_loopw [6] (fun i wr => ∃ (k : Nat) (L : List UInt8), k ≤ s.size + 1 ∧ i = .int .i64 k ∧ L.length ≤ k ∧ Bld wr w.heap.size w.heap.size L ∧ Below w.heap.size w wr ∧ Hid (decS s.data.toList = addS L (decS (sfx s k)))) (fun i _ => s.size + 1 - (intOf i).toNat)
  case atStart => exact ⟨0, [], Nat.zero_le _, rfl, by simp, Bld.new w, (Below.refl _ _).alloc (Nat.le_refl _) _, (addS_nil _).symm⟩
  case round =>
    obtain ⟨k, L, hk, rfl, hL, hbld, hbel, HI⟩ := hrel
    have hbs := hbel.size
    by_cases hlt : k + 1 < s.size
    · have hlt0 : k < s.size := by omega
      have HS := Lib.hid (sfx_lt hlt0)
      have HS2 := Lib.hid (sfx_lt hlt)
      rcases eqForms (s[k].toNat : Int) 0 with ⟨e1, e2, e3⟩ | ⟨e1, e2, e3⟩
      · have HC : Hid (s[k] = 0) := by show s[k] = 0; exact UInt8.toNat_inj.1 (by have := e3.out; have e : (0 : UInt8).toNat = 0 := rfl; omega)
        rcases eqForms (s[k + 1].toNat : Int) 0 with ⟨f1, f2, f3⟩ | ⟨f1, f2, f3⟩
        · have HC2 : Hid (s[k + 1] = 0) := by show s[k + 1] = 0; exact UInt8.toNat_inj.1 (by have := f3.out; have e : (0 : UInt8).toNat = 0 := rfl; omega)
          have HW := Lib.hid (BString_any w.heap.size w.heap.size L wr.drew hbld hbs)
          have w2 : IntKind.i64.wrap ((k : Int) + 2) = k + 2 := IntWalk.i64_in _ (by omega)
          have h2 : (k : Int) + 2 ≤ s.size := by omega
          have h20 : (0 : Int) ≤ k + 2 := by omega
          have HV : Hid (decS s.data.toList = some (L, sfx s (k + 2))) := by
            show _ = _
            rw [HI.out, HS.out, HC.out, HS2.out, HC2.out, decS_end]; simp [addS]
          go_wp2_with fail
          go_region_with (first | (go_at_call 217; refine HW.out.mono ?_; rintro e w1 ⟨rfl, hl1⟩))
          all_goals
            go_wp2_with fail
            go_ret3
            refine ⟨⟨⟨L.toArray⟩, s.extract (k + 2) s.size, true, rfl, .inl ⟨rfl, ?_⟩⟩, hbel.trans ⟨hl1.os, hl1.tape, hl1.output, hl1.size, hl1.block⟩⟩
            rw [HV.out]
            unfold sfx
            simp only [ByteArray.data_extract, Array.toList_extract, List.extract_eq_take_drop]
            rw [List.take_of_length_le (by rw [List.length_drop, ← ba_size]; omega)]
        · rcases eqForms (s[k + 1].toNat : Int) 255 with ⟨g1, g2, g3⟩ | ⟨g1, g2, g3⟩
          · have HC2 : Hid (s[k + 1] = 255) := by show s[k + 1] = 255; exact UInt8.toNat_inj.1 (by have := g3.out; have e : (255 : UInt8).toNat = 255 := rfl; omega)
            have HW := Lib.hid (WriteByte_any w.heap.size w.heap.size L 0 wr hbld (by omega) hbs)
            go_wp2_with (go_at_call 216; refine HW.out.mono ?_; rintro e w1 ⟨rfl, hb1, hl1⟩)
            refine ⟨⟨k + 2, L ++ [0], by omega, by go_num, by simp; omega, hb1, hbel.trans hl1, ?_⟩, by simp [intOf]; omega⟩
            show _ = _
            rw [HI.out, HS.out, HC.out, HS2.out, HC2.out, decS_zero, addS_addS]
          · have N0 : Hid (s[k + 1] ≠ 0) := fun h => f3.out (by rw [h]; rfl)
            have N1 : Hid (s[k + 1] ≠ 255) := fun h => g3.out (by rw [h]; rfl)
            have HV : Hid (decS s.data.toList = none) := by
              show _ = _
              rw [HI.out, HS.out, HC.out, HS2.out, decS_bad N0.out N1.out]; rfl
            go_wp2
            go_ret3
            exact ⟨⟨⟨#[]⟩, ⟨#[]⟩, false, rfl, .inr ⟨rfl, HV.out⟩⟩, hbel⟩
      · have HC : Hid (s[k] ≠ 0) := fun h => e3.out (by rw [h]; rfl)
        have HW := Lib.hid (WriteByte_any w.heap.size w.heap.size L s[k] wr hbld (by omega) hbs)
        go_wp2_with (go_at_call 216; refine HW.out.mono ?_; rintro e w1 ⟨rfl, hb1, hl1⟩)
        refine ⟨⟨k + 1, L ++ [s[k]], by omega, by go_num, by simp; omega, hb1, hbel.trans hl1, ?_⟩, by simp [intOf]; omega⟩
        show _ = _
        rw [HI.out, HS.out, HS2.out, decS_other HC.out, addS_addS]
    · have HV : Hid (decS s.data.toList = none) := by
        show _ = _
        rw [HI.out, decS_short (by unfold sfx; rw [List.length_drop, ← ba_size]; omega)]; rfl
      go_wp2
      go_ret3
      exact ⟨⟨⟨#[]⟩, ⟨#[]⟩, false, rfl, .inr ⟨rfl, HV.out⟩⟩, hbel⟩

end Go.Proofs.YtjedmpkjopgklaaGreatDoor
