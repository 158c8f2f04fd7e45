/- spec.l02Num and spec.l02Take. -/
import Derived.Test.YtjedmpkjopgklaaGreatDoorParse
import Derived.Test.YtjedmpkjopgklaaGreatDoorNumText3
namespace Go.Proofs.YtjedmpkjopgklaaGreatDoor
open Go.RowKit
set_option linter.unusedVariables false

theorem l00In_any (n a b : Int) (w : World) : Calls Tryz.prog 61 #[.int .i64 n, .int .i64 a, .int .i64 b] w fun e w' => e = .returned (.bool (decide (a ≤ n ∧ n ≤ b))) ∧ w = w' := by
  by_cases h1 : a ≤ n
  · by_cases h2 : n ≤ b
    · go_enter Tryz.func61, Tryz.ntmps61
      go_wp2
      go_ret
      exact ⟨ret_bool (by simp [h1, h2]), rfl⟩
    · go_enter Tryz.func61, Tryz.ntmps61
      go_wp2
      go_ret
      exact ⟨ret_bool (by simp [h2]), rfl⟩
  · go_enter Tryz.func61, Tryz.ntmps61
    go_wp2
    go_ret
    exact ⟨ret_bool (by simp; omega), rfl⟩

set_option maxRecDepth 8000 in
theorem l02Num_any (s : ByteArray) (w : World) (hs : s.size = 8) : Calls Tryz.prog 197 #[.string s] w fun e w' => ∃ n : Int, e = .returned (.int .i64 n) ∧ Hid (n = IntKind.i64.wrap (accN s.data.toList 8)) ∧ w = w' := by
  have hs8 : 8 ≤ s.size := by omega
  have HS := Lib.hid hs; clear hs
  go_enter Tryz.func197, Tryz.ntmps197
  go_wp2_with fail
  go_loop [3, 4] (fun n i => ∃ (j : Nat) (N : Int), j ≤ 8 ∧ i = .int .i64 j ∧ n = .int .i64 N ∧ Hid (N = IntKind.i64.wrap (accN s.data.toList j))) (fun _ i => 8 - (intOf i).toNat)
  case atStart => exact ⟨0, 0, by omega, rfl, rfl, rfl⟩
  case round =>
    obtain ⟨j, N, hj, rfl, rfl, HN⟩ := hrel
    by_cases hlt : j < 8
    · have hjs : j < s.size := by omega
      have hb256 : s[j].toNat < 256 := UInt8.toNat_lt _
      obtain ⟨n0, n1⟩ := accN_7 s.data.toList j (by omega)
      have HB : Hid (((s.data.toList[j]?).getD 0) = s[j]) := by
        show _ = _
        rw [List.getElem?_eq_getElem (by rw [← ba_size]; exact hjs)]; rfl
      have HNN : Hid (N = accN s.data.toList j) := by
        show _ = _
        rw [HN.out]; exact IntWalk.i64_in _ (by omega)
      have HV : Hid (bits BinOp.or IntKind.i64 (IntKind.i64.wrap (N * 256)) (s[j].toNat : Int) = IntKind.i64.wrap (accN s.data.toList (j + 1))) := by
        show _ = _
        rw [accN, HB.out, HNN.out]
        have h := or_low (accN s.data.toList j * 256).toNat s[j].toNat (by omega) (by omega) hb256
        rw [show (((accN s.data.toList j * 256).toNat : Nat) : Int) = accN s.data.toList j * 256 by omega] at h
        exact h
      rw [← HNN.out] at n0 n1
      have wb : IntKind.i64.wrap (s[j].toNat : Int) = s[j].toNat := IntWalk.i64_in _ (by omega)
      go_wp2_with fail
      exact ⟨⟨j + 1, _, by omega, by go_num, rfl, by rw [← IntWalk.i64_left]; exact HV⟩, by simp [intOf]; omega⟩
    · obtain rfl : j = 8 := by omega
      go_wp2_with fail
      go_ret
      exact ⟨N, rfl, HN, rfl⟩

theorem accN_take (l : List UInt8) (m : Nat) : ∀ j, j ≤ m → accN (l.take m) j = accN l j
  | 0, _ => rfl
  | j + 1, h => by rw [accN, accN, accN_take l m j (by omega), List.getElem?_take_of_lt (by omega)]

/-- What l02Take hands back. -/
def TakeGot (l : List UInt8) (e : Ending) : Prop := ∃ (r t : ByteArray) (b : Bool), e = .returned (.tuple #[.string r, .string t, .bool b]) ∧ ((b = true ∧ tkS l = some (r.data.toList, t.data.toList) ∧ r.size ≤ 1048576 ∧ t.size + 1 ≤ l.length) ∨ (b = false ∧ tkS l = none))

set_option maxHeartbeats 1000000 in
set_option maxRecDepth 8000 in
theorem l02Take_any (s : ByteArray) (w : World) (hs : s.size ≤ 1048576) (hs0 : 1 ≤ s.size) : Calls Tryz.prog 180 #[.string s] w fun e w' => TakeGot s.data.toList e ∧ Below w.heap.size w w' := by
  have hlt0 : 0 < s.size := by omega
  have HS : Hid (sfx s 0 = s[0] :: sfx s 1) := sfx_lt hlt0
  rcases eqForms (s[0].toNat : Int) 1 with ⟨e1, e2, e3⟩ | ⟨e1, e2, e3⟩
  · have HC : Hid (s[0] = 1) := by show s[0] = 1; exact UInt8.toNat_inj.1 (by have := e3.out; have e : (1 : UInt8).toNat = 1 := rfl; omega)
    by_cases h9 : 9 ≤ s.size
    · have HE : Hid ((s.extract 1 9).data.toList = (sfx s 1).take 8) := by
        show _ = _
        unfold sfx
        simp only [ByteArray.data_extract, Array.toList_extract, List.extract_eq_take_drop]
      have h9i : (9 : Int) ≤ s.size := by omega
      go_enter Tryz.func180, Tryz.ntmps180
      go_wp2_with fail
      refine (l02Num_any (s.extract 1 9) _ (by rw [ByteArray.size_extract]; omega)).mono ?_
      rintro e w1 ⟨n, rfl, HN, rfl⟩
      have HN2 : Hid (n = IntKind.i64.wrap (accN (sfx s 1) 8)) := by show _ = _; rw [HN.out, HE.out, accN_take _ 8 8 (by omega)]
      have hb := accN_8 (sfx s 1) 8 (by omega)
      have HL8 : Hid (8 ≤ (sfx s 1).length) := by show _ ≤ _; unfold sfx; rw [List.length_drop, ← ba_size]; omega
      by_cases hin : 1 ≤ n ∧ n ≤ 1999999999999999999
      · have hd : decide (1 ≤ n ∧ n ≤ 1999999999999999999) = true := decide_eq_true hin
        have HA : Hid (accN (sfx s 1) 8 = n) := by
          show _ = _
          have := HN2.out
          rw [IntKind.wrap_i64] at this
          omega
        go_wp2_with fail
        refine (l00In_any n 1 1999999999999999999 _).mono ?_
        rintro e w1 ⟨rfl, rfl⟩
        rw [hd]
        obtain ⟨i0, i1⟩ := hin
        clear hd
        have WD : Hid (IntKind.i64.wrap (n - 1000000000000000000) = n - 1000000000000000000) := IntWalk.i64_in _ (by omega)
        have HNT := Lib.hid (l01Text_any (IntKind.i64.wrap (n - 1000000000000000000)) (by rw [WD.out]; omega) (by rw [WD.out]; omega) w.drew)
        have HV : Hid (tkS s.data.toList = some (numTextB (n - 1000000000000000000), (sfx s 1).drop 8)) := by
          show _ = _
          rw [← sfx_zero, HS.out, HC.out, tkS, if_pos rfl, if_pos ⟨HL8.out, by rw [HA.out]; exact ⟨i0, i1⟩⟩, HA.out]
        go_wp2_with fail
        go_region_with (first | (go_at_call 127; refine HNT.out.mono ?_; rintro e w2 ⟨r, rfl, hr, HL, hb2⟩))
        all_goals
          go_wp2_with fail
          go_ret3
          refine ⟨⟨r, s.extract 9 s.size, true, rfl, .inl ⟨rfl, ?_, by omega, by rw [ByteArray.size_extract, ← ba_size]; omega⟩⟩, ⟨hb2.os, hb2.tape, hb2.output, hb2.size, hb2.block⟩⟩
          rw [HV.out, HL.out, WD.out]
          unfold sfx
          simp only [ByteArray.data_extract, Array.toList_extract, List.extract_eq_take_drop, List.drop_drop]
          rw [List.take_of_length_le (by rw [List.length_drop, ← ba_size]; omega)]
      · have hd : decide (1 ≤ n ∧ n ≤ 1999999999999999999) = false := decide_eq_false hin
        have HV : Hid (tkS s.data.toList = none) := by
          show _ = _
          rw [← sfx_zero, HS.out, HC.out, tkS, if_pos rfl, if_neg]
          intro h
          have := HN2.out
          rw [IntKind.wrap_i64] at this
          omega
        go_wp2_with fail
        refine (l00In_any n 1 1999999999999999999 _).mono ?_
        rintro e w1 ⟨rfl, rfl⟩
        rw [hd]
        go_wp2_with fail
        go_ret3
        exact ⟨⟨⟨#[]⟩, ⟨#[]⟩, false, rfl, .inr ⟨rfl, HV.out⟩⟩, below_refl _⟩
    · have HV : Hid (tkS s.data.toList = none) := by
        show _ = _
        rw [← sfx_zero, HS.out, HC.out, tkS, if_pos rfl, if_neg]
        intro h
        have := h.1
        unfold sfx at this
        rw [List.length_drop, ← ba_size] at this; omega
      have f1 : ((s[0].toNat : Int) == 2) = false := by have := e3.out; simp; omega
      have f2 : ((s[0].toNat : Int) != 2) = true := by have := e3.out; simp; omega
      go_enter Tryz.func180, Tryz.ntmps180
      go_wp2_with fail
      go_ret3
      exact ⟨⟨⟨#[]⟩, ⟨#[]⟩, false, rfl, .inr ⟨rfl, HV.out⟩⟩, below_refl _⟩
  · rcases eqForms (s[0].toNat : Int) 2 with ⟨f1, f2, f3⟩ | ⟨f1, f2, f3⟩
    · have HC : Hid (s[0] = 2) := by show s[0] = 2; exact UInt8.toNat_inj.1 (by have := f3.out; have e : (2 : UInt8).toNat = 2 := rfl; omega)
      have HV : Hid (tkS s.data.toList = decS (sfx s 1)) := by
        show _ = _
        rw [← sfx_zero, HS.out, HC.out, tkS, if_neg (by decide), if_pos rfl]
      go_enter Tryz.func180, Tryz.ntmps180
      go_wp2_with fail
      go_loopw [6, 7] (fun v i wr => ∃ (k : Nat) (L : List UInt8), 1 ≤ k ∧ k ≤ s.size + 1 ∧ i = .int .i64 k ∧ L.length ≤ k ∧ Bytes wr w.heap.size v L ∧ Below w.heap.size w wr ∧ Hid (tkS s.data.toList = addS L (decS (sfx s k)))) (fun _ i _ => s.size + 1 - (intOf i).toNat)
      case atStart => exact ⟨1, [], by omega, by omega, rfl, by simp, Bytes.empty w _ (Nat.le_refl _), (Below.refl _ _).alloc (Nat.le_refl _) _, HV.out.trans (addS_nil _).symm⟩
      case round =>
        obtain ⟨k, L, hk1, hk, rfl, hL, hown, hbel, HI⟩ := hrel
        clear HV
        have hbs := hbel.size
        by_cases hlt : k + 1 < s.size
        · have hltk : k < s.size := by omega
          have HSk := Lib.hid (sfx_lt hltk)
          have HS2 := Lib.hid (sfx_lt hlt)
          rcases eqForms (s[k].toNat : Int) 0 with ⟨e1, e2, e3⟩ | ⟨e1, e2, e3⟩
          · have HC : Hid (s[k] = 0) := by show s[k] = 0; exact UInt8.toNat_inj.1 (by have := e3.out; have e : (0 : UInt8).toNat = 0 := rfl; omega)
            rcases eqForms (s[k + 1].toNat : Int) 0 with ⟨f1, f2, f3⟩ | ⟨f1, f2, f3⟩
            · have HC2 : Hid (s[k + 1] = 0) := by show s[k + 1] = 0; exact UInt8.toNat_inj.1 (by have := f3.out; have e : (0 : UInt8).toNat = 0 := rfl; omega)
              have h2 : (k : Int) + 2 ≤ s.size := by omega
              have HV : Hid (tkS s.data.toList = some (L, sfx s (k + 2))) := by
                show _ = _
                rw [HI.out, HSk.out, HC.out, HS2.out, HC2.out, decS_end]; simp [addS]
              have c0 := run_string_of_own hown
              have c1 := run_string_of_own hown.drew
              have w2 : IntKind.i64.wrap ((k : Int) + 2) = k + 2 := IntWalk.i64_in _ (by omega)
              have h20 : (0 : Int) ≤ k + 2 := by omega
              obtain ⟨r, hr⟩ : ∃ r : ByteArray, ⟨L.toArray⟩ = r := ⟨_, rfl⟩
              rw [hr] at c0 c1
              have HR : Hid (r.data.toList = L) := by show _ = _; rw [← hr]
              have hrz : r.size ≤ k := by rw [ba_size, HR.out]; exact hL
              clear hr
              go_wp2_with fail
              go_region_with (fail)
              all_goals
                go_wp2_with fail
                go_ret3
                refine ⟨⟨r, s.extract (k + 2) s.size, true, rfl, .inl ⟨rfl, ?_, by omega, by rw [ByteArray.size_extract, ← ba_size]; omega⟩⟩, hbel.drew⟩
                rw [HV.out, HR.out]
                unfold sfx
                simp only [ByteArray.data_extract, Array.toList_extract, List.extract_eq_take_drop]
                rw [List.take_of_length_le (by rw [List.length_drop, ← ba_size]; omega)]
            · rcases eqForms (s[k + 1].toNat : Int) 255 with ⟨g1, g2, g3⟩ | ⟨g1, g2, g3⟩
              · have HC2 : Hid (s[k + 1] = 255) := by show s[k + 1] = 255; exact UInt8.toNat_inj.1 (by have := g3.out; have e : (255 : UInt8).toNat = 255 := rfl; omega)
                go_wp2_with (at_builtin; refine wpList_append_byte wr rfl _ _ rfl w.heap.size _ L 0 hown rfl rfl (by omega) hbs ?_; intro v' w1 hb1 hg1 hbl1 _hv)
                refine ⟨⟨k + 2, L ++ [0], by omega, by omega, by go_num, by simp; omega, hb1, hbel.trans hbl1, ?_⟩, by simp [intOf]; omega⟩
                show _ = _
                rw [HI.out, HSk.out, HC.out, HS2.out, HC2.out, decS_zero, addS_addS]
              · have N0 : Hid (s[k + 1] ≠ 0) := fun h => f3.out (by rw [h]; rfl)
                have N1 : Hid (s[k + 1] ≠ 255) := fun h => g3.out (by rw [h]; rfl)
                have HV : Hid (tkS s.data.toList = none) := by
                  show _ = _
                  rw [HI.out, HSk.out, HC.out, HS2.out, decS_bad N0.out N1.out]; rfl
                go_wp2_with fail
                go_ret3
                exact ⟨⟨⟨#[]⟩, ⟨#[]⟩, false, rfl, .inr ⟨rfl, HV.out⟩⟩, hbel⟩
          · have HC : Hid (s[k] ≠ 0) := fun h => e3.out (by rw [h]; rfl)
            go_wp2_with (at_builtin; refine wpList_append_byte wr rfl _ _ rfl w.heap.size _ L s[k] hown rfl rfl (by omega) hbs ?_; intro v' w1 hb1 hg1 hbl1 _hv)
            refine ⟨⟨k + 1, L ++ [s[k]], by omega, by omega, by go_num, by simp; omega, hb1, hbel.trans hbl1, ?_⟩, by simp [intOf]; omega⟩
            show _ = _
            rw [HI.out, HSk.out, HS2.out, decS_other HC.out, addS_addS]
        · have HV : Hid (tkS s.data.toList = none) := by
            show _ = _
            rw [HI.out, decS_short (by unfold sfx; rw [List.length_drop, ← ba_size]; omega)]; rfl
          go_wp2_with fail
          go_ret3
          exact ⟨⟨⟨#[]⟩, ⟨#[]⟩, false, rfl, .inr ⟨rfl, HV.out⟩⟩, hbel⟩
    · have HV : Hid (tkS s.data.toList = none) := by
        show _ = _
        rw [← sfx_zero, HS.out, tkS, if_neg (fun h => e3.out (by rw [h]; rfl)), if_neg (fun h => f3.out (by rw [h]; rfl))]
      go_enter Tryz.func180, Tryz.ntmps180
      go_wp2_with fail
      go_ret3
      exact ⟨⟨⟨#[]⟩, ⟨#[]⟩, false, rfl, .inr ⟨rfl, HV.out⟩⟩, below_refl _⟩

end Go.Proofs.YtjedmpkjopgklaaGreatDoor
