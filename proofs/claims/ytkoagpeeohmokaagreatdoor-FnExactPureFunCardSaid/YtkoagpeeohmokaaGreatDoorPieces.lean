/- impl.pieces and spec.l10Pieces: each gives the pieces. -/
import Derived.Test.YtkoagpeeohmokaaGreatDoorPieceMath
import Derived.Test.YtkoagpeeohmokaaGreatDoorAppendStr
import Derived.Test.YtkoagpeeohmokaaGreatDoorGlob
namespace Go.Proofs.YtkoagpeeohmokaaGreatDoor
open Go.RowKit
set_option linter.unusedVariables false

theorem ext_list (s : ByteArray) (j k : Nat) : (s.extract j k).data.toList = (s.data.toList.take k).drop j := by
  simp [List.extract_eq_take_drop, List.drop_take]

theorem ext_step (s : ByteArray) (j k : Nat) (hjk : j ≤ k) (hk : k ≤ s.size) : (s.extract j k).data.toList ++ (s.data.toList.drop k).take 1 = (s.extract j (k + 1)).data.toList := by
  have hl : s.data.toList.length = s.size := by simp
  rw [ext_list, ext_list, List.take_add, List.drop_append, List.length_take, show j - min k s.data.toList.length = 0 by omega, List.drop_zero]

theorem ext_end (s : ByteArray) (j k : Nat) (hjk : j ≤ k) (hk : k ≤ s.size) : (s.extract j k).data.toList ++ s.data.toList.drop k = (s.extract j s.size).data.toList := by
  have hl : s.data.toList.length = s.size := by simp
  rw [ext_list, ext_list]
  conv => rhs; rw [← hl, List.take_length, ← List.take_append_drop k s.data.toList]
  rw [List.drop_append, List.length_take, show j - min k s.data.toList.length = 0 by omega, List.drop_zero]

theorem pcs_end (t : List UInt8) (f : Nat) (cur l : List UInt8) (h : l.length < t.length) : PM.pcs t f cur l = [cur ++ l] := by
  cases f with
  | zero => rfl
  | succ f => rw [PM.pcs_succ, if_pos h]

theorem sfx_len (s : ByteArray) (k : Nat) : (sfx s k).length = s.size - k := by unfold sfx; simp

theorem l10Pieces_any (s d : ByteArray) (w : World) (hs : s.size ≤ 1048576) (hd : d.size ≤ 1048576) (hd0 : 1 ≤ d.size) (hde : d.toList.isEmpty = false) : Calls Tryz.prog 112 #[.string s, .string d] w fun e w' => ∃ v xs, e = .returned v ∧ Strs w' w.heap.size v xs ∧ Hid (xs.map (·.data.toList) = PM.pcs d.data.toList s.size [] s.data.toList) ∧ Below w.heap.size w w' := by
  go_enter Tryz.func112, Tryz.ntmps112
  go_wp2
  go_loopw [5, 6, 7] (fun v fr i wr => ∃ (j k f : Nat) (xs : List ByteArray), j ≤ k ∧ k ≤ s.size ∧ fr = .int .i64 j ∧ i = .int .i64 k ∧ Strs wr w.heap.size v xs ∧ Below w.heap.size w wr ∧ s.size - k ≤ f ∧ xs.length ≤ k ∧ Hid (PM.pcs d.data.toList s.size [] s.data.toList = xs.map (·.data.toList) ++ PM.pcs d.data.toList f (s.extract j k).data.toList (sfx s k))) (fun _ _ i _ => s.size - (intOf i).toNat)
  case atStart => exact ⟨0, 0, s.size, [], by omega, by omega, rfl, rfl, World.ownsRow_lit w #[] 0 (Nat.le_refl _) (by unfold maxLen; omega) rfl, (Below.refl _ _).alloc (Nat.le_refl _) _, by omega, by simp, by show _ = _; simp [sfx]⟩
  case round =>
    obtain ⟨j, k, f, xs, hjk, hk, rfl, rfl, hown, hbel, hf, hxl, HI⟩ := hrel
    by_cases hlt : k + d.size ≤ s.size
    · cases hp : ((s.extract k (k + d.size)).toList == d.toList)
      · go_wp2
        obtain ⟨f, rfl⟩ : ∃ g, f = g + 1 := ⟨f - 1, by omega⟩
        refine ⟨⟨j, k + 1, f, xs, by omega, by omega, rfl, by go_num, hown, hbel, by omega, by omega, ?_⟩, by simp [intOf]; omega⟩
        show _ = _
        have hpre : d.data.toList.isPrefixOf (sfx s k) = false := (Lib.occ_of_piece s d k hlt).trans hp
        rw [HI.out, PM.pcs_succ, if_neg (by rw [sfx_len, ← ba_size]; omega), hpre, if_neg (by decide)]
        unfold sfx
        rw [ext_step s j k hjk hk, List.drop_drop]
      · have hbs : w.heap.size ≤ wr.heap.size := hbel.size
        go_wp2_with (at_builtin; refine wpList_append_str wr rfl _ _ rfl w.heap.size _ xs (s.extract j k) hown rfl rfl (by omega) hbs ?_; intro v' w1 hb1 hg1 hbl1 _hv)
        obtain ⟨f, rfl⟩ : ∃ g, f = g + 1 := ⟨f - 1, by omega⟩
        refine ⟨⟨k + d.size, k + d.size, f, xs ++ [s.extract j k], by omega, by omega, by go_num, by go_num, hb1, hbel.trans hbl1, by omega, by simp; omega, ?_⟩, by simp [intOf]; omega⟩
        show _ = _
        have hpre : d.data.toList.isPrefixOf (sfx s k) = true := (Lib.occ_of_piece s d k hlt).trans hp
        rw [HI.out, PM.pcs_succ, if_neg (by rw [sfx_len, ← ba_size]; omega), hpre, if_pos rfl]
        unfold sfx
        rw [List.drop_drop, ← ba_size, List.map_append, List.append_assoc, show (s.extract (k + d.size) (k + d.size)).data.toList = [] by rw [ext_list]; exact List.drop_eq_nil_of_le (by rw [List.length_take]; omega)]
        rfl
    · have hbs : w.heap.size ≤ wr.heap.size := hbel.size
      go_wp2_with (at_builtin; refine wpList_append_str wr rfl _ _ rfl w.heap.size _ xs (s.extract j s.size) hown rfl rfl (by omega) hbs ?_; intro v' w1 hb1 hg1 hbl1 _hv)
      go_ret
      refine ⟨v', xs ++ [s.extract j s.size], rfl, hb1, ?_, hbel.trans hbl1⟩
      show _ = _
      rw [HI.out, pcs_end _ _ _ _ (by rw [sfx_len, ← ba_size]; omega), List.map_append]
      unfold sfx
      rw [ext_end s j k hjk hk]
      rfl

end Go.Proofs.YtkoagpeeohmokaaGreatDoor
