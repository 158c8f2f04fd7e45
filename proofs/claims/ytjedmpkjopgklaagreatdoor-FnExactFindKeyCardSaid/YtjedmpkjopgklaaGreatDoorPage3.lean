/- PageOk: spec's side. -/
import Derived.Test.YtjedmpkjopgklaaGreatDoorPage2
namespace Go.Proofs.YtjedmpkjopgklaaGreatDoor
open Go.RowKit Go.ChangeShapes Go.WideShapes Go.ChangeAt Go.Deep
set_option linter.unusedVariables false

set_option maxHeartbeats 1000000 in
set_option maxRecDepth 8000 in
theorem l15Keys_any (v : Value) (xs : List ByteArray) (w : World) (h : StrsAt w w.heap.size v xs) (hl : xs.length ≤ 1048576) (hz : ∀ x ∈ xs, x.size ≤ 1048576) :
    Calls Tryz.prog 60 #[v] w fun e w' => e = .returned (.bool (decide (xs.length ≤ 6) && keysGo none xs)) ∧ Below w.heap.size w w' := by
  have HZ := Lib.hid hz; clear hz
  obtain ⟨R, hR⟩ : ∃ R : Bool, (decide (xs.length ≤ 6) && keysGo none xs) = R := ⟨_, rfl⟩
  rw [hR]
  have HR := Lib.hid hR; clear hR
  have H := Lib.hid h
  obtain ⟨A, c, rfl, hc, _⟩ := h
  go_enter Tryz.func60, Tryz.ntmps60
  go_wp2
  go_loopw [3] (fun i wr => ∃ k : Nat, k ≤ xs.length ∧ k ≤ 7 ∧ i = .int .i64 k ∧ Hid (R = (decide (xs.length ≤ 6) && keysGo (if k = 0 then none else xs[k - 1]?) (xs.drop k))) ∧ Hid (Below w.heap.size w wr)) (fun i _ => xs.length - (intOf i).toNat)
  case atStart => exact ⟨0, Nat.zero_le _, by omega, rfl, by show _ = _; rw [← HR.out, if_pos rfl, List.drop_zero], below_refl _⟩
  case round =>
    clear HR
    obtain ⟨k, hk, hk7, rfl, HI, HG⟩ := hrel
    by_cases hgo : k < xs.length ∧ k ≤ 6
    · obtain ⟨hlt, hk6⟩ := hgo
      have HGET : Hid (∀ W, Below w.heap.size w W → ∃ ad, A = some ad ∧ ∀ j (h : j < xs.length), W.cell? (ad.add j) = some (.string xs[j])) := fun W hW => by
        obtain ⟨A', c', e', _, hr⟩ := H.out.on hW
        injection e' with q1 _ _
        subst q1
        obtain ⟨ad, ha, _, _⟩ := hr.strAt hlt
        refine ⟨ad, ha, fun j hj => ?_⟩
        obtain ⟨ad', ha', _, hc'⟩ := hr.strAt hj
        rw [ha] at ha'
        injection ha' with ha'
        rw [ha']; exact hc'
      obtain ⟨ad, rfl, hcs⟩ := HGET.out wr HG.out
      have hcell := hcs k hlt
      have HD := Lib.hid (List.drop_eq_getElem_cons hlt)
      have hxz := HZ.out _ (List.getElem_mem hlt)
      have HNX : Hid (xs[k]? = some xs[k]) := List.getElem?_eq_getElem hlt
      have HQ := Lib.hid (sKeyPlace_any xs[k] wr hxz)
      obtain ⟨K, hK⟩ : ∃ K : Bool, kOk xs[k] = K := ⟨_, rfl⟩
      have HKS : Hid ((keyP xs[k].data.toList).isSome = K) := hK
      have HK := Lib.hid hK; clear hK
      by_cases hk0 : k = 0
      · subst hk0
        have HST : Hid (R = (decide (xs.length ≤ 6) && ((K && true) && keysGo (some xs[0]) (xs.drop 1)))) := by
          show _ = _
          rw [HI.out, if_pos rfl, HD.out, keysGo, HK.out]
        clear HI HD hcs HGET HK
        generalize xs[0] = x at *
        have e0 : ad.add 0 = ad := by simp [Addr.add]
        rw [e0] at hcell
        cases K
        · go_wp2_with fail
          refine HQ.out.mono ?_
          rintro e w5 ⟨⟨n5, v5, rfl, _, _⟩, b5⟩
          rw [HKS.out]
          have HG5 := Lib.hid (below_trans HG.out b5); clear b5
          go_wp2_with fail
          go_quiet (fail)
          go_wp2_with fail
          go_ret
          exact ⟨ret_bool (by rw [HST.out]; simp), below_trans HG5.out (below_drewN _ _)⟩
        · go_wp2_with fail
          refine HQ.out.mono ?_
          rintro e w5 ⟨⟨n5, v5, rfl, _, _⟩, b5⟩
          rw [HKS.out]
          have HG5 := Lib.hid (below_trans HG.out b5); clear b5
          go_wp2_with fail
          go_quiet (fail)
          go_wp2_with fail
          refine ⟨⟨0 + 1, by omega, by omega, by go_num, ?_, below_trans HG5.out (below_drewN _ _)⟩, by simp [intOf]; omega⟩
          show _ = _
          rw [HST.out, if_neg (by omega), Nat.add_sub_cancel, HNX.out]; rfl
      · obtain ⟨j, rfl⟩ : ∃ j, k = j + 1 := ⟨k - 1, by omega⟩
        rw [Nat.add_sub_cancel] at HI
        have hlt1 : j < xs.length := by omega
        have HP : Hid (xs[j]? = some xs[j]) := List.getElem?_eq_getElem hlt1
        have HGJ : Hid (∀ W, Below w.heap.size w W → W.cell? (ad.add j) = some (.string xs[j]) ∧ W.cell? (ad.add (j + 1)) = some (.string xs[j + 1])) := fun W hW => by
          obtain ⟨ad', e, hh⟩ := HGET.out W hW
          injection e with e; subst e
          exact ⟨hh j hlt1, hh (j + 1) hlt⟩
        have w1 : IntKind.i64.wrap (j : Int) = j := IntWalk.i64_in _ (by omega)
        have w2 : IntKind.i64.wrap ((j : Int) + 1 - 1) = j := by rw [Int.add_sub_cancel]; exact w1
        have j0 : (0 : Int) ≤ j := by omega
        have j1 : (j : Int) < xs.length := by omega
        have j2 : (j : Int) + 1 < xs.length := by omega
        have j3 : (0 : Int) ≤ (j : Int) + 1 := by omega
        have hkp2 : (0 : Int) < (j : Int) + 1 := by omega
        have hkd2 : decide ((0 : Int) < (j : Int) + 1) = true := decide_eq_true hkp2
        have hkn : decide (0 < j + 1) = true := by simp
        have eA : ad.add (j + 1) = ⟨ad.block, ad.off + (j + 1), none⟩ := by simp [Addr.add]
        obtain ⟨LB, hLB⟩ : ∃ LB : Bool, Op.bytesLess xs[j].toList xs[j + 1].toList = LB := ⟨_, rfl⟩
        have HST : Hid (R = (decide (xs.length ≤ 6) && ((K && LB) && keysGo (some xs[j + 1]) (xs.drop (j + 1 + 1))))) := by
          show _ = _
          rw [HI.out, if_neg (by omega), HP.out, HD.out, keysGo, HK.out, ← hLB]
        rw [eA] at hcell HGJ
        clear HI HD hcs HGET HK HP eA
        generalize xs[j + 1] = x at *
        generalize xs[j] = p at *
        cases K
        · clear hLB
          go_wp2_with fail
          refine HQ.out.mono ?_
          rintro e w5 ⟨⟨n5, v5, rfl, _, _⟩, b5⟩
          rw [HKS.out]
          have HG5 := Lib.hid (below_trans HG.out b5); clear b5
          go_wp2_with fail
          go_quiet (fail)
          go_wp2_with fail
          go_ret
          exact ⟨ret_bool (by rw [HST.out]; simp), below_trans HG5.out (below_drewN _ _)⟩
        · go_wp2_with fail
          refine HQ.out.mono ?_
          rintro e w5 ⟨⟨n5, v5, rfl, _, _⟩, b5⟩
          rw [HKS.out]
          have HG5 := Lib.hid (below_trans HG.out b5); clear b5
          obtain ⟨cj, cj1⟩ := HGJ.out w5 HG5.out
          cases LB
          · go_wp2_with fail
            go_quiet (fail)
            go_wp2_with fail
            go_ret
            exact ⟨ret_bool (by rw [HST.out]; simp), below_trans HG5.out (below_drewN _ _)⟩
          · go_wp2_with fail
            go_quiet (fail)
            go_wp2_with fail
            refine ⟨⟨j + 1 + 1, by omega, by omega, by go_num, ?_, below_trans HG5.out (below_drewN _ _)⟩, by simp [intOf]; omega⟩
            show _ = _
            rw [HST.out, if_neg (by omega), Nat.add_sub_cancel, HNX.out]; rfl
    · have HV : Hid (R = decide (xs.length ≤ 6)) := by
        show _ = _
        rw [HI.out]
        by_cases h6 : xs.length ≤ 6
        · rw [List.drop_eq_nil_of_le (by omega), keysGo, Bool.and_true]
        · rw [decide_eq_false h6]; rfl
      by_cases hlt : k < xs.length
      · have h6 : ¬ xs.length ≤ 6 := by omega
        rw [decide_eq_false h6] at HV
        go_wp2_with fail
        go_ret
        exact ⟨ret_bool (by rw [HV.out]; exact decide_eq_false (by omega)), HG.out⟩
      · by_cases h6 : xs.length ≤ 6
        · rw [decide_eq_true h6] at HV
          go_wp2_with fail
          go_ret
          exact ⟨ret_bool (by rw [HV.out]; exact decide_eq_true (by omega)), HG.out⟩
        · rw [decide_eq_false h6] at HV
          go_wp2_with fail
          go_ret
          exact ⟨ret_bool (by rw [HV.out]; exact decide_eq_false (by omega)), HG.out⟩

end Go.Proofs.YtjedmpkjopgklaaGreatDoor
