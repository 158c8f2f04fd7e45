/- keysOk and l15Keys. -/
import Derived.Test.YtjedmpkjopgklaaGreatDoorKeyPl
namespace Go.Proofs.YtjedmpkjopgklaaGreatDoor
open Go.RowKit
set_option linter.unusedVariables false

def kOk (s : ByteArray) : Bool := (keyP s.data.toList).isSome

def keysGo : Option ByteArray → List ByteArray → Bool
  | _, [] => true
  | p, x :: r => (kOk x && (match p with | none => true | some y => Op.bytesLess y.toList x.toList)) && keysGo (some x) r

set_option maxHeartbeats 1000000 in
set_option maxRecDepth 8000 in
theorem keysOk_any (v : Value) (xs : List ByteArray) (w : World) (hT : T10 w) (hml : ML w) (h : StrsAt w w.heap.size v xs) (hl : xs.length ≤ 1048576) (hz : ∀ x ∈ xs, x.size ≤ 1048576) :
    Calls Tryz.prog 62 #[v] w fun e w' => e = .returned (.bool (keysGo none xs)) ∧ Below w.heap.size w w' := by
  have HT := Lib.hid hT; have HM := Lib.hid hml; have HZ := Lib.hid hz; clear hT hml hz
  obtain ⟨R, hR⟩ : ∃ R : Bool, keysGo none xs = R := ⟨_, rfl⟩
  rw [hR]
  have HR := Lib.hid hR; clear hR
  have H := Lib.hid h
  obtain ⟨A, c, rfl, hc, _⟩ := h
  go_enter Tryz.func62, Tryz.ntmps62
  go_wp2
  go_loopw [7] (fun i wr => ∃ k : Nat, k ≤ xs.length ∧ i = .int .i64 k ∧ Hid (R = keysGo (if k = 0 then none else xs[k - 1]?) (xs.drop k)) ∧ Hid (Below w.heap.size w wr)) (fun i _ => xs.length - (intOf i).toNat)
  case atStart => exact ⟨0, Nat.zero_le _, rfl, by show _ = _; rw [← HR.out, if_pos rfl, List.drop_zero], below_refl _⟩
  case round =>
    clear HR
    obtain ⟨k, hk, rfl, HI, HG⟩ := hrel
    by_cases hlt : k < xs.length
    · have HGET : Hid (∀ W, Below w.heap.size w W → ∃ ad, A = some ad ∧ ∀ j (h : j < xs.length), W.cell? (ad.add j) = some (.string xs[j])) := fun W hW => by
        obtain ⟨A', c', e', _, hr⟩ := H.out.on hW
        injection e' with q1 _ _
        subst q1
        obtain ⟨ad, ha, _, _⟩ := hr.strAt hlt
        refine ⟨ad, ha, fun j hj => ?_⟩
        obtain ⟨ad', ha', _, hc'⟩ := hr.strAt hj
        rw [ha] at ha'
        injection ha' with ha'
        rw [ha']; exact hc'
      obtain ⟨ad, rfl, hcs⟩ := HGET.out wr HG.out
      have hcell := hcs k hlt
      have HD := Lib.hid (List.drop_eq_getElem_cons hlt)
      have hxz := HZ.out _ (List.getElem_mem hlt)
      have HNX : Hid (xs[k]? = some xs[k]) := List.getElem?_eq_getElem hlt
      have HQ := Lib.hid (isKey_any xs[k] wr (HT.out.below HG.out) (HM.out.below HG.out) hxz)
      obtain ⟨K, hK⟩ : ∃ K : Bool, kOk xs[k] = K := ⟨_, rfl⟩
      rw [show (keyP xs[k].data.toList).isSome = K from hK] at HQ
      have HK := Lib.hid hK; clear hK
      by_cases hk0 : k = 0
      · subst hk0
        have HST : Hid (R = ((K && true) && keysGo (some xs[0]) (xs.drop 1))) := by
          show _ = _
          rw [HI.out, if_pos rfl, HD.out, keysGo, HK.out]
        clear HI HD hcs HGET HK
        generalize xs[0] = x at *
        have e0 : ad.add 0 = ad := by simp [Addr.add]
        rw [e0] at hcell
        cases K
        · go_wp2_with fail
          refine HQ.out.mono ?_
          rintro e w5 ⟨rfl, b5⟩
          have HG5 := Lib.hid (below_trans HG.out b5); clear b5
          go_wp2_with fail
          go_ret
          exact ⟨ret_bool (by rw [HST.out]; rfl), HG5.out⟩
        · go_wp2_with fail
          refine HQ.out.mono ?_
          rintro e w5 ⟨rfl, b5⟩
          have HG5 := Lib.hid (below_trans HG.out b5); clear b5
          go_wp2_with fail
          refine ⟨⟨0 + 1, by omega, by go_num, ?_, HG5⟩, by simp [intOf]; omega⟩
          show _ = _
          rw [HST.out, if_neg (by omega), Nat.add_sub_cancel, HNX.out]; rfl
      · obtain ⟨j, rfl⟩ : ∃ j, k = j + 1 := ⟨k - 1, by omega⟩
        rw [Nat.add_sub_cancel] at HI
        have hlt1 : j < xs.length := by omega
        have HP : Hid (xs[j]? = some xs[j]) := List.getElem?_eq_getElem hlt1
        have HGJ : Hid (∀ W, Below w.heap.size w W → W.cell? (ad.add j) = some (.string xs[j])) := fun W hW => by
          obtain ⟨ad', e, hh⟩ := HGET.out W hW
          injection e with e; subst e
          exact hh j hlt1
        have w1 : IntKind.i64.wrap (j : Int) = j := IntWalk.i64_in _ (by omega)
        have w2 : IntKind.i64.wrap ((j : Int) + 1 - 1) = j := by rw [Int.add_sub_cancel]; exact w1
        have j0 : (0 : Int) ≤ j := by omega
        have j1 : (j : Int) < xs.length := by omega
        have hkp2 : (0 : Int) < (j : Int) + 1 := by omega
        obtain ⟨LB, hLB⟩ : ∃ LB : Bool, Op.bytesLess xs[j].toList xs[j + 1].toList = LB := ⟨_, rfl⟩
        have HST : Hid (R = ((K && LB) && keysGo (some xs[j + 1]) (xs.drop (j + 1 + 1)))) := by
          show _ = _
          rw [HI.out, if_neg (by omega), HP.out, HD.out, keysGo, HK.out, ← hLB]
        have hcell2 : wr.cell? ⟨ad.block, ad.off + (j + 1), none⟩ = some (.string xs[j + 1]) := by
          rw [show (⟨ad.block, ad.off + (j + 1), none⟩ : Addr) = ad.add (j + 1) by simp [Addr.add]]; exact hcell
        clear HI HD hcs HGET HK HP
        generalize xs[j + 1] = x at *
        generalize xs[j] = p at *
        cases K
        · clear hLB
          go_wp2_with fail
          refine HQ.out.mono ?_
          rintro e w5 ⟨rfl, b5⟩
          have HG5 := Lib.hid (below_trans HG.out b5); clear b5
          go_wp2_with fail
          go_ret
          exact ⟨ret_bool (by rw [HST.out]; rfl), HG5.out⟩
        · go_wp2_with fail
          refine HQ.out.mono ?_
          rintro e w5 ⟨rfl, b5⟩
          have HG5 := Lib.hid (below_trans HG.out b5); clear b5
          have cj := HGJ.out w5 HG5.out
          cases LB
          · go_wp2_with fail
            go_ret
            exact ⟨ret_bool (by rw [HST.out]; rfl), HG5.out⟩
          · go_wp2_with fail
            refine ⟨⟨j + 1 + 1, by omega, by go_num, ?_, HG5⟩, by simp [intOf]; omega⟩
            show _ = _
            rw [HST.out, if_neg (by omega), Nat.add_sub_cancel, HNX.out]; rfl
    · go_wp2
      go_ret
      exact ⟨ret_bool (by rw [HI.out, List.drop_eq_nil_of_le (by omega)]; rfl), HG.out⟩

end Go.Proofs.YtjedmpkjopgklaaGreatDoor
