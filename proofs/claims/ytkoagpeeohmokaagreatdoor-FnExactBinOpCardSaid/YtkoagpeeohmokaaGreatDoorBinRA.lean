/- BinOp: the spec's relation behind a negation. -/
import Derived.Test.YtkoagpeeohmokaaGreatDoorBinC
namespace Go.Proofs.YtkoagpeeohmokaaGreatDoor
open Go.RowKit
set_option linter.unusedVariables false

set_option maxHeartbeats 2000000 in
set_option maxRecDepth 8000 in
theorem sbinRelA (op a b : ByteArray) (w : World) (hT : T10 w) (hml : ML w) (hop : op.size ≤ 1048576) (ha : a.size ≤ 1048576) (hb : b.size ≤ 1048576) (h1 : (op.toList == [43]) = false) (h2 : (op.toList == [45]) = false) (h3 : (op.toList == [42]) = false) (h4 : (op.toList == [47]) = false) (h5 : (op.toList == [92]) = false) (h6 : (op.toList == [35]) = false) (h7 : (op.toList == [95]) = false) (hq : op.size = 2 ∧ op.data.toList.head? = some 39) :
    Calls Tryz.prog 43 #[.string op, .string a, .string b] w fun e w' => GotBin (relRes op.data.toList a b) e ∧ Below w.heap.size w w' := by
  have HNA := Lib.hid (l01Of_b a w ha)
  have HNB := Lib.hid (fun W => l01Of_b b W hb)
  have HRL := Lib.hid (fun P W h => srel_any P a b W (hT.below h) (hml.below h) ha hb)
  have HS := Lib.hid (relRes_spec op.data.toList a b)
  generalize relRes op.data.toList a b = V at *
  generalize NM.numOf a.data.toList = n at *
  generalize NM.numOf b.data.toList = m at *
  clear hT hml
  obtain ⟨hs, hh⟩ := hq
  have HV : Hid (V = relRes2 (op.data.toList.drop 1) true a b) := by show _ = _; rw [HS.out, if_pos ⟨by rw [← ba_size]; exact hs, hh⟩]
  have HP : Hid ((op.extract 1 op.size).data.toList = op.data.toList.drop 1) := Lib.extract_to_end op 1
  have e1 : ((op.size : Int) == 2) = true := by simp; omega
  have e1n : (op.size == 2) = true := by simp [hs]
  have h0 : 0 < op.size := by omega
  have e2 : ((op[0].toNat : Int) == 39) = true := by
    have : op.data.toList[0]? = some op[0] := Lib.data_getElem? op 0 h0
    rw [← List.head?_eq_getElem?, hh] at this
    injection this with this
    rw [← this]; rfl
  have hs1 : (1 : Int) ≤ op.size := by omega
  have hs2 : op.size ≤ 2 := by omega
  clear HS hh hs
  go_enter Tryz.func43, Tryz.ntmps43
  go_wp2_with fail
  refine HNA.out.mono ?_
  rintro e w1 ⟨rfl, b1⟩
  go_wp2_with fail
  refine (HNB.out _).mono ?_
  rintro e w2 ⟨rfl, b2⟩
  have HB := Lib.hid (below_trans b1 b2); clear b1 b2
  go_wp2_with fail
  obtain ⟨P, hP⟩ : ∃ P, op.extract 1 op.size = P := ⟨_, rfl⟩
  rw [hP] at HP ⊢
  refine (HRL.out P _ HB.out).mono ?_
  rintro e w3 ⟨he, b3⟩
  rw [HP.out] at he
  have HB3 := Lib.hid (below_trans HB.out b3); clear b3 HB
  obtain ⟨p, hp⟩ : ∃ p, op.data.toList.drop 1 = p := ⟨_, rfl⟩
  rw [hp] at HV HP he
  clear hp hP HRL HNA HNB
  obtain ⟨o, ho⟩ : ∃ o, relB p a b = o := ⟨_, rfl⟩
  unfold GotRel at he
  rw [ho] at he
  subst he
  cases o with
  | none =>
    have HF := Lib.hid (HV.out.trans (relRes2_none ho))
    clear HV ho
    go_wp2_with fail
    go_ret2
    exact ⟨⟨_, _, rfl, HF.out.symm⟩, HB3.out⟩
  | some x =>
    have HF := Lib.hid (HV.out.trans (relRes2_some ho))
    clear HV ho
    rcases strCase P [93, 93] with rfl | ⟨q1, Q1⟩
    · have HF2 : Hid (V = ([], 2)) := by show _ = _; rw [HF.out, ← HP.out]; rfl
      clear HF HP
      go_wp2_with fail
      go_ret2
      exact ⟨⟨_, _, rfl, HF2.out.symm⟩, HB3.out⟩
    rcases strCase P [38] with rfl | ⟨q2, Q2⟩
    · have HF2 : Hid (V = ([], 2)) := by show _ = _; rw [HF.out, ← HP.out]; rfl
      clear HF HP
      go_wp2_with fail
      go_ret2
      exact ⟨⟨_, _, rfl, HF2.out.symm⟩, HB3.out⟩
    rcases strCase P [33] with rfl | ⟨q3, Q3⟩
    · have HF2 : Hid (V = ([], 2)) := by show _ = _; rw [HF.out, ← HP.out]; rfl
      clear HF HP
      go_wp2_with fail
      go_ret2
      exact ⟨⟨_, _, rfl, HF2.out.symm⟩, HB3.out⟩
    have hno : noNeg p = false := by
      unfold noNeg
      rw [← HP.out]
      exact decide_eq_false (fun h => h.elim Q1.out (fun h => h.elim Q2.out Q3.out))
    have HF2 : Hid (V = (bitB (!(x == true)), 0)) := by show _ = _; rw [HF.out, hno]; rfl
    have HTR := Lib.hid (fun W => l10Bool_any (!(x == true)) W)
    clear HF hno HP
    cases x
    all_goals
      go_wp2_with fail
      refine (HTR.out _).mono ?_
      rintro e w4 ⟨⟨r, rfl, hr⟩, rfl⟩
      have HRR := Lib.hid hr; clear hr
      go_wp2_with fail
      go_ret2
      exact ⟨⟨r, _, rfl, by rw [HF2.out, HRR.out]⟩, HB3.out⟩

end Go.Proofs.YtkoagpeeohmokaaGreatDoor
