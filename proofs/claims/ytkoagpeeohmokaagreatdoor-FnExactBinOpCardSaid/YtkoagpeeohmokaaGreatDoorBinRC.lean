/- BinOp: the spec's relation at a text of two bytes without a negation. -/
import Derived.Test.YtkoagpeeohmokaaGreatDoorBinRB
namespace Go.Proofs.YtkoagpeeohmokaaGreatDoor
open Go.RowKit
set_option linter.unusedVariables false

set_option maxHeartbeats 2000000 in
set_option maxRecDepth 8000 in
theorem sbinRelC (op a b : ByteArray) (w : World) (hT : T10 w) (hml : ML w) (hop : op.size ≤ 1048576) (ha : a.size ≤ 1048576) (hb : b.size ≤ 1048576) (h1 : (op.toList == [43]) = false) (h2 : (op.toList == [45]) = false) (h3 : (op.toList == [42]) = false) (h4 : (op.toList == [47]) = false) (h5 : (op.toList == [92]) = false) (h6 : (op.toList == [35]) = false) (h7 : (op.toList == [95]) = false) (hq : ¬ (op.size = 2 ∧ op.data.toList.head? = some 39)) (e1 : ((op.size : Int) == 2) = true) (e2 : (op.size == 2) = true) (h0 : 0 < op.size) (e3 : ((op[0].toNat : Int) == 39) = false) :
    Calls Tryz.prog 43 #[.string op, .string a, .string b] w fun e w' => GotBin (relRes op.data.toList a b) e ∧ Below w.heap.size w w' := by
  have HNA := Lib.hid (l01Of_b a w ha)
  have HNB := Lib.hid (fun W => l01Of_b b W hb)
  have HRL := Lib.hid (fun P W h => srel_any P a b W (hT.below h) (hml.below h) ha hb)
  have HS := Lib.hid (relRes_spec op.data.toList a b)
  generalize relRes op.data.toList a b = V at *
  generalize NM.numOf a.data.toList = n at *
  generalize NM.numOf b.data.toList = m at *
  clear hT hml
  have HV : Hid (V = relRes2 op.data.toList false a b) := by show _ = _; rw [HS.out, if_neg (fun h => hq ⟨by rw [ba_size]; exact h.1, h.2⟩)]
  have HRO : Hid (∀ W, Below w.heap.size w W → Calls Tryz.prog 100 #[.string op, .string a, .string b] W fun e w' => GotRel (relB op.data.toList a b) e ∧ Below W.heap.size W w') := fun W h => HRL.out op W h
  clear HS HRL hq
  obtain ⟨o, ho⟩ : ∃ o, relB op.data.toList a b = o := ⟨_, rfl⟩
  rw [ho] at HRO
  have HF : Hid (V = noRes o) := HV.out.trans (relRes2_false ho)
  clear HV ho
  go_enter Tryz.func43, Tryz.ntmps43
  go_wp2_with fail
  refine HNA.out.mono ?_
  rintro e w1 ⟨rfl, b1⟩
  go_wp2_with fail
  refine (HNB.out _).mono ?_
  rintro e w2 ⟨rfl, b2⟩
  have HB := Lib.hid (below_trans b1 b2); clear b1 b2
  go_wp2_with fail
  refine (HRO.out _ HB.out).mono ?_
  rintro e w3 ⟨he, b3⟩
  have HB3 := Lib.hid (below_trans HB.out b3); clear b3 HB
  unfold GotRel at he
  subst he
  cases o with
  | none =>
    have HF2 : Hid (V = ([], 2)) := HF.out
    clear HF
    go_wp2_with fail
    go_ret2
    exact ⟨⟨_, _, rfl, HF2.out.symm⟩, HB3.out⟩
  | some x =>
    have HF2 : Hid (V = (bitB (!(x == false)), 0)) := HF.out
    have HTR := Lib.hid (fun W => l10Bool_any (!(x == false)) W)
    clear HF
    cases x
    all_goals
      go_wp2_with fail
      refine (HTR.out _).mono ?_
      rintro e w4 ⟨⟨r, rfl, hr⟩, rfl⟩
      have HRR := Lib.hid hr; clear hr
      go_wp2_with fail
      go_ret2
      exact ⟨⟨r, _, rfl, by rw [HF2.out, HRR.out]⟩, HB3.out⟩

end Go.Proofs.YtkoagpeeohmokaaGreatDoor
