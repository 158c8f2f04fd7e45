/- BinOp: joining, the relations with and without a negation; both sides, and the law. -/
import Derived.Test.YtkoagpeeohmokaaGreatDoorBinB
namespace Go.Proofs.YtkoagpeeohmokaaGreatDoor
open Go.RowKit
set_option linter.unusedVariables false

/-- An operator without its mark of negation, and whether it bore one. -/
def cutQ (l : List UInt8) : List UInt8 × Bool := if l.head? = some 39 then (l.drop 1, true) else (l, false)

def noNeg (p : List UInt8) : Bool := decide (p = [93, 93] ∨ p = [38] ∨ p = [33])

def bitB (b : Bool) : List UInt8 := if b = true then [49] else [48]

def relRes2 (p : List UInt8) (neg : Bool) (a b : ByteArray) : List UInt8 × Int :=
  match relB p a b with
  | none => ([], 2)
  | some h => if (neg && noNeg p) = true then ([], 2) else (bitB (!(h == neg)), 0)

def relRes (l : List UInt8) (a b : ByteArray) : List UInt8 × Int := relRes2 (cutQ l).1 (cutQ l).2 a b

theorem relRes2_none {p : List UInt8} {neg : Bool} {a b : ByteArray} (h : relB p a b = none) : relRes2 p neg a b = ([], 2) := by unfold relRes2; rw [h]

theorem relRes2_some {p : List UInt8} {neg : Bool} {a b : ByteArray} {x : Bool} (h : relB p a b = some x) : relRes2 p neg a b = if (neg && noNeg p) = true then ([], 2) else (bitB (!(x == neg)), 0) := by unfold relRes2; rw [h]

theorem relB_quote (r : List UInt8) (a b : ByteArray) : relB (39 :: r) a b = none := by simp [relB]

theorem relB_long {r : List UInt8} (a b : ByteArray) (h1 : r.length ≠ 1) (h2 : r ≠ [93, 93]) : relB r a b = none := by
  have n : ∀ c : UInt8, ¬ r = [c] := fun c e => h1 (by rw [e]; rfl)
  unfold relB
  rw [if_neg (n _), if_neg (n _), if_neg (n _), if_neg (n _), if_neg (n _), if_neg h2, if_neg (n _), if_neg (n _)]

/-- The spec's way: a negation stands in texts of two bytes alone. -/
theorem relRes_spec (l : List UInt8) (a b : ByteArray) : relRes l a b = if l.length = 2 ∧ l.head? = some 39 then relRes2 (l.drop 1) true a b else relRes2 l false a b := by
  unfold relRes cutQ
  by_cases h : l.head? = some 39
  · rw [if_pos h]
    by_cases h2 : l.length = 2
    · rw [if_pos ⟨h2, h⟩]
    · rw [if_neg (fun q => h2 q.1)]
      obtain ⟨r, rfl⟩ : ∃ r, l = 39 :: r := by
        cases l with
        | nil => simp at h
        | cons x r => simp at h; exact ⟨r, by rw [h]⟩
      rw [relRes2_none (relB_quote r a b)]
      simp only [List.drop_succ_cons, List.drop_zero]
      have hr : r.length ≠ 1 := fun q => h2 (by simp [q])
      by_cases h3 : r = [93, 93]
      · subst h3
        rw [relRes2_some (show relB [93, 93] a b = some (bef b a) from rfl)]
        rfl
      · rw [relRes2_none (relB_long a b hr h3)]
  · rw [if_neg h, if_neg (fun q => h q.2)]

theorem cut_has (l : List UInt8) : Lib.hasPrefix l [39] = (cutQ l).2 := by
  cases l with
  | nil => rfl
  | cons x r =>
    by_cases hx : x = 39
    · subst hx; simp [cutQ, Lib.hasPrefix]
    · have : ¬ (39 : UInt8) = x := fun h => hx h.symm
      simp [cutQ, Lib.hasPrefix, List.isPrefixOf, hx, this]

theorem cut_trim (l : List UInt8) : Lib.trimPrefix l [39] = (cutQ l).1 := by
  unfold Lib.trimPrefix
  rw [cut_has]
  unfold cutQ
  by_cases h : l.head? = some 39
  · rw [if_pos h]; simp
  · rw [if_neg h]; simp

theorem cutPrefix_q (op : ByteArray) (w : World) : Calls Tryz.prog 105 #[.string op, .string ⟨#[39]⟩] w fun e w' => (∃ P : ByteArray, P.data.toList = (cutQ op.data.toList).1 ∧ e = .returned (.tuple #[.string P, .bool (cutQ op.data.toList).2])) ∧ w = w' :=
  (Tryz.strings_CutPrefix op ⟨#[39]⟩ w).mono fun e w' ⟨he, hw⟩ =>
    ⟨⟨⟨(Lib.trimPrefix op.data.toList [39]).toArray⟩, by rw [← cut_trim], by rw [← cut_has]; exact he⟩, hw.symm⟩

theorem truth_any (b : Bool) (w : World) : Calls Tryz.prog 107 #[.bool b] w fun e w' => (∃ r : ByteArray, e = .returned (.string r) ∧ r.data.toList = bitB b) ∧ w = w' := by
  cases b
  all_goals
    go_enter Tryz.func107, Tryz.ntmps107
    go_wp2
    go_ret
    exact ⟨⟨_, rfl, rfl⟩, rfl⟩

theorem l10Bool_any (b : Bool) (w : World) : Calls Tryz.prog 101 #[.bool b] w fun e w' => (∃ r : ByteArray, e = .returned (.string r) ∧ r.data.toList = bitB b) ∧ w = w' := by
  cases b
  all_goals
    go_enter Tryz.func101, Tryz.ntmps101
    go_wp2
    go_ret
    exact ⟨⟨_, rfl, rfl⟩, rfl⟩

set_option maxHeartbeats 1000000 in
set_option maxRecDepth 8000 in
theorem binRel_any (op a b : ByteArray) (w : World) (hT : T10 w) (hml : ML w) (ha : a.size ≤ 1048576) (hb : b.size ≤ 1048576) (h1 : (op.toList == [43]) = false) (h2 : (op.toList == [45]) = false) (h3 : (op.toList == [42]) = false) (h4 : (op.toList == [47]) = false) (h5 : (op.toList == [92]) = false) (h6 : (op.toList == [35]) = false) (h7 : (op.toList == [95]) = false) :
    Calls Tryz.prog 44 #[.string op, .string a, .string b] w fun e w' => GotBin (relRes op.data.toList a b) e ∧ Below w.heap.size w w' := by
  have HAN := Lib.hid (arithNone op w h1 h2 h3 h4 h5 h6)
  have HCP := Lib.hid (cutPrefix_q op w)
  have HRL := Lib.hid (fun P => rel_any P a b w hT hml ha hb)
  have HV : Hid (relRes op.data.toList a b = relRes2 (cutQ op.data.toList).1 (cutQ op.data.toList).2 a b) := rfl
  generalize relRes op.data.toList a b = V at *
  generalize (cutQ op.data.toList).1 = p at *
  generalize (cutQ op.data.toList).2 = neg at *
  clear hT hml
  go_enter Tryz.func44, Tryz.ntmps44
  go_wp2_with fail
  refine HAN.out.mono ?_
  rintro e w' ⟨rfl, rfl⟩
  go_wp2_with fail
  refine HCP.out.mono ?_
  rintro e w' ⟨⟨P, hP, rfl⟩, rfl⟩
  have HPP := Lib.hid hP; clear hP
  have HR := Lib.hid (HRL.out P)
  rw [HPP.out] at HR
  clear HRL HCP HAN
  go_wp2_with fail
  refine HR.out.mono ?_
  rintro e w1 ⟨he, b1⟩
  have HB := Lib.hid b1; clear b1
  obtain ⟨o, ho⟩ : ∃ o, relB p a b = o := ⟨_, rfl⟩
  unfold GotRel at he
  rw [ho] at he
  subst he
  clear HR
  cases o with
  | none =>
    have HF := Lib.hid (HV.out.trans (relRes2_none ho))
    clear HV ho
    go_wp2_with fail
    go_ret2
    exact ⟨⟨_, _, rfl, HF.out.symm⟩, HB.out⟩
  | some x =>
    have HF := Lib.hid (HV.out.trans (relRes2_some ho))
    clear HV ho
    cases neg
    · have HF2 : Hid (V = (bitB (!(x == false)), 0)) := HF.out
      have HTR := Lib.hid (fun W => truth_any (!(x == false)) W)
      clear HF
      cases x
      all_goals
        go_wp2_with fail
        refine (HTR.out _).mono ?_
        rintro e w2 ⟨⟨r, rfl, hr⟩, rfl⟩
        have HRR := Lib.hid hr; clear hr
        go_wp2_with fail
        go_ret2
        exact ⟨⟨r, _, rfl, by rw [HF2.out, HRR.out]⟩, HB.out⟩
    · rcases strCase P [93, 93] with rfl | ⟨q1, Q1⟩
      · have HF2 : Hid (V = ([], 2)) := by show _ = _; rw [HF.out, ← HPP.out]; rfl
        clear HF HPP
        go_wp2_with fail
        go_ret2
        exact ⟨⟨_, _, rfl, HF2.out.symm⟩, HB.out⟩
      rcases strCase P [38] with rfl | ⟨q2, Q2⟩
      · have HF2 : Hid (V = ([], 2)) := by show _ = _; rw [HF.out, ← HPP.out]; rfl
        clear HF HPP
        go_wp2_with fail
        go_ret2
        exact ⟨⟨_, _, rfl, HF2.out.symm⟩, HB.out⟩
      rcases strCase P [33] with rfl | ⟨q3, Q3⟩
      · have HF2 : Hid (V = ([], 2)) := by show _ = _; rw [HF.out, ← HPP.out]; rfl
        clear HF HPP
        go_wp2_with fail
        go_ret2
        exact ⟨⟨_, _, rfl, HF2.out.symm⟩, HB.out⟩
      have hno : noNeg p = false := by
        unfold noNeg
        rw [← HPP.out]
        exact decide_eq_false (fun h => h.elim Q1.out (fun h => h.elim Q2.out Q3.out))
      have HF2 : Hid (V = (bitB (!(x == true)), 0)) := by show _ = _; rw [HF.out, hno]; rfl
      have HTR := Lib.hid (fun W => truth_any (!(x == true)) W)
      clear HF hno HPP
      cases x
      all_goals
        go_wp2_with fail
        refine (HTR.out _).mono ?_
        rintro e w2 ⟨⟨r, rfl, hr⟩, rfl⟩
        have HRR := Lib.hid hr; clear hr
        go_wp2_with fail
        go_ret2
        exact ⟨⟨r, _, rfl, by rw [HF2.out, HRR.out]⟩, HB.out⟩

def joinRes (a b : ByteArray) : List UInt8 × Int := if 64 < a.size + b.size then ([], 4) else (a.data.toList ++ b.data.toList, 0)

theorem binJoin_any (a b : ByteArray) (w : World) (ha : a.size ≤ 1048576) (hb : b.size ≤ 1048576) :
    Calls Tryz.prog 44 #[.string ⟨#[95]⟩, .string a, .string b] w fun e w' => GotBin (joinRes a b) e ∧ Below w.heap.size w w' := by
  have HAN := Lib.hid (arithNone ⟨#[95]⟩ w (by rw [ba_toList]; rfl) (by rw [ba_toList]; rfl) (by rw [ba_toList]; rfl) (by rw [ba_toList]; rfl) (by rw [ba_toList]; rfl) (by rw [ba_toList]; rfl))
  by_cases h : 64 < a.size + b.size
  · have t1 : decide ((64 : Int) < (a.size : Int) + (b.size : Int)) = true := decide_eq_true (by omega)
    go_enter Tryz.func44, Tryz.ntmps44
    go_wp2_with fail
    refine HAN.out.mono ?_
    rintro e w' ⟨rfl, rfl⟩
    go_wp2_with fail
    go_ret2
    exact ⟨⟨_, _, rfl, by unfold joinRes; rw [if_pos h]⟩, below_refl _⟩
  · have t1 : decide ((64 : Int) < (a.size : Int) + (b.size : Int)) = false := decide_eq_false (by omega)
    go_enter Tryz.func44, Tryz.ntmps44
    go_wp2_with fail
    refine HAN.out.mono ?_
    rintro e w' ⟨rfl, rfl⟩
    go_wp2_with fail
    go_ret2
    exact ⟨⟨_, _, rfl, by unfold joinRes; rw [if_neg h, ba_app]⟩, below_refl _⟩

theorem l10Long_any (t : ByteArray) (w : World) (ht : t.size ≤ 4194304) : Calls Tryz.prog 52 #[.string t] w fun e w' => GotBin (if 64 < t.size then ([], 4) else (t.data.toList, 0)) e ∧ w = w' := by
  by_cases h : 64 < t.size
  · go_enter Tryz.func52, Tryz.ntmps52
    go_wp2
    go_ret2
    exact ⟨⟨_, _, rfl, rfl⟩, rfl⟩
  · go_enter Tryz.func52, Tryz.ntmps52
    go_wp2
    go_ret2
    exact ⟨⟨_, _, rfl, rfl⟩, rfl⟩

theorem sbinJoin_any (a b : ByteArray) (w : World) (ha : a.size ≤ 1048576) (hb : b.size ≤ 1048576) :
    Calls Tryz.prog 43 #[.string ⟨#[95]⟩, .string a, .string b] w fun e w' => GotBin (joinRes a b) e ∧ Below w.heap.size w w' := by
  have HNA := Lib.hid (l01Of_b a w ha)
  have HNB := Lib.hid (fun W => l01Of_b b W hb)
  have HLG := Lib.hid (fun W => l10Long_any (a ++ b) W (by rw [ByteArray.size_append]; omega))
  have HV : Hid (joinRes a b = if 64 < (a ++ b).size then ([], 4) else ((a ++ b).data.toList, 0)) := by show _ = _; unfold joinRes; rw [ByteArray.size_append, ba_app]
  generalize NM.numOf a.data.toList = n at *
  generalize NM.numOf b.data.toList = m at *
  go_enter Tryz.func43, Tryz.ntmps43
  go_wp2_with fail
  refine HNA.out.mono ?_
  rintro e w1 ⟨rfl, b1⟩
  go_wp2_with fail
  refine (HNB.out _).mono ?_
  rintro e w2 ⟨rfl, b2⟩
  have HB := Lib.hid (below_trans b1 b2); clear b1 b2
  go_wp2_with fail
  refine (HLG.out _).mono ?_
  rintro e w3 ⟨⟨r, c, rfl, hr⟩, rfl⟩
  have HR := Lib.hid hr; clear hr
  go_wp2_with fail
  go_ret2
  exact ⟨⟨r, c, rfl, by rw [HV.out]; exact HR.out⟩, HB.out⟩

end Go.Proofs.YtkoagpeeohmokaaGreatDoor
