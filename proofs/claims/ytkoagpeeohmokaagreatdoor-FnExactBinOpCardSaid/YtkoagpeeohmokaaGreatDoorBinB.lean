/- BinOp: the relations, both sides. -/
import Derived.Test.YtkoagpeeohmokaaGreatDoorBinA
import Derived.Test.YtkoagpeeohmokaaGreatDoorShelf2
import Derived.Test.YtkoagpeeohmokaaGreatDoorBefore
import Derived.Test.YtkoagpeeohmokaaGreatDoorGlob
import Derived.Lib.IndexBytes
namespace Go.Proofs.YtkoagpeeohmokaaGreatDoor
open Go.RowKit
set_option linter.unusedVariables false

def inT (a b : ByteArray) : Bool := Lib.contains a.data.toList b.data.toList

theorem contains_any (a b : ByteArray) (w : World) (hml : ML w) (ha : a.size ≤ 1048576) : Calls Tryz.prog 161 #[.string a, .string b] w fun e w' => e = .returned (.bool (inT a b)) ∧ w = w' := by
  obtain ⟨m, hm⟩ := hml
  exact (Tryz.strings_Contains a b m w (by omega) hm).mono fun e w' ⟨he, hw⟩ => ⟨he, hw.symm⟩

theorem inT_hit (a b : ByteArray) (i : Nat) (h : Lib.NoOccB a b i) (hi : i + b.size ≤ a.size) (hp : ((a.extract i (i + b.size)).toList == b.toList) = true) : inT a b = true := by
  have := Lib.hit a b i h hi hp
  unfold inT Lib.contains
  rw [show Lib.index a.data.toList b.data.toList = i from this]
  exact decide_eq_true (by omega)

theorem inT_past (a b : ByteArray) (i : Nat) (h : Lib.NoOccB a b i) (hi : a.size < i + b.size) : inT a b = false := by
  by_cases hb : 1 ≤ b.size
  · have := Lib.past a b i h hb hi
    unfold inT Lib.contains
    rw [show Lib.index a.data.toList b.data.toList = -1 from this]
    rfl
  · have hb0 : b.data.toList = [] := List.eq_nil_of_length_eq_zero (by rw [← ba_size]; omega)
    exfalso
    have h0 := h 0 (by omega)
    simp [Lib.occAt, hb0] at h0

set_option maxRecDepth 8000 in
theorem l10In_any (a b : ByteArray) (w : World) (ha : a.size ≤ 1048576) (hb : b.size ≤ 1048576) : Calls Tryz.prog 144 #[.string a, .string b] w fun e w' => e = .returned (.bool (inT a b)) ∧ w = w' := by
  go_enter Tryz.func144, Tryz.ntmps144
  go_wp2_with fail
  go_loop [5] (fun i => ∃ k : Nat, k ≤ a.size + 1 ∧ i = .int .i64 k ∧ Hid (Lib.NoOccB a b k)) (fun i => a.size + 1 - (intOf i).toNat)
  case atStart => exact ⟨0, Nat.zero_le _, rfl, Lib.NoOcc.zero _ _⟩
  case round =>
    obtain ⟨k, hk, rfl, HI⟩ := hrel
    by_cases hlt : k + b.size ≤ a.size
    · have t1 : (k : Int) + (b.size : Int) ≤ (a.size : Int) := by omega
      have HH := Lib.hid (fun h => inT_hit a b k HI.out hlt h)
      have HM := Lib.hid (fun h => Lib.miss_piece a b k HI.out hlt h)
      obtain ⟨p, hp⟩ : ∃ p, ((a.extract k (k + b.size)).toList == b.toList) = p := ⟨_, rfl⟩
      cases p
      · have HN := Lib.hid (HM.out hp)
        clear HH HM HI
        go_wp2_with fail
        exact ⟨⟨k + 1, by omega, by go_num, HN⟩, by simp [intOf]; omega⟩
      · have HN := Lib.hid (HH.out hp)
        clear HH HM HI
        go_wp2_with fail
        go_ret
        exact ⟨ret_bool HN.out.symm, rfl⟩
    · have HN := Lib.hid (inT_past a b k HI.out (by omega))
      go_wp2_with fail
      go_ret
      exact ⟨ret_bool HN.out.symm, rfl⟩

/-- What a relation answers; none where the text is no relation. -/
def relB (op : List UInt8) (a b : ByteArray) : Option Bool :=
  if op = [61] then some (a.toList == b.toList)
  else if op = [60] then some (decide (NM.numOf a.data.toList < NM.numOf b.data.toList))
  else if op = [62] then some (decide (NM.numOf b.data.toList < NM.numOf a.data.toList))
  else if op = [91] then some (inT a b)
  else if op = [93] then some (!(Op.bytesLess a.toList b.toList || a.toList == b.toList))
  else if op = [93, 93] then some (bef b a)
  else if op = [38] then some (!(NM.numOf a.data.toList == 0) && !(NM.numOf b.data.toList == 0))
  else if op = [33] then some (!(NM.numOf a.data.toList == 0) || !(NM.numOf b.data.toList == 0))
  else none

def GotRel (o : Option Bool) (e : Ending) : Prop := e = .returned (.tuple #[.bool (o.getD false), .bool o.isSome])

theorem gotRel_some {o : Option Bool} {x : Bool} (h : o = some x) : GotRel o (.returned (.tuple #[.bool x, .bool true])) := by subst h; rfl

theorem gotRel_none {o : Option Bool} (h : o = none) : GotRel o (.returned (.tuple #[.bool false, .bool false])) := by subst h; rfl

theorem numOf_b (a : ByteArray) (w : World) (ha : a.size ≤ 1048576) : Calls Tryz.prog 103 #[.string a] w fun e w' => e = .returned (.int .i64 (NM.numOf a.data.toList)) ∧ Below w.heap.size w w' :=
  (NumOf_any a w ha).mono fun e w' ⟨n, he, hn, hb⟩ => ⟨by rw [he, hn.out], hb⟩

theorem l01Of_b (a : ByteArray) (w : World) (ha : a.size ≤ 1048576) : Calls Tryz.prog 92 #[.string a] w fun e w' => e = .returned (.int .i64 (NM.numOf a.data.toList)) ∧ Below w.heap.size w w' :=
  (l01Of_any a w ha).mono fun e w' ⟨n, he, hn, hw⟩ => ⟨by rw [he, hn.out], by rw [← hw]; exact below_refl _⟩

theorem rel_truth (a : ByteArray) (w : World) (ha : a.size ≤ 1048576) : Calls Tryz.prog 163 #[.string a] w fun e w' => e = .returned (.bool (!(NM.numOf a.data.toList == 0))) ∧ Below w.heap.size w w' := by
  have HN := Lib.hid (numOf_b a w ha)
  generalize NM.numOf a.data.toList = n at *
  go_enter Tryz.func163, Tryz.ntmps163
  go_wp2_with fail
  refine HN.out.mono ?_
  rintro e w1 ⟨rfl, b1⟩
  have HB := Lib.hid b1; clear b1
  rcases eqForms n 0 with ⟨e1, e2, e3⟩ | ⟨e1, e2, e3⟩
  all_goals
    go_wp2_with fail
    go_ret
    exact ⟨ret_bool (by rw [e1]; rfl), HB.out⟩

theorem srel_truth (a : ByteArray) (w : World) (ha : a.size ≤ 1048576) : Calls Tryz.prog 146 #[.string a] w fun e w' => e = .returned (.bool (!(NM.numOf a.data.toList == 0))) ∧ Below w.heap.size w w' := by
  have HN := Lib.hid (l01Of_b a w ha)
  generalize NM.numOf a.data.toList = n at *
  go_enter Tryz.func146, Tryz.ntmps146
  go_wp2_with fail
  refine HN.out.mono ?_
  rintro e w1 ⟨rfl, b1⟩
  have HB := Lib.hid b1; clear b1
  rcases eqForms n 0 with ⟨e1, e2, e3⟩ | ⟨e1, e2, e3⟩
  all_goals
    go_wp2_with fail
    go_ret
    exact ⟨ret_bool (by rw [e1]; rfl), HB.out⟩

theorem sContains_b (a b : ByteArray) (w : World) (hml : ML w) (ha : a.size ≤ 1048576) (hb : b.size ≤ 1048576) : Calls Tryz.prog 144 #[.string a, .string b] w fun e w' => e = .returned (.bool (inT a b)) ∧ w = w' := l10In_any a b w ha hb

theorem contains_b (a b : ByteArray) (w : World) (hml : ML w) (ha : a.size ≤ 1048576) (hb : b.size ≤ 1048576) : Calls Tryz.prog 161 #[.string a, .string b] w fun e w' => e = .returned (.bool (inT a b)) ∧ w = w' := contains_any a b w hml ha

theorem bef_b (a b : ByteArray) (w : World) (hT : T10 w) (ha : a.size ≤ 1048576) (hb : b.size ≤ 1048576) : Calls Tryz.prog 162 #[.string a, .string b] w fun e w' => e = .returned (.bool (bef a b)) ∧ Below w.heap.size w w' := Before_any a b w hT ha hb

theorem sbef_b (a b : ByteArray) (w : World) (hT : T10 w) (ha : a.size ≤ 1048576) (hb : b.size ≤ 1048576) : Calls Tryz.prog 145 #[.string a, .string b] w fun e w' => e = .returned (.bool (bef a b)) ∧ Below w.heap.size w w' := l02Before_any a b w ha hb

set_option maxHeartbeats 4000000 in
set_option maxRecDepth 8000 in
theorem rel_any (op a b : ByteArray) (w : World) (hT : T10 w) (hml : ML w) (ha : a.size ≤ 1048576) (hb : b.size ≤ 1048576) : Calls Tryz.prog 106 #[.string op, .string a, .string b] w fun e w' => GotRel (relB op.data.toList a b) e ∧ Below w.heap.size w w' := by
  have HNA := Lib.hid (numOf_b a w ha)
  have HNB := Lib.hid (fun W => numOf_b b W hb)
  have HCT := Lib.hid (contains_b a b w hml ha hb)
  have HBF := Lib.hid (bef_b b a w hT hb ha)
  have HTA := Lib.hid (rel_truth a w ha)
  have HTB := Lib.hid (fun W => rel_truth b W hb)
  clear hT hml
  rcases strCase op [61] with rfl | ⟨h0, H0⟩
  · have HV : Hid (relB [61] a b = some (a.toList == b.toList)) := rfl
    obtain ⟨E, hE⟩ : ∃ E, (a.toList == b.toList) = E := ⟨_, rfl⟩
    rw [hE] at HV
    go_enter Tryz.func106, Tryz.ntmps106
    go_wp2_with fail
    go_ret2
    exact ⟨gotRel_some HV.out, below_refl _⟩
  rcases strCase op [60] with rfl | ⟨h1, H1⟩
  · have HV : Hid (relB [60] a b = some (decide (NM.numOf a.data.toList < NM.numOf b.data.toList))) := rfl
    generalize NM.numOf a.data.toList = n at *
    generalize NM.numOf b.data.toList = m at *
    obtain ⟨E, hE⟩ : ∃ E, decide (n < m) = E := ⟨_, rfl⟩
    rw [hE] at HV
    go_enter Tryz.func106, Tryz.ntmps106
    go_wp2_with fail
    refine HNA.out.mono ?_
    rintro e w1 ⟨rfl, b1⟩
    go_wp2_with fail
    refine (HNB.out _).mono ?_
    rintro e w2 ⟨rfl, b2⟩
    have B2 := Lib.hid (below_trans b1 b2); clear b1 b2
    go_wp2_with fail
    go_ret2
    exact ⟨gotRel_some HV.out, B2.out⟩
  rcases strCase op [62] with rfl | ⟨h2, H2⟩
  · have HV : Hid (relB [62] a b = some (decide (NM.numOf b.data.toList < NM.numOf a.data.toList))) := rfl
    generalize NM.numOf a.data.toList = n at *
    generalize NM.numOf b.data.toList = m at *
    obtain ⟨E, hE⟩ : ∃ E, decide (m < n) = E := ⟨_, rfl⟩
    rw [hE] at HV
    go_enter Tryz.func106, Tryz.ntmps106
    go_wp2_with fail
    refine HNA.out.mono ?_
    rintro e w1 ⟨rfl, b1⟩
    go_wp2_with fail
    refine (HNB.out _).mono ?_
    rintro e w2 ⟨rfl, b2⟩
    have B2 := Lib.hid (below_trans b1 b2); clear b1 b2
    go_wp2_with fail
    go_ret2
    exact ⟨gotRel_some HV.out, B2.out⟩
  rcases strCase op [91] with rfl | ⟨h3, H3⟩
  · have HV : Hid (relB [91] a b = some (inT a b)) := rfl
    generalize inT a b = E at *
    go_enter Tryz.func106, Tryz.ntmps106
    go_wp2_with fail
    refine HCT.out.mono ?_
    rintro e w1 ⟨rfl, rfl⟩
    go_wp2_with fail
    go_ret2
    exact ⟨gotRel_some HV.out, below_refl _⟩
  rcases strCase op [93] with rfl | ⟨h4, H4⟩
  · have HV : Hid (relB [93] a b = some (!(Op.bytesLess a.toList b.toList || a.toList == b.toList))) := rfl
    obtain ⟨E1, hE1⟩ : ∃ E, Op.bytesLess a.toList b.toList = E := ⟨_, rfl⟩
    obtain ⟨E2, hE2⟩ : ∃ E, (a.toList == b.toList) = E := ⟨_, rfl⟩
    rw [hE1, hE2] at HV
    cases E1 <;> cases E2
    all_goals
      go_enter Tryz.func106, Tryz.ntmps106
      go_wp2_with fail
      go_ret2
      exact ⟨gotRel_some HV.out, below_refl _⟩
  rcases strCase op [93, 93] with rfl | ⟨h5, H5⟩
  · have HV : Hid (relB [93, 93] a b = some (bef b a)) := rfl
    generalize bef b a = E at *
    go_enter Tryz.func106, Tryz.ntmps106
    go_wp2_with fail
    refine HBF.out.mono ?_
    rintro e w1 ⟨rfl, b1⟩
    have B1 := Lib.hid b1; clear b1
    go_wp2_with fail
    go_ret2
    exact ⟨gotRel_some HV.out, B1.out⟩
  rcases strCase op [38] with rfl | ⟨h6, H6⟩
  · have HV : Hid (relB [38] a b = some (!(NM.numOf a.data.toList == 0) && !(NM.numOf b.data.toList == 0))) := rfl
    clear HNA HNB HCT HBF
    generalize (!(NM.numOf a.data.toList == 0)) = p at *
    generalize (!(NM.numOf b.data.toList == 0)) = q at *
    cases p
    · go_enter Tryz.func106, Tryz.ntmps106
      go_wp2_with fail
      refine HTA.out.mono ?_
      rintro e w1 ⟨rfl, b1⟩
      have B1 := Lib.hid b1; clear b1
      go_wp2_with fail
      go_ret2
      exact ⟨gotRel_some (by rw [HV.out]; rfl), B1.out⟩
    · go_enter Tryz.func106, Tryz.ntmps106
      go_wp2_with fail
      refine HTA.out.mono ?_
      rintro e w1 ⟨rfl, b1⟩
      go_wp2_with fail
      refine (HTB.out _).mono ?_
      rintro e w2 ⟨rfl, b2⟩
      have B2 := Lib.hid (below_trans b1 b2); clear b1 b2
      go_wp2_with fail
      go_ret2
      exact ⟨gotRel_some (by rw [HV.out]; rfl), B2.out⟩
  rcases strCase op [33] with rfl | ⟨h7, H7⟩
  · have HV : Hid (relB [33] a b = some (!(NM.numOf a.data.toList == 0) || !(NM.numOf b.data.toList == 0))) := rfl
    clear HNA HNB HCT HBF
    generalize (!(NM.numOf a.data.toList == 0)) = p at *
    generalize (!(NM.numOf b.data.toList == 0)) = q at *
    cases p
    · go_enter Tryz.func106, Tryz.ntmps106
      go_wp2_with fail
      refine HTA.out.mono ?_
      rintro e w1 ⟨rfl, b1⟩
      go_wp2_with fail
      refine (HTB.out _).mono ?_
      rintro e w2 ⟨rfl, b2⟩
      have B2 := Lib.hid (below_trans b1 b2); clear b1 b2
      go_wp2_with fail
      go_ret2
      exact ⟨gotRel_some (by rw [HV.out]; rfl), B2.out⟩
    · go_enter Tryz.func106, Tryz.ntmps106
      go_wp2_with fail
      refine HTA.out.mono ?_
      rintro e w1 ⟨rfl, b1⟩
      have B1 := Lib.hid b1; clear b1
      go_wp2_with fail
      go_ret2
      exact ⟨gotRel_some (by rw [HV.out]; rfl), B1.out⟩
  have HV : Hid (relB op.data.toList a b = none) := by
    show _ = _
    unfold relB
    rw [if_neg H0.out, if_neg H1.out, if_neg H2.out, if_neg H3.out, if_neg H4.out, if_neg H5.out, if_neg H6.out, if_neg H7.out]
  go_enter Tryz.func106, Tryz.ntmps106
  go_wp2_with fail
  go_ret2
  exact ⟨gotRel_none HV.out, below_refl _⟩

set_option maxHeartbeats 4000000 in
set_option maxRecDepth 8000 in
theorem srel_any (op a b : ByteArray) (w : World) (hT : T10 w) (hml : ML w) (ha : a.size ≤ 1048576) (hb : b.size ≤ 1048576) : Calls Tryz.prog 100 #[.string op, .string a, .string b] w fun e w' => GotRel (relB op.data.toList a b) e ∧ Below w.heap.size w w' := by
  have HNA := Lib.hid (l01Of_b a w ha)
  have HNB := Lib.hid (fun W => l01Of_b b W hb)
  have HCT := Lib.hid (sContains_b a b w hml ha hb)
  have HBF := Lib.hid (sbef_b b a w hT hb ha)
  have HTA := Lib.hid (srel_truth a w ha)
  have HTB := Lib.hid (fun W => srel_truth b W hb)
  clear hT hml
  rcases strCase op [61] with rfl | ⟨h0, H0⟩
  · have HV : Hid (relB [61] a b = some (a.toList == b.toList)) := rfl
    obtain ⟨E, hE⟩ : ∃ E, (a.toList == b.toList) = E := ⟨_, rfl⟩
    rw [hE] at HV
    go_enter Tryz.func100, Tryz.ntmps100
    go_wp2_with fail
    go_ret2
    exact ⟨gotRel_some HV.out, below_refl _⟩
  rcases strCase op [60] with rfl | ⟨h1, H1⟩
  · have HV : Hid (relB [60] a b = some (decide (NM.numOf a.data.toList < NM.numOf b.data.toList))) := rfl
    generalize NM.numOf a.data.toList = n at *
    generalize NM.numOf b.data.toList = m at *
    obtain ⟨E, hE⟩ : ∃ E, decide (n < m) = E := ⟨_, rfl⟩
    rw [hE] at HV
    go_enter Tryz.func100, Tryz.ntmps100
    go_wp2_with fail
    refine HNA.out.mono ?_
    rintro e w1 ⟨rfl, b1⟩
    go_wp2_with fail
    refine (HNB.out _).mono ?_
    rintro e w2 ⟨rfl, b2⟩
    have B2 := Lib.hid (below_trans b1 b2); clear b1 b2
    go_wp2_with fail
    go_ret2
    exact ⟨gotRel_some HV.out, B2.out⟩
  rcases strCase op [62] with rfl | ⟨h2, H2⟩
  · have HV : Hid (relB [62] a b = some (decide (NM.numOf b.data.toList < NM.numOf a.data.toList))) := rfl
    generalize NM.numOf a.data.toList = n at *
    generalize NM.numOf b.data.toList = m at *
    obtain ⟨E, hE⟩ : ∃ E, decide (m < n) = E := ⟨_, rfl⟩
    rw [hE] at HV
    go_enter Tryz.func100, Tryz.ntmps100
    go_wp2_with fail
    refine HNA.out.mono ?_
    rintro e w1 ⟨rfl, b1⟩
    go_wp2_with fail
    refine (HNB.out _).mono ?_
    rintro e w2 ⟨rfl, b2⟩
    have B2 := Lib.hid (below_trans b1 b2); clear b1 b2
    go_wp2_with fail
    go_ret2
    exact ⟨gotRel_some HV.out, B2.out⟩
  rcases strCase op [91] with rfl | ⟨h3, H3⟩
  · have HV : Hid (relB [91] a b = some (inT a b)) := rfl
    generalize inT a b = E at *
    go_enter Tryz.func100, Tryz.ntmps100
    go_wp2_with fail
    refine HCT.out.mono ?_
    rintro e w1 ⟨rfl, rfl⟩
    go_wp2_with fail
    go_ret2
    exact ⟨gotRel_some HV.out, below_refl _⟩
  rcases strCase op [93] with rfl | ⟨h4, H4⟩
  · have HV : Hid (relB [93] a b = some (!(Op.bytesLess a.toList b.toList || a.toList == b.toList))) := rfl
    obtain ⟨E1, hE1⟩ : ∃ E, Op.bytesLess a.toList b.toList = E := ⟨_, rfl⟩
    obtain ⟨E2, hE2⟩ : ∃ E, (a.toList == b.toList) = E := ⟨_, rfl⟩
    rw [hE1, hE2] at HV
    cases E1 <;> cases E2
    all_goals
      go_enter Tryz.func100, Tryz.ntmps100
      go_wp2_with fail
      go_ret2
      exact ⟨gotRel_some HV.out, below_refl _⟩
  rcases strCase op [93, 93] with rfl | ⟨h5, H5⟩
  · have HV : Hid (relB [93, 93] a b = some (bef b a)) := rfl
    generalize bef b a = E at *
    go_enter Tryz.func100, Tryz.ntmps100
    go_wp2_with fail
    refine HBF.out.mono ?_
    rintro e w1 ⟨rfl, b1⟩
    have B1 := Lib.hid b1; clear b1
    go_wp2_with fail
    go_ret2
    exact ⟨gotRel_some HV.out, B1.out⟩
  rcases strCase op [38] with rfl | ⟨h6, H6⟩
  · have HV : Hid (relB [38] a b = some (!(NM.numOf a.data.toList == 0) && !(NM.numOf b.data.toList == 0))) := rfl
    clear HNA HNB HCT HBF
    generalize (!(NM.numOf a.data.toList == 0)) = p at *
    generalize (!(NM.numOf b.data.toList == 0)) = q at *
    cases p
    · go_enter Tryz.func100, Tryz.ntmps100
      go_wp2_with fail
      refine HTA.out.mono ?_
      rintro e w1 ⟨rfl, b1⟩
      have B1 := Lib.hid b1; clear b1
      go_wp2_with fail
      go_ret2
      exact ⟨gotRel_some (by rw [HV.out]; rfl), B1.out⟩
    · go_enter Tryz.func100, Tryz.ntmps100
      go_wp2_with fail
      refine HTA.out.mono ?_
      rintro e w1 ⟨rfl, b1⟩
      go_wp2_with fail
      refine (HTB.out _).mono ?_
      rintro e w2 ⟨rfl, b2⟩
      have B2 := Lib.hid (below_trans b1 b2); clear b1 b2
      go_wp2_with fail
      go_ret2
      exact ⟨gotRel_some (by rw [HV.out]; rfl), B2.out⟩
  rcases strCase op [33] with rfl | ⟨h7, H7⟩
  · have HV : Hid (relB [33] a b = some (!(NM.numOf a.data.toList == 0) || !(NM.numOf b.data.toList == 0))) := rfl
    clear HNA HNB HCT HBF
    generalize (!(NM.numOf a.data.toList == 0)) = p at *
    generalize (!(NM.numOf b.data.toList == 0)) = q at *
    cases p
    · go_enter Tryz.func100, Tryz.ntmps100
      go_wp2_with fail
      refine HTA.out.mono ?_
      rintro e w1 ⟨rfl, b1⟩
      go_wp2_with fail
      refine (HTB.out _).mono ?_
      rintro e w2 ⟨rfl, b2⟩
      have B2 := Lib.hid (below_trans b1 b2); clear b1 b2
      go_wp2_with fail
      go_ret2
      exact ⟨gotRel_some (by rw [HV.out]; rfl), B2.out⟩
    · go_enter Tryz.func100, Tryz.ntmps100
      go_wp2_with fail
      refine HTA.out.mono ?_
      rintro e w1 ⟨rfl, b1⟩
      have B1 := Lib.hid b1; clear b1
      go_wp2_with fail
      go_ret2
      exact ⟨gotRel_some (by rw [HV.out]; rfl), B1.out⟩
  have HV : Hid (relB op.data.toList a b = none) := by
    show _ = _
    unfold relB
    rw [if_neg H0.out, if_neg H1.out, if_neg H2.out, if_neg H3.out, if_neg H4.out, if_neg H5.out, if_neg H6.out, if_neg H7.out]
  go_enter Tryz.func100, Tryz.ntmps100
  go_wp2_with fail
  go_ret2
  exact ⟨gotRel_none HV.out, below_refl _⟩

end Go.Proofs.YtkoagpeeohmokaaGreatDoor
