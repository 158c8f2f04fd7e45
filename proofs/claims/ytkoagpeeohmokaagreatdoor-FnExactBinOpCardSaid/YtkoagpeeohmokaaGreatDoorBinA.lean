/- BinOp: the arithmetic operators, both sides. -/
import Derived.Test.YtkoagpeeohmokaaGreatDoorDivLaw
import Derived.Test.YtkoagpeeohmokaaGreatDoorUnOp
namespace Go.Proofs.YtkoagpeeohmokaaGreatDoor
open Go.RowKit
set_option linter.unusedVariables false

theorem arithAdd (w : World) : Calls Tryz.prog 102 #[.string ⟨#[43]⟩] w fun e w' => e = .returned (.tuple #[.func (.func 147) #[] #[], .bool true]) ∧ w = w' := by
  go_enter Tryz.func102, Tryz.ntmps102
  go_wp2
  go_ret2
  exact ⟨rfl, rfl⟩

theorem arithSub (w : World) : Calls Tryz.prog 102 #[.string ⟨#[45]⟩] w fun e w' => e = .returned (.tuple #[.func (.func 148) #[] #[], .bool true]) ∧ w = w' := by
  go_enter Tryz.func102, Tryz.ntmps102
  go_wp2
  go_ret2
  exact ⟨rfl, rfl⟩

theorem arithMul (w : World) : Calls Tryz.prog 102 #[.string ⟨#[42]⟩] w fun e w' => e = .returned (.tuple #[.func (.func 149) #[] #[], .bool true]) ∧ w = w' := by
  go_enter Tryz.func102, Tryz.ntmps102
  go_wp2
  go_ret2
  exact ⟨rfl, rfl⟩

theorem arithDiv (w : World) : Calls Tryz.prog 102 #[.string ⟨#[47]⟩] w fun e w' => e = .returned (.tuple #[.func (.func 150) #[] #[], .bool true]) ∧ w = w' := by
  go_enter Tryz.func102, Tryz.ntmps102
  go_wp2
  go_ret2
  exact ⟨rfl, rfl⟩

theorem arithInt (w : World) : Calls Tryz.prog 102 #[.string ⟨#[92]⟩] w fun e w' => e = .returned (.tuple #[.func (.func 151) #[] #[], .bool true]) ∧ w = w' := by
  go_enter Tryz.func102, Tryz.ntmps102
  go_wp2
  go_ret2
  exact ⟨rfl, rfl⟩

theorem arithMod (w : World) : Calls Tryz.prog 102 #[.string ⟨#[35]⟩] w fun e w' => e = .returned (.tuple #[.func (.func 152) #[] #[], .bool true]) ∧ w = w' := by
  go_enter Tryz.func102, Tryz.ntmps102
  go_wp2
  go_ret2
  exact ⟨rfl, rfl⟩

theorem arithNone (op : ByteArray) (w : World) (h1 : (op.toList == [43]) = false) (h2 : (op.toList == [45]) = false) (h3 : (op.toList == [42]) = false) (h4 : (op.toList == [47]) = false) (h5 : (op.toList == [92]) = false) (h6 : (op.toList == [35]) = false) :
    Calls Tryz.prog 102 #[.string op] w fun e w' => e = .returned (.tuple #[.nilFunc, .bool false]) ∧ w = w' := by
  go_enter Tryz.func102, Tryz.ntmps102
  go_wp2
  go_ret2
  exact ⟨rfl, rfl⟩

theorem numAdd (a b : Int) (w : World) : Calls Tryz.prog 147 #[.int .i64 a, .int .i64 b] w fun e w' => e = .returned (.tuple #[.int .i64 (addNum a b).1, .int .i64 (addNum a b).2]) ∧ Below w.heap.size w w' :=
  (AddNum_any a b w).mono fun e w' ⟨he, hw⟩ => ⟨he, by rw [← hw]; exact below_refl _⟩

theorem numSub (a b : Int) (w : World) : Calls Tryz.prog 148 #[.int .i64 a, .int .i64 b] w fun e w' => e = .returned (.tuple #[.int .i64 (subNum a b).1, .int .i64 (subNum a b).2]) ∧ Below w.heap.size w w' :=
  (SubNum_any a b w).mono fun e w' ⟨he, hw⟩ => ⟨he, by rw [← hw]; exact below_refl _⟩

theorem numInt (a b : Int) (w : World) : Calls Tryz.prog 151 #[.int .i64 a, .int .i64 b] w fun e w' => e = .returned (.tuple #[.int .i64 (intDiv a b).1, .int .i64 (intDiv a b).2]) ∧ Below w.heap.size w w' :=
  (IntDiv_any a b w).mono fun e w' ⟨he, hw⟩ => ⟨he, by rw [← hw]; exact below_refl _⟩

theorem numMod (a b : Int) (w : World) : Calls Tryz.prog 152 #[.int .i64 a, .int .i64 b] w fun e w' => e = .returned (.tuple #[.int .i64 (modNum a b).1, .int .i64 (modNum a b).2]) ∧ Below w.heap.size w w' :=
  (ModNum_any a b w).mono fun e w' ⟨he, hw⟩ => ⟨he, by rw [← hw]; exact below_refl _⟩

theorem numsAdd (a b : Int) (w : World) : Calls Tryz.prog 94 #[.int .i64 a, .int .i64 b] w fun e w' => e = .returned (.tuple #[.int .i64 (addNum a b).1, .int .i64 (addNum a b).2]) ∧ Below w.heap.size w w' :=
  (l01Add_any a b w).mono fun e w' ⟨he, hw⟩ => ⟨he, by rw [← hw]; exact below_refl _⟩

theorem numsSub (a b : Int) (w : World) : Calls Tryz.prog 95 #[.int .i64 a, .int .i64 b] w fun e w' => e = .returned (.tuple #[.int .i64 (subNum a b).1, .int .i64 (subNum a b).2]) ∧ Below w.heap.size w w' :=
  (l01Sub_any a b w).mono fun e w' ⟨he, hw⟩ => ⟨he, by rw [← hw]; exact below_refl _⟩

theorem numsMul (a b : Int) (w : World) : Calls Tryz.prog 96 #[.int .i64 a, .int .i64 b] w fun e w' => e = .returned (.tuple #[.int .i64 (mulNum a b).1, .int .i64 (mulNum a b).2]) ∧ Below w.heap.size w w' :=
  (l01Mul_any a b w).mono fun e w' ⟨he, hw⟩ => ⟨he, by rw [← hw]; exact below_refl _⟩

theorem numsDiv (a b : Int) (w : World) : Calls Tryz.prog 97 #[.int .i64 a, .int .i64 b] w fun e w' => e = .returned (.tuple #[.int .i64 (divNum a b).1, .int .i64 (divNum a b).2]) ∧ Below w.heap.size w w' :=
  (l01Div_any a b w).mono fun e w' ⟨he, hw⟩ => ⟨he, by rw [← hw]; exact below_refl _⟩

theorem numsInt (a b : Int) (w : World) : Calls Tryz.prog 98 #[.int .i64 a, .int .i64 b] w fun e w' => e = .returned (.tuple #[.int .i64 (intDiv a b).1, .int .i64 (intDiv a b).2]) ∧ Below w.heap.size w w' :=
  (l01Int_any a b w).mono fun e w' ⟨he, hw⟩ => ⟨he, by rw [← hw]; exact below_refl _⟩

theorem numsMod (a b : Int) (w : World) : Calls Tryz.prog 99 #[.int .i64 a, .int .i64 b] w fun e w' => e = .returned (.tuple #[.int .i64 (modNum a b).1, .int .i64 (modNum a b).2]) ∧ Below w.heap.size w w' :=
  (l01Mod_any a b w).mono fun e w' ⟨he, hw⟩ => ⟨he, by rw [← hw]; exact below_refl _⟩

theorem numMul (a b : Int) (w : World) : Calls Tryz.prog 149 #[.int .i64 a, .int .i64 b] w fun e w' => e = .returned (.tuple #[.int .i64 (mulNum a b).1, .int .i64 (mulNum a b).2]) ∧ Below w.heap.size w w' :=
  (MulNum_any a b w).mono fun e w' ⟨he, n, hw⟩ => ⟨he, by rw [hw]; exact below_drewN _ _⟩

theorem numDiv (a b : Int) (w : World) : Calls Tryz.prog 150 #[.int .i64 a, .int .i64 b] w fun e w' => e = .returned (.tuple #[.int .i64 (divNum a b).1, .int .i64 (divNum a b).2]) ∧ Below w.heap.size w w' :=
  (DivNum_any a b w).mono fun e w' ⟨he, n, hw⟩ => ⟨he, by rw [hw]; exact below_drewN _ _⟩

def In18 (n : Int) : Prop := -999999999999999999 ≤ n ∧ n ≤ 999999999999999999

theorem fitNum_in (n : Int) : In18 (fitNum n).1 := by
  unfold fitNum In18
  cases h : isNumB n
  · simp
  · exact isNumB_true h

theorem binNum_in {d : Bool} {f : Int → Int → Int × Int} (h : ∀ a b, isNumB a = true → isNumB b = true → (d = true → ¬ b = 0) → In18 (f a b).1) (a b : Int) : In18 (binNum d f a b).1 := by
  rcases opCode_cases a b d with ⟨e, _⟩ | ⟨e, _⟩ | ⟨e, h1, h2, h3⟩
  · rw [binNum_err e (by decide)]; unfold In18; simp
  · rw [binNum_err e (by decide)]; unfold In18; simp
  · rw [binNum_ok e]; exact h a b h1 h2 h3

theorem addNum_in (a b : Int) : In18 (addNum a b).1 := binNum_in (fun a b _ _ _ => fitNum_in _) a b

theorem subNum_in (a b : Int) : In18 (subNum a b).1 := binNum_in (fun a b _ _ _ => fitNum_in _) a b

theorem ratioV_in (a b c : Nat) (s : Bool) : In18 (ratioV a b c s).1 := by
  unfold ratioV In18
  by_cases h : 999999999999999999 < a * b / c
  · rw [if_pos h]; simp
  · rw [if_neg h]
    generalize a * b / c = q at *
    cases s <;> simp <;> omega

theorem mulNum_in (a b : Int) : In18 (mulNum a b).1 := binNum_in (fun a b _ _ _ => ratioV_in _ _ _ _) a b

theorem divNum_in (a b : Int) : In18 (divNum a b).1 := binNum_in (fun a b _ _ _ => ratioV_in _ _ _ _) a b

theorem intDiv_in (a b : Int) : In18 (intDiv a b).1 := binNum_in (fun a b _ _ _ => by
  show In18 (if 999999999999 < a.tdiv b ∨ a.tdiv b < -999999999999 then ((0 : Int), (7 : Int)) else (a.tdiv b * 1000000, 0)).1
  by_cases h : 999999999999 < a.tdiv b ∨ a.tdiv b < -999999999999
  · rw [if_pos h]; unfold In18; simp
  · rw [if_neg h]; unfold In18
    generalize a.tdiv b = q at *
    simp only
    omega) a b

theorem modNum_in (a b : Int) : In18 (modNum a b).1 := binNum_in (fun a b ha hb hz => by
  have h1 := tmod_bd a b (isNumB_true ha)
  have h2 := isNumB_true hb
  show In18 (if a.tmod b ≠ 0 ∧ ¬ (a.tmod b < 0 ↔ b < 0) then a.tmod b + b else a.tmod b, (0 : Int)).1
  generalize a.tmod b = m at *
  unfold In18
  simp only
  split
  · rename_i h
    have : (m < 0 ∧ 0 ≤ b) ∨ (0 ≤ m ∧ b < 0) := by
      by_cases hm : m < 0 <;> by_cases hb' : b < 0
      · exact absurd (Iff.intro (fun _ => hb') (fun _ => hm)) h.2
      · left; omega
      · right; omega
      · exact absurd (Iff.intro (fun x => absurd x hm) (fun x => absurd x hb')) h.2
    omega
  · exact h1) a b

/-- What an arithmetic operator gives. -/
def arRes (p : Int × Int) : List UInt8 × Int := if p.2 = 0 then (numTextB p.1, 0) else ([], p.2)

def GotBin (V : List UInt8 × Int) (e : Ending) : Prop := ∃ (r : ByteArray) (c : Int), e = .returned (.tuple #[.string r, .int .i64 c]) ∧ (r.data.toList, c) = V

set_option maxHeartbeats 1000000 in
set_option maxRecDepth 8000 in
theorem binAdd (a b : ByteArray) (w : World) (hT : T10 w) (ha : a.size ≤ 1048576) (hb : b.size ≤ 1048576) : Calls Tryz.prog 44 #[.string ⟨#[43]⟩, .string a, .string b] w fun e w' => GotBin (arRes (addNum (NM.numOf a.data.toList) (NM.numOf b.data.toList))) e ∧ Below w.heap.size w w' := by
  have HT := Lib.hid hT; clear hT
  have HNA := Lib.hid (NumOf_any a w ha)
  have HNB := Lib.hid (fun W => NumOf_any b W hb)
  go_enter Tryz.func44, Tryz.ntmps44
  go_wp2_with fail
  refine (arithAdd _).mono ?_
  rintro e w' ⟨rfl, rfl⟩
  go_wp2_with fail
  refine HNA.out.mono ?_
  rintro e w1 ⟨n, rfl, HN, b1⟩
  go_wp2_with fail
  refine (HNB.out _).mono ?_
  rintro e w2 ⟨m, rfl, HM, b2⟩
  have B2 := Lib.hid (below_trans b1 b2)
  clear b1 b2 HNA HNB
  have HF := Lib.hid (numAdd n m w2)
  have HP : Hid (addNum (NM.numOf a.data.toList) (NM.numOf b.data.toList) = addNum n m) := by show _ = _; rw [HN.out, HM.out]
  obtain ⟨p, c, hpc⟩ : ∃ p c, addNum n m = (p, c) := ⟨_, _, rfl⟩
  rw [hpc] at HF HP
  clear hpc HN HM
  go_wp2_with fail
  refine HF.out.mono ?_
  rintro e w3 ⟨rfl, b3⟩
  have B3 := Lib.hid (below_trans B2.out b3)
  clear HF b3 B2
  rcases eqForms c 0 with ⟨e1, e2, e3⟩ | ⟨e1, e2, e3⟩
  · go_wp2_with fail
    refine (NumText_any p _ (HT.out.below B3.out)).mono ?_
    rintro e w4 ⟨r, rfl, hr, HR, b4⟩
    have B4 := Lib.hid (below_trans B3.out b4)
    clear b4 B3
    go_wp2_with fail
    go_ret2
    exact ⟨⟨r, _, rfl, by rw [HP.out]; unfold arRes; rw [if_pos e3.out, HR.out]⟩, B4.out⟩
  · go_wp2_with fail
    go_ret2
    exact ⟨⟨_, _, rfl, by rw [HP.out]; unfold arRes; rw [if_neg e3.out]⟩, B3.out⟩

set_option maxHeartbeats 1000000 in
set_option maxRecDepth 8000 in
theorem binSub (a b : ByteArray) (w : World) (hT : T10 w) (ha : a.size ≤ 1048576) (hb : b.size ≤ 1048576) : Calls Tryz.prog 44 #[.string ⟨#[45]⟩, .string a, .string b] w fun e w' => GotBin (arRes (subNum (NM.numOf a.data.toList) (NM.numOf b.data.toList))) e ∧ Below w.heap.size w w' := by
  have HT := Lib.hid hT; clear hT
  have HNA := Lib.hid (NumOf_any a w ha)
  have HNB := Lib.hid (fun W => NumOf_any b W hb)
  go_enter Tryz.func44, Tryz.ntmps44
  go_wp2_with fail
  refine (arithSub _).mono ?_
  rintro e w' ⟨rfl, rfl⟩
  go_wp2_with fail
  refine HNA.out.mono ?_
  rintro e w1 ⟨n, rfl, HN, b1⟩
  go_wp2_with fail
  refine (HNB.out _).mono ?_
  rintro e w2 ⟨m, rfl, HM, b2⟩
  have B2 := Lib.hid (below_trans b1 b2)
  clear b1 b2 HNA HNB
  have HF := Lib.hid (numSub n m w2)
  have HP : Hid (subNum (NM.numOf a.data.toList) (NM.numOf b.data.toList) = subNum n m) := by show _ = _; rw [HN.out, HM.out]
  obtain ⟨p, c, hpc⟩ : ∃ p c, subNum n m = (p, c) := ⟨_, _, rfl⟩
  rw [hpc] at HF HP
  clear hpc HN HM
  go_wp2_with fail
  refine HF.out.mono ?_
  rintro e w3 ⟨rfl, b3⟩
  have B3 := Lib.hid (below_trans B2.out b3)
  clear HF b3 B2
  rcases eqForms c 0 with ⟨e1, e2, e3⟩ | ⟨e1, e2, e3⟩
  · go_wp2_with fail
    refine (NumText_any p _ (HT.out.below B3.out)).mono ?_
    rintro e w4 ⟨r, rfl, hr, HR, b4⟩
    have B4 := Lib.hid (below_trans B3.out b4)
    clear b4 B3
    go_wp2_with fail
    go_ret2
    exact ⟨⟨r, _, rfl, by rw [HP.out]; unfold arRes; rw [if_pos e3.out, HR.out]⟩, B4.out⟩
  · go_wp2_with fail
    go_ret2
    exact ⟨⟨_, _, rfl, by rw [HP.out]; unfold arRes; rw [if_neg e3.out]⟩, B3.out⟩

set_option maxHeartbeats 1000000 in
set_option maxRecDepth 8000 in
theorem binMul (a b : ByteArray) (w : World) (hT : T10 w) (ha : a.size ≤ 1048576) (hb : b.size ≤ 1048576) : Calls Tryz.prog 44 #[.string ⟨#[42]⟩, .string a, .string b] w fun e w' => GotBin (arRes (mulNum (NM.numOf a.data.toList) (NM.numOf b.data.toList))) e ∧ Below w.heap.size w w' := by
  have HT := Lib.hid hT; clear hT
  have HNA := Lib.hid (NumOf_any a w ha)
  have HNB := Lib.hid (fun W => NumOf_any b W hb)
  go_enter Tryz.func44, Tryz.ntmps44
  go_wp2_with fail
  refine (arithMul _).mono ?_
  rintro e w' ⟨rfl, rfl⟩
  go_wp2_with fail
  refine HNA.out.mono ?_
  rintro e w1 ⟨n, rfl, HN, b1⟩
  go_wp2_with fail
  refine (HNB.out _).mono ?_
  rintro e w2 ⟨m, rfl, HM, b2⟩
  have B2 := Lib.hid (below_trans b1 b2)
  clear b1 b2 HNA HNB
  have HF := Lib.hid (numMul n m w2)
  have HP : Hid (mulNum (NM.numOf a.data.toList) (NM.numOf b.data.toList) = mulNum n m) := by show _ = _; rw [HN.out, HM.out]
  obtain ⟨p, c, hpc⟩ : ∃ p c, mulNum n m = (p, c) := ⟨_, _, rfl⟩
  rw [hpc] at HF HP
  clear hpc HN HM
  go_wp2_with fail
  refine HF.out.mono ?_
  rintro e w3 ⟨rfl, b3⟩
  have B3 := Lib.hid (below_trans B2.out b3)
  clear HF b3 B2
  rcases eqForms c 0 with ⟨e1, e2, e3⟩ | ⟨e1, e2, e3⟩
  · go_wp2_with fail
    refine (NumText_any p _ (HT.out.below B3.out)).mono ?_
    rintro e w4 ⟨r, rfl, hr, HR, b4⟩
    have B4 := Lib.hid (below_trans B3.out b4)
    clear b4 B3
    go_wp2_with fail
    go_ret2
    exact ⟨⟨r, _, rfl, by rw [HP.out]; unfold arRes; rw [if_pos e3.out, HR.out]⟩, B4.out⟩
  · go_wp2_with fail
    go_ret2
    exact ⟨⟨_, _, rfl, by rw [HP.out]; unfold arRes; rw [if_neg e3.out]⟩, B3.out⟩

set_option maxHeartbeats 1000000 in
set_option maxRecDepth 8000 in
theorem binDiv (a b : ByteArray) (w : World) (hT : T10 w) (ha : a.size ≤ 1048576) (hb : b.size ≤ 1048576) : Calls Tryz.prog 44 #[.string ⟨#[47]⟩, .string a, .string b] w fun e w' => GotBin (arRes (divNum (NM.numOf a.data.toList) (NM.numOf b.data.toList))) e ∧ Below w.heap.size w w' := by
  have HT := Lib.hid hT; clear hT
  have HNA := Lib.hid (NumOf_any a w ha)
  have HNB := Lib.hid (fun W => NumOf_any b W hb)
  go_enter Tryz.func44, Tryz.ntmps44
  go_wp2_with fail
  refine (arithDiv _).mono ?_
  rintro e w' ⟨rfl, rfl⟩
  go_wp2_with fail
  refine HNA.out.mono ?_
  rintro e w1 ⟨n, rfl, HN, b1⟩
  go_wp2_with fail
  refine (HNB.out _).mono ?_
  rintro e w2 ⟨m, rfl, HM, b2⟩
  have B2 := Lib.hid (below_trans b1 b2)
  clear b1 b2 HNA HNB
  have HF := Lib.hid (numDiv n m w2)
  have HP : Hid (divNum (NM.numOf a.data.toList) (NM.numOf b.data.toList) = divNum n m) := by show _ = _; rw [HN.out, HM.out]
  obtain ⟨p, c, hpc⟩ : ∃ p c, divNum n m = (p, c) := ⟨_, _, rfl⟩
  rw [hpc] at HF HP
  clear hpc HN HM
  go_wp2_with fail
  refine HF.out.mono ?_
  rintro e w3 ⟨rfl, b3⟩
  have B3 := Lib.hid (below_trans B2.out b3)
  clear HF b3 B2
  rcases eqForms c 0 with ⟨e1, e2, e3⟩ | ⟨e1, e2, e3⟩
  · go_wp2_with fail
    refine (NumText_any p _ (HT.out.below B3.out)).mono ?_
    rintro e w4 ⟨r, rfl, hr, HR, b4⟩
    have B4 := Lib.hid (below_trans B3.out b4)
    clear b4 B3
    go_wp2_with fail
    go_ret2
    exact ⟨⟨r, _, rfl, by rw [HP.out]; unfold arRes; rw [if_pos e3.out, HR.out]⟩, B4.out⟩
  · go_wp2_with fail
    go_ret2
    exact ⟨⟨_, _, rfl, by rw [HP.out]; unfold arRes; rw [if_neg e3.out]⟩, B3.out⟩

set_option maxHeartbeats 1000000 in
set_option maxRecDepth 8000 in
theorem binInt (a b : ByteArray) (w : World) (hT : T10 w) (ha : a.size ≤ 1048576) (hb : b.size ≤ 1048576) : Calls Tryz.prog 44 #[.string ⟨#[92]⟩, .string a, .string b] w fun e w' => GotBin (arRes (intDiv (NM.numOf a.data.toList) (NM.numOf b.data.toList))) e ∧ Below w.heap.size w w' := by
  have HT := Lib.hid hT; clear hT
  have HNA := Lib.hid (NumOf_any a w ha)
  have HNB := Lib.hid (fun W => NumOf_any b W hb)
  go_enter Tryz.func44, Tryz.ntmps44
  go_wp2_with fail
  refine (arithInt _).mono ?_
  rintro e w' ⟨rfl, rfl⟩
  go_wp2_with fail
  refine HNA.out.mono ?_
  rintro e w1 ⟨n, rfl, HN, b1⟩
  go_wp2_with fail
  refine (HNB.out _).mono ?_
  rintro e w2 ⟨m, rfl, HM, b2⟩
  have B2 := Lib.hid (below_trans b1 b2)
  clear b1 b2 HNA HNB
  have HF := Lib.hid (numInt n m w2)
  have HP : Hid (intDiv (NM.numOf a.data.toList) (NM.numOf b.data.toList) = intDiv n m) := by show _ = _; rw [HN.out, HM.out]
  obtain ⟨p, c, hpc⟩ : ∃ p c, intDiv n m = (p, c) := ⟨_, _, rfl⟩
  rw [hpc] at HF HP
  clear hpc HN HM
  go_wp2_with fail
  refine HF.out.mono ?_
  rintro e w3 ⟨rfl, b3⟩
  have B3 := Lib.hid (below_trans B2.out b3)
  clear HF b3 B2
  rcases eqForms c 0 with ⟨e1, e2, e3⟩ | ⟨e1, e2, e3⟩
  · go_wp2_with fail
    refine (NumText_any p _ (HT.out.below B3.out)).mono ?_
    rintro e w4 ⟨r, rfl, hr, HR, b4⟩
    have B4 := Lib.hid (below_trans B3.out b4)
    clear b4 B3
    go_wp2_with fail
    go_ret2
    exact ⟨⟨r, _, rfl, by rw [HP.out]; unfold arRes; rw [if_pos e3.out, HR.out]⟩, B4.out⟩
  · go_wp2_with fail
    go_ret2
    exact ⟨⟨_, _, rfl, by rw [HP.out]; unfold arRes; rw [if_neg e3.out]⟩, B3.out⟩

set_option maxHeartbeats 1000000 in
set_option maxRecDepth 8000 in
theorem binMod (a b : ByteArray) (w : World) (hT : T10 w) (ha : a.size ≤ 1048576) (hb : b.size ≤ 1048576) : Calls Tryz.prog 44 #[.string ⟨#[35]⟩, .string a, .string b] w fun e w' => GotBin (arRes (modNum (NM.numOf a.data.toList) (NM.numOf b.data.toList))) e ∧ Below w.heap.size w w' := by
  have HT := Lib.hid hT; clear hT
  have HNA := Lib.hid (NumOf_any a w ha)
  have HNB := Lib.hid (fun W => NumOf_any b W hb)
  go_enter Tryz.func44, Tryz.ntmps44
  go_wp2_with fail
  refine (arithMod _).mono ?_
  rintro e w' ⟨rfl, rfl⟩
  go_wp2_with fail
  refine HNA.out.mono ?_
  rintro e w1 ⟨n, rfl, HN, b1⟩
  go_wp2_with fail
  refine (HNB.out _).mono ?_
  rintro e w2 ⟨m, rfl, HM, b2⟩
  have B2 := Lib.hid (below_trans b1 b2)
  clear b1 b2 HNA HNB
  have HF := Lib.hid (numMod n m w2)
  have HP : Hid (modNum (NM.numOf a.data.toList) (NM.numOf b.data.toList) = modNum n m) := by show _ = _; rw [HN.out, HM.out]
  obtain ⟨p, c, hpc⟩ : ∃ p c, modNum n m = (p, c) := ⟨_, _, rfl⟩
  rw [hpc] at HF HP
  clear hpc HN HM
  go_wp2_with fail
  refine HF.out.mono ?_
  rintro e w3 ⟨rfl, b3⟩
  have B3 := Lib.hid (below_trans B2.out b3)
  clear HF b3 B2
  rcases eqForms c 0 with ⟨e1, e2, e3⟩ | ⟨e1, e2, e3⟩
  · go_wp2_with fail
    refine (NumText_any p _ (HT.out.below B3.out)).mono ?_
    rintro e w4 ⟨r, rfl, hr, HR, b4⟩
    have B4 := Lib.hid (below_trans B3.out b4)
    clear b4 B3
    go_wp2_with fail
    go_ret2
    exact ⟨⟨r, _, rfl, by rw [HP.out]; unfold arRes; rw [if_pos e3.out, HR.out]⟩, B4.out⟩
  · go_wp2_with fail
    go_ret2
    exact ⟨⟨_, _, rfl, by rw [HP.out]; unfold arRes; rw [if_neg e3.out]⟩, B3.out⟩

theorem l10Number_any (p : Int × Int) (hp : In18 p.1) (w : World) : Calls Tryz.prog 93 #[.int .i64 p.1, .int .i64 p.2] w fun e w' => GotBin (arRes p) e ∧ Below w.heap.size w w' := by
  obtain ⟨n, c⟩ := p
  simp only
  have HTX := Lib.hid (l01Text_any n hp.1 hp.2 w)
  clear hp
  rcases eqForms c 0 with ⟨e1, e2, e3⟩ | ⟨e1, e2, e3⟩
  · go_enter Tryz.func93, Tryz.ntmps93
    go_wp2_with fail
    refine HTX.out.mono ?_
    rintro e w4 ⟨r, rfl, hr, HR, b4⟩
    have B4 := Lib.hid b4; clear b4
    go_wp2_with fail
    go_ret2
    exact ⟨⟨r, _, rfl, by unfold arRes; rw [if_pos e3.out, HR.out]⟩, B4.out⟩
  · go_enter Tryz.func93, Tryz.ntmps93
    go_wp2_with fail
    go_ret2
    exact ⟨⟨_, _, rfl, by unfold arRes; rw [if_neg e3.out]⟩, below_refl _⟩

set_option maxRecDepth 8000 in
theorem sbinAdd (a b : ByteArray) (w : World) (ha : a.size ≤ 1048576) (hb : b.size ≤ 1048576) : Calls Tryz.prog 43 #[.string ⟨#[43]⟩, .string a, .string b] w fun e w' => GotBin (arRes (addNum (NM.numOf a.data.toList) (NM.numOf b.data.toList))) e ∧ Below w.heap.size w w' := by
  have HNA := Lib.hid (l01Of_any a w ha)
  have HNB := Lib.hid (fun W => l01Of_any b W hb)
  go_enter Tryz.func43, Tryz.ntmps43
  go_wp2_with fail
  refine HNA.out.mono ?_
  rintro e w1 ⟨n, rfl, HN, rfl⟩
  go_wp2_with fail
  refine (HNB.out _).mono ?_
  rintro e w1 ⟨m, rfl, HM, rfl⟩
  clear HNA HNB
  have HF := Lib.hid (numsAdd n m w)
  have HP : Hid (addNum (NM.numOf a.data.toList) (NM.numOf b.data.toList) = addNum n m) := by show _ = _; rw [HN.out, HM.out]
  have HLN := Lib.hid (fun W => l10Number_any (addNum n m) (addNum_in n m) W)
  obtain ⟨p, c, hpc⟩ : ∃ p c, addNum n m = (p, c) := ⟨_, _, rfl⟩
  rw [hpc] at HF HP HLN
  clear hpc HN HM
  go_wp2_with fail
  refine HF.out.mono ?_
  rintro e w3 ⟨rfl, b3⟩
  have B3 := Lib.hid b3
  clear HF b3
  go_wp2_with fail
  refine (HLN.out _).mono ?_
  rintro e w4 ⟨⟨r, c', rfl, hr⟩, b4⟩
  have HR := Lib.hid hr
  have B4 := Lib.hid (below_trans B3.out b4)
  clear hr b4 B3 HLN
  go_wp2_with fail
  go_ret2
  exact ⟨⟨r, c', rfl, by rw [HP.out]; exact HR.out⟩, B4.out⟩

set_option maxRecDepth 8000 in
theorem sbinSub (a b : ByteArray) (w : World) (ha : a.size ≤ 1048576) (hb : b.size ≤ 1048576) : Calls Tryz.prog 43 #[.string ⟨#[45]⟩, .string a, .string b] w fun e w' => GotBin (arRes (subNum (NM.numOf a.data.toList) (NM.numOf b.data.toList))) e ∧ Below w.heap.size w w' := by
  have HNA := Lib.hid (l01Of_any a w ha)
  have HNB := Lib.hid (fun W => l01Of_any b W hb)
  go_enter Tryz.func43, Tryz.ntmps43
  go_wp2_with fail
  refine HNA.out.mono ?_
  rintro e w1 ⟨n, rfl, HN, rfl⟩
  go_wp2_with fail
  refine (HNB.out _).mono ?_
  rintro e w1 ⟨m, rfl, HM, rfl⟩
  clear HNA HNB
  have HF := Lib.hid (numsSub n m w)
  have HP : Hid (subNum (NM.numOf a.data.toList) (NM.numOf b.data.toList) = subNum n m) := by show _ = _; rw [HN.out, HM.out]
  have HLN := Lib.hid (fun W => l10Number_any (subNum n m) (subNum_in n m) W)
  obtain ⟨p, c, hpc⟩ : ∃ p c, subNum n m = (p, c) := ⟨_, _, rfl⟩
  rw [hpc] at HF HP HLN
  clear hpc HN HM
  go_wp2_with fail
  refine HF.out.mono ?_
  rintro e w3 ⟨rfl, b3⟩
  have B3 := Lib.hid b3
  clear HF b3
  go_wp2_with fail
  refine (HLN.out _).mono ?_
  rintro e w4 ⟨⟨r, c', rfl, hr⟩, b4⟩
  have HR := Lib.hid hr
  have B4 := Lib.hid (below_trans B3.out b4)
  clear hr b4 B3 HLN
  go_wp2_with fail
  go_ret2
  exact ⟨⟨r, c', rfl, by rw [HP.out]; exact HR.out⟩, B4.out⟩

set_option maxRecDepth 8000 in
theorem sbinMul (a b : ByteArray) (w : World) (ha : a.size ≤ 1048576) (hb : b.size ≤ 1048576) : Calls Tryz.prog 43 #[.string ⟨#[42]⟩, .string a, .string b] w fun e w' => GotBin (arRes (mulNum (NM.numOf a.data.toList) (NM.numOf b.data.toList))) e ∧ Below w.heap.size w w' := by
  have HNA := Lib.hid (l01Of_any a w ha)
  have HNB := Lib.hid (fun W => l01Of_any b W hb)
  go_enter Tryz.func43, Tryz.ntmps43
  go_wp2_with fail
  refine HNA.out.mono ?_
  rintro e w1 ⟨n, rfl, HN, rfl⟩
  go_wp2_with fail
  refine (HNB.out _).mono ?_
  rintro e w1 ⟨m, rfl, HM, rfl⟩
  clear HNA HNB
  have HF := Lib.hid (numsMul n m w)
  have HP : Hid (mulNum (NM.numOf a.data.toList) (NM.numOf b.data.toList) = mulNum n m) := by show _ = _; rw [HN.out, HM.out]
  have HLN := Lib.hid (fun W => l10Number_any (mulNum n m) (mulNum_in n m) W)
  obtain ⟨p, c, hpc⟩ : ∃ p c, mulNum n m = (p, c) := ⟨_, _, rfl⟩
  rw [hpc] at HF HP HLN
  clear hpc HN HM
  go_wp2_with fail
  refine HF.out.mono ?_
  rintro e w3 ⟨rfl, b3⟩
  have B3 := Lib.hid b3
  clear HF b3
  go_wp2_with fail
  refine (HLN.out _).mono ?_
  rintro e w4 ⟨⟨r, c', rfl, hr⟩, b4⟩
  have HR := Lib.hid hr
  have B4 := Lib.hid (below_trans B3.out b4)
  clear hr b4 B3 HLN
  go_wp2_with fail
  go_ret2
  exact ⟨⟨r, c', rfl, by rw [HP.out]; exact HR.out⟩, B4.out⟩

set_option maxRecDepth 8000 in
theorem sbinDiv (a b : ByteArray) (w : World) (ha : a.size ≤ 1048576) (hb : b.size ≤ 1048576) : Calls Tryz.prog 43 #[.string ⟨#[47]⟩, .string a, .string b] w fun e w' => GotBin (arRes (divNum (NM.numOf a.data.toList) (NM.numOf b.data.toList))) e ∧ Below w.heap.size w w' := by
  have HNA := Lib.hid (l01Of_any a w ha)
  have HNB := Lib.hid (fun W => l01Of_any b W hb)
  go_enter Tryz.func43, Tryz.ntmps43
  go_wp2_with fail
  refine HNA.out.mono ?_
  rintro e w1 ⟨n, rfl, HN, rfl⟩
  go_wp2_with fail
  refine (HNB.out _).mono ?_
  rintro e w1 ⟨m, rfl, HM, rfl⟩
  clear HNA HNB
  have HF := Lib.hid (numsDiv n m w)
  have HP : Hid (divNum (NM.numOf a.data.toList) (NM.numOf b.data.toList) = divNum n m) := by show _ = _; rw [HN.out, HM.out]
  have HLN := Lib.hid (fun W => l10Number_any (divNum n m) (divNum_in n m) W)
  obtain ⟨p, c, hpc⟩ : ∃ p c, divNum n m = (p, c) := ⟨_, _, rfl⟩
  rw [hpc] at HF HP HLN
  clear hpc HN HM
  go_wp2_with fail
  refine HF.out.mono ?_
  rintro e w3 ⟨rfl, b3⟩
  have B3 := Lib.hid b3
  clear HF b3
  go_wp2_with fail
  refine (HLN.out _).mono ?_
  rintro e w4 ⟨⟨r, c', rfl, hr⟩, b4⟩
  have HR := Lib.hid hr
  have B4 := Lib.hid (below_trans B3.out b4)
  clear hr b4 B3 HLN
  go_wp2_with fail
  go_ret2
  exact ⟨⟨r, c', rfl, by rw [HP.out]; exact HR.out⟩, B4.out⟩

set_option maxRecDepth 8000 in
theorem sbinInt (a b : ByteArray) (w : World) (ha : a.size ≤ 1048576) (hb : b.size ≤ 1048576) : Calls Tryz.prog 43 #[.string ⟨#[92]⟩, .string a, .string b] w fun e w' => GotBin (arRes (intDiv (NM.numOf a.data.toList) (NM.numOf b.data.toList))) e ∧ Below w.heap.size w w' := by
  have HNA := Lib.hid (l01Of_any a w ha)
  have HNB := Lib.hid (fun W => l01Of_any b W hb)
  go_enter Tryz.func43, Tryz.ntmps43
  go_wp2_with fail
  refine HNA.out.mono ?_
  rintro e w1 ⟨n, rfl, HN, rfl⟩
  go_wp2_with fail
  refine (HNB.out _).mono ?_
  rintro e w1 ⟨m, rfl, HM, rfl⟩
  clear HNA HNB
  have HF := Lib.hid (numsInt n m w)
  have HP : Hid (intDiv (NM.numOf a.data.toList) (NM.numOf b.data.toList) = intDiv n m) := by show _ = _; rw [HN.out, HM.out]
  have HLN := Lib.hid (fun W => l10Number_any (intDiv n m) (intDiv_in n m) W)
  obtain ⟨p, c, hpc⟩ : ∃ p c, intDiv n m = (p, c) := ⟨_, _, rfl⟩
  rw [hpc] at HF HP HLN
  clear hpc HN HM
  go_wp2_with fail
  refine HF.out.mono ?_
  rintro e w3 ⟨rfl, b3⟩
  have B3 := Lib.hid b3
  clear HF b3
  go_wp2_with fail
  refine (HLN.out _).mono ?_
  rintro e w4 ⟨⟨r, c', rfl, hr⟩, b4⟩
  have HR := Lib.hid hr
  have B4 := Lib.hid (below_trans B3.out b4)
  clear hr b4 B3 HLN
  go_wp2_with fail
  go_ret2
  exact ⟨⟨r, c', rfl, by rw [HP.out]; exact HR.out⟩, B4.out⟩

set_option maxRecDepth 8000 in
theorem sbinMod (a b : ByteArray) (w : World) (ha : a.size ≤ 1048576) (hb : b.size ≤ 1048576) : Calls Tryz.prog 43 #[.string ⟨#[35]⟩, .string a, .string b] w fun e w' => GotBin (arRes (modNum (NM.numOf a.data.toList) (NM.numOf b.data.toList))) e ∧ Below w.heap.size w w' := by
  have HNA := Lib.hid (l01Of_any a w ha)
  have HNB := Lib.hid (fun W => l01Of_any b W hb)
  go_enter Tryz.func43, Tryz.ntmps43
  go_wp2_with fail
  refine HNA.out.mono ?_
  rintro e w1 ⟨n, rfl, HN, rfl⟩
  go_wp2_with fail
  refine (HNB.out _).mono ?_
  rintro e w1 ⟨m, rfl, HM, rfl⟩
  clear HNA HNB
  have HF := Lib.hid (numsMod n m w)
  have HP : Hid (modNum (NM.numOf a.data.toList) (NM.numOf b.data.toList) = modNum n m) := by show _ = _; rw [HN.out, HM.out]
  have HLN := Lib.hid (fun W => l10Number_any (modNum n m) (modNum_in n m) W)
  obtain ⟨p, c, hpc⟩ : ∃ p c, modNum n m = (p, c) := ⟨_, _, rfl⟩
  rw [hpc] at HF HP HLN
  clear hpc HN HM
  go_wp2_with fail
  refine HF.out.mono ?_
  rintro e w3 ⟨rfl, b3⟩
  have B3 := Lib.hid b3
  clear HF b3
  go_wp2_with fail
  refine (HLN.out _).mono ?_
  rintro e w4 ⟨⟨r, c', rfl, hr⟩, b4⟩
  have HR := Lib.hid hr
  have B4 := Lib.hid (below_trans B3.out b4)
  clear hr b4 B3 HLN
  go_wp2_with fail
  go_ret2
  exact ⟨⟨r, c', rfl, by rw [HP.out]; exact HR.out⟩, B4.out⟩

end Go.Proofs.YtkoagpeeohmokaaGreatDoor
