/- The number laws AddNum, SubNum, ModNum, IntDiv: contracts of isNum, operands, checkedNum, l01Is, l01Fits, and the walks. -/
import Derived.Test.YtkoagpeeohmokaaGreatDoorBase
namespace Go.Proofs.YtkoagpeeohmokaaGreatDoor
open Go.RowKit
set_option linter.unusedVariables false

def isNumB (n : Int) : Bool := decide (-999999999999999999 ≤ n ∧ n ≤ 999999999999999999)

theorem isNumB_true {n : Int} (h : isNumB n = true) : -999999999999999999 ≤ n ∧ n ≤ 999999999999999999 := by simpa [isNumB] using h

theorem isNumB_false {n : Int} (h : isNumB n = false) : n < -999999999999999999 ∨ 999999999999999999 < n := by
  simp [isNumB] at h; omega

theorem isNumB_of {n : Int} (h1 : -999999999999999999 ≤ n) (h2 : n ≤ 999999999999999999) : isNumB n = true := by simp [isNumB]; omega

theorem isNum_any (n : Int) (w : World) : Calls Tryz.prog 157 #[.int .i64 n] w fun e w' => e = .returned (.bool (isNumB n)) ∧ w = w' := by
  go_enter Tryz.func157, Tryz.ntmps157
  go_wp2
  all_goals (go_ret; refine ⟨ret_bool ?_, rfl⟩; rw [Bool.eq_iff_iff]; simp [isNumB]; omega)

theorem l01Is_any (n : Int) (w : World) : Calls Tryz.prog 139 #[.int .i64 n] w fun e w' => e = .returned (.bool (isNumB n)) ∧ w = w' := by
  go_enter Tryz.func139, Tryz.ntmps139
  go_wp2
  all_goals (go_ret; refine ⟨ret_bool ?_, rfl⟩; rw [Bool.eq_iff_iff]; simp [isNumB]; omega)

/-- What impl.operands returns: the code for two numbers. -/
def opCode (a b : Int) (d : Bool) : Int := if isNumB a = true ∧ isNumB b = true then (if d = true ∧ b = 0 then 8 else 0) else 7

theorem operands_any (a b : Int) (d : Bool) (w : World) : Calls Tryz.prog 184 #[.int .i64 a, .int .i64 b, .bool d] w fun e w' => e = .returned (.int .i64 (opCode a b d)) ∧ w = w' := by
  rcases eqForms b 0 with ⟨e1, e2, e3⟩ | ⟨e1, e2, e3⟩ <;> cases ha : isNumB a <;> cases hb : isNumB b <;> cases d
  all_goals
    go_enter Tryz.func184, Tryz.ntmps184
    go_wp2_with (go_at_call 157; refine (isNum_any _ _).mono ?_; rintro e w' ⟨rfl, rfl⟩)
    go_ret
    exact ⟨ret_int (by unfold opCode; simp only [ha, hb]; have := e3.out; simp [this]), rfl⟩

theorem opCode_cases (a b : Int) (d : Bool) : (opCode a b d = 7 ∧ (isNumB a = false ∨ isNumB b = false)) ∨ (opCode a b d = 8 ∧ isNumB a = true ∧ isNumB b = true ∧ d = true ∧ b = 0) ∨ (opCode a b d = 0 ∧ isNumB a = true ∧ isNumB b = true ∧ (d = true → ¬ b = 0)) := by
  unfold opCode
  by_cases h : isNumB a = true ∧ isNumB b = true
  · rw [if_pos h]
    by_cases h2 : d = true ∧ b = 0
    · rw [if_pos h2]; exact .inr (.inl ⟨rfl, h.1, h.2, h2.1, h2.2⟩)
    · rw [if_neg h2]; exact .inr (.inr ⟨rfl, h.1, h.2, fun hd hb => h2 ⟨hd, hb⟩⟩)
  · rw [if_neg h]
    refine .inl ⟨rfl, ?_⟩
    cases ha : isNumB a <;> cases hb : isNumB b <;> simp_all

def fitNum (n : Int) : Int × Int := if isNumB n = true then (n, 0) else (0, 7)

theorem checkedNum_any (n : Int) (w : World) : Calls Tryz.prog 185 #[.int .i64 n] w fun e w' => e = .returned (.tuple #[.int .i64 (fitNum n).1, .int .i64 (fitNum n).2]) ∧ w = w' := by
  cases h : isNumB n
  all_goals
    go_enter Tryz.func185, Tryz.ntmps185
    go_wp2_with (go_at_call 157; refine (isNum_any _ _).mono ?_; rintro e w' ⟨rfl, rfl⟩)
    go_ret2
    exact ⟨by simp [fitNum, h], rfl⟩

theorem l01Fits_any (n : Int) (w : World) : Calls Tryz.prog 140 #[.int .i64 n] w fun e w' => e = .returned (.tuple #[.int .i64 (fitNum n).1, .int .i64 (fitNum n).2]) ∧ w = w' := by
  cases h : isNumB n
  all_goals
    go_enter Tryz.func140, Tryz.ntmps140
    go_wp2_with (go_at_call 139; refine (l01Is_any _ _).mono ?_; rintro e w' ⟨rfl, rfl⟩)
    go_ret2
    exact ⟨by simp [fitNum, h], rfl⟩

/-- A binary operation on numbers: the code 7 unless both are numbers, 8 where it divides by 0, else f. -/
def binNum (d : Bool) (f : Int → Int → Int × Int) (a b : Int) : Int × Int := if opCode a b d = 0 then f a b else (0, opCode a b d)

def addNum : Int → Int → Int × Int := binNum false fun a b => fitNum (a + b)

def subNum : Int → Int → Int × Int := binNum false fun a b => fitNum (a - b)

def modNum : Int → Int → Int × Int := binNum true fun a b => (if a.tmod b ≠ 0 ∧ ¬ (a.tmod b < 0 ↔ b < 0) then a.tmod b + b else a.tmod b, 0)

def intDiv : Int → Int → Int × Int := binNum true fun a b => if 999999999999 < a.tdiv b ∨ a.tdiv b < -999999999999 then (0, 7) else (a.tdiv b * 1000000, 0)

theorem binNum_err {d : Bool} {f : Int → Int → Int × Int} {a b c : Int} (h : opCode a b d = c) (hc : c ≠ 0) : binNum d f a b = (0, c) := by unfold binNum; rw [h, if_neg hc]

theorem binNum_ok {d : Bool} {f : Int → Int → Int × Int} {a b : Int} (h : opCode a b d = 0) : binNum d f a b = f a b := by unfold binNum; rw [if_pos h]

theorem ret_pair {a b : Int} {p : Int × Int} (h : p = (a, b)) : Ending.returned (.tuple #[.int .i64 a, .int .i64 b]) = .returned (.tuple #[.int .i64 p.1, .int .i64 p.2]) := by rw [h]

theorem AddNum_any (a b : Int) (w : World) : Calls Tryz.prog 147 #[.int .i64 a, .int .i64 b] w fun e w' => e = .returned (.tuple #[.int .i64 (addNum a b).1, .int .i64 (addNum a b).2]) ∧ w = w' := by
  rcases opCode_cases a b false with ⟨h, _⟩ | ⟨h, _, _, hd, _⟩ | ⟨h, ha, hb, _⟩
  · have HO := Lib.hid h
    go_enter Tryz.func147, Tryz.ntmps147
    go_wp2_with (go_at_call 184; refine (operands_any _ _ _ _).mono ?_; rintro e w' ⟨rfl, rfl⟩)
    go_ret2
    exact ⟨ret_pair (binNum_err HO.out (by decide)), rfl⟩
  · cases hd
  · have HO := Lib.hid h
    have ba := isNumB_true ha
    have bb := isNumB_true hb
    go_enter Tryz.func147, Tryz.ntmps147
    go_wp2_with (first | (go_at_call 184; refine (operands_any _ _ _ _).mono ?_; rintro e w' ⟨rfl, rfl⟩) | (go_at_call 185; refine (checkedNum_any _ _).mono ?_; rintro e w' ⟨rfl, rfl⟩))
    go_ret2
    exact ⟨ret_pair (binNum_ok HO.out), rfl⟩

theorem SubNum_any (a b : Int) (w : World) : Calls Tryz.prog 148 #[.int .i64 a, .int .i64 b] w fun e w' => e = .returned (.tuple #[.int .i64 (subNum a b).1, .int .i64 (subNum a b).2]) ∧ w = w' := by
  rcases opCode_cases a b false with ⟨h, _⟩ | ⟨h, _, _, hd, _⟩ | ⟨h, ha, hb, _⟩
  · have HO := Lib.hid h
    go_enter Tryz.func148, Tryz.ntmps148
    go_wp2_with (go_at_call 184; refine (operands_any _ _ _ _).mono ?_; rintro e w' ⟨rfl, rfl⟩)
    go_ret2
    exact ⟨ret_pair (binNum_err HO.out (by decide)), rfl⟩
  · cases hd
  · have HO := Lib.hid h
    have ba := isNumB_true ha
    have bb := isNumB_true hb
    go_enter Tryz.func148, Tryz.ntmps148
    go_wp2_with (first | (go_at_call 184; refine (operands_any _ _ _ _).mono ?_; rintro e w' ⟨rfl, rfl⟩) | (go_at_call 185; refine (checkedNum_any _ _).mono ?_; rintro e w' ⟨rfl, rfl⟩))
    go_ret2
    exact ⟨ret_pair (binNum_ok HO.out), rfl⟩

theorem l01Add_any (a b : Int) (w : World) : Calls Tryz.prog 94 #[.int .i64 a, .int .i64 b] w fun e w' => e = .returned (.tuple #[.int .i64 (addNum a b).1, .int .i64 (addNum a b).2]) ∧ w = w' := by
  rcases opCode_cases a b false with ⟨h, h2⟩ | ⟨h, _, _, hd, _⟩ | ⟨h, ha, hb, _⟩
  · have HO := Lib.hid h
    clear h
    cases ha : isNumB a <;> cases hb : isNumB b <;> (try (exfalso; simp [ha, hb] at h2; done))
    all_goals
      clear h2
      go_enter Tryz.func94, Tryz.ntmps94
      go_wp2_with (go_at_call 139; refine (l01Is_any _ _).mono ?_; rintro e w' ⟨rfl, rfl⟩)
      go_ret2
      exact ⟨ret_pair (binNum_err HO.out (by decide)), rfl⟩
  · cases hd
  · have HO := Lib.hid h
    have ba := isNumB_true ha
    have bb := isNumB_true hb
    go_enter Tryz.func94, Tryz.ntmps94
    go_wp2_with (first | (go_at_call 139; refine (l01Is_any _ _).mono ?_; rintro e w' ⟨rfl, rfl⟩) | (go_at_call 140; refine (l01Fits_any _ _).mono ?_; rintro e w' ⟨rfl, rfl⟩))
    go_ret2
    exact ⟨ret_pair (binNum_ok HO.out), rfl⟩

theorem l01Sub_any (a b : Int) (w : World) : Calls Tryz.prog 95 #[.int .i64 a, .int .i64 b] w fun e w' => e = .returned (.tuple #[.int .i64 (subNum a b).1, .int .i64 (subNum a b).2]) ∧ w = w' := by
  rcases opCode_cases a b false with ⟨h, h2⟩ | ⟨h, _, _, hd, _⟩ | ⟨h, ha, hb, _⟩
  · have HO := Lib.hid h
    clear h
    cases ha : isNumB a <;> cases hb : isNumB b <;> (try (exfalso; simp [ha, hb] at h2; done))
    all_goals
      clear h2
      go_enter Tryz.func95, Tryz.ntmps95
      go_wp2_with (go_at_call 139; refine (l01Is_any _ _).mono ?_; rintro e w' ⟨rfl, rfl⟩)
      go_ret2
      exact ⟨ret_pair (binNum_err HO.out (by decide)), rfl⟩
  · cases hd
  · have HO := Lib.hid h
    have ba := isNumB_true ha
    have bb := isNumB_true hb
    go_enter Tryz.func95, Tryz.ntmps95
    go_wp2_with (first | (go_at_call 139; refine (l01Is_any _ _).mono ?_; rintro e w' ⟨rfl, rfl⟩) | (go_at_call 140; refine (l01Fits_any _ _).mono ?_; rintro e w' ⟨rfl, rfl⟩))
    go_ret2
    exact ⟨ret_pair (binNum_ok HO.out), rfl⟩

theorem tmod_bd (a b : Int) (ha : -999999999999999999 ≤ a ∧ a ≤ 999999999999999999) : -999999999999999999 ≤ a.tmod b ∧ a.tmod b ≤ 999999999999999999 := by
  have h := Int.natAbs_tmod a b
  have h2 := Nat.mod_le a.natAbs b.natAbs
  omega

theorem tdiv_bd (a b : Int) (ha : -999999999999999999 ≤ a ∧ a ≤ 999999999999999999) : -999999999999999999 ≤ a.tdiv b ∧ a.tdiv b ≤ 999999999999999999 := by
  have h := Int.natAbs_tdiv a b
  have h2 : a.natAbs.div b.natAbs ≤ a.natAbs := Nat.div_le_self a.natAbs b.natAbs
  rw [← h] at h2
  omega

theorem ModNum_any (a b : Int) (w : World) : Calls Tryz.prog 152 #[.int .i64 a, .int .i64 b] w fun e w' => e = .returned (.tuple #[.int .i64 (modNum a b).1, .int .i64 (modNum a b).2]) ∧ w = w' := by
  rcases opCode_cases a b true with ⟨h, hx⟩ | ⟨h, hx⟩ | ⟨h, ha, hb, hz⟩
  · have HO := Lib.hid h
    clear hx
    go_enter Tryz.func152, Tryz.ntmps152
    go_wp2_with (go_at_call 184; refine (operands_any _ _ _ _).mono ?_; rintro e w' ⟨rfl, rfl⟩)
    go_ret2
    exact ⟨ret_pair (binNum_err HO.out (by decide)), rfl⟩
  · have HO := Lib.hid h
    clear hx
    go_enter Tryz.func152, Tryz.ntmps152
    go_wp2_with (go_at_call 184; refine (operands_any _ _ _ _).mono ?_; rintro e w' ⟨rfl, rfl⟩)
    go_ret2
    exact ⟨ret_pair (binNum_err HO.out (by decide)), rfl⟩
  · have HO := Lib.hid h
    have hb0 := hz rfl
    have ba := isNumB_true ha
    have bb := isNumB_true hb
    have bm := tmod_bd a b ba
    have HV := Lib.hid (binNum_ok (f := fun a b => (if a.tmod b ≠ 0 ∧ ¬ (a.tmod b < 0 ↔ b < 0) then a.tmod b + b else a.tmod b, 0)) h)
    obtain ⟨m, hm⟩ : ∃ m, a.tmod b = m := ⟨_, rfl⟩
    simp only [hm] at HV
    rw [hm] at bm
    clear hz
    rcases ltForms m 0 with ⟨hm2, hm1⟩ | ⟨hm2, hm1⟩ <;> rcases ltForms b 0 with ⟨hb2, hb1⟩ | ⟨hb2, hb1⟩ <;> rcases eqForms m 0 with ⟨f1, f2, f3⟩ | ⟨f1, f2, f3⟩ <;> (try (exfalso; have := f3.out; omega))
    all_goals
      go_enter Tryz.func152, Tryz.ntmps152
      go_wp2_with (go_at_call 184; refine (operands_any _ _ _ _).mono ?_; rintro e w' ⟨rfl, rfl⟩)
      go_ret2
      refine ⟨ret_pair (HV.out.trans ?_), rfl⟩
      have := f3.out
      first | (simp [hm1, hb1, this]; done) | (simp [this]; intro h; exact absurd ⟨fun x => by omega, fun x => by omega⟩ h)

/-- What l01Mod, l01Int, l01Div do first, in the spec's order of tests. -/
theorem l01Mod_any (a b : Int) (w : World) : Calls Tryz.prog 99 #[.int .i64 a, .int .i64 b] w fun e w' => e = .returned (.tuple #[.int .i64 (modNum a b).1, .int .i64 (modNum a b).2]) ∧ w = w' := by
  rcases opCode_cases a b true with ⟨h, h2⟩ | ⟨h, ha, hb, _, hz⟩ | ⟨h, ha, hb, hz⟩
  · have HO := Lib.hid h
    clear h
    cases ha : isNumB a <;> cases hb : isNumB b <;> (try (exfalso; simp [ha, hb] at h2; done))
    all_goals
      clear h2
      go_enter Tryz.func99, Tryz.ntmps99
      go_wp2_with (go_at_call 139; refine (l01Is_any _ _).mono ?_; rintro e w' ⟨rfl, rfl⟩)
      go_ret2
      exact ⟨ret_pair (binNum_err HO.out (by decide)), rfl⟩
  · have HO := Lib.hid h
    have hz' : (b == 0) = true := by simp [hz]
    clear h hz
    go_enter Tryz.func99, Tryz.ntmps99
    go_wp2_with (go_at_call 139; refine (l01Is_any _ _).mono ?_; rintro e w' ⟨rfl, rfl⟩)
    go_ret2
    exact ⟨ret_pair (binNum_err HO.out (by decide)), rfl⟩
  · have hb0 := hz rfl
    have hz' : (b == 0) = false := by simp [hb0]
    have ba := isNumB_true ha
    have bb := isNumB_true hb
    have bm := tmod_bd a b ba
    have HV := Lib.hid (binNum_ok (f := fun a b => (if a.tmod b ≠ 0 ∧ ¬ (a.tmod b < 0 ↔ b < 0) then a.tmod b + b else a.tmod b, 0)) h)
    obtain ⟨m, hm⟩ : ∃ m, a.tmod b = m := ⟨_, rfl⟩
    simp only [hm] at HV
    rw [hm] at bm
    clear hz h
    rcases ltForms m 0 with ⟨hm2, hm1⟩ | ⟨hm2, hm1⟩ <;> rcases ltForms b 0 with ⟨hb2, hb1⟩ | ⟨hb2, hb1⟩ <;> rcases eqForms m 0 with ⟨f1, f2, f3⟩ | ⟨f1, f2, f3⟩ <;> (try (exfalso; have := f3.out; omega))
    all_goals
      go_enter Tryz.func99, Tryz.ntmps99
      go_wp2_with (go_at_call 139; refine (l01Is_any _ _).mono ?_; rintro e w' ⟨rfl, rfl⟩)
      go_ret2
      refine ⟨ret_pair (HV.out.trans ?_), rfl⟩
      have := f3.out
      first | (simp [hm1, hb1, this]; done) | (simp [this]; intro h; exact absurd ⟨fun x => by omega, fun x => by omega⟩ h)

theorem IntDiv_any (a b : Int) (w : World) : Calls Tryz.prog 151 #[.int .i64 a, .int .i64 b] w fun e w' => e = .returned (.tuple #[.int .i64 (intDiv a b).1, .int .i64 (intDiv a b).2]) ∧ w = w' := by
  rcases opCode_cases a b true with ⟨h, hx⟩ | ⟨h, hx⟩ | ⟨h, ha, hb, hz⟩
  · have HO := Lib.hid h
    clear hx
    go_enter Tryz.func151, Tryz.ntmps151
    go_wp2_with (go_at_call 184; refine (operands_any _ _ _ _).mono ?_; rintro e w' ⟨rfl, rfl⟩)
    go_ret2
    exact ⟨ret_pair (binNum_err HO.out (by decide)), rfl⟩
  · have HO := Lib.hid h
    clear hx
    go_enter Tryz.func151, Tryz.ntmps151
    go_wp2_with (go_at_call 184; refine (operands_any _ _ _ _).mono ?_; rintro e w' ⟨rfl, rfl⟩)
    go_ret2
    exact ⟨ret_pair (binNum_err HO.out (by decide)), rfl⟩
  · have HV := Lib.hid (binNum_ok (f := fun a b => if 999999999999 < a.tdiv b ∨ a.tdiv b < -999999999999 then (0, 7) else (a.tdiv b * 1000000, 0)) h)
    have hb0 := hz rfl
    have ba := isNumB_true ha
    have bb := isNumB_true hb
    have bm := tdiv_bd a b ba
    obtain ⟨m, hm⟩ : ∃ m, a.tdiv b = m := ⟨_, rfl⟩
    simp only [hm] at HV
    rw [hm] at bm
    have hw : wrap64 m = m := by unfold wrap64; omega
    clear hz
    by_cases hm1 : m < 0 <;> by_cases hm3 : 999999999999 < m ∨ m < -999999999999
    all_goals
      go_enter Tryz.func151, Tryz.ntmps151
      go_wp2_with (first | (go_at_call 184; refine (operands_any _ _ _ _).mono ?_; rintro e w' ⟨rfl, rfl⟩) | go_in)
      go_ret2
      exact ⟨ret_pair (HV.out.trans (by first | rw [if_pos hm3] | rw [if_neg hm3])), rfl⟩

theorem l01Abs_any (n c : Int) (h : (0 ≤ n ∧ c = n) ∨ (n ≤ 0 ∧ c = -n)) (hn : -9000000000000000000 ≤ n) (w : World) : Calls Tryz.prog 141 #[.int .i64 n] w fun e w' => e = .returned (.int .i64 c) ∧ w = w' := by
  have H := Lib.hid h; clear h
  by_cases h0 : n < 0
  all_goals
    go_enter Tryz.func141, Tryz.ntmps141
    go_wp2
    go_ret
    exact ⟨ret_int (by have := H.out; omega), rfl⟩

theorem l01Int_any (a b : Int) (w : World) : Calls Tryz.prog 98 #[.int .i64 a, .int .i64 b] w fun e w' => e = .returned (.tuple #[.int .i64 (intDiv a b).1, .int .i64 (intDiv a b).2]) ∧ w = w' := by
  rcases opCode_cases a b true with ⟨h, h2⟩ | ⟨h, ha, hb, _, hz⟩ | ⟨h, ha, hb, hz⟩
  · have HO := Lib.hid h
    clear h
    cases ha : isNumB a <;> cases hb : isNumB b <;> (try (exfalso; simp [ha, hb] at h2; done))
    all_goals
      clear h2
      go_enter Tryz.func98, Tryz.ntmps98
      go_wp2_with (go_at_call 139; refine (l01Is_any _ _).mono ?_; rintro e w' ⟨rfl, rfl⟩)
      go_ret2
      exact ⟨ret_pair (binNum_err HO.out (by decide)), rfl⟩
  · have HO := Lib.hid h
    have hz' : (b == 0) = true := by simp [hz]
    clear h hz
    go_enter Tryz.func98, Tryz.ntmps98
    go_wp2_with (go_at_call 139; refine (l01Is_any _ _).mono ?_; rintro e w' ⟨rfl, rfl⟩)
    go_ret2
    exact ⟨ret_pair (binNum_err HO.out (by decide)), rfl⟩
  · have HV := Lib.hid (binNum_ok (f := fun a b => if 999999999999 < a.tdiv b ∨ a.tdiv b < -999999999999 then (0, 7) else (a.tdiv b * 1000000, 0)) h)
    have hb0 := hz rfl
    have hz' : (b == 0) = false := by simp [hb0]
    have ba := isNumB_true ha
    have bb := isNumB_true hb
    have bm := tdiv_bd a b ba
    obtain ⟨m, hm⟩ : ∃ m, a.tdiv b = m := ⟨_, rfl⟩
    simp only [hm] at HV
    rw [hm] at bm
    have hw : wrap64 m = m := by unfold wrap64; omega
    clear hz h
    by_cases hm1 : m < 0 <;> by_cases hm3 : 999999999999 < m ∨ m < -999999999999
    all_goals
      go_enter Tryz.func98, Tryz.ntmps98
      go_wp2_with (first | (go_at_call 139; refine (l01Is_any _ _).mono ?_; rintro e w' ⟨rfl, rfl⟩) | go_in)
      go_ret2
      exact ⟨ret_pair (HV.out.trans (by first | rw [if_pos hm3] | rw [if_neg hm3])), rfl⟩

end Go.Proofs.YtkoagpeeohmokaaGreatDoor
