/- The number laws AddNum, SubNum, ModNum, IntDiv: contracts of isNum, operands, checkedNum, l01Is, l01Fits, and the walks. -/
import Derived.Test.YtllamjgloilioaaGreatDoorBase
namespace Go.Proofs.YtllamjgloilioaaGreatDoor
open Go.RowKit
set_option linter.unusedVariables false

def isNumB (n : Int) : Bool := decide (-999999999999999999 ≤ n ∧ n ≤ 999999999999999999)

theorem isNumB_true {n : Int} (h : isNumB n = true) : -999999999999999999 ≤ n ∧ n ≤ 999999999999999999 := by simpa [isNumB] using h

theorem isNumB_false {n : Int} (h : isNumB n = false) : n < -999999999999999999 ∨ 999999999999999999 < n := by
  simp [isNumB] at h; omega

theorem isNumB_of {n : Int} (h1 : -999999999999999999 ≤ n) (h2 : n ≤ 999999999999999999) : isNumB n = true := by simp [isNumB]; omega

theorem isNum_any (n : Int) (w : World) : Calls Tryz.prog 88 #[.int .i64 n] w fun e w' => e = .returned (.bool (isNumB n)) ∧ w = w' := by
  go_enter Tryz.func88, Tryz.ntmps88
  go_wp2
  all_goals (go_ret; refine ⟨ret_bool ?_, rfl⟩; rw [Bool.eq_iff_iff]; simp [isNumB]; omega)

/-- What impl.operands returns: the code for two numbers. -/
def opCode (a b : Int) (d : Bool) : Int := if isNumB a = true ∧ isNumB b = true then (if d = true ∧ b = 0 then 8 else 0) else 7

theorem opCode_cases (a b : Int) (d : Bool) : (opCode a b d = 7 ∧ (isNumB a = false ∨ isNumB b = false)) ∨ (opCode a b d = 8 ∧ isNumB a = true ∧ isNumB b = true ∧ d = true ∧ b = 0) ∨ (opCode a b d = 0 ∧ isNumB a = true ∧ isNumB b = true ∧ (d = true → ¬ b = 0)) := by
  unfold opCode
  by_cases h : isNumB a = true ∧ isNumB b = true
  · rw [if_pos h]
    by_cases h2 : d = true ∧ b = 0
    · rw [if_pos h2]; exact .inr (.inl ⟨rfl, h.1, h.2, h2.1, h2.2⟩)
    · rw [if_neg h2]; exact .inr (.inr ⟨rfl, h.1, h.2, fun hd hb => h2 ⟨hd, hb⟩⟩)
  · rw [if_neg h]
    refine .inl ⟨rfl, ?_⟩
    cases ha : isNumB a <;> cases hb : isNumB b <;> simp_all

def fitNum (n : Int) : Int × Int := if isNumB n = true then (n, 0) else (0, 7)

/-- A binary operation on numbers: the code 7 unless both are numbers, 8 where it divides by 0, else f. -/
def binNum (d : Bool) (f : Int → Int → Int × Int) (a b : Int) : Int × Int := if opCode a b d = 0 then f a b else (0, opCode a b d)

def addNum : Int → Int → Int × Int := binNum false fun a b => fitNum (a + b)

def subNum : Int → Int → Int × Int := binNum false fun a b => fitNum (a - b)

def modNum : Int → Int → Int × Int := binNum true fun a b => (if a.tmod b ≠ 0 ∧ ¬ (a.tmod b < 0 ↔ b < 0) then a.tmod b + b else a.tmod b, 0)

def intDiv : Int → Int → Int × Int := binNum true fun a b => if 999999999999 < a.tdiv b ∨ a.tdiv b < -999999999999 then (0, 7) else (a.tdiv b * 1000000, 0)

theorem binNum_err {d : Bool} {f : Int → Int → Int × Int} {a b c : Int} (h : opCode a b d = c) (hc : c ≠ 0) : binNum d f a b = (0, c) := by unfold binNum; rw [h, if_neg hc]

theorem binNum_ok {d : Bool} {f : Int → Int → Int × Int} {a b : Int} (h : opCode a b d = 0) : binNum d f a b = f a b := by unfold binNum; rw [if_pos h]

theorem ret_pair {a b : Int} {p : Int × Int} (h : p = (a, b)) : Ending.returned (.tuple #[.int .i64 a, .int .i64 b]) = .returned (.tuple #[.int .i64 p.1, .int .i64 p.2]) := by rw [h]

theorem tmod_bd (a b : Int) (ha : -999999999999999999 ≤ a ∧ a ≤ 999999999999999999) : -999999999999999999 ≤ a.tmod b ∧ a.tmod b ≤ 999999999999999999 := by
  have h := Int.natAbs_tmod a b
  have h2 := Nat.mod_le a.natAbs b.natAbs
  omega

theorem tdiv_bd (a b : Int) (ha : -999999999999999999 ≤ a ∧ a ≤ 999999999999999999) : -999999999999999999 ≤ a.tdiv b ∧ a.tdiv b ≤ 999999999999999999 := by
  have h := Int.natAbs_tdiv a b
  have h2 : a.natAbs.div b.natAbs ≤ a.natAbs := Nat.div_le_self a.natAbs b.natAbs
  rw [← h] at h2
  omega

end Go.Proofs.YtllamjgloilioaaGreatDoor
