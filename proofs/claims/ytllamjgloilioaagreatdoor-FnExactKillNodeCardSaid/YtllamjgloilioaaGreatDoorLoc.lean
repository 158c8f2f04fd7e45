/- A name and subscripts as a place: both sides. -/
import Derived.Test.YtllamjgloilioaaGreatDoorSubsL
import Derived.Test.YtllamjgloilioaaGreatDoorNames
namespace Go.Proofs.YtllamjgloilioaaGreatDoor
open Go.RowKit
set_option linter.unusedVariables false

def locOk (name : ByteArray) (xs : List ByteArray) : Bool := nameOk name && subsOkB xs

theorem locationOk_any (name : ByteArray) (v : Value) (xs : List ByteArray) (w : World) (B : Nat) (hn : name.size ≤ 1048576) (h : StrsAt w B v xs) (hl : xs.length ≤ 1048576) (hz : ∀ x ∈ xs, x.size ≤ 1048576) :
    Calls Tryz.prog 21 #[.string name, v] w fun e w' => e = .returned (.bool (locOk name xs)) ∧ w = w' := by
  have HZ := Lib.hid hz; clear hz
  cases hok : nameOk name
  · have HV : Hid (locOk name xs = false) := by show _ = _; unfold locOk; rw [hok]; rfl
    go_enter Tryz.func21, Tryz.ntmps21
    go_wp2_with fail
    refine (NameOk_any name _ hn).mono ?_
    rintro e w' ⟨rfl, rfl⟩
    rw [hok]
    go_wp2_with fail
    go_ret
    exact ⟨ret_bool HV.out.symm, rfl⟩
  · have HV : Hid (locOk name xs = subsOkB xs) := by show _ = _; unfold locOk; rw [hok]; rfl
    go_enter Tryz.func21, Tryz.ntmps21
    go_wp2_with fail
    refine (NameOk_any name _ hn).mono ?_
    rintro e w' ⟨rfl, rfl⟩
    rw [hok]
    go_wp2_with fail
    refine (SubsOk_any v xs _ _ h hl HZ.out).mono ?_
    rintro e w' ⟨rfl, rfl⟩
    go_wp2_with fail
    go_ret
    exact ⟨ret_bool HV.out.symm, rfl⟩

theorem l03Place_any (name : ByteArray) (v : Value) (xs : List ByteArray) (w : World) (B : Nat) (hn : name.size ≤ 1048576) (h : StrsAt w B v xs) (hl : xs.length ≤ 1048576) (hz : ∀ x ∈ xs, x.size ≤ 1048576) :
    Calls Tryz.prog 17 #[.string name, v] w fun e w' => e = .returned (.bool (locOk name xs)) ∧ w = w' := by
  have HZ := Lib.hid hz; clear hz
  cases hok : nameOk name
  · have HV : Hid (locOk name xs = false) := by show _ = _; unfold locOk; rw [hok]; rfl
    go_enter Tryz.func17, Tryz.ntmps17
    go_wp2_with (go_at_call 31; go_in)
    refine (l02Name_any name _ hn).mono ?_
    rintro e w' ⟨rfl, rfl⟩
    rw [hok]
    go_wp2_with fail
    go_ret
    exact ⟨ret_bool HV.out.symm, rfl⟩
  · have HV : Hid (locOk name xs = subsOkB xs) := by show _ = _; unfold locOk; rw [hok]; rfl
    go_enter Tryz.func17, Tryz.ntmps17
    go_wp2_with (go_at_call 31; go_in)
    refine (l02Name_any name _ hn).mono ?_
    rintro e w' ⟨rfl, rfl⟩
    rw [hok]
    go_wp2_with (go_at_call 32; go_in)
    refine (l02Subs_any v xs _ _ h hl HZ.out).mono ?_
    rintro e w' ⟨rfl, rfl⟩
    go_wp2_with fail
    go_ret
    exact ⟨ret_bool HV.out.symm, rfl⟩

theorem locOk_parts {name : ByteArray} {xs : List ByteArray} (h : locOk name xs = true) : name.size ≤ 8 ∧ subsOkB xs = true := by
  unfold locOk at h
  rw [Bool.and_eq_true] at h
  refine ⟨?_, h.2⟩
  have h1 := h.1
  unfold nameOk at h1
  rw [Bool.and_eq_true] at h1
  exact (of_decide_eq_true h1.2).2

end Go.Proofs.YtllamjgloilioaaGreatDoor
