/- impl.JustifyOf and spec.l10Justify: each puts spaces ahead; the walk of the law. -/
import Derived.Test.YtkoagpeeohmokaaGreatDoorBytes
import Derived.Test.YtkoagpeeohmokaaGreatDoorShelf
import Derived.Test.YtkoagpeeohmokaaGreatDoorExtract
namespace Go.Proofs.YtkoagpeeohmokaaGreatDoor
open Go.RowKit
set_option linter.unusedVariables false

def justN (s : ByteArray) (n : Int) : Nat := ((if n < 65 then n else 65) - (s.size : Int)).toNat

def justL (s : ByteArray) (n : Int) : List UInt8 := List.replicate (justN s n) 32 ++ s.data.toList

theorem repeatL_one (c : UInt8) : ∀ n : Nat, Lib.repeatL [c] n = List.replicate n c
  | 0 => by simp [Lib.repeatL]
  | n + 1 => by
    have := repeatL_one c n
    simp_all [Lib.repeatL, List.replicate_succ]

theorem justN_le (s : ByteArray) (n : Int) : justN s n ≤ 65 := by unfold justN; split <;> omega

theorem Repeat_any (k : Nat) (hk : k ≤ 65) (w : World) : Calls Tryz.prog 118 #[.string ⟨#[32]⟩, .int .i64 (k : Int)] w fun e w' => (∃ r : ByteArray, e = .returned (.string r) ∧ r.data.toList = List.replicate k 32) ∧ Below w.heap.size w w' :=
  (Tryz.strings_Repeat ⟨#[32]⟩ k w (by omega) (by show 1 * k ≤ _; omega)).mono fun e w' ⟨he, hb⟩ => ⟨⟨_, he, by rw [← repeatL_one]⟩, hb⟩

theorem JustifyOf_any (s : ByteArray) (n : Int) (w : World) (hs : s.size ≤ 1048576) : Calls Tryz.prog 68 #[.string s, .int .i64 n] w fun e w' => (∃ r : ByteArray, e = .returned (.string r) ∧ r.data.toList = justL s n) ∧ Below w.heap.size w w' := by
  obtain ⟨a, ha, ha1⟩ : ∃ a : Int, min n 65 = a ∧ a ≤ 65 := ⟨_, rfl, by omega⟩
  obtain ⟨b, hb, hb0, hb1⟩ : ∃ b : Int, max 0 a = b ∧ 0 ≤ b ∧ b ≤ 65 := ⟨_, rfl, by omega, by omega⟩
  obtain ⟨k, hk, hk1⟩ : ∃ k : Nat, max 0 (b - (s.size : Int)) = (k : Int) ∧ k ≤ 65 := ⟨(b - s.size).toNat, by omega, by omega⟩
  have HV : Hid (justN s n = k) := by
    show justN s n = k
    unfold justN
    by_cases h : n < 65
    · rw [if_pos h]; omega
    · rw [if_neg h]; omega
  go_enter Tryz.func68, Tryz.ntmps68
  go_wp2_with fail
  refine (Repeat_any k hk1 _).mono ?_
  rintro e w1 ⟨⟨r, rfl, hr⟩, hb1⟩
  have hrs : r.size ≤ 65 := by
    have : r.size = r.data.toList.length := by simp
    rw [this, hr]; simp; exact hk1
  have HR := Lib.hid hr; clear hr
  go_wp2_with fail
  go_ret
  refine ⟨⟨r ++ s, rfl, ?_⟩, hb1⟩
  rw [ba_app, HR.out, justL, HV.out]

set_option maxRecDepth 8000 in
theorem l10Justify_any (s : ByteArray) (n : Int) (w : World) (hs : s.size ≤ 1048576) : Calls Tryz.prog 53 #[.string s, .int .i64 n] w fun e w' => (∃ r : ByteArray, e = .returned (.string r) ∧ r.data.toList = justL s n) ∧ Below w.heap.size w w' := by
  obtain ⟨a, ha⟩ : ∃ a : Int, (n ≤ 65 ∧ a = n) ∨ (65 ≤ n ∧ a = 65) := ⟨min n 65, by omega⟩
  have Ha := Lib.hid ha
  have HV : Hid (justN s n = (a - s.size).toNat) := by
    show justN s n = _
    unfold justN
    by_cases h : n < 65
    · rw [if_pos h]; omega
    · rw [if_neg h]; omega
  have ha1 : a ≤ 65 := by omega
  clear ha
  go_enter Tryz.func53, Tryz.ntmps53
  go_wp2_with fail
  go_loopw [5, 6] (fun v i wr => ∃ (k : Nat), i = .int .i64 (s.size + k) ∧ k ≤ justN s n ∧ Bytes wr w.heap.size v (List.replicate k 32) ∧ Below w.heap.size w wr) (fun _ i _ => s.size + justN s n + 1 - (intOf i).toNat)
  case atStart => exact ⟨0, by simp, Nat.zero_le _, Bytes.empty w _ (Nat.le_refl _), (Below.refl _ _).alloc (Nat.le_refl _) _⟩
  case round =>
    obtain ⟨k, rfl, hk, hown, hbel⟩ := hrel
    have hbs := hbel.size
    have hj := justN_le s n
    have hk2 : ((s.size : Int) + k < a ∧ k < justN s n) ∨ (a ≤ (s.size : Int) + k ∧ k = justN s n) := by rw [HV.out] at hk ⊢; omega
    rcases hk2 with ⟨hlt, hlt2⟩ | ⟨hge, hke⟩
    · go_wp2_with (first | (go_at_call 111; refine (l00Min_any _ _ a Ha.out _).mono ?_; rintro e w' ⟨rfl, rfl⟩) | (at_builtin; refine wpList_append_byte wr rfl _ _ rfl w.heap.size _ (List.replicate k 32) 32 hown rfl rfl (by simp; omega) hbs ?_; intro v' w1 hb1 hg1 hbl1 _hv))
      refine ⟨⟨k + 1, by go_num, by omega, by rw [List.replicate_succ']; exact hb1, hbel.trans hbl1⟩, by simp [intOf]; omega⟩
    · have HK := Lib.hid hke; clear hke
      obtain ⟨r, hcv, hr, hrz⟩ := string_of_own hown
      have hrs : r.size ≤ 65 := by rw [hrz]; simp; omega
      have HRR := Lib.hid hr; clear hr hrz
      go_wp2_with (first | (go_at_call 111; refine (l00Min_any _ _ a Ha.out _).mono ?_; rintro e w' ⟨rfl, rfl⟩))
      go_ret
      refine ⟨⟨_, rfl, ?_⟩, hbel⟩
      rw [ba_app, justL, ← HK.out, HRR.out]

end Go.Proofs.YtkoagpeeohmokaaGreatDoor
