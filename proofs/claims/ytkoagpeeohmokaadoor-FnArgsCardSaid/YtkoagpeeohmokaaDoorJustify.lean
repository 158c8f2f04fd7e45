/- impl.JustifyOf and spec.l10Justify: each puts spaces ahead; the walk of the law. -/
import Derived.Test.YtkoagpeeohmokaaDoorBytes
import Derived.Test.YtkoagpeeohmokaaDoorShelf
import Derived.Test.YtkoagpeeohmokaaDoorExtract
namespace Go.Proofs.YtkoagpeeohmokaaDoor
open Go.RowKit
set_option linter.unusedVariables false

def justN (s : ByteArray) (n : Int) : Nat := ((if n < 65 then n else 65) - (s.size : Int)).toNat

def justL (s : ByteArray) (n : Int) : List UInt8 := List.replicate (justN s n) 32 ++ s.data.toList

theorem repeatL_one (c : UInt8) : ∀ n : Nat, Lib.repeatL [c] n = List.replicate n c
  | 0 => by simp [Lib.repeatL]
  | n + 1 => by
    have := repeatL_one c n
    simp_all [Lib.repeatL, List.replicate_succ]

theorem justN_le (s : ByteArray) (n : Int) : justN s n ≤ 65 := by unfold justN; split <;> omega

theorem Repeat_any (k : Nat) (hk : k ≤ 65) (w : World) : Calls Tryd.prog 94 #[.string ⟨#[32]⟩, .int .i64 (k : Int)] w fun e w' => (∃ r : ByteArray, e = .returned (.string r) ∧ r.data.toList = List.replicate k 32) ∧ Below w.heap.size w w' :=
  (Tryd.strings_Repeat ⟨#[32]⟩ k w (by omega) (by show 1 * k ≤ _; omega)).mono fun e w' ⟨he, hb⟩ => ⟨⟨_, he, by rw [← repeatL_one]⟩, hb⟩

theorem JustifyOf_any (s : ByteArray) (n : Int) (w : World) (hs : s.size ≤ 1048576) : Calls Tryd.prog 69 #[.string s, .int .i64 n] w fun e w' => (∃ r : ByteArray, e = .returned (.string r) ∧ r.data.toList = justL s n) ∧ Below w.heap.size w w' := by
  obtain ⟨a, ha, ha1⟩ : ∃ a : Int, min n 65 = a ∧ a ≤ 65 := ⟨_, rfl, by omega⟩
  obtain ⟨b, hb, hb0, hb1⟩ : ∃ b : Int, max 0 a = b ∧ 0 ≤ b ∧ b ≤ 65 := ⟨_, rfl, by omega, by omega⟩
  obtain ⟨k, hk, hk1⟩ : ∃ k : Nat, max 0 (b - (s.size : Int)) = (k : Int) ∧ k ≤ 65 := ⟨(b - s.size).toNat, by omega, by omega⟩
  have HV : Hid (justN s n = k) := by
    show justN s n = k
    unfold justN
    by_cases h : n < 65
    · rw [if_pos h]; omega
    · rw [if_neg h]; omega
  go_enter Tryd.func69, Tryd.ntmps69
  go_wp2_with fail
  refine (Repeat_any k hk1 _).mono ?_
  rintro e w1 ⟨⟨r, rfl, hr⟩, hb1⟩
  have hrs : r.size ≤ 65 := by
    have : r.size = r.data.toList.length := by simp
    rw [this, hr]; simp; exact hk1
  have HR := Lib.hid hr; clear hr
  go_wp2_with fail
  go_ret
  refine ⟨⟨r ++ s, rfl, ?_⟩, hb1⟩
  rw [ba_app, HR.out, justL, HV.out]

end Go.Proofs.YtkoagpeeohmokaaDoor
