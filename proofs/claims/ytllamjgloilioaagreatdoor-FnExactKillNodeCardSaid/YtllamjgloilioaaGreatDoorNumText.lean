/- impl.NumText and spec.l01Text: each returns numText of the number. -/
import Derived.Test.YtllamjgloilioaaGreatDoorNumSpec
import Derived.Stop.LaidErr
import Derived.Lib.SmallJoins
import Derived.RegionTactic
import Derived.Deep.RegionWith
namespace Go.Proofs.YtllamjgloilioaaGreatDoor
open Go.RowKit
set_option linter.unusedVariables false

namespace NT

/-- The digits of a whole number, none of 0. -/
def dd (n : Nat) : List UInt8 := if n = 0 then [] else Lib.decDigits n

theorem dd_zero : dd 0 = [] := rfl

theorem dd_pos {n : Nat} (h : n ≠ 0) : dd n = Lib.decDigits n := by unfold dd; rw [if_neg h]

theorem dd_step {n : Nat} (h : n ≠ 0) : dd n = dd (n / 10) ++ [UInt8.ofNat (48 + n % 10)] := by
  rw [dd_pos h]
  by_cases h10 : n < 10
  · rw [Lib.decDigits_one h10, show n / 10 = 0 by omega, show n % 10 = n by omega]; rfl
  · rw [Lib.decDigits, dif_neg h10, dd_pos (by omega)]

theorem dd_len : ∀ (k n : Nat), n < 10 ^ k → (dd n).length ≤ k
  | 0, n, h => by
    have : n = 0 := by simpa using h
    subst this; simp [dd_zero]
  | k + 1, n, h => by
    by_cases h0 : n = 0
    · subst h0; simp [dd_zero]
    · rw [dd_step h0, List.length_append]
      have := dd_len k (n / 10) (by rw [Nat.pow_succ] at h; omega)
      simp; omega

/-- The digits of the fraction of 1000000 parts, without the noughts at the end. -/
def fr (r : Nat) : List UInt8 := Lib.trimRightB ((dd (1000000 + r)).drop 1) 48

def magT (m : Nat) : List UInt8 := dd (m / 1000000) ++ if m % 1000000 = 0 then [] else 46 :: fr (m % 1000000)

def numText (n : Int) : List UInt8 := if n = 0 then [48] else if n < 0 then 45 :: magT n.natAbs else magT n.natAbs

theorem dd_nil {n : Nat} : dd n = [] ↔ n = 0 := by
  constructor
  · intro h
    by_cases h0 : n = 0
    · exact h0
    · rw [dd_step h0] at h; simp at h
  · rintro rfl; rfl

theorem magT_nil {m : Nat} : magT m = [] ↔ m = 0 := by
  unfold magT
  rw [List.append_eq_nil_iff, dd_nil]
  constructor
  · rintro ⟨h1, h2⟩
    split at h2
    · omega
    · cases h2
  · rintro rfl; simp

theorem dd_seven {r : Nat} (h : r < 1000000) : (dd (1000000 + r)).length = 7 := by
  have h1 : ∀ k n, 10 ^ k ≤ n → k < (dd n).length := by
    intro k
    induction k with
    | zero =>
      intro n hn
      have : dd n ≠ [] := fun e => by rw [dd_nil] at e; subst e; simp at hn
      exact List.length_pos_iff.mpr this
    | succ k ih =>
      intro n hn
      have h10 := ih (n / 10) (by rw [Nat.pow_succ] at hn; omega)
      rw [dd_step (by rw [Nat.pow_succ] at hn; have := Nat.pow_pos (n := k) (show 0 < 10 by omega); omega), List.length_append]
      simp; omega
  have a := h1 6 (1000000 + r) (by omega)
  have b := dd_len 7 (1000000 + r) (by omega)
  omega

theorem trim_snoc (l : List UInt8) (c : UInt8) : Lib.trimRightB (l ++ [c]) 48 = if c = 48 then Lib.trimRightB l 48 else l ++ [c] := by
  unfold Lib.trimRightB
  rw [List.reverse_append]
  by_cases h : c = 48
  · subst h; simp
  · rw [if_neg h]
    have : (c == 48) = false := by simpa using h
    simp [this]

theorem fr_ne : ∀ (k b : Nat), b < 10 ^ k → 0 < b → Lib.trimRightB ((dd (10 ^ k + b)).drop 1) 48 ≠ []
  | 0, b, h, h0 => by simp at h; omega
  | k + 1, b, h, h0 => by
    have hp : 0 < 10 ^ k := Nat.pow_pos (by omega)
    have e10 : (10 ^ (k + 1) + b) / 10 = 10 ^ k + b / 10 := by rw [Nat.pow_succ]; omega
    have em : (10 ^ (k + 1) + b) % 10 = b % 10 := by rw [Nat.pow_succ]; omega
    rw [dd_step (by rw [Nat.pow_succ]; omega), e10, em]
    have hne : dd (10 ^ k + b / 10) ≠ [] := fun e => by rw [dd_nil] at e; omega
    cases hd : dd (10 ^ k + b / 10) with
    | nil => exact absurd hd hne
    | cons x r =>
      have ih := fr_ne k (b / 10) (by rw [Nat.pow_succ] at h; omega)
      rw [hd] at ih
      show Lib.trimRightB (r ++ [_]) 48 ≠ []
      rw [trim_snoc]
      by_cases hz : b % 10 = 0
      · rw [hz]; rw [if_pos (by decide)]; exact ih (by omega)
      · rw [if_neg]
        · simp
        · intro e
          have := congrArg UInt8.toNat e
          rw [UInt8.toNat_ofNat'] at this
          have e48 : (48 : UInt8).toNat = 48 := rfl
          omega

theorem fr_ne' {b : Nat} (h : b < 1000000) (h0 : 0 < b) : fr b ≠ [] := fr_ne 6 b h h0

end NT

theorem one_byte (c : UInt8) (W : World) : (convert 63 9 (.slice (some ⟨W.heap.size, 0, none⟩) 1 1)).run Tryz.prog (W.alloc (.cells #[.int .u8 (c.toNat : Int)] 5)) = .ok (.string ⟨#[c]⟩) (W.alloc (.cells #[.int .u8 (c.toNat : Int)] 5)) :=
  run_string_of_own (base := W.heap.size) (l := [c]) (World.ownsRow_lit W #[.int .u8 (c.toNat : Int)] 1 (Nat.le_refl _) (by unfold maxLen; omega) rfl)

theorem one_byte_later (c : UInt8) (W W' : World) (hb : Below (W.alloc (.cells #[.int .u8 (c.toNat : Int)] 5)).drew.heap.size (W.alloc (.cells #[.int .u8 (c.toNat : Int)] 5)).drew W') : (convert 63 9 (.slice (some ⟨W.heap.size, 0, none⟩) 1 1)).run Tryz.prog W' = .ok (.string ⟨#[c]⟩) W' :=
  run_string_of_own (base := W.heap.size) (l := [c]) (Bytes.below (w := (W.alloc (.cells #[.int .u8 (c.toNat : Int)] 5)).drew) (World.ownsRow_lit W #[.int .u8 (c.toNat : Int)] 1 (Nat.le_refl _) (by unfold maxLen; omega) rfl) hb)

theorem below_alloc1' (w : World) (o : Obj) : Below w.heap.size w (w.alloc o).drew := ((Below.refl _ _).alloc (Nat.le_refl _) o).drew

theorem digit_nat (n : Nat) : ((UInt8.ofNat (48 + n % 10)).toNat : Int) = 48 + (n : Int) % 10 := by
  rw [UInt8.toNat_ofNat']; omega

set_option maxRecDepth 8000 in
set_option maxHeartbeats 1000000 in
theorem l01Whole_any : ∀ (k n : Nat) (hk : k ≤ 30) (hn : n < 10 ^ k) (hn2 : n ≤ 1000000000000000000) (w : World), Calls Tryz.prog 99 #[.int .i64 n] w fun e w' => ∃ r : ByteArray, e = .returned (.string r) ∧ r.size ≤ 30 ∧ Hid (r.data.toList = NT.dd n) ∧ Below w.heap.size w w'
  | k, n, hk, hn, hn2, w => by
    by_cases h0 : n = 0
    · subst h0
      go_enter Tryz.func99, Tryz.ntmps99
      go_wp2_with fail
      go_ret
      exact ⟨_, rfl, by decide, rfl, below_refl _⟩
    · have hk1 : 1 ≤ k := by rcases Nat.eq_zero_or_pos k with h | h; · subst h; simp at hn; omega
                             · exact h
      have hr := l01Whole_any (k - 1) (n / 10) (by omega) (by rw [show k = k - 1 + 1 by omega, Nat.pow_succ] at hn; omega) (by omega)
      have HR := Lib.hid hr; clear hr
      obtain ⟨m, hm⟩ : ∃ m, n / 10 = m := ⟨_, rfl⟩
      obtain ⟨c, hc⟩ : ∃ c, UInt8.ofNat (48 + n % 10) = c := ⟨_, rfl⟩
      have hcn := digit_nat n
      rw [hc] at hcn
      have hc256 : c.toNat < 256 := UInt8.toNat_lt c
      have HS := Lib.hid (NT.dd_step h0)
      have HLn := Lib.hid (Nat.le_trans (NT.dd_len k n hn) hk)
      rw [hm] at HR HS
      rw [hc] at HS
      have hcv := fun W => one_byte c W
      have h4 : IntKind.u8.wrap (c.toNat : Int) = c.toNat := IntWalk.u8_in _ (by omega)
      have h1 : IntKind.i64.wrap ((n : Int) / 10) = m := by rw [IntWalk.i64_in _ (by omega)]; omega
      have h2 : (n : Int).tmod 10 = (n : Int) % 10 := Int.tmod_eq_emod_of_nonneg (by omega)
      have h3 : IntKind.i64.wrap (48 + (n : Int) % 10) = c.toNat := by rw [IntWalk.i64_in _ (by omega)]; omega
      have h5 : ((n : Int) == 0) = false := by simp; omega
      clear hc hm hcn hc256 hn2 hn
      have hcv3 := one_byte_later c w _ (below_refl _)
      go_enter Tryz.func99, Tryz.ntmps99
      go_wp2_with fail
      go_region_with (go_at_call 99; refine (HR.out _).mono ?_; rintro e w1 ⟨r, rfl, hrs, HD, hb⟩; (first | (with_reducible have hcv2 := one_byte_later c w _ hb; have hb2 : Below w.heap.size w w1 := below_trans (below_alloc1' w _) hb; clear hb hcv) | (have hb2 : Below w.heap.size w w1 := ⟨hb.os, hb.tape, hb.output, hb.size, hb.block⟩; clear hb)))
      all_goals
        go_wp2_with fail
        go_ret
        have hl : (r ++ ⟨#[c]⟩ : ByteArray).data.toList = NT.dd n := by rw [HS.out, ← HD.out]; simp
        refine ⟨_, rfl, ?_, hl, ?_⟩
        · rw [ba_size, hl]; exact HLn.out
        · first
          | exact hb2
          | exact below_trans hb2 ((Below.refl _ _).alloc (Nat.le_refl _) _)

end Go.Proofs.YtllamjgloilioaaGreatDoor
