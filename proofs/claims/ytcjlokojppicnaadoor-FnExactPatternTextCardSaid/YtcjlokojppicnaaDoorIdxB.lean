/- strings.IndexByte: where a byte lies. -/
import Derived.Test.YtcjlokojppicnaaDoorBase
import Derived.Test.YtcjlokojppicnaaDoorShelf
import Derived.Lib.Bytealg
namespace Go.Proofs.YtcjlokojppicnaaDoor
open Go.RowKit
set_option linter.unusedVariables false

def idxB (l : List UInt8) (c : UInt8) : Int := Lib.indexByte l c

theorem idxB_ge (l : List UInt8) (c : UInt8) : -1 ≤ idxB l c := Lib.indexByte_ge l c

theorem idxB_nil (c : UInt8) : idxB [] c = -1 := rfl

theorem idxB_hit (c : UInt8) (l : List UInt8) : idxB (c :: l) c = 0 := by simp [idxB, Lib.indexByte]

theorem idxB_miss {b c : UInt8} (h : b ≠ c) (l : List UInt8) : idxB (b :: l) c = if idxB l c < 0 then -1 else idxB l c + 1 := by
  have := Lib.indexByte_ge l c
  unfold idxB
  simp only [Lib.indexByte, beq_iff_eq, h, if_false]
  split <;> split <;> omega

theorem idxB_lt : ∀ (l : List UInt8) (c : UInt8), idxB l c < l.length
  | [], c => by simp [idxB, Lib.indexByte]
  | b :: l, c => by
    have := idxB_lt l c
    by_cases h : b = c
    · subst h; rw [idxB_hit]; simp
    · rw [idxB_miss h]; simp; split <;> omega

theorem IndexByte_any (s : ByteArray) (c : UInt8) (w : World) : Calls Tryd.prog 50 #[.string s, .int .u8 (c.toNat : Int)] w fun e w' => e = .returned (.int .i64 (idxB (sfx s 0) c)) ∧ w = w' := by
  refine (Tryd.strings_IndexByte s c.toNat w).mono fun e w' ⟨he, hw⟩ => ⟨?_, hw.symm⟩
  rw [he]
  have : ((c.toNat : Int)).toNat.toUInt8 = c := by simp
  rw [this]; rfl

end Go.Proofs.YtcjlokojppicnaaDoor
