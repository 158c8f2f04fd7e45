/- impl.UnOp and spec.UnOp. -/
import Derived.Test.YtkoagpeeohmokaaDoorCanon
import Derived.Test.YtkoagpeeohmokaaDoorSubsL
namespace Go.Proofs.YtkoagpeeohmokaaDoor
open Go.RowKit
set_option linter.unusedVariables false

def long64 (s : ByteArray) : Bool := decide (64 < s.size)

theorem long1_any (s : ByteArray) (w : World) (hs : s.size ≤ 1048576) : Calls Tryd.prog 62 #[.string s] w fun e w' => e = .returned (.bool (long64 s)) ∧ w = w' := by
  go_enter Tryd.func62, Tryd.ntmps62
  go_wp2
  go_ret
  exact ⟨ret_bool (by unfold long64; rw [decide_eq_decide]; omega), rfl⟩

theorem long_any (v : Value) (xs : List ByteArray) (w : World) (B : Nat) (h : StrsAt w B v xs) (hl : xs.length ≤ 1048576) (hz : ∀ x ∈ xs, x.size ≤ 1048576) :
    Calls Tryd.prog 32 #[v] w fun e w' => e = .returned (.bool (xs.any long64)) ∧ w = w' := by
  have HC := Lib.hid (ContainsFunc_long1 long64 v xs w B h hl (fun x hx => long1_any x w (hz x hx)))
  clear hz
  go_enter Tryd.func32, Tryd.ntmps32
  go_wp2_with fail
  refine HC.out.mono ?_
  rintro e w' ⟨rfl, rfl⟩
  go_wp2_with fail
  go_ret
  exact ⟨rfl, rfl⟩

theorem long_one (a : ByteArray) (w : World) (ha : a.size ≤ 1048576) : Calls Tryd.prog 32 #[.slice (some ⟨w.heap.size, 0, none⟩) 1 1] (w.alloc (.cells #[.string a] 9)) fun e w' => e = .returned (.bool (long64 a)) ∧ (w.alloc (.cells #[.string a] 9)) = w' := by
  have h : Strs (w.alloc (.cells #[.string a] 9)) w.heap.size (.slice (some ⟨w.heap.size, 0, none⟩) 1 1) [a] := World.ownsRow_lit w #[.string a] 1 (Nat.le_refl _) (by unfold maxLen; omega) rfl
  refine (long_any _ [a] _ _ h.at_ (by simp) (by simpa using ha)).mono ?_
  rintro e w' ⟨rfl, hw⟩
  exact ⟨by simp, hw⟩

def unop (op a : ByteArray) : List UInt8 × Int :=
  if long64 a then ([], 1)
  else if op.data.toList = [43] then (numTextB (NM.numOf a.data.toList), 0)
  else if op.data.toList = [45] then (numTextB (-(NM.numOf a.data.toList)), 0)
  else if op.data.toList = [39] then (if NM.numOf a.data.toList = 0 then [49] else [48], 0)
  else ([], 2)

end Go.Proofs.YtkoagpeeohmokaaDoor
