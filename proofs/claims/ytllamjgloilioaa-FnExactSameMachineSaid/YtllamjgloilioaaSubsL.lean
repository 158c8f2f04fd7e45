/- SameSubs and SubsOk: the contracts of both sides, and the walks of the two laws. -/
import Derived.Test.YtllamjgloilioaaStrs
import Derived.Test.YtllamjgloilioaaSmall1
namespace Go.Proofs.Ytllamjgloilioaa
open Go.RowKit
set_option linter.unusedVariables false

theorem StrsAt.on {w w' : World} {v : Value} {xs : List ByteArray} (h : StrsAt w w.heap.size v xs) (hb : Below w.heap.size w w') : StrsAt w' w'.heap.size v xs := (h.below hb).more hb.size

theorem sSameSubs_any (v v2 : Value) (xs ys : List ByteArray) (w : World) (B : Nat) (h : StrsAt w B v xs) (h2 : StrsAt w B v2 ys) (hl : xs.length ≤ 1048576) :
    Calls Try.prog 83 #[v, v2] w fun e w' => e = .returned (.bool (decide (xs = ys))) ∧ ∃ n, w' = w.drewN n := by
  go_enter Try.func83, Try.ntmps83
  go_wp2_with (go_at_call 44; refine (l02Same_any _ _ xs ys _ B h h2 hl).mono ?_; rintro e w' ⟨rfl, n, rfl⟩)
  go_ret
  exact ⟨rfl, _, rfl⟩

def subOkB (s : ByteArray) : Bool := decide (1 ≤ s.size ∧ s.size ≤ 24)

def subsOkB (xs : List ByteArray) : Bool := decide (xs.length ≤ 4) && xs.all subOkB

theorem subsOk_len {xs : List ByteArray} (h : subsOkB xs = true) : xs.length ≤ 4 ∧ ∀ x ∈ xs, x.size ≤ 24 := by
  unfold subsOkB at h
  rw [Bool.and_eq_true, List.all_eq_true] at h
  refine ⟨of_decide_eq_true h.1, fun x hx => ?_⟩
  have := h.2 x hx
  unfold subOkB at this
  exact (of_decide_eq_true this).2

/-- slices.IndexFunc at a predicate that only reads: where the first element that meets it lies, or -1. -/
def idxP (p : ByteArray → Bool) : List ByteArray → Int
  | [] => -1
  | x :: r => if p x then 0 else if idxP p r < 0 then -1 else idxP p r + 1

theorem idxP_ge (p : ByteArray → Bool) : ∀ xs, -1 ≤ idxP p xs
  | [] => by simp [idxP]
  | x :: r => by
    have := idxP_ge p r
    unfold idxP
    split
    · omega
    · split <;> omega

theorem idxP_any (p : ByteArray → Bool) : ∀ xs, decide (0 ≤ idxP p xs) = xs.any p
  | [] => by simp [idxP]
  | x :: r => by
    have h := idxP_any p r
    unfold idxP
    cases hp : p x
    · simp only [List.any_cons, hp, Bool.false_or, ← h, Bool.false_eq_true, if_false]
      by_cases hi : idxP p r < 0
      · rw [if_pos hi]; simp; omega
      · rw [if_neg hi]; simp; omega
    · simp [hp]

end Go.Proofs.Ytllamjgloilioaa
