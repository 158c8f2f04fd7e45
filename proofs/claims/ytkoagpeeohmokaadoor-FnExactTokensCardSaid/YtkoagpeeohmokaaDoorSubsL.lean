/- SameSubs and SubsOk: the contracts of both sides, and the walks of the two laws. -/
import Derived.Test.YtkoagpeeohmokaaDoorStrs
import Derived.Test.YtkoagpeeohmokaaDoorSmall1
namespace Go.Proofs.YtkoagpeeohmokaaDoor
open Go.RowKit
set_option linter.unusedVariables false

theorem StrsAt.on {w w' : World} {v : Value} {xs : List ByteArray} (h : StrsAt w w.heap.size v xs) (hb : Below w.heap.size w w') : StrsAt w' w'.heap.size v xs := (h.below hb).more hb.size

def subOkB (s : ByteArray) : Bool := decide (1 ≤ s.size ∧ s.size ≤ 24)

def subsOkB (xs : List ByteArray) : Bool := decide (xs.length ≤ 4) && xs.all subOkB

theorem subsOk_len {xs : List ByteArray} (h : subsOkB xs = true) : xs.length ≤ 4 ∧ ∀ x ∈ xs, x.size ≤ 24 := by
  unfold subsOkB at h
  rw [Bool.and_eq_true, List.all_eq_true] at h
  refine ⟨of_decide_eq_true h.1, fun x hx => ?_⟩
  have := h.2 x hx
  unfold subOkB at this
  exact (of_decide_eq_true this).2

/-- slices.IndexFunc at a predicate that only reads: where the first element that meets it lies, or -1. -/
def idxP (p : ByteArray → Bool) : List ByteArray → Int
  | [] => -1
  | x :: r => if p x then 0 else if idxP p r < 0 then -1 else idxP p r + 1

theorem idxP_ge (p : ByteArray → Bool) : ∀ xs, -1 ≤ idxP p xs
  | [] => by simp [idxP]
  | x :: r => by
    have := idxP_ge p r
    unfold idxP
    split
    · omega
    · split <;> omega

theorem idxP_any (p : ByteArray → Bool) : ∀ xs, decide (0 ≤ idxP p xs) = xs.any p
  | [] => by simp [idxP]
  | x :: r => by
    have h := idxP_any p r
    unfold idxP
    cases hp : p x
    · simp only [List.any_cons, hp, Bool.false_or, ← h, Bool.false_eq_true, if_false]
      by_cases hi : idxP p r < 0
      · rw [if_pos hi]; simp; omega
      · rw [if_neg hi]; simp; omega
    · simp [hp]

theorem IndexFunc_long1 (p : ByteArray → Bool) (v : Value) (xs : List ByteArray) (w : World) (B : Nat) (h : StrsAt w B v xs) (hl : xs.length ≤ 1048576)
    (hp : ∀ x ∈ xs, Calls Tryd.prog 62 #[.string x] w fun e w' => e = .returned (.bool (p x)) ∧ w = w') :
    Calls Tryd.prog 89 #[v, .func (.func 62) #[] #[]] w fun e w' => e = .returned (.int .i64 (idxP p xs)) ∧ w = w' := by
  obtain ⟨A, c, rfl, hc, hr⟩ := h
  have HP := Lib.hid hp; clear hp
  go_enter Tryd.func89, Tryd.ntmps89
  go_wp2
  go_loop [5, 8] (fun _ i => ∃ k : Nat, k ≤ xs.length ∧ i = .int .i64 k ∧ idxP p xs = if idxP p (xs.drop k) < 0 then -1 else idxP p (xs.drop k) + k) (fun _ i => xs.length - (intOf i).toNat)
  case atStart => exact ⟨0, Nat.zero_le _, rfl, by have := idxP_ge p xs; simp; omega⟩
  case round =>
    obtain ⟨k, hk, rfl, hinv⟩ := hrel
    have HI := Lib.hid hinv; clear hinv
    by_cases hlt : k < xs.length
    · obtain ⟨ad, rfl, _, hcell⟩ := hr.strAt hlt
      have HD := Lib.hid (List.drop_eq_getElem_cons hlt)
      have HX := Lib.hid (HP.out _ (List.getElem_mem hlt))
      generalize xs[k] = x at *
      go_wp2_with fail
      refine HX.out.mono ?_
      rintro e w' ⟨rfl, rfl⟩
      cases hb : p x
      · go_wp2_with fail
        refine ⟨⟨k + 1, by omega, by go_num, ?_⟩, by simp [intOf]; omega⟩
        rw [HI.out, HD.out]
        have := idxP_ge p (xs.drop (k + 1))
        simp only [idxP, hb, Bool.false_eq_true, if_false]
        generalize idxP p (xs.drop (k + 1)) = z at *
        by_cases hz : z < 0
        · rw [if_pos hz, if_pos hz, if_pos (by omega)]
        · rw [if_neg hz, if_neg hz, if_neg (by omega)]; omega
      · go_wp2_with fail
        go_ret
        exact ⟨ret_int (by rw [HI.out, HD.out]; simp [idxP, hb]), rfl⟩
    · go_wp2
      go_ret
      exact ⟨ret_int (by rw [HI.out, List.drop_eq_nil_of_le (by omega)]; rfl), rfl⟩

theorem ContainsFunc_long1 (p : ByteArray → Bool) (v : Value) (xs : List ByteArray) (w : World) (B : Nat) (h : StrsAt w B v xs) (hl : xs.length ≤ 1048576)
    (hp : ∀ x ∈ xs, Calls Tryd.prog 62 #[.string x] w fun e w' => e = .returned (.bool (p x)) ∧ w = w') :
    Calls Tryd.prog 61 #[v, .func (.func 62) #[] #[]] w fun e w' => e = .returned (.bool (xs.any p)) ∧ w = w' := by
  have HI := Lib.hid (IndexFunc_long1 p v xs w B h hl hp)
  clear hp
  go_enter Tryd.func61, Tryd.ntmps61
  go_wp2_with fail
  refine HI.out.mono ?_
  rintro e w' ⟨rfl, rfl⟩
  go_wp2_with fail
  go_ret
  exact ⟨ret_bool (idxP_any p xs), rfl⟩

end Go.Proofs.YtkoagpeeohmokaaDoor
