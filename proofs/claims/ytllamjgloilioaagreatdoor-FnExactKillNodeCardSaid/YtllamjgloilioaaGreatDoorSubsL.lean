/- SameSubs and SubsOk: the contracts of both sides, and the walks of the two laws. -/
import Derived.Test.YtllamjgloilioaaGreatDoorStrs
import Derived.Test.YtllamjgloilioaaGreatDoorSmall1
namespace Go.Proofs.YtllamjgloilioaaGreatDoor
open Go.RowKit
set_option linter.unusedVariables false

theorem StrsAt.on {w w' : World} {v : Value} {xs : List ByteArray} (h : StrsAt w w.heap.size v xs) (hb : Below w.heap.size w w') : StrsAt w' w'.heap.size v xs := (h.below hb).more hb.size

theorem sSameSubs_any (v v2 : Value) (xs ys : List ByteArray) (w : World) (B : Nat) (h : StrsAt w B v xs) (h2 : StrsAt w B v2 ys) (hl : xs.length ≤ 1048576) :
    Calls Tryz.prog 66 #[v, v2] w fun e w' => e = .returned (.bool (decide (xs = ys))) ∧ ∃ n, w' = w.drewN n := by
  go_enter Tryz.func66, Tryz.ntmps66
  go_wp2_with (go_at_call 73; refine (l02Same_any _ _ xs ys _ B h h2 hl).mono ?_; rintro e w' ⟨rfl, n, rfl⟩)
  go_ret
  exact ⟨rfl, _, rfl⟩

def subOkB (s : ByteArray) : Bool := decide (1 ≤ s.size ∧ s.size ≤ 24)

def subsOkB (xs : List ByteArray) : Bool := decide (xs.length ≤ 4) && xs.all subOkB

theorem subsOk_len {xs : List ByteArray} (h : subsOkB xs = true) : xs.length ≤ 4 ∧ ∀ x ∈ xs, x.size ≤ 24 := by
  unfold subsOkB at h
  rw [Bool.and_eq_true, List.all_eq_true] at h
  refine ⟨of_decide_eq_true h.1, fun x hx => ?_⟩
  have := h.2 x hx
  unfold subOkB at this
  exact (of_decide_eq_true this).2

theorem l02Sub_b (s : ByteArray) (w : World) (hs : s.size ≤ 1048576) : Calls Tryz.prog 65 #[.string s] w fun e w' => e = .returned (.bool (subOkB s)) ∧ w = w' := l02Sub_any s w hs

theorem SubOk_b (s : ByteArray) (w : World) (hs : s.size ≤ 1048576) : Calls Tryz.prog 58 #[.string s] w fun e w' => e = .returned (.bool (subOkB s)) ∧ w = w' := SubOk_any s w hs

theorem l02Subs_any (v : Value) (xs : List ByteArray) (w : World) (B : Nat) (h : StrsAt w B v xs) (hl : xs.length ≤ 1048576) (hz : ∀ x ∈ xs, x.size ≤ 1048576) :
    Calls Tryz.prog 48 #[v] w fun e w' => e = .returned (.bool (subsOkB xs)) ∧ w = w' := by
  obtain ⟨A, c, rfl, hc, hr⟩ := h
  have Z := Lib.hid hz; clear hz
  by_cases h4 : 4 < xs.length
  · go_enter Tryz.func48, Tryz.ntmps48
    go_wp2
    go_ret
    exact ⟨ret_bool (by simp [subsOkB]; omega), rfl⟩
  · go_enter Tryz.func48, Tryz.ntmps48
    go_wp2
    go_loop [3] (fun i => ∃ k : Nat, k ≤ xs.length ∧ i = .int .i64 k ∧ subsOkB xs = (xs.drop k).all subOkB) (fun i => xs.length - (intOf i).toNat)
    case atStart => exact ⟨0, Nat.zero_le _, rfl, by simp [subsOkB]; omega⟩
    case round =>
      obtain ⟨k, hk, rfl, hinv⟩ := hrel
      have HI := Lib.hid hinv; clear hinv
      by_cases hlt : k < xs.length
      · obtain ⟨ad, rfl, _, hcell⟩ := hr.strAt hlt
        have HD := Lib.hid (List.drop_eq_getElem_cons hlt)
        have hzx := Z.out _ (List.getElem_mem hlt)
        generalize xs[k] = x at *
        cases hb : subOkB x
        all_goals
          go_wp2_with (go_at_call 65; refine (l02Sub_b _ _ hzx).mono ?_; rintro e w' ⟨rfl, rfl⟩)
        · go_ret
          exact ⟨ret_bool (by rw [HI.out, HD.out]; simp [hb]), rfl⟩
        · exact ⟨⟨k + 1, by omega, by go_num, by rw [HI.out, HD.out]; simp [hb]⟩, by simp [intOf]; omega⟩
      · go_wp2
        go_ret
        exact ⟨ret_bool (by rw [HI.out, List.drop_eq_nil_of_le (by omega)]; rfl), rfl⟩

theorem SubsOk1_any (s : ByteArray) (w : World) (hs : s.size ≤ 1048576) : Calls Tryz.prog 57 #[.string s] w fun e w' => e = .returned (.bool (!subOkB s)) ∧ w = w' := by
  go_enter Tryz.func57, Tryz.ntmps57
  go_wp2_with (go_at_call 58; refine (SubOk_b _ _ hs).mono ?_; rintro e w' ⟨rfl, rfl⟩)
  go_ret
  exact ⟨rfl, rfl⟩

/-- slices.IndexFunc at a predicate that only reads: where the first element that meets it lies, or -1. -/
def idxP (p : ByteArray → Bool) : List ByteArray → Int
  | [] => -1
  | x :: r => if p x then 0 else if idxP p r < 0 then -1 else idxP p r + 1

theorem idxP_ge (p : ByteArray → Bool) : ∀ xs, -1 ≤ idxP p xs
  | [] => by simp [idxP]
  | x :: r => by
    have := idxP_ge p r
    unfold idxP
    split
    · omega
    · split <;> omega

theorem idxP_any (p : ByteArray → Bool) : ∀ xs, decide (0 ≤ idxP p xs) = xs.any p
  | [] => by simp [idxP]
  | x :: r => by
    have h := idxP_any p r
    unfold idxP
    cases hp : p x
    · simp only [List.any_cons, hp, Bool.false_or, ← h, Bool.false_eq_true, if_false]
      by_cases hi : idxP p r < 0
      · rw [if_pos hi]; simp; omega
      · rw [if_neg hi]; simp; omega
    · simp [hp]

theorem IndexFunc_SubsOk1 (p : ByteArray → Bool) (v : Value) (xs : List ByteArray) (w : World) (B : Nat) (h : StrsAt w B v xs) (hl : xs.length ≤ 1048576)
    (hp : ∀ x ∈ xs, Calls Tryz.prog 57 #[.string x] w fun e w' => e = .returned (.bool (p x)) ∧ w = w') :
    Calls Tryz.prog 70 #[v, .func (.func 57) #[] #[]] w fun e w' => e = .returned (.int .i64 (idxP p xs)) ∧ w = w' := by
  obtain ⟨A, c, rfl, hc, hr⟩ := h
  have HP := Lib.hid hp; clear hp
  go_enter Tryz.func70, Tryz.ntmps70
  go_wp2
  go_loop [5, 8] (fun _ i => ∃ k : Nat, k ≤ xs.length ∧ i = .int .i64 k ∧ idxP p xs = if idxP p (xs.drop k) < 0 then -1 else idxP p (xs.drop k) + k) (fun _ i => xs.length - (intOf i).toNat)
  case atStart => exact ⟨0, Nat.zero_le _, rfl, by have := idxP_ge p xs; simp; omega⟩
  case round =>
    obtain ⟨k, hk, rfl, hinv⟩ := hrel
    have HI := Lib.hid hinv; clear hinv
    by_cases hlt : k < xs.length
    · obtain ⟨ad, rfl, _, hcell⟩ := hr.strAt hlt
      have HD := Lib.hid (List.drop_eq_getElem_cons hlt)
      have HX := Lib.hid (HP.out _ (List.getElem_mem hlt))
      generalize xs[k] = x at *
      go_wp2_with fail
      refine HX.out.mono ?_
      rintro e w' ⟨rfl, rfl⟩
      cases hb : p x
      · go_wp2_with fail
        refine ⟨⟨k + 1, by omega, by go_num, ?_⟩, by simp [intOf]; omega⟩
        rw [HI.out, HD.out]
        have := idxP_ge p (xs.drop (k + 1))
        simp only [idxP, hb, Bool.false_eq_true, if_false]
        generalize idxP p (xs.drop (k + 1)) = z at *
        by_cases hz : z < 0
        · rw [if_pos hz, if_pos hz, if_pos (by omega)]
        · rw [if_neg hz, if_neg hz, if_neg (by omega)]; omega
      · go_wp2_with fail
        go_ret
        exact ⟨ret_int (by rw [HI.out, HD.out]; simp [idxP, hb]), rfl⟩
    · go_wp2
      go_ret
      exact ⟨ret_int (by rw [HI.out, List.drop_eq_nil_of_le (by omega)]; rfl), rfl⟩

theorem ContainsFunc_SubsOk1 (p : ByteArray → Bool) (v : Value) (xs : List ByteArray) (w : World) (B : Nat) (h : StrsAt w B v xs) (hl : xs.length ≤ 1048576)
    (hp : ∀ x ∈ xs, Calls Tryz.prog 57 #[.string x] w fun e w' => e = .returned (.bool (p x)) ∧ w = w') :
    Calls Tryz.prog 56 #[v, .func (.func 57) #[] #[]] w fun e w' => e = .returned (.bool (xs.any p)) ∧ w = w' := by
  have HI := Lib.hid (IndexFunc_SubsOk1 p v xs w B h hl hp)
  clear hp
  go_enter Tryz.func56, Tryz.ntmps56
  go_wp2_with fail
  refine HI.out.mono ?_
  rintro e w' ⟨rfl, rfl⟩
  go_wp2_with fail
  go_ret
  exact ⟨ret_bool (idxP_any p xs), rfl⟩

theorem SubsOk_any (v : Value) (xs : List ByteArray) (w : World) (B : Nat) (h : StrsAt w B v xs) (hl : xs.length ≤ 1048576) (hz : ∀ x ∈ xs, x.size ≤ 1048576) :
    Calls Tryz.prog 39 #[v] w fun e w' => e = .returned (.bool (subsOkB xs)) ∧ w = w' := by
  have HC := Lib.hid (ContainsFunc_SubsOk1 (fun s => !subOkB s) v xs w B h hl (fun x hx => SubsOk1_any x w (hz x hx)))
  clear hz
  obtain ⟨A, c, rfl, hc, hr⟩ := h
  have HV : Hid (subsOkB xs = (decide (xs.length ≤ 4) && !(xs.any fun s => !subOkB s))) := by
    show subsOkB xs = _
    unfold subsOkB; congr 1; rw [List.all_eq_not_any_not]
  by_cases h4 : xs.length ≤ 4
  · go_enter Tryz.func39, Tryz.ntmps39
    go_wp2_with fail
    refine HC.out.mono ?_
    rintro e w' ⟨rfl, rfl⟩
    go_wp2_with fail
    go_ret
    exact ⟨ret_bool (by rw [HV.out]; simp [h4]), rfl⟩
  · go_enter Tryz.func39, Tryz.ntmps39
    go_wp2_with fail
    go_ret
    exact ⟨ret_bool (by rw [HV.out]; simp [h4]), rfl⟩

theorem sSubsOk_any (v : Value) (xs : List ByteArray) (w : World) (B : Nat) (h : StrsAt w B v xs) (hl : xs.length ≤ 1048576) (hz : ∀ x ∈ xs, x.size ≤ 1048576) :
    Calls Tryz.prog 32 #[v] w fun e w' => e = .returned (.bool (subsOkB xs)) ∧ w = w' := by
  have HC := Lib.hid (l02Subs_any v xs w B h hl hz)
  clear hz
  go_enter Tryz.func32, Tryz.ntmps32
  go_wp2_with fail
  refine HC.out.mono ?_
  rintro e w' ⟨rfl, rfl⟩
  go_wp2_with fail
  go_ret
  exact ⟨rfl, rfl⟩

end Go.Proofs.YtllamjgloilioaaGreatDoor
