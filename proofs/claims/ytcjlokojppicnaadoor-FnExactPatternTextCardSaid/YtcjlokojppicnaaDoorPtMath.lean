/- PatternText: the text of a pattern, in plain Lean, and how long it is at most. -/
import Derived.Test.YtcjlokojppicnaaDoorPtTimes
import Derived.Test.YtcjlokojppicnaaDoorReplace
namespace Go.Proofs.YtcjlokojppicnaaDoor
open Go.RowKit
set_option linter.unusedVariables false

/-- The texts within brackets, with what stands ahead of each. -/
def parG : Bool → List (List UInt8) → List UInt8
  | _, [] => []
  | b, t :: r => (if b then 40 else 44) :: (t ++ parG false r)

def textC {α : Type} (f : α → List UInt8) (x : PatC α) : List UInt8 :=
  timesT x.low x.high ++ (if x.alts ≠ [] then parG true (x.alts.map f) ++ [41] else if x.text.data.toList ≠ [] then quote x.text.data.toList else x.codes.data.toList)

/-- The text of a pattern. -/
def textP : (n : Nat) → List (Pat n) → List UInt8
  | 0, _ => []
  | n + 1, xs => (show List (PatC (List (Pat n))) from xs).flatMap (textC (textP n))

/-- How long the text of a valid pattern is at most, with so many levels left. -/
def ptMax : Nat → Nat
  | 0 => 8 * 400
  | d + 1 => 8 * (400 + 8 * (ptMax d + 1))

theorem ptMax_mono {a b : Nat} (h : a ≤ b) : ptMax a ≤ ptMax b := by
  have step : ∀ d, ptMax d ≤ ptMax (d + 1) := by
    intro d
    show _ ≤ 8 * (400 + 8 * (ptMax d + 1))
    omega
  induction h with
  | refl => exact Nat.le_refl _
  | step _ ih => exact Nat.le_trans ih (step _)

theorem ptMax_3 : ptMax 3 ≤ 1000000000 := by decide

theorem parG_len (M : Nat) : ∀ (b : Bool) (ts : List (List UInt8)), (∀ t ∈ ts, t.length ≤ M) → (parG b ts).length ≤ ts.length * (M + 1)
  | _, [], _ => by simp [parG]
  | b, t :: r, h => by
    have ih := parG_len M false r (fun x hx => h x (List.mem_cons_of_mem _ hx))
    have ht := h t List.mem_cons_self
    simp only [parG, List.length_cons, List.length_append, Nat.succ_mul]
    omega

theorem rise_len : ∀ (l : List UInt8) (p : UInt8), riseGo p l = true → l.length + p.toNat ≤ 255
  | [], p, _ => by have := UInt8.toNat_lt p; simp; omega
  | c :: r, p, h => by
    simp only [riseGo, Bool.and_eq_true, decide_eq_true_eq] at h
    have ih := rise_len r c h.2
    rw [List.length_cons]; omega

theorem riseB_len {l : List UInt8} (h : riseB l = true) : l.length ≤ 256 := by
  cases l with
  | nil => simp
  | cons c r =>
    simp only [riseB, Bool.and_eq_true] at h
    have := rise_len r c h.2
    rw [List.length_cons]; omega

theorem timesT_len {lo hi : Int} (h : timesB lo hi = true) : (timesT lo hi).length ≤ 5 := by
  unfold timesB at h
  simp only [Bool.and_eq_true, Bool.or_eq_true, decide_eq_true_eq] at h
  have a := itB_size (x := lo) (by omega) (by omega)
  have b := itB_size (x := hi) (by omega) (by omega)
  rw [ba_size, itB_list] at a b
  unfold timesT
  split
  · omega
  · split <;> split <;> simp <;> omega

def itMax : Nat → Nat
  | 0 => 400
  | d + 1 => 400 + 8 * (ptMax d + 1)

theorem ptMax_it (d : Nat) : ptMax d = 8 * itMax d := by cases d <;> rfl

theorem flatMap_len {α : Type} (f : α → List UInt8) (M : Nat) : ∀ (xs : List α), (∀ x ∈ xs, (f x).length ≤ M) → (xs.flatMap f).length ≤ xs.length * M
  | [], _ => by simp
  | x :: r, h => by
    have ih := flatMap_len f M r (fun y hy => h y (List.mem_cons_of_mem _ hy))
    have hx := h x List.mem_cons_self
    rw [List.flatMap_cons, List.length_append, List.length_cons, Nat.succ_mul]
    omega

theorem textC_len {n : Nat} (IH : ∀ (deep : Nat) (ys : List (Pat n)), patsB n deep ys = true → (textP n ys).length ≤ ptMax deep) (deep : Nat) (x : PatC (List (Pat n))) (h : patB deep x = true) : (textC (textP n) x).length ≤ itMax deep := by
  have h : (timesB x.low x.high && kindB x.codes.data.toList x.text.data.toList x.alts.length deep (x.alts.all (patsB n (deep - 1)))) = true := h
  rw [Bool.and_eq_true] at h
  have ht := timesT_len h.1
  have hm : 400 ≤ itMax deep := by cases deep <;> simp [itMax]
  have hk := h.2
  unfold kindB at hk
  unfold textC
  rw [List.length_append]
  by_cases ha : x.alts ≠ []
  · rw [if_pos ha]
    have hpos : 0 < x.alts.length := List.length_pos_iff.2 ha
    split at hk
    · simp only [Bool.and_eq_true, decide_eq_true_eq] at hk; omega
    · split at hk
      · simp only [Bool.and_eq_true, decide_eq_true_eq] at hk; omega
      · simp only [Bool.and_eq_true, decide_eq_true_eq, List.all_eq_true] at hk
        obtain ⟨⟨⟨k1, k2⟩, k3⟩, k4⟩ := hk
        obtain ⟨d, rfl⟩ : ∃ d, deep = d + 1 := ⟨deep - 1, by omega⟩
        have hp := parG_len (ptMax d) true (x.alts.map (textP n)) (fun t ht => by
          rw [List.mem_map] at ht
          obtain ⟨ys, hys, rfl⟩ := ht
          exact IH d ys (k4 ys hys))
        rw [List.length_map] at hp
        have hq : x.alts.length * (ptMax d + 1) ≤ 8 * (ptMax d + 1) := Nat.mul_le_mul_right _ k2
        rw [List.length_append]
        show _ ≤ 400 + 8 * (ptMax d + 1)
        simp only [List.length_cons, List.length_nil]
        omega
  · rw [if_neg ha]
    split
    · rename_i hte
      have hq := quote_length x.text.data.toList
      split at hk
      · simp only [Bool.and_eq_true, decide_eq_true_eq] at hk; exact absurd hk.1.2 hte
      · simp only [Bool.and_eq_true, decide_eq_true_eq] at hk
        omega
    · split at hk
      · simp only [Bool.and_eq_true, decide_eq_true_eq] at hk
        have := riseB_len hk.1.1
        omega
      · rename_i hc
        have e : x.codes.data.toList = [] := Classical.not_not.1 hc
        rw [e]; simp; omega

/-- A valid pattern's text is not long. -/
theorem textP_len : ∀ (n deep : Nat) (xs : List (Pat n)), patsB n deep xs = true → (textP n xs).length ≤ ptMax deep
  | 0, _, _, _ => Nat.zero_le _
  | n + 1, deep, xs, h => by
    obtain ⟨ys, hys⟩ : ∃ ys : List (PatC (List (Pat n))), ys = xs := ⟨xs, rfl⟩
    subst hys
    have h : (decide (1 ≤ ys.length ∧ ys.length ≤ 8) && ys.all (patB deep)) = true := h
    rw [Bool.and_eq_true, decide_eq_true_eq, List.all_eq_true] at h
    have hl := flatMap_len (textC (textP n)) (itMax deep) ys (fun x hx => textC_len (fun d zs hz => textP_len n d zs hz) deep x (h.2 x hx))
    rw [ptMax_it]
    exact Nat.le_trans hl (Nat.mul_le_mul_right _ h.1.2)

end Go.Proofs.YtcjlokojppicnaaDoor
