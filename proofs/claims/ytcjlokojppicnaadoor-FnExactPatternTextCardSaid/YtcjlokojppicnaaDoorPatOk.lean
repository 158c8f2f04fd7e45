/- Patterns: impl's test whether one is valid. -/
import Derived.Test.YtcjlokojppicnaaDoorPatMem
import Derived.Test.YtcjlokojppicnaaDoorPatCode
import Derived.Lib.SmallJoins
namespace Go.Proofs.YtcjlokojppicnaaDoor
open Go.RowKit
set_option linter.unusedVariables false

theorem withinP_any (n a b : Int) (w : World) : Calls Tryd.prog 31 #[.int .i64 n, .int .i64 a, .int .i64 b] w fun e w' => e = .returned (.bool (decide (a ≤ n ∧ n ≤ b))) ∧ w = w' := by
  by_cases h1 : a ≤ n
  · by_cases h2 : n ≤ b
    · go_enter Tryd.func31, Tryd.ntmps31
      go_wp2
      go_ret
      exact ⟨ret_bool (by simp [h1, h2]), rfl⟩
    · go_enter Tryd.func31, Tryd.ntmps31
      go_wp2
      go_ret
      exact ⟨ret_bool (by simp [h2]), rfl⟩
  · go_enter Tryd.func31, Tryd.ntmps31
    go_wp2
    go_ret
    exact ⟨ret_bool (by first | (rw [decide_eq_false (show ¬ (a ≤ n ∧ n ≤ b) by omega)]; done) | (simp; omega)), rfl⟩

/-- Where the first element that meets a test lies, or -1. -/
def idxG {α : Type} (p : α → Bool) : List α → Int
  | [] => -1
  | x :: r => if p x then 0 else if idxG p r < 0 then -1 else idxG p r + 1

theorem idxG_ge {α : Type} (p : α → Bool) : ∀ xs : List α, -1 ≤ idxG p xs
  | [] => by simp [idxG]
  | x :: r => by
    have := idxG_ge p r
    unfold idxG
    split
    · omega
    · split <;> omega

theorem idxG_any {α : Type} (p : α → Bool) : ∀ xs : List α, decide (0 ≤ idxG p xs) = xs.any p
  | [] => by simp [idxG]
  | x :: r => by
    have h := idxG_any p r
    unfold idxG
    cases hp : p x
    · simp only [List.any_cons, hp, Bool.false_or, ← h, Bool.false_eq_true, if_false]
      by_cases hi : idxG p r < 0
      · rw [if_pos hi]; simp; omega
      · rw [if_neg hi]; simp; omega
    · simp [hp]

theorem idxG_at {α : Type} (p : α → Bool) {xs : List α} {k : Nat} (h : k < xs.length) (z : Int) (hz : z = if idxG p (xs.drop k) < 0 then -1 else idxG p (xs.drop k) + k) : (p xs[k] = true ∧ z = k) ∨ (p xs[k] = false ∧ z = if idxG p (xs.drop (k + 1)) < 0 then -1 else idxG p (xs.drop (k + 1)) + ((k + 1 : Nat) : Int)) := by
  rw [List.drop_eq_getElem_cons h, idxG] at hz
  have := idxG_ge p (xs.drop (k + 1))
  cases hp : p xs[k]
  · right
    rw [hp] at hz
    simp only [Bool.false_eq_true, if_false] at hz
    refine ⟨rfl, ?_⟩
    rw [hz]
    generalize idxG p (xs.drop (k + 1)) = z at *
    by_cases hz : z < 0
    · rw [if_pos hz, if_pos (by omega), if_pos hz]
    · rw [if_neg hz, if_neg (by omega), if_neg (by omega)]; omega
  · left
    rw [hp] at hz
    simp only [if_true] at hz
    refine ⟨rfl, ?_⟩
    rw [hz, if_neg (by omega)]; omega

def OkS (n : Nat) : Prop := ∀ (d : Nat) (v : Value) (xs : List (Pat n)) (w : World), d ≤ 3 → Pats n w v xs → PatsOk n 1048576 xs →
  Calls Tryd.prog 22 #[v, .int .i64 (d : Int)] w fun e w' => e = .returned (.bool (patsB n (3 - d) xs)) ∧ Below w.heap.size w w'

theorem itemClo_any {n : Nat} (IH : OkS n) (d g : Nat) (v : Value) (ys : List (Pat n)) (w : World) (hd : d < 3) (hg : w.cell? ⟨g, 0, none⟩ = some (.int .i64 (d : Int))) (h : Pats n w v ys) (hok : PatsOk n 1048576 ys) :
    Calls Tryd.prog 44 #[v, .pointer (some ⟨g, 0, none⟩)] w fun e w' => e = .returned (.bool (!patsB n (3 - d - 1) ys)) ∧ Below w.heap.size w w' := by
  have HC : Hid (Calls Tryd.prog 22 #[v, .int .i64 ((d : Int) + 1)] w fun e w' => e = .returned (.bool (patsB n (3 - d - 1) ys)) ∧ Below w.heap.size w w') := by
    have := IH (d + 1) v ys w (by omega) h hok
    rw [show 3 - (d + 1) = 3 - d - 1 by omega] at this
    exact this
  obtain ⟨A, c, rfl⟩ := h.form
  generalize patsB n (3 - d - 1) ys = R at *
  clear IH h hok
  go_enter Tryd.func44, Tryd.ntmps44
  go_wp2_with fail
  refine HC.out.mono ?_
  rintro e w1 ⟨rfl, b1⟩
  go_wp2_with fail
  go_ret
  exact ⟨rfl, b1⟩

set_option maxRecDepth 8000 in
theorem IndexAlts_any {n : Nat} (IH : OkS n) (d g : Nat) (v : Value) (ys : List (List (Pat n))) (w : World) (hd : d < 3) (hg : w.cell? ⟨g, 0, none⟩ = some (.int .i64 (d : Int))) (h : AltsOf n w v ys) (hl : ys.length ≤ 1048576) (hok : ∀ y ∈ ys, PatsOk n 1048576 y) :
    Calls Tryd.prog 51 #[v, .func (.func 44) #[] #[.pointer (some ⟨g, 0, none⟩)]] w fun e w' => e = .returned (.int .i64 (idxG (fun y => !patsB n (3 - d - 1) y) ys)) ∧ Below w.heap.size w w' := by
  have H := Lib.hid h
  have HI := Lib.hid IH; clear IH
  have HOK := Lib.hid hok; clear hok
  have HG := Lib.hid hg; clear hg
  have HGE := Lib.hid (idxG_ge (fun y => !patsB n (3 - d - 1) y) ys)
  obtain ⟨A, c, rfl⟩ := h.form; clear h
  obtain ⟨z, hz⟩ : ∃ z, idxG (fun y => !patsB n (3 - d - 1) y) ys = z := ⟨_, rfl⟩
  rw [hz]
  have HZ : Hid (z = if idxG (fun y => !patsB n (3 - d - 1) y) (ys.drop 0) < 0 then -1 else idxG (fun y => !patsB n (3 - d - 1) y) (ys.drop 0) + ((0 : Nat) : Int)) := by
    show _ = _
    have := HGE.out
    rw [List.drop_zero, hz]; rw [hz] at this; split <;> omega
  clear hz
  go_enter Tryd.func51, Tryd.ntmps51
  go_wp2
  go_loopw [5, 8] (fun _ i wr => ∃ k : Nat, k ≤ ys.length ∧ i = .int .i64 k ∧ Hid (z = if idxG (fun y => !patsB n (3 - d - 1) y) (ys.drop k) < 0 then -1 else idxG (fun y => !patsB n (3 - d - 1) y) (ys.drop k) + k) ∧ Below w.heap.size w wr) (fun _ i _ => ys.length - (intOf i).toNat)
  case atStart => exact ⟨0, Nat.zero_le _, rfl, HZ.out, below_refl _⟩
  case round =>
    clear HZ
    obtain ⟨k, hk, rfl, HIX, hbel⟩ := hrel
    by_cases hlt : k < ys.length
    · have HB := Lib.hid hbel
      obtain ⟨ad, pv, rfl, hbl, hc, hp⟩ := (H.out.on hbel).get hlt
      have hgc := (hbel.cell (lt_of_cell HG.out)).trans HG.out
      have HC := Lib.hid (itemClo_any HI.out d g pv ys[k] wr hd hgc hp (HOK.out _ (List.getElem_mem hlt)))
      have HAT := Lib.hid (idxG_at _ hlt z HIX.out)
      obtain ⟨Ap, cp, rfl⟩ := hp.form; clear hp hgc
      generalize ys[k] = y at *
      generalize patsB n (3 - d - 1) y = R at *
      go_wp2_with fail
      refine HC.out.mono ?_
      rintro e w2 ⟨rfl, b2⟩
      have HB2 := Lib.hid (below_trans HB.out b2); clear b2
      cases R
      · go_wp2_with fail
        go_ret
        refine ⟨ret_int ?_, HB2.out⟩
        rcases HAT.out with ⟨_, h⟩ | ⟨h, _⟩
        · exact h.symm
        · cases h
      · go_wp2_with fail
        refine ⟨⟨k + 1, by omega, by go_num, ?_, HB2.out⟩, by simp [intOf]; omega⟩
        rcases HAT.out with ⟨h, _⟩ | ⟨_, h⟩
        · cases h
        · exact h
    · go_wp2
      go_ret
      refine ⟨ret_int ?_, hbel⟩
      rw [HIX.out, List.drop_eq_nil_of_le (by omega)]; rfl

theorem ContainsAlts_any {n : Nat} (IH : OkS n) (d g : Nat) (v : Value) (ys : List (List (Pat n))) (w : World) (hd : d < 3) (hg : w.cell? ⟨g, 0, none⟩ = some (.int .i64 (d : Int))) (h : AltsOf n w v ys) (hl : ys.length ≤ 1048576) (hok : ∀ y ∈ ys, PatsOk n 1048576 y) :
    Calls Tryd.prog 43 #[v, .func (.func 44) #[] #[.pointer (some ⟨g, 0, none⟩)]] w fun e w' => e = .returned (.bool (!(ys.all (patsB n (3 - d - 1))))) ∧ Below w.heap.size w w' := by
  have HI := Lib.hid (IndexAlts_any IH d g v ys w hd hg h hl hok)
  have HA : Hid (decide (0 ≤ idxG (fun y => !patsB n (3 - d - 1) y) ys) = !(ys.all (patsB n (3 - d - 1)))) := by
    show _ = _
    rw [idxG_any, List.all_eq_not_any_not, Bool.not_not]
  generalize idxG (fun y => !patsB n (3 - d - 1) y) ys = z at *
  obtain ⟨A, c, rfl⟩ := h.form; clear h
  generalize (!(ys.all (patsB n (3 - d - 1)))) = R at *
  clear IH hok hg
  go_enter Tryd.func43, Tryd.ntmps43
  go_wp2_with fail
  refine HI.out.mono ?_
  rintro e w1 ⟨rfl, b1⟩
  go_wp2_with fail
  go_ret
  exact ⟨ret_bool HA.out, b1⟩

end Go.Proofs.YtcjlokojppicnaaDoor
