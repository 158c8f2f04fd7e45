/- orderable and l03Level: both sides. -/
import Derived.Test.YtllamjgloilioaaGreatDoorSubsL
import Derived.Test.YtllamjgloilioaaGreatDoorNames
import Derived.Test.YtllamjgloilioaaGreatDoorForms
namespace Go.Proofs.YtllamjgloilioaaGreatDoor
open Go.RowKit
set_option linter.unusedVariables false

theorem StrsAt.take {w : World} {B : Nat} {A : Option Addr} {n c : Nat} {xs : List ByteArray} (h : StrsAt w B (.slice A n c) xs) {m : Nat} (hm : m ≤ xs.length) : StrsAt w B (.slice A m c) (xs.take m) := by
  obtain ⟨A', c', e, hc, hr⟩ := h
  injection e with e1 e2 e3
  subst e1 e3
  have hl : (xs.take m).length = m := by rw [List.length_take]; omega
  refine ⟨A, c, by rw [hl], by omega, by simp [strVs], fun hp => ?_⟩
  rw [hl] at hp
  obtain ⟨ad, ha, hb, hu⟩ := hr.2 (by omega)
  refine ⟨ad, ha, hb, fun j u hj => hu j u ?_⟩
  unfold strVs at hj ⊢
  rw [List.map_take] at hj
  have hj2 : j < m := by
    rcases Nat.lt_or_ge j m with h | h
    · exact h
    · rw [List.getElem?_eq_none (by simp; omega)] at hj; cases hj
  rwa [List.getElem?_take_of_lt hj2] at hj

/-- impl's orderable and spec's l03Level of a list that ends in l. -/
def ordI (zs : List ByteArray) (l : ByteArray) : Bool := subsOkB (zs ++ [l]) || (decide (l.size = 0) && subsOkB zs)

def ordS (zs : List ByteArray) (l : ByteArray) : Bool := decide (zs.length + 1 ≤ 4) && (subsOkB zs && (decide (l.size = 0) || subOkB l))

theorem ord_eq (zs : List ByteArray) (l : ByteArray) (h : zs.length ≤ 3) : ordI zs l = ordS zs l := by
  unfold ordI ordS subsOkB
  rw [decide_eq_true (show zs.length + 1 ≤ 4 by omega), decide_eq_true (show zs.length ≤ 4 by omega), decide_eq_true (show (zs ++ [l]).length ≤ 4 by simp; omega), List.all_append]
  cases zs.all subOkB <;> cases decide (l.size = 0) <;> simp

theorem ordS_long (zs : List ByteArray) (l : ByteArray) (h : ¬ zs.length ≤ 3) : ordS zs l = false := by
  unfold ordS; rw [decide_eq_false (by omega)]; rfl

theorem sNameOk_any (s : ByteArray) (w : World) (hs : s.size ≤ 1048576) : Calls Tryz.prog 31 #[.string s] w fun e w' => e = .returned (.bool (nameOk s)) ∧ w = w' := by
  go_enter Tryz.func31, Tryz.ntmps31
  go_wp2_with fail
  refine (l02Name_any s _ hs).mono ?_
  rintro e w1 ⟨rfl, rfl⟩
  go_wp2_with fail
  go_ret
  exact ⟨rfl, rfl⟩

end Go.Proofs.YtllamjgloilioaaGreatDoor
