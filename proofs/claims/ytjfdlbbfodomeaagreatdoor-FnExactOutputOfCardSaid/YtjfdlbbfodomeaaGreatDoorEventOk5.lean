/- EventOk: spec's side, whole; both sides agree. -/
import Derived.Test.YtjfdlbbfodomeaaGreatDoorEventOk4
import Derived.Test.YtjfdlbbfodomeaaGreatDoorEventOk2b
namespace Go.Proofs.YtjfdlbbfodomeaaGreatDoor
open Go.RowKit Go.ChangeShapes Go.WideShapes Go.ChangeAt Go.Deep
set_option linter.unusedVariables false

def ordSL (xs : List ByteArray) : Bool := match xs.getLast? with | none => false | some l => decide (xs.length ≤ 4) && (subsOkB xs.dropLast && decide (l.size ≤ 24))

theorem ordSL_nil : ordSL [] = false := rfl

theorem ordSL_snoc (zs : List ByteArray) (l : ByteArray) : ordSL (zs ++ [l]) = (decide (zs.length + 1 ≤ 4) && (subsOkB zs && decide (l.size ≤ 24))) := by
  unfold ordSL; rw [List.getLast?_concat, List.dropLast_concat]; simp

theorem ordSL_eq (xs : List ByteArray) : (decide (xs.length ≤ 4) && ordL xs) = ordSL xs := by
  rcases List.eq_nil_or_concat xs with rfl | ⟨zs, l, rfl⟩
  · rfl
  · rw [List.concat_eq_append, ordSL_snoc]
    unfold ordL
    rw [List.getLast?_concat, List.dropLast_concat]
    simp only
    rw [show (zs ++ [l]).length = zs.length + 1 by simp]
    by_cases h : zs.length + 1 ≤ 4
    · rw [ord_eq zs l (by omega)]
      unfold ordS subOkB
      have e : (decide (l.size = 0) || decide (1 ≤ l.size ∧ l.size ≤ 24)) = decide (l.size ≤ 24) := by
        by_cases h24 : l.size ≤ 24
        · by_cases h0 : l.size = 0
          · rw [decide_eq_true h0, decide_eq_true h24]; rfl
          · rw [decide_eq_false h0, decide_eq_true (show 1 ≤ l.size ∧ l.size ≤ 24 by omega), decide_eq_true h24]; rfl
        · rw [decide_eq_false (show ¬ l.size = 0 by omega), decide_eq_false (show ¬ (1 ≤ l.size ∧ l.size ≤ 24) by omega), decide_eq_false h24]; rfl
      rw [e, decide_eq_true h]; simp
    · rw [decide_eq_false h]; rfl

def finB (x : EventV) : Bool := if x.kind = 5 then nameOk x.name && ordSL x.subs else if x.kind = 9 ∧ empB x.name = true then x.subs.isEmpty && ((x.n == 0) && empB x.value) else if x.kind ≤ 6 ∨ x.kind = 9 then locOk x.name x.subs else true

def rightB (x : EventV) : Bool := inB3 x.kind 1 16 && (bareB x && (kntB x && ((!((x.kind != 6) && decide (64 < x.value.size))) && finB x)))

theorem right_1 (x : EventV) (hk : x.kind = 1) : rightB x = evB x := by
  have h1 : rightB x = (cntB x.n && (!decide (64 < x.value.size) && locOk x.name x.subs)) := by unfold rightB bareB kntB finB; rw [hk]; rfl
  have h2 : evB x = if (decide (64 < x.value.size) && true) = true then false else (locOk x.name x.subs && cntB x.n) := by unfold evB; rw [hk]; rfl
  rw [h1, h2]
  generalize decide (64 < x.value.size) = b0
  generalize cntB x.n = b1
  generalize locOk x.name x.subs = b2
  cases b0 <;> cases b1 <;> cases b2 <;> rfl

theorem right_2 (x : EventV) (hk : x.kind = 2) : rightB x = evB x := by
  have h1 : rightB x = ((x.n == 0) && (!decide (64 < x.value.size) && locOk x.name x.subs)) := by unfold rightB bareB kntB finB; rw [hk]; rfl
  have h2 : evB x = if (decide (64 < x.value.size) && true) = true then false else (locOk x.name x.subs && (x.n == 0)) := by unfold evB; rw [hk]; rfl
  rw [h1, h2]
  generalize decide (64 < x.value.size) = b0
  generalize (x.n == 0) = b1
  generalize locOk x.name x.subs = b2
  cases b0 <;> cases b1 <;> cases b2 <;> rfl

theorem right_3 (x : EventV) (hk : x.kind = 3) : rightB x = evB x := by
  have h1 : rightB x = ((empB x.value && (x.n == 0)) && (!decide (64 < x.value.size) && locOk x.name x.subs)) := by unfold rightB bareB kntB finB; rw [hk]; rfl
  have h2 : evB x = if (decide (64 < x.value.size) && true) = true then false else (locOk x.name x.subs && (empB x.value && (x.n == 0))) := by unfold evB; rw [hk]; rfl
  rw [h1, h2]
  generalize decide (64 < x.value.size) = b0
  generalize (x.n == 0) = b1
  generalize empB x.value = b2
  generalize locOk x.name x.subs = b3
  cases b0 <;> cases b1 <;> cases b2 <;> cases b3 <;> rfl

theorem right_4 (x : EventV) (hk : x.kind = 4) : rightB x = evB x := by
  have h1 : rightB x = ((empB x.value && true) && (cntB x.n && (!decide (64 < x.value.size) && locOk x.name x.subs))) := by unfold rightB bareB kntB finB; rw [hk]; rfl
  have h2 : evB x = if (decide (64 < x.value.size) && true) = true then false else (locOk x.name x.subs && (empB x.value && cntB x.n)) := by unfold evB; rw [hk]; rfl
  rw [h1, h2]
  generalize decide (64 < x.value.size) = b0
  generalize cntB x.n = b1
  generalize empB x.value = b2
  generalize locOk x.name x.subs = b3
  cases b0 <;> cases b1 <;> cases b2 <;> cases b3 <;> rfl

theorem right_5 (x : EventV) (hk : x.kind = 5) : rightB x = evB x := by
  have h1 : rightB x = (((x.n == 1) || (x.n == -1)) && (!decide (64 < x.value.size) && (nameOk x.name && ordSL x.subs))) := by unfold rightB bareB kntB finB; rw [hk]; rfl
  have h2 : evB x = if (decide (64 < x.value.size) && true) = true then false else ((nameOk x.name && (decide (x.subs.length ≤ 4) && ordL x.subs)) && ((x.n == 1) || (x.n == -1))) := by unfold evB; rw [hk]; rfl
  rw [h1, h2]
  rw [ordSL_eq]
  generalize decide (64 < x.value.size) = b0
  generalize ((x.n == 1) || (x.n == -1)) = b1
  generalize nameOk x.name = b2
  generalize ordSL x.subs = b3
  cases b0 <;> cases b1 <;> cases b2 <;> cases b3 <;> rfl

theorem right_6 (x : EventV) (hk : x.kind = 6) : rightB x = evB x := by
  have h1 : rightB x = ((((x.n == 1) && (getB x.value.data.toList).isSome) || ((x.n == 0) && empB x.value)) && locOk x.name x.subs) := by unfold rightB bareB kntB finB; rw [hk]; rfl
  have h2 : evB x = if (decide (64 < x.value.size) && false) = true then false else (locOk x.name x.subs && (((x.n == 1) && (getB x.value.data.toList).isSome) || ((x.n == 0) && empB x.value))) := by unfold evB; rw [hk]; rfl
  rw [h1, h2]
  generalize decide (64 < x.value.size) = bb
  generalize (((x.n == 1) && (getB x.value.data.toList).isSome) || ((x.n == 0) && empB x.value)) = b0
  generalize locOk x.name x.subs = b1
  cases bb <;> cases b0 <;> cases b1 <;> rfl

theorem right_7 (x : EventV) (hk : x.kind = 7) : rightB x = evB x := by
  have h1 : rightB x = (((empB x.name && x.subs.isEmpty) && (x.n == 0)) && (!decide (64 < x.value.size) && true)) := by unfold rightB bareB kntB finB; rw [hk]; rfl
  have h2 : evB x = if (decide (64 < x.value.size) && true) = true then false else ((empB x.name && x.subs.isEmpty) && (x.n == 0)) := by unfold evB; rw [hk]; rfl
  rw [h1, h2]
  generalize decide (64 < x.value.size) = b0
  generalize (x.n == 0) = b1
  generalize empB x.name = b2
  generalize x.subs.isEmpty = b3
  cases b0 <;> cases b1 <;> cases b2 <;> cases b3 <;> rfl

theorem right_8 (x : EventV) (hk : x.kind = 8) : rightB x = evB x := by
  have h1 : rightB x = (((empB x.name && x.subs.isEmpty) && (x.n == 0)) && (!decide (64 < x.value.size) && true)) := by unfold rightB bareB kntB finB; rw [hk]; rfl
  have h2 : evB x = if (decide (64 < x.value.size) && true) = true then false else ((empB x.name && x.subs.isEmpty) && (x.n == 0)) := by unfold evB; rw [hk]; rfl
  rw [h1, h2]
  generalize decide (64 < x.value.size) = b0
  generalize (x.n == 0) = b1
  generalize empB x.name = b2
  generalize x.subs.isEmpty = b3
  cases b0 <;> cases b1 <;> cases b2 <;> cases b3 <;> rfl

theorem right_10 (x : EventV) (hk : x.kind = 10) : rightB x = evB x := by
  have h1 : rightB x = (((empB x.name && x.subs.isEmpty) && (empB x.value && (x.n == 0))) && (!decide (64 < x.value.size) && true)) := by unfold rightB bareB kntB finB; rw [hk]; rfl
  have h2 : evB x = if (decide (64 < x.value.size) && true) = true then false else ((empB x.name && (x.subs.isEmpty && empB x.value)) && (x.n == 0)) := by unfold evB; rw [hk]; rfl
  rw [h1, h2]
  generalize decide (64 < x.value.size) = b0
  generalize (x.n == 0) = b1
  generalize empB x.value = b2
  generalize empB x.name = b3
  generalize x.subs.isEmpty = b4
  cases b0 <;> cases b1 <;> cases b2 <;> cases b3 <;> cases b4 <;> rfl

theorem right_11 (x : EventV) (hk : x.kind = 11) : rightB x = evB x := by
  have h1 : rightB x = (((empB x.name && x.subs.isEmpty) && (empB x.value && (x.n == 0))) && (!decide (64 < x.value.size) && true)) := by unfold rightB bareB kntB finB; rw [hk]; rfl
  have h2 : evB x = if (decide (64 < x.value.size) && true) = true then false else ((empB x.name && (x.subs.isEmpty && empB x.value)) && (x.n == 0)) := by unfold evB; rw [hk]; rfl
  rw [h1, h2]
  generalize decide (64 < x.value.size) = b0
  generalize (x.n == 0) = b1
  generalize empB x.value = b2
  generalize empB x.name = b3
  generalize x.subs.isEmpty = b4
  cases b0 <;> cases b1 <;> cases b2 <;> cases b3 <;> cases b4 <;> rfl

theorem right_12 (x : EventV) (hk : x.kind = 12) : rightB x = evB x := by
  have h1 : rightB x = (((empB x.name && x.subs.isEmpty) && (empB x.value && (x.n == 0))) && (!decide (64 < x.value.size) && true)) := by unfold rightB bareB kntB finB; rw [hk]; rfl
  have h2 : evB x = if (decide (64 < x.value.size) && true) = true then false else ((empB x.name && (x.subs.isEmpty && empB x.value)) && (x.n == 0)) := by unfold evB; rw [hk]; rfl
  rw [h1, h2]
  generalize decide (64 < x.value.size) = b0
  generalize (x.n == 0) = b1
  generalize empB x.value = b2
  generalize empB x.name = b3
  generalize x.subs.isEmpty = b4
  cases b0 <;> cases b1 <;> cases b2 <;> cases b3 <;> cases b4 <;> rfl

theorem right_13 (x : EventV) (hk : x.kind = 13) : rightB x = evB x := by
  have h1 : rightB x = (((empB x.name && x.subs.isEmpty) && (empB x.value && true)) && (inB3 x.n 0 999999999999 && (!decide (64 < x.value.size) && true))) := by unfold rightB bareB kntB finB; rw [hk]; rfl
  have h2 : evB x = if (decide (64 < x.value.size) && true) = true then false else ((empB x.name && (x.subs.isEmpty && empB x.value)) && inB3 x.n 0 999999999999) := by unfold evB; rw [hk]; rfl
  rw [h1, h2]
  generalize decide (64 < x.value.size) = b0
  generalize empB x.value = b1
  generalize empB x.name = b2
  generalize x.subs.isEmpty = b3
  generalize inB3 x.n 0 999999999999 = b4
  cases b0 <;> cases b1 <;> cases b2 <;> cases b3 <;> cases b4 <;> rfl

theorem right_14 (x : EventV) (hk : x.kind = 14) : rightB x = evB x := by
  have h1 : rightB x = (((empB x.name && x.subs.isEmpty) && (empB x.value && (x.n == 0))) && (!decide (64 < x.value.size) && true)) := by unfold rightB bareB kntB finB; rw [hk]; rfl
  have h2 : evB x = if (decide (64 < x.value.size) && true) = true then false else ((empB x.name && (x.subs.isEmpty && empB x.value)) && (x.n == 0)) := by unfold evB; rw [hk]; rfl
  rw [h1, h2]
  generalize decide (64 < x.value.size) = b0
  generalize (x.n == 0) = b1
  generalize empB x.value = b2
  generalize empB x.name = b3
  generalize x.subs.isEmpty = b4
  cases b0 <;> cases b1 <;> cases b2 <;> cases b3 <;> cases b4 <;> rfl

theorem right_15 (x : EventV) (hk : x.kind = 15) : rightB x = evB x := by
  have h1 : rightB x = (((empB x.name && x.subs.isEmpty) && (empB x.value && true)) && (inB3 x.n 1 17 && (!decide (64 < x.value.size) && true))) := by unfold rightB bareB kntB finB; rw [hk]; rfl
  have h2 : evB x = if (decide (64 < x.value.size) && true) = true then false else ((empB x.name && (x.subs.isEmpty && empB x.value)) && inB3 x.n 1 17) := by unfold evB; rw [hk]; rfl
  rw [h1, h2]
  generalize decide (64 < x.value.size) = b0
  generalize empB x.value = b1
  generalize empB x.name = b2
  generalize x.subs.isEmpty = b3
  generalize inB3 x.n 1 17 = b4
  cases b0 <;> cases b1 <;> cases b2 <;> cases b3 <;> cases b4 <;> rfl

theorem right_16 (x : EventV) (hk : x.kind = 16) : rightB x = evB x := by
  have h1 : rightB x = (((empB x.name && x.subs.isEmpty) && (empB x.value && (x.n == 0))) && (!decide (64 < x.value.size) && true)) := by unfold rightB bareB kntB finB; rw [hk]; rfl
  have h2 : evB x = if (decide (64 < x.value.size) && true) = true then false else ((empB x.name && (x.subs.isEmpty && empB x.value)) && (x.n == 0)) := by unfold evB; rw [hk]; rfl
  rw [h1, h2]
  generalize decide (64 < x.value.size) = b0
  generalize (x.n == 0) = b1
  generalize empB x.value = b2
  generalize empB x.name = b3
  generalize x.subs.isEmpty = b4
  cases b0 <;> cases b1 <;> cases b2 <;> cases b3 <;> cases b4 <;> rfl

theorem right_9 (x : EventV) (hk : x.kind = 9) : rightB x = evB x := by
  have h1 : rightB x = ((inB3 x.n (-1) 1 && (empB x.value || (whB x.value && decide (0 ≤ x.n)))) && (!decide (64 < x.value.size) && (if (9 : Int) = 9 ∧ empB x.name = true then x.subs.isEmpty && ((x.n == 0) && empB x.value) else locOk x.name x.subs))) := by unfold rightB bareB kntB finB; rw [hk]; rfl
  have h2 : evB x = if (decide (64 < x.value.size) && true) = true then false else lckB x := by unfold evB; rw [hk]; rfl
  rw [h1, h2]
  unfold lckB noFB
  by_cases hb : 64 < x.value.size
  · rw [decide_eq_true hb]; simp
  · rw [decide_eq_false hb]
    cases hn : empB x.name with
    | false =>
      simp only [Bool.false_eq_true, and_false, if_false, Bool.and_true, Bool.not_false, Bool.true_and]
      generalize locOk x.name x.subs = b1
      generalize inB3 x.n (-1) 1 = b2
      generalize empB x.value = b3
      generalize whB x.value = b4
      generalize decide (0 ≤ x.n) = b5
      cases b1 <;> cases b2 <;> cases b3 <;> cases b4 <;> cases b5 <;> rfl
    | true =>
      simp only [and_self, if_true, Bool.and_true, Bool.not_false, Bool.true_and]
      by_cases hz : x.n = 0
      · have i1 : inB3 x.n (-1) 1 = true := by rw [hz]; rfl
        have i2 : (x.n == 0) = true := by rw [hz]; rfl
        rw [i1, i2]
        generalize empB x.value = b3
        generalize whB x.value = b4
        generalize decide (0 ≤ x.n) = b5
        generalize x.subs.isEmpty = b6
        cases b3 <;> cases b4 <;> cases b5 <;> cases b6 <;> rfl
      · have i2 : (x.n == 0) = false := by simpa using hz
        rw [i2]
        simp

theorem right_out (x : EventV) (hk : x.kind < 1 ∨ 16 < x.kind) : rightB x = evB x := by
  have h1 : rightB x = false := by
    unfold rightB inB3; rw [decide_eq_false (by omega)]; rfl
  rw [h1]
  unfold evB
  split
  · rfl
  · unfold evK
    iterate 16 rw [if_neg (by omega)]

theorem right_eq (x : EventV) : rightB x = evB x := by
  by_cases hk : x.kind < 1 ∨ 16 < x.kind
  · exact right_out x hk
  have : x.kind = 1 ∨ x.kind = 2 ∨ x.kind = 3 ∨ x.kind = 4 ∨ x.kind = 5 ∨ x.kind = 6 ∨ x.kind = 7 ∨ x.kind = 8 ∨ x.kind = 9 ∨ x.kind = 10 ∨ x.kind = 11 ∨ x.kind = 12 ∨ x.kind = 13 ∨ x.kind = 14 ∨ x.kind = 15 ∨ x.kind = 16 := by omega
  rcases this with h1 | h1 | h1 | h1 | h1 | h1 | h1 | h1 | h1 | h1 | h1 | h1 | h1 | h1 | h1 | h1
  · exact right_1 x h1
  · exact right_2 x h1
  · exact right_3 x h1
  · exact right_4 x h1
  · exact right_5 x h1
  · exact right_6 x h1
  · exact right_7 x h1
  · exact right_8 x h1
  · exact right_9 x h1
  · exact right_10 x h1
  · exact right_11 x h1
  · exact right_12 x h1
  · exact right_13 x h1
  · exact right_14 x h1
  · exact right_15 x h1
  · exact right_16 x h1

end Go.Proofs.YtjfdlbbfodomeaaGreatDoor
