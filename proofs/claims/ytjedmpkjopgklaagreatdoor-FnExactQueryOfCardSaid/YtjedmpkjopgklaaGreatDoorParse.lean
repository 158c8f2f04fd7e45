/- The reading of encoded lists, in plain lists: both sides' readings agree. -/
import Derived.Test.YtjedmpkjopgklaaGreatDoorGetStr
import Derived.Laws.BitsLemmas
namespace Go.Proofs.YtjedmpkjopgklaaGreatDoor
open Go.RowKit
set_option linter.unusedVariables false

theorem or_low (m b : Nat) (hm : m % 256 = 0) (hm2 : m < 18446744073709551616) (hb : b < 256) : bits BinOp.or IntKind.i64 (IntKind.i64.wrap (m : Int)) (b : Int) = IntKind.i64.wrap ((m : Int) + b) := by
  have e1 : (BitVec.ofInt 64 (IntKind.i64.wrap (m : Int))).toNat = m := by
    rw [BitVec.toNat_ofInt, IntKind.wrap_i64]
    have h : ((2 ^ 64 : Nat) : Int) = 18446744073709551616 := by decide
    rw [h]; omega
  have e2 : (BitVec.ofInt 64 (b : Int)).toNat = b := by
    rw [BitVec.toNat_ofInt]
    have h : ((2 ^ 64 : Nat) : Int) = 18446744073709551616 := by decide
    rw [h]; omega
  unfold bits
  show IntKind.i64.wrap (((BitVec.ofInt 64 (IntKind.i64.wrap (m : Int)) ||| BitVec.ofInt 64 (b : Int)).toNat : Nat) : Int) = _
  rw [BitVec.toNat_or, e1, e2]
  have hq : m = 2 ^ 8 * (m / 2 ^ 8) := by omega
  rw [hq, ← Nat.two_pow_add_eq_or_of_lt (by omega) (m / 2 ^ 8), ← hq]
  simp

def ofL (l : List UInt8) : ByteArray := ⟨l.toArray⟩

theorem ofL_list (l : List UInt8) : (ofL l).data.toList = l := by simp [ofL]

theorem ofL_of (s : ByteArray) : ofL s.data.toList = s := ba_ext (ofL_list _)

/-- One subscript off the front, as impl reads it. -/
def tkI : List UInt8 → Option (List UInt8 × List UInt8)
  | [] => none
  | a :: l => if a = 1 then (if 8 ≤ l.length ∧ accN l 8 ≤ 2000000000000000000 then some (numTextB (accN l 8 - 1000000000000000000), l.drop 8) else none) else if a = 2 then decS l else none

/-- The same as spec reads it. -/
def tkS : List UInt8 → Option (List UInt8 × List UInt8)
  | [] => none
  | a :: l => if a = 1 then (if 8 ≤ l.length ∧ (1 ≤ accN l 8 ∧ accN l 8 ≤ 1999999999999999999) then some (numTextB (accN l 8 - 1000000000000000000), l.drop 8) else none) else if a = 2 then decS l else none

theorem numTextB_off (n : Int) (h : n = 1000000000000000000 ∨ n = -1000000000000000000) : numTextB n = [] := by
  unfold numTextB
  have : isNumB n = false := by unfold isNumB; rcases h with rfl | rfl <;> decide
  rw [this]; rfl

theorem tk_rel (l : List UInt8) : tkS l = tkI l ∨ (tkS l = none ∧ ∃ r, tkI l = some ([], r)) := by
  match l with
  | [] => exact .inl rfl
  | a :: l =>
    simp only [tkS, tkI]
    by_cases h1 : a = 1
    · rw [if_pos h1, if_pos h1]
      have hb := (accN_8 l 8 (by omega)).1
      by_cases h8 : 8 ≤ l.length
      · by_cases hg : 1 ≤ accN l 8 ∧ accN l 8 ≤ 1999999999999999999
        · left; rw [if_pos ⟨h8, hg⟩, if_pos ⟨h8, by omega⟩]
        · by_cases hg2 : accN l 8 ≤ 2000000000000000000
          · right
            rw [if_neg (fun h => hg h.2), if_pos ⟨h8, hg2⟩]
            exact ⟨rfl, _, by rw [numTextB_off _ (by omega)]⟩
          · left; rw [if_neg (fun h => hg h.2), if_neg (fun h => hg2 h.2)]
      · left; rw [if_neg (fun h => h8 h.1), if_neg (fun h => h8 h.1)]
    · left; rw [if_neg h1, if_neg h1]

def parse (t : List UInt8 → Option (List UInt8 × List UInt8)) : Nat → List ByteArray → List UInt8 → Option (List ByteArray × List UInt8)
  | 0, acc, l => some (acc, l)
  | n + 1, acc, l => if l = [] then some (acc, l) else match t l with | none => none | some x => parse t n (acc ++ [ofL x.1]) x.2

theorem parse_nil (t : List UInt8 → Option (List UInt8 × List UInt8)) (n : Nat) (acc : List ByteArray) : parse t n acc [] = some (acc, []) := by
  cases n with
  | zero => rfl
  | succ n => rw [parse, if_pos rfl]

theorem parse_none {t : List UInt8 → Option (List UInt8 × List UInt8)} {n : Nat} {acc : List ByteArray} {l : List UInt8} (hl : l ≠ []) (h : t l = none) : parse t (n + 1) acc l = none := by
  rw [parse, if_neg hl, h]

theorem parse_some {t : List UInt8 → Option (List UInt8 × List UInt8)} {n : Nat} {acc : List ByteArray} {l a r : List UInt8} (hl : l ≠ []) (h : t l = some (a, r)) : parse t (n + 1) acc l = parse t n (acc ++ [ofL a]) r := by
  rw [parse, if_neg hl, h]

theorem parse_mem (t : List UInt8 → Option (List UInt8 × List UInt8)) : ∀ (n : Nat) (acc : List ByteArray) (l : List UInt8) (a : List ByteArray) (r : List UInt8) (x : ByteArray), x ∈ acc → parse t n acc l = some (a, r) → x ∈ a
  | 0, acc, l, a, r, x, hx, h => by rw [parse] at h; injection h with h; injection h with h1 h2; subst h1; exact hx
  | n + 1, acc, l, a, r, x, hx, h => by
    by_cases hl : l = []
    · rw [parse, if_pos hl] at h; injection h with h; injection h with h1 h2; subst h1; exact hx
    · cases ht : t l with
      | none => rw [parse_none hl ht] at h; cases h
      | some y =>
        obtain ⟨u, v⟩ := y
        rw [parse_some hl ht] at h
        exact parse_mem t n _ _ _ _ _ (List.mem_append.2 (.inl hx)) h

theorem parse_left (t : List UInt8 → Option (List UInt8 × List UInt8)) : ∀ (n : Nat) (acc : List ByteArray) (l : List UInt8) (a : List ByteArray) (r : List UInt8), parse t n acc l = some (a, r) → r ≠ [] → a.length = acc.length + n
  | 0, acc, l, a, r, h, hr => by rw [parse] at h; injection h with h; injection h with h1 h2; subst h1; rfl
  | n + 1, acc, l, a, r, h, hr => by
    by_cases hl : l = []
    · rw [parse, if_pos hl] at h; injection h with h; injection h with h1 h2; subst h2; exact absurd hl hr
    · cases ht : t l with
      | none => rw [parse_none hl ht] at h; cases h
      | some y =>
        obtain ⟨u, v⟩ := y
        rw [parse_some hl ht] at h
        have := parse_left t n _ _ _ _ h hr
        rw [List.length_append] at this
        simp at this; omega

theorem parse_rel : ∀ (n : Nat) (acc : List ByteArray) (l : List UInt8), parse tkS n acc l = parse tkI n acc l ∨ (parse tkS n acc l = none ∧ ∀ a r, parse tkI n acc l = some (a, r) → ofL [] ∈ a)
  | 0, acc, l => .inl rfl
  | n + 1, acc, l => by
    by_cases hl : l = []
    · subst hl; left; rw [parse_nil, parse_nil]
    · rcases tk_rel l with h | ⟨h, r, h2⟩
      · cases ht : tkI l with
        | none => left; rw [parse_none hl ht, parse_none hl (h.trans ht)]
        | some y =>
          obtain ⟨u, v⟩ := y
          rw [parse_some hl ht, parse_some hl (h.trans ht)]
          exact parse_rel n _ _
      · right
        refine ⟨parse_none hl h, fun a r' h3 => ?_⟩
        rw [parse_some hl h2] at h3
        exact parse_mem tkI n _ _ _ _ _ (List.mem_append.2 (.inr (by simp))) h3

/-- What GetSubs reads. -/
def getB (l : List UInt8) : Option (List ByteArray) := match parse tkI 5 [] l with | none => none | some x => if subsOkB x.1 = true ∧ putB x.1 = l then some x.1 else none

def getSB (l : List UInt8) : Option (List ByteArray) := match parse tkS 5 [] l with | none => none | some x => if x.2 = [] ∧ subsOkB x.1 = true ∧ putB x.1 = l then some x.1 else none

theorem subsOkB_five {a : List ByteArray} (h : 5 ≤ a.length) : subsOkB a = false := by
  unfold subsOkB; rw [decide_eq_false (by omega)]; rfl

theorem subsOkB_empty {a : List ByteArray} (h : ofL [] ∈ a) : subsOkB a = false := by
  unfold subsOkB
  rw [Bool.and_eq_false_iff]; right
  rw [List.all_eq_false]
  exact ⟨_, h, by decide⟩

theorem getSB_eq (l : List UInt8) : getSB l = getB l := by
  unfold getSB getB
  rcases parse_rel 5 [] l with h | ⟨h, h2⟩
  · rw [h]
    cases hp : parse tkI 5 [] l with
    | none => rfl
    | some x =>
      obtain ⟨a, r⟩ := x
      simp only
      by_cases hr : r = []
      · simp [hr]
      · have := parse_left tkI 5 [] l a r hp hr
        rw [if_neg (fun h => hr h.1), if_neg (fun h => by rw [subsOkB_five (by simp at this; omega)] at h; simp at h)]
  · rw [h]
    cases hp : parse tkI 5 [] l with
    | none => rfl
    | some x =>
      obtain ⟨a, r⟩ := x
      simp only
      rw [if_neg (fun h => by rw [subsOkB_empty (h2 a r hp)] at h; simp at h)]

theorem getB_ok {l : List UInt8} {a : List ByteArray} (h : getB l = some a) : subsOkB a = true := by
  unfold getB at h
  split at h
  · cases h
  · split at h
    · rename_i hc; injection h with h; subst h; exact hc.1
    · cases h

theorem decS_len : ∀ (n : Nat) (l a r : List UInt8), l.length ≤ n → decS l = some (a, r) → a.length ≤ l.length ∧ r.length ≤ l.length
  | n, [], a, r, _, h => by cases h
  | n, [_], a, r, _, h => by cases h
  | 0, _ :: _ :: _, a, r, hn, h => by simp at hn
  | n + 1, c :: b :: t, a, r, hn, h => by
    rw [decS] at h
    simp at hn
    split at h
    · split at h
      · injection h with h; injection h with h1 h2; subst h1 h2; simp; omega
      · split at h
        · cases hd : decS t with
          | none => rw [hd] at h; cases h
          | some y =>
            obtain ⟨u, v⟩ := y
            rw [hd] at h
            simp at h
            obtain ⟨h1, h2⟩ := h
            subst h1 h2
            have := decS_len n t _ _ (by omega) hd
            simp; omega
        · cases h
    · cases hd : decS (b :: t) with
      | none => rw [hd] at h; cases h
      | some y =>
        obtain ⟨u, v⟩ := y
        rw [hd] at h
        simp at h
        obtain ⟨h1, h2⟩ := h
        subst h1 h2
        have := decS_len n (b :: t) _ _ (by simp; omega) hd
        simp at this ⊢; omega

end Go.Proofs.YtjedmpkjopgklaaGreatDoor
