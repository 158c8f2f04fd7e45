/- Tokens: what is read at a place, in plain Lean. -/
import Derived.Test.YtkoagpeeohmokaaDoorNames
import Derived.Test.YtkoagpeeohmokaaDoorNumMath
import Derived.Test.YtkoagpeeohmokaaDoorQuoted
namespace Go.Proofs.YtkoagpeeohmokaaDoor
open Go.RowKit
set_option linter.unusedVariables false

def alnum (c : UInt8) : Bool := isLet c.toNat || isDig c.toNat

def twos : List (List UInt8) := [[93, 93], [39, 61], [39, 60], [39, 62], [39, 91], [39, 93], [36, 36]]

def ones : List UInt8 := [40, 41, 44, 58, 43, 45, 42, 47, 92, 35, 95, 61, 60, 62, 91, 93, 38, 33, 39, 63, 64, 94, 36, 46]

def isTwo (l : List UInt8) : Bool := twos.any (·.isPrefixOf l)

/-- How long the sign is; 0 if there is none. -/
def signN (l : List UInt8) : Nat := if isTwo l then 2 else if ones.contains (l.headD 0) then 1 else 0

/-- How long the number is. -/
def fracN (l : List UInt8) : Nat := match l with
  | c :: r => if c = 46 then 1 + (NM.digs r).length else 0
  | [] => 0

def numN (l : List UInt8) : Nat := (NM.digs l).length + fracN (NM.afterDigs l)

def nameN (r : List UInt8) : Nat := 1 + (r.takeWhile alnum).length

/-- The token at the beginning of a text: its kind, its text, how long it is. -/
def lexT (l : List UInt8) : Option (Int × List UInt8 × Nat) := match l with
  | [] => none
  | c :: r =>
    if c = 32 then some (5, [32], 1)
    else if c = 34 then (unq r).map fun y => (3, y.1, y.2 + 1)
    else if isLet c.toNat || c.toNat == 37 then some (1, (c :: r).take (nameN r), nameN r)
    else if isDig c.toNat || (c.toNat == 46 && isDig (r.headD 0).toNat) then some (2, (c :: r).take (numN (c :: r)), numN (c :: r))
    else if signN (c :: r) = 0 then none else some (4, (c :: r).take (signN (c :: r)), signN (c :: r))

theorem nameN_le (r : List UInt8) : nameN r ≤ r.length + 1 := by
  unfold nameN
  have := (List.takeWhile_sublist (p := alnum) (l := r)).length_le
  omega

theorem digs_after (l : List UInt8) : (NM.digs l).length + (NM.afterDigs l).length = l.length := by
  unfold NM.digs NM.afterDigs
  rw [← List.length_append, List.takeWhile_append_dropWhile]

theorem fracN_le (l : List UInt8) : fracN l ≤ l.length := by
  cases l with
  | nil => simp [fracN]
  | cons c r =>
    unfold fracN
    have := (List.takeWhile_sublist (p := NM.dg) (l := r)).length_le
    unfold NM.digs
    simp only
    split <;> simp <;> omega

theorem numN_le (l : List UInt8) : numN l ≤ l.length := by
  unfold numN
  have := fracN_le (NM.afterDigs l)
  have := digs_after l
  omega

theorem isTwo_len {l : List UInt8} (h : isTwo l = true) : 2 ≤ l.length := by
  unfold isTwo at h
  rw [List.any_eq_true] at h
  obtain ⟨x, hx, hp⟩ := h
  have h2 : ∀ y ∈ twos, y.length = 2 := by decide
  have h2 := h2 x hx
  rw [List.isPrefixOf_iff_prefix] at hp
  have := hp.length_le
  omega

theorem signN_le {l : List UInt8} (hl : l ≠ []) : signN l ≤ l.length := by
  have : 0 < l.length := List.length_pos_iff.2 hl
  unfold signN
  split
  · rename_i h; exact isTwo_len h
  · split <;> omega

theorem dig_dg (c : UInt8) : isDig c.toNat = NM.dg c := rfl

theorem numN_pos {c : UInt8} {r : List UInt8} (h : (isDig c.toNat || (c.toNat == 46 && isDig (r.headD 0).toNat)) = true) : 1 ≤ numN (c :: r) := by
  unfold numN
  cases hd : isDig c.toNat
  · rw [hd] at h
    simp only [Bool.false_or, Bool.and_eq_true, beq_iff_eq] at h
    have hc : c = 46 := UInt8.toNat_inj.1 h.1
    have e : NM.afterDigs (c :: r) = c :: r := by unfold NM.afterDigs; rw [List.dropWhile_cons_of_neg (by rw [← dig_dg, hd]; decide)]
    rw [e]
    have e2 : fracN (c :: r) = 1 + (NM.digs r).length := if_pos hc
    rw [e2]; omega
  · have e : NM.digs (c :: r) = c :: NM.digs r := by unfold NM.digs; rw [List.takeWhile_cons_of_pos (by rw [← dig_dg, hd])]
    rw [e]; simp; omega

/-- The token lies within the text and is not empty. -/
theorem lexT_bd {l : List UInt8} {x : Int × List UInt8 × Nat} (h : lexT l = some x) : 1 ≤ x.2.2 ∧ x.2.2 ≤ l.length := by
  cases l with
  | nil => cases h
  | cons c r =>
    unfold lexT at h
    simp only at h
    split at h
    · injection h with h; subst h; simp
    · split at h
      · cases hu : unq r with
        | none => rw [hu] at h; cases h
        | some y =>
          rw [hu] at h; injection h with h; subst h
          have := unq_bd r.length r (Nat.le_refl _) y hu
          simp; omega
      · split at h
        · injection h with h; subst h
          have := nameN_le r
          refine ⟨by show 1 ≤ nameN r; unfold nameN; omega, ?_⟩
          show nameN r ≤ (c :: r).length
          rw [List.length_cons]; exact this
        · split at h
          · rename_i h4
            injection h with h; subst h
            exact ⟨numN_pos h4, numN_le _⟩
          · split at h
            · cases h
            · rename_i h5
              injection h with h; subst h
              exact ⟨Nat.pos_of_ne_zero h5, signN_le (by simp)⟩

/-- All tokens from a place on, with the last one that stands for the end. -/
def toksGo (s : ByteArray) : Nat → Nat → Option (List (Int × List UInt8 × Int))
  | 0, _ => none
  | f + 1, at_ => if s.size ≤ at_ then some [(6, [], (at_ : Int))] else match lexT (sfx s at_) with
    | none => none
    | some x => (toksGo s f (at_ + x.2.2)).map fun r => (x.1, x.2.1, (at_ : Int)) :: r

theorem toksGo_end {s : ByteArray} {f k : Nat} (h : s.size ≤ k) : toksGo s (f + 1) k = some [(6, [], (k : Int))] := by
  rw [toksGo, if_pos h]

theorem toksGo_none {s : ByteArray} {f k : Nat} (h : k < s.size) (hn : lexT (sfx s k) = none) : toksGo s (f + 1) k = none := by
  rw [toksGo, if_neg (by omega), hn]

theorem toksGo_some {s : ByteArray} {f k : Nat} (h : k < s.size) {x : Int × List UInt8 × Nat} (hn : lexT (sfx s k) = some x) :
    toksGo s (f + 1) k = (toksGo s f (k + x.2.2)).map fun r => (x.1, x.2.1, (k : Int)) :: r := by
  rw [toksGo, if_neg (by omega), hn]

/-- Fuel that suffices is as good as more. -/
theorem toksGo_more (s : ByteArray) : ∀ (f g k : Nat), s.size < k + f → s.size < k + g → 1 ≤ f → 1 ≤ g → toksGo s f k = toksGo s g k
  | 0, _, k, _, _, h, _ => by omega
  | f + 1, 0, k, _, _, _, h => by omega
  | f + 1, g + 1, k, hf, hg, _, _ => by
    by_cases hk : s.size ≤ k
    · rw [toksGo_end hk, toksGo_end hk]
    · cases hx : lexT (sfx s k) with
      | none => rw [toksGo_none (by omega) hx, toksGo_none (by omega) hx]
      | some x =>
        have := lexT_bd hx
        rw [toksGo_some (by omega) hx, toksGo_some (by omega) hx, toksGo_more s f g _ (by omega) (by omega) (by omega) (by omega)]

def toks (s : ByteArray) (k : Nat) : Option (List (Int × List UInt8 × Int)) := toksGo s (s.size + 2) k

theorem toks_end {s : ByteArray} {k : Nat} (h : s.size ≤ k) : toks s k = some [(6, [], (k : Int))] := toksGo_end h

theorem toks_none {s : ByteArray} {k : Nat} (h : k < s.size) (hn : lexT (sfx s k) = none) : toks s k = none := toksGo_none h hn

theorem toks_some {s : ByteArray} {k : Nat} (h : k < s.size) {x : Int × List UInt8 × Nat} (hn : lexT (sfx s k) = some x) :
    toks s k = (toks s (k + x.2.2)).map fun r => (x.1, x.2.1, (k : Int)) :: r := by
  have := lexT_bd hn
  unfold toks
  rw [toksGo_some h hn, toksGo_more s (s.size + 1) (s.size + 2) _ (by omega) (by omega) (by omega) (by omega)]

/-- What Tokens gives. -/
def tokRes (s : ByteArray) : List (Int × List UInt8 × Int) × Int := if 120 < s.size then ([], 4) else match toks s 0 with | none => ([], 6) | some l => (l, 0)

end Go.Proofs.YtkoagpeeohmokaaDoor
