/- PureFun: what each function gives, as bytes, and how long that can be; plain Lean. -/
import Derived.Test.YtkoagpeeohmokaaDoorCanon
import Derived.Test.YtkoagpeeohmokaaDoorPiece3
import Derived.Test.YtkoagpeeohmokaaDoorFind
import Derived.Test.YtkoagpeeohmokaaDoorJustify
import Derived.Test.YtkoagpeeohmokaaDoorTranslate
import Derived.Test.YtkoagpeeohmokaaDoorUnOp
namespace Go.Proofs.YtkoagpeeohmokaaDoor
open Go.RowKit
set_option linter.unusedVariables false

/-- The whole part of an argument, or what stands for a missing one. -/
def wholeV (x : ByteArray) : Int := (NM.numOf x.data.toList).tdiv 1000000

def argV (xs : List ByteArray) (k : Nat) (d : Int) : Int := match xs[k]? with | some x => wholeV x | none => d

theorem argV_lt {xs : List ByteArray} {k : Nat} (h : k < xs.length) (d : Int) : argV xs k d = wholeV xs[k] := by
  unfold argV; rw [List.getElem?_eq_getElem h]

theorem argV_ge {xs : List ByteArray} {k : Nat} (h : ¬ k < xs.length) (d : Int) : argV xs k d = d := by
  unfold argV; rw [List.getElem?_eq_none (by omega)]

theorem whole_tdiv (n : Int) (h0 : -999999999999999999 ≤ n) (h1 : n ≤ 999999999999999999) : -1000000000000 ≤ n.tdiv 1000000 ∧ n.tdiv 1000000 ≤ 1000000000000 := by
  rcases Int.lt_or_le n 0 with h | h
  · have e : n.tdiv 1000000 = -((-n) / 1000000) := by
      rw [← Int.tdiv_eq_ediv_of_nonneg (by omega), Int.neg_tdiv, Int.neg_neg]
    omega
  · rw [Int.tdiv_eq_ediv_of_nonneg h]; omega

theorem wholeV_bd (x : ByteArray) : -1000000000000 ≤ wholeV x ∧ wholeV x ≤ 1000000000000 := by
  have := NM.numOf_bd x.data.toList
  exact whole_tdiv _ this.1 this.2

def asciiV (s : ByteArray) (n : Int) : Int := if n < 1 then -1 else match (extractOf s n n).data.toList with | [] => -1 | c :: _ => c.toNat

theorem asciiV_bd (s : ByteArray) (n : Int) : -1 ≤ asciiV s n ∧ asciiV s n ≤ 255 := by
  unfold asciiV
  split
  · omega
  · split
    · omega
    · rename_i c _ _
      have := c.toNat_lt
      omega

theorem asciiV_small (s : ByteArray) {n : Int} (h : n < 1) : asciiV s n = -1 := if_pos h

theorem asciiV_none (s : ByteArray) {n : Int} (h : (extractOf s n n).size = 0) : asciiV s n = -1 := by
  unfold asciiV
  split
  · rfl
  · have : (extractOf s n n).data.toList = [] := List.eq_nil_of_length_eq_zero (by rw [← ba_size]; exact h)
    rw [this]

theorem asciiV_some (s : ByteArray) {n : Int} (hn : ¬ n < 1) (h : 0 < (extractOf s n n).size) : asciiV s n = ((extractOf s n n)[0]).toNat := by
  unfold asciiV
  rw [if_neg hn]
  generalize extractOf s n n = r at *
  have e := sfx_lt h
  rw [sfx_zero] at e
  rw [e]

def charOne (x : ByteArray) : List UInt8 := if 0 ≤ NM.numOf x.data.toList ∧ wholeV x ≤ 255 then [UInt8.ofNat (wholeV x).toNat] else []

def charL : List ByteArray → List UInt8
  | [] => []
  | x :: r => charOne x ++ charL r

theorem charOne_le (x : ByteArray) : (charOne x).length ≤ 1 := by unfold charOne; split <;> simp

theorem charL_le : ∀ xs : List ByteArray, (charL xs).length ≤ xs.length
  | [] => by simp [charL]
  | x :: r => by
    have := charL_le r
    have := charOne_le x
    rw [charL, List.length_append, List.length_cons]; omega

def extL (s : ByteArray) (xs : List ByteArray) : List UInt8 := if xs.length < 3 ∧ argV xs 1 1 < 1 then [] else (extractOf s (argV xs 1 1) (argV xs 2 (argV xs 1 1))).data.toList

theorem extractOf_le (s : ByteArray) (m n : Int) : (extractOf s m n).data.toList.length ≤ s.size := by
  unfold extractOf
  generalize (if (s.size : Int) < n then (s.size : Int) else n) = hi
  generalize (if 1 < m then m else 1) = lo
  split
  · simp
  · rw [← ba_size]; simp; omega

theorem extL_le (s : ByteArray) (xs : List ByteArray) : (extL s xs).length ≤ s.size := by
  unfold extL
  split
  · simp
  · exact extractOf_le _ _ _

/-- The pieces of a string. -/
def piecesX (s d : ByteArray) : List ByteArray := (piecesB s d).map (fun l => ⟨l.toArray⟩)

theorem piecesX_is (s d : ByteArray) : IsPieces s d (piecesX s d) := by
  unfold IsPieces piecesX
  rw [List.map_map]
  conv => rhs; rw [← List.map_id (piecesB s d)]
  apply List.map_congr_left
  intro l _
  simp

def pieceV (s d : ByteArray) (m n : Int) : List UInt8 := pieceTo (piecesX s d) d (if 1 < m then m else 1) (if n < (piecesX s d).length then n else (piecesX s d).length)

/-- The pieces' lengths, each with what parts it. -/
def pLen (t : List UInt8) : List (List UInt8) → Nat
  | [] => 0
  | x :: r => x.length + t.length + pLen t r

theorem pcs_pLen (t : List UInt8) : ∀ (f : Nat) (cur l : List UInt8), pLen t (PM.pcs t f cur l) = cur.length + l.length + t.length
  | 0, cur, l => by simp [PM.pcs, pLen]
  | f + 1, cur, l => by
    rw [PM.pcs_succ]
    split
    · simp [pLen]
    · split
      · rename_i h1 h2
        rw [pLen, pcs_pLen t f]
        simp; omega
      · rename_i h1 h2
        rw [pcs_pLen t f]
        simp; omega

theorem pLen_drop (t : List UInt8) : ∀ (k : Nat) (xs : List (List UInt8)), pLen t (xs.drop k) ≤ pLen t xs
  | 0, xs => by simp
  | k + 1, [] => by simp
  | k + 1, x :: r => by have := pLen_drop t k r; simp [pLen]; omega

theorem pLen_take (t : List UInt8) : ∀ (k : Nat) (xs : List (List UInt8)), pLen t (xs.take k) ≤ pLen t xs
  | 0, xs => by simp [pLen]
  | k + 1, [] => by simp
  | k + 1, x :: r => by have := pLen_take t k r; simp [pLen]; omega

theorem joinTail_pLen (t : List UInt8) : ∀ r : List (List UInt8), (Lib.joinTail t r).length = pLen t r
  | [] => by simp [Lib.joinTail, pLen]
  | x :: r => by
    have := joinTail_pLen t r
    have e : Lib.joinTail t (x :: r) = t ++ x ++ Lib.joinTail t r := by simp [Lib.joinTail]
    rw [e, List.length_append, List.length_append, pLen, this]; omega

theorem join_pLen (t : List UInt8) (xs : List (List UInt8)) : (Lib.join xs t).length ≤ pLen t xs - t.length := by
  cases xs with
  | nil => simp [Lib.join_nil]
  | cons x r => rw [Lib.join_cons, List.length_append, joinTail_pLen, pLen]; omega

theorem pieceV_le (s d : ByteArray) (m n : Int) : (pieceV s d m n).length ≤ s.size := by
  unfold pieceV pieceTo
  generalize (if 1 < m then m else 1) = lo
  generalize (if n < ((piecesX s d).length : Int) then n else ((piecesX s d).length : Int)) = hi
  split
  · simp
  · refine Nat.le_trans (join_pLen _ _) ?_
    rw [List.map_take, List.map_drop, show (piecesX s d).map (·.data.toList) = piecesB s d from piecesX_is s d]
    have h1 := pLen_take d.data.toList
    have h2 := pLen_drop d.data.toList
    refine Nat.le_trans (Nat.sub_le_sub_right (Nat.le_trans (h1 _ _) (h2 _ _)) _) ?_
    unfold piecesB
    split
    · simp [pLen]
    · rw [pcs_pLen]; simp

def pieL (s d : ByteArray) (xs : List ByteArray) : List UInt8 := if xs.length < 4 ∧ argV xs 2 1 < 1 then [] else pieceV s d (argV xs 2 1) (argV xs 3 (argV xs 2 1))

theorem pieL_le (s d : ByteArray) (xs : List ByteArray) : (pieL s d xs).length ≤ s.size := by
  unfold pieL
  split
  · simp
  · exact pieceV_le _ _ _ _

theorem trans_le (s a b : List UInt8) : (trans s a b).length ≤ s.length := by
  induction s with
  | nil => simp [trans]
  | cons c r ih =>
    have := trOne_le a b c
    rw [trans_cons, List.length_append, List.length_cons]; omega

theorem findOf_bd (s t : ByteArray) (m : Int) : 0 ≤ findOf s t m ∧ findOf s t m ≤ s.size + 1 + t.size := by
  unfold findOf
  generalize hl : (if 1 < m then m else 1) = lo
  have hlo : 1 ≤ lo := by subst hl; split <;> omega
  split
  · omega
  · rename_i h
    unfold findFrom
    have g1 := idxS_ge (sfx s (lo.toNat - 1)) (sfx t 0)
    have g2 := idxS_le (sfx s (lo.toNat - 1)) (sfx t 0)
    have g3 : (sfx s (lo.toNat - 1)).length = s.size - (lo.toNat - 1) := by unfold sfx; simp
    rw [g3] at g2
    generalize idxS (sfx s (lo.toNat - 1)) (sfx t 0) = z at *
    split <;> omega

/-- An integer's text. -/
def numeralL (n : Int) : List UInt8 := numTextB (n * 1000000)

theorem numeralL_le (n : Int) (h0 : -100000000000 ≤ n) (h1 : n ≤ 100000000000) : (numeralL n).length ≤ 64 := by
  have := numTextB_len (n * 1000000) (by omega) (by omega)
  unfold numeralL; omega

def lenL (s d : ByteArray) (xs : List ByteArray) : List UInt8 := if 1 < xs.length then numeralL (piecesX s d).length else numeralL s.size

theorem lenL_le (s d : ByteArray) (xs : List ByteArray) (hs : s.size ≤ 1048576) : (lenL s d xs).length ≤ 64 := by
  unfold lenL
  have := (piecesX_is s d).len
  split <;> exact numeralL_le _ (by omega) (by omega)

/-- What PureFun gives: the function is one of the nine, the bounds, the arguments, what the function gives. -/
def funRes (b : Bool) (lo hi : Int) (xs : List ByteArray) (L : List UInt8) : List UInt8 × Int :=
  if (b && decide (lo ≤ xs.length ∧ (xs.length : Int) ≤ hi)) = false then ([], 2) else if xs.any long64 then ([], 1) else if 64 < L.length then ([], 4) else (L, 0)

theorem funRes_code (b : Bool) (lo hi : Int) (xs : List ByteArray) (L : List UInt8) : (funRes b lo hi xs L).2 = 2 ↔ (b && decide (lo ≤ xs.length ∧ (xs.length : Int) ≤ hi)) = false := by
  unfold funRes
  split
  · simp_all
  · split
    · simp_all
    · split <;> simp_all

def GotFun (V : List UInt8 × Int) (e : Ending) : Prop := ∃ (r : ByteArray) (c : Int), e = .returned (.tuple #[.string r, .int .i64 c]) ∧ (r.data.toList, c) = V

end Go.Proofs.YtkoagpeeohmokaaDoor
