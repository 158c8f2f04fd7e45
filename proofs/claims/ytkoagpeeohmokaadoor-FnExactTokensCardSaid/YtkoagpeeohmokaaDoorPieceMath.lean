/- The pieces of a text by a separator: the library's splitB is the one-pass reading. -/
import Derived.Test.YtkoagpeeohmokaaDoorBase
import Derived.Lib.Split
import Derived.Lib.CountLaws
import Derived.Lib.CutLaws
namespace Go.Proofs.YtkoagpeeohmokaaDoor.PM

/-- The pieces, one byte at a time; cur: what the piece holds so far. -/
def pcs (t : List UInt8) : Nat → List UInt8 → List UInt8 → List (List UInt8)
  | 0, cur, l => [cur ++ l]
  | f + 1, cur, l => if l.length < t.length then [cur ++ l] else if t.isPrefixOf l then cur :: pcs t f [] (l.drop t.length) else pcs t f (cur ++ l.take 1) (l.drop 1)

theorem pcs_succ (t : List UInt8) (f : Nat) (cur l : List UInt8) : pcs t (f + 1) cur l = if l.length < t.length then [cur ++ l] else if t.isPrefixOf l then cur :: pcs t f [] (l.drop t.length) else pcs t f (cur ++ l.take 1) (l.drop 1) := rfl

/-- Without a hit the rest is one piece. -/
theorem pcs_none (t : List UInt8) : ∀ (f : Nat) (cur l : List UInt8), (∀ i, i + t.length ≤ l.length → t.isPrefixOf (l.drop i) = false) → pcs t f cur l = [cur ++ l]
  | 0, cur, l, _ => rfl
  | f + 1, cur, l, h => by
    rw [pcs_succ]
    split
    · rfl
    · rename_i hlen
      have hz := h 0 (by omega)
      have h0 : t.isPrefixOf l = false := by simpa using hz
      have hn : ∀ i, i + t.length ≤ (l.drop 1).length → t.isPrefixOf ((l.drop 1).drop i) = false := by
        intro i hi
        rw [List.length_drop] at hi
        rw [List.drop_drop]
        by_cases hl0 : l.length = 0
        · have : l = [] := List.eq_nil_of_length_eq_zero hl0
          subst this
          have hz' := hz
          simpa using hz'
        · exact h (1 + i) (by omega)
      rw [h0, if_neg (by decide), pcs_none t f _ _ hn, List.append_assoc, List.take_append_drop]

/-- Up to the first hit. -/
theorem pcs_hit (t : List UInt8) (ht : 1 ≤ t.length) : ∀ (k f : Nat) (cur l : List UInt8), k + t.length ≤ l.length → (∀ i, i < k → t.isPrefixOf (l.drop i) = false) → t.isPrefixOf (l.drop k) = true → k < f →
    pcs t f cur l = (cur ++ l.take k) :: pcs t (f - k - 1) [] (l.drop (k + t.length))
  | 0, f + 1, cur, l, hl, _, hh, _ => by
    rw [pcs_succ]
    rw [if_neg (by omega), if_pos (by simpa using hh)]
    simp
  | k + 1, f + 1, cur, l, hl, hn, hh, hf => by
    rw [pcs_succ]
    have h0 : t.isPrefixOf l = false := by simpa using hn 0 (by omega)
    rw [if_neg (by omega), h0, if_neg (by decide), pcs_hit t ht k f _ (l.drop 1) (by rw [List.length_drop]; omega) (fun i hi => by rw [List.drop_drop]; exact hn (1 + i) (by omega)) (by rw [List.drop_drop, Nat.add_comm]; exact hh) (by omega)]
    rw [List.append_assoc, List.drop_drop, show f + 1 - (k + 1) - 1 = f - k - 1 by omega, show 1 + (k + t.length) = k + 1 + t.length by omega]
    congr 2
    rw [show k + 1 = 1 + k by omega, List.take_add]


theorem first_or_none (s sub : List UInt8) : ∀ n, Lib.NoOcc s sub n ∨ ∃ i, i < n ∧ Lib.occAt s sub i = true ∧ Lib.NoOcc s sub i
  | 0 => .inl (Lib.NoOcc.zero _ _)
  | n + 1 => by
    rcases first_or_none s sub n with h | ⟨i, hi, ho, hn⟩
    · cases ho : Lib.occAt s sub n
      · exact .inl (h.succ ho)
      · exact .inr ⟨n, by omega, ho, h⟩
    · exact .inr ⟨i, by omega, ho, hn⟩

theorem splitB_eq (sep : ByteArray) (h1 : 1 ≤ sep.size) : ∀ (n : Nat) (s : ByteArray), s.size ≤ n → ∀ f, s.size ≤ f → (Lib.splitB sep 0 (Lib.countB s sep) s).map (·.data.toList) = pcs sep.data.toList f [] s.data.toList := by
  have hl1 : sep.size = sep.data.toList.length := by simp
  intro n
  induction n with
  | zero =>
    intro s hs f hf
    have hls : s.size = s.data.toList.length := by simp
    rw [pcs_none _ f [] _ (fun i hi => by omega)]
    have hi : Lib.indexB s sep = -1 := by
      rcases Lib.indexB_cases s sep with h | ⟨i, _, h⟩
      · exact h
      · omega
    rw [Lib.countB_miss _ _ hi, Lib.splitB_zero]
    simp
  | succ n ih =>
    intro s hs f hf
    have hls : s.size = s.data.toList.length := by simp
    rcases first_or_none s.data.toList sep.data.toList (s.data.toList.length + 1) with h | ⟨i, hi, ho, hn⟩
    · have hidx : Lib.indexB s sep = -1 := Lib.index_none (fun j hj => h j (by omega))
      rw [pcs_none _ f [] _ (fun i hi => h i (by omega)), Lib.countB_miss _ _ hidx, Lib.splitB_zero]
      simp
    · have hroom : i + sep.data.toList.length ≤ s.data.toList.length := by
        rcases Lib.occAt_room ho with h | h
        · exact h
        · have h0 : sep.data.toList.length = 0 := by rw [h]; rfl
          omega
      have hidx : Lib.indexB s sep = i := Lib.index_first (by omega) ho hn
      have hx : (s.extract (i + sep.size) s.size).size ≤ n := by rw [ByteArray.size_extract]; omega
      have hx2 : (s.extract (i + sep.size) s.size).data.toList = s.data.toList.drop (i + sep.size) := by
        simp [List.extract_eq_take_drop]
        exact List.take_of_length_le (by rw [List.length_drop]; omega)
      rw [Lib.countB_hit s sep i h1 hidx, Nat.add_comm, Lib.splitB]
      rw [hidx, if_neg (by simp), List.map_cons, pcs_hit _ (by omega) i f [] _ hroom hn ho (by omega), ← hl1, ← hx2]
      congr 1
      · simp [List.extract_eq_take_drop]
      · exact ih _ hx (f - i - 1) (by rw [ByteArray.size_extract]; omega)

end Go.Proofs.YtkoagpeeohmokaaDoor.PM
