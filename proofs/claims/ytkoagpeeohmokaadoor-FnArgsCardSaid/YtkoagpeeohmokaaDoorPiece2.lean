/- impl.pieces, LengthOf and PieceOf: both sides, and the walks of the two laws. -/
import Derived.Test.YtkoagpeeohmokaaDoorPieces
import Derived.Test.YtkoagpeeohmokaaDoorExtract
import Derived.Test.YtkoagpeeohmokaaDoorShelf
import Derived.Lib.Join
import Derived.Lib.SplitLaws
import Derived.Lib.ReplaceLaws
namespace Go.Proofs.YtkoagpeeohmokaaDoor
open Go.RowKit
set_option linter.unusedVariables false

/-- The pieces of s by d. -/
def piecesB (s d : ByteArray) : List (List UInt8) := if d.size = 0 then [] else PM.pcs d.data.toList s.size [] s.data.toList

theorem pcs_len (t : List UInt8) : ∀ (f : Nat) (cur l : List UInt8), (PM.pcs t f cur l).length ≤ f + 1
  | 0, cur, l => by simp [PM.pcs]
  | f + 1, cur, l => by
    rw [PM.pcs_succ]
    split
    · simp
    · split
      · have := pcs_len t f [] (l.drop t.length); rw [List.length_cons]; omega
      · have := pcs_len t f (cur ++ l.take 1) (l.drop 1); omega

theorem pcs_mem (t : List UInt8) : ∀ (f : Nat) (cur l : List UInt8), ∀ x ∈ PM.pcs t f cur l, x.length ≤ cur.length + l.length
  | 0, cur, l, x, hx => by simp [PM.pcs] at hx; subst hx; simp
  | f + 1, cur, l, x, hx => by
    rw [PM.pcs_succ] at hx
    split at hx
    · simp at hx; subst hx; simp
    · split at hx
      · rcases List.mem_cons.1 hx with rfl | hx
        · omega
        · have := pcs_mem t f _ _ x hx; simp at this; omega
      · have := pcs_mem t f _ _ x hx; simp at this; omega

/-- What both sides' lists are. -/
def IsPieces (s d : ByteArray) (xs : List ByteArray) : Prop := xs.map (·.data.toList) = piecesB s d

theorem IsPieces.inj {s d : ByteArray} {xs ys : List ByteArray} (h : IsPieces s d xs) (k : IsPieces s d ys) : xs = ys := by
  have e : xs.map (·.data.toList) = ys.map (·.data.toList) := h.trans k.symm
  exact (List.map_inj_right (fun a b hab => ba_ext hab)).1 e

theorem IsPieces.len {s d : ByteArray} {xs : List ByteArray} (h : IsPieces s d xs) : xs.length ≤ s.size + 1 := by
  have e : (xs.map (·.data.toList)).length = (piecesB s d).length := by rw [h]
  rw [List.length_map] at e
  unfold piecesB at e
  split at e
  · rw [List.length_nil] at e; omega
  · have := pcs_len d.data.toList s.size [] s.data.toList; omega

theorem IsPieces.size {s d : ByteArray} {xs : List ByteArray} (h : IsPieces s d xs) {x : ByteArray} (hx : x ∈ xs) : x.size ≤ s.size := by
  have hm : x.data.toList ∈ piecesB s d := by rw [← h]; exact List.mem_map_of_mem hx
  unfold piecesB at hm
  split at hm
  · cases hm
  · have := pcs_mem _ _ _ _ _ hm
    rw [ba_size x, ba_size s]; simpa using this

theorem pieces_any (s d : ByteArray) (w : World) (hml : ML w) (hs : s.size ≤ 1048576) (hd : d.size ≤ 1048576) : Calls Tryd.prog 121 #[.string s, .string d] w fun e w' => ∃ v xs, e = .returned v ∧ Strs w' w.heap.size v xs ∧ Hid (IsPieces s d xs) ∧ Below w.heap.size w w' := by
  obtain ⟨m, hm⟩ := hml
  by_cases hd0 : d.size = 0
  · have he : d.toList.isEmpty = true := empty_of hd0
    go_enter Tryd.func121, Tryd.ntmps121
    go_wp2_with fail
    go_ret
    exact ⟨_, [], rfl, ⟨rfl, .inl ⟨rfl, rfl⟩⟩, by show _ = _; unfold piecesB; rw [if_pos hd0]; rfl, below_refl _⟩
  · have he : d.toList.isEmpty = false := nonempty_of hd0
    have HS := Lib.hid (Tryd.strings_Split s d m w (by omega) hm (by omega))
    clear hm
    go_enter Tryd.func121, Tryd.ntmps121
    go_wp2_with fail
    refine HS.out.mono ?_
    rintro e w1 ⟨rfl, rfl⟩
    go_wp2_with fail
    go_ret
    have hlen := Lib.splitB_all d (by omega) 0 _ s rfl
    refine ⟨_, Lib.splitB d 0 (Lib.countB s d) s, rfl, ?_, ?_, (Below.refl _ _).alloc (Nat.le_refl _) _⟩
    · have hc := Lib.countB_mul_le d (by omega) s.size s (Nat.le_refl _)
      have hc2 : Lib.countB s d ≤ Lib.countB s d * d.size := Nat.le_mul_of_pos_right _ (by omega)
      have := World.ownsRow_lit (base := w.heap.size) (e := 9) (size := 1) w (strVs (Lib.splitB d 0 (Lib.countB s d) s)).toArray (Lib.splitB d 0 (Lib.countB s d) s).length (Nat.le_refl _) (by unfold maxLen; omega) (by simp [strVs])
      rw [hlen] at this
      show World.ownsRow _ _ _ _ _ _ _
      rw [hlen]
      exact this
    · show _ = _
      unfold piecesB
      rw [if_neg hd0]
      exact PM.splitB_eq d (by omega) s.size s (Nat.le_refl _) s.size (Nat.le_refl _)

theorem LengthOf_any (s d : ByteArray) (w : World) (hml : ML w) (hs : s.size ≤ 1048576) (hd : d.size ≤ 1048576) : Calls Tryd.prog 95 #[.string s, .string d] w fun e w' => ∃ xs : List ByteArray, e = .returned (.int .i64 xs.length) ∧ Hid (IsPieces s d xs) ∧ Below w.heap.size w w' := by
  have HM := Lib.hid hml; clear hml
  go_enter Tryd.func95, Tryd.ntmps95
  go_wp2_with fail
  refine (pieces_any s d _ HM.out hs hd).mono ?_
  rintro e w1 ⟨v, xs, rfl, ho, HX, hb1⟩
  obtain ⟨A, c, rfl, hc, hr⟩ := ho.at_
  have hx := HX.out.len
  clear hr ho
  go_wp2_with fail
  go_ret
  exact ⟨xs, rfl, HX, hb1⟩

theorem joinTail_len (sep : List UInt8) (M : Nat) : ∀ r : List (List UInt8), (∀ x ∈ r, x.length ≤ M) → (Lib.joinTail sep r).length ≤ r.length * (sep.length + M)
  | [], _ => by simp [Lib.joinTail]
  | x :: r, h => by
    have ih := joinTail_len sep M r (fun y hy => h y (List.mem_cons_of_mem _ hy))
    have hx := h x (List.mem_cons_self)
    unfold Lib.joinTail at ih ⊢
    rw [List.map_cons, List.flatten_cons, List.length_append, List.length_append, List.length_cons, Nat.succ_mul]
    omega

theorem join_len (sep : List UInt8) (M : Nat) (r : List (List UInt8)) (h : ∀ x ∈ r, x.length ≤ M) : (Lib.join r sep).length ≤ r.length * (sep.length + M) := by
  cases r with
  | nil => simp [Lib.join_nil]
  | cons x r =>
    have := joinTail_len sep M r (fun y hy => h y (List.mem_cons_of_mem _ hy))
    have hx := h x (List.mem_cons_self)
    rw [Lib.join_cons, List.length_append, List.length_cons, Nat.succ_mul]
    omega

theorem join_snoc (sep x : List UInt8) (l : List (List UInt8)) : Lib.join (l ++ [x]) sep = if l = [] then x else Lib.join l sep ++ sep ++ x := by
  cases l with
  | nil => rw [if_pos rfl, List.nil_append, Lib.join_one]
  | cons y r => rw [if_neg (by simp), List.cons_append, Lib.join_cons, Lib.join_cons]; simp [Lib.joinTail]

/-- The pieces lo to hi, joined. -/
def pieceTo (xs : List ByteArray) (d : ByteArray) (lo hi : Int) : List UInt8 := if hi < lo then [] else Lib.join (((xs.drop (lo.toNat - 1)).take (hi.toNat - (lo.toNat - 1))).map (·.data.toList)) d.data.toList

end Go.Proofs.YtkoagpeeohmokaaDoor
