/- PieceOf: both sides and the walk. -/
import Derived.Test.YtkoagpeeohmokaaDoorPiece2
namespace Go.Proofs.YtkoagpeeohmokaaDoor
open Go.RowKit
set_option linter.unusedVariables false

theorem lt_of_heap {w : World} {g : Nat} {o : Obj} (h : w.heap[g]? = some o) : g < w.heap.size := by
  rcases Nat.lt_or_ge g w.heap.size with h' | h'
  · exact h'
  · rw [Array.getElem?_eq_none h'] at h; cases h

set_option maxRecDepth 8000 in
theorem PieceOf_any (s d : ByteArray) (m n lo hi : Int) (xs0 : List ByteArray) (hX : IsPieces s d xs0) (hlo : (m ≤ 1 ∧ lo = 1) ∨ (1 ≤ m ∧ lo = m)) (hhi : (n ≤ xs0.length ∧ hi = n) ∨ ((xs0.length : Int) ≤ n ∧ hi = xs0.length)) (w : World) (hml : ML w) (hs : s.size ≤ 1048576) (hd : d.size ≤ 1048576) :
    Calls Tryd.prog 96 #[.string s, .string d, .int .i64 m, .int .i64 n] w fun e w' => ∃ r : ByteArray, e = .returned (.string r) ∧ Hid (r.data.toList = pieceTo xs0 d lo hi) ∧ Below w.heap.size w w' := by
  have HX0 := Lib.hid hX; clear hX
  have HM := Lib.hid hml; clear hml
  have hmx : max 1 m = lo := by omega
  have hmn : min n (xs0.length : Int) = hi := by omega
  have b1 : 1 ≤ lo := by omega
  have b2 : hi ≤ (xs0.length : Int) := by omega
  clear hlo hhi
  go_enter Tryd.func96, Tryd.ntmps96
  go_wp2_with fail
  refine (pieces_any s d _ HM.out hs hd).mono ?_
  rintro e w1 ⟨v, xs, rfl, ho, HX, hb1⟩
  obtain rfl : xs0 = xs := HX0.out.inj HX.out
  have hx := HX.out.len
  obtain ⟨h1, h2⟩ := id ho
  rcases h2 with ⟨rfl, hn⟩ | ⟨g, cap, cur, rfl, hg, hh, hr⟩
  · have hlt : ¬ lo ≤ hi := by omega
    have HP : Hid (pieceTo xs0 d lo hi = []) := by show _ = _; unfold pieceTo; rw [if_pos (by omega)]
    rw [← hn] at *
    go_wp2_with (go_at_call 114; go_in)
    go_ret
    exact ⟨_, rfl, HP.out.symm, hb1⟩
  · have hcap : xs0.length ≤ cap := hr.1
    by_cases hlt : lo ≤ hi
    · have hXl : ((xs0.drop (lo.toNat - 1)).take (hi.toNat - (lo.toNat - 1))).length = hi.toNat - (lo.toNat - 1) := by rw [List.length_take, List.length_drop]; omega
      have hM : ∀ x ∈ ((xs0.drop (lo.toNat - 1)).take (hi.toNat - (lo.toNat - 1))).map (·.data.toList), x.length ≤ 1048576 := by
        intro x hx'
        obtain ⟨y, hy, rfl⟩ := List.mem_map.1 hx'
        have := HX.out.size (List.mem_of_mem_drop (List.mem_of_mem_take hy))
        rw [← ba_size]; omega
      have hl := join_len d.data.toList 1048576 _ hM
      rw [List.length_map, hXl, ← ba_size] at hl
      have hl2 : (hi.toNat - (lo.toNat - 1)) * (d.size + 1048576) ≤ 1048577 * 2097152 := Nat.mul_le_mul (by omega) (by omega)
      have HJ := Tryd.strings_Join g (lo.toNat - 1) (cap - (lo.toNat - 1)) ((xs0.drop (lo.toNat - 1)).take (hi.toNat - (lo.toNat - 1))) d w1 (by
        intro j x hj
        have hj2 : xs0[lo.toNat - 1 + j]? = some x := by
          rw [List.getElem?_take] at hj
          split at hj
          · rw [List.getElem?_drop] at hj; exact hj
          · cases hj
        have hcl := World.ownsRow.cells ho rfl (lo.toNat - 1 + j) (.string x) (by rw [strVs, List.getElem?_map, hj2]; rfl)
        rw [← hcl]
        unfold Addr.add
        split
        · rename_i h0; rw [h0]
        · simp) (lt_of_heap hh) (by rw [hXl]; omega) (by rw [hXl]; omega) (by omega)
      rw [hXl] at HJ
      have HJJ := Lib.hid HJ
      clear HJ hl hl2 hM
      go_wp2_with (go_at_call 114; go_in)
      refine HJJ.out.mono ?_
      rintro e w2 ⟨rfl, hb2⟩
      have HP : Hid (pieceTo xs0 d lo hi = Lib.join (((xs0.drop (lo.toNat - 1)).take (hi.toNat - (lo.toNat - 1))).map (·.data.toList)) d.data.toList) := by show _ = _; unfold pieceTo; rw [if_neg (by omega)]
      go_wp2_with fail
      go_ret
      exact ⟨_, rfl, by show _ = _; rw [HP.out, List.map_take, List.map_drop], below_trans hb1 hb2⟩
    · have HP : Hid (pieceTo xs0 d lo hi = []) := by show _ = _; unfold pieceTo; rw [if_pos (by omega)]
      go_wp2_with (go_at_call 114; go_in)
      go_ret
      exact ⟨_, rfl, HP.out.symm, hb1⟩

theorem exists_pieces (s d : ByteArray) : ∃ xs, IsPieces s d xs := by
  refine ⟨(piecesB s d).map (fun l => ⟨l.toArray⟩), ?_⟩
  unfold IsPieces
  rw [List.map_map]
  conv => rhs; rw [← List.map_id (piecesB s d)]
  apply List.map_congr_left
  intro a _
  simp

end Go.Proofs.YtkoagpeeohmokaaDoor
