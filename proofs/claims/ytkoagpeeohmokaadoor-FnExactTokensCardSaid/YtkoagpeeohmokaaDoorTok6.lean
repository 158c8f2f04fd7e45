/- Tokens: equal rows, marks in rows. -/
import Derived.Test.YtkoagpeeohmokaaDoorTok5
import Derived.Test.YtkoagpeeohmokaaDoorMarks
import Derived.StillTailTactics
namespace Go.Proofs.YtkoagpeeohmokaaDoor
open Go.RowKit
set_option linter.unusedVariables false

theorem tokVs_cons (x : TokV) (X : List TokV) : tokVs (x :: X) = .int .i64 x.kind :: .string x.text :: .int .i64 x.at_ :: tokVs X := by simp [tokVs, TokV.cells]

theorem tokVs_get : ∀ (X : List TokV) (j : Nat) (h : j < X.length), (tokVs X)[j * 3]? = some (.int .i64 X[j].kind) ∧ (tokVs X)[j * 3 + 1]? = some (.string X[j].text) ∧ (tokVs X)[j * 3 + 2]? = some (.int .i64 X[j].at_)
  | [], _, h => absurd h (by simp)
  | x :: X, 0, _ => by rw [tokVs_cons]; exact ⟨rfl, rfl, rfl⟩
  | x :: X, j + 1, h => by
    rw [tokVs_cons]
    have ih := tokVs_get X j (by simpa using h)
    rw [show (j + 1) * 3 = j * 3 + 1 + 1 + 1 by omega, show j * 3 + 1 + 1 + 1 + 1 = j * 3 + 1 + 1 + 1 + 1 from rfl, show j * 3 + 1 + 1 + 1 + 2 = j * 3 + 2 + 1 + 1 + 1 by omega]
    simp only [List.getElem?_cons_succ, List.getElem_cons_succ]
    exact ih

theorem tokVs_set (a : Int) (b : ByteArray) (c : Int) : ∀ (X : List TokV) (j : Nat), j < X.length → (((tokVs X).set (j * 3) (.int .i64 a)).set (j * 3 + 1) (.string b)).set (j * 3 + 2) (.int .i64 c) = tokVs (X.set j ⟨a, b, c⟩)
  | [], _, h => absurd h (by simp)
  | x :: X, 0, _ => by rw [List.set_cons_zero, tokVs_cons, tokVs_cons]; rfl
  | x :: X, j + 1, h => by
    have ih := tokVs_set a b c X j (by simpa using h)
    rw [List.set_cons_succ, tokVs_cons, tokVs_cons, ← ih]
    rw [show (j + 1) * 3 = j * 3 + 1 + 1 + 1 by omega, show j * 3 + 1 + 1 + 1 + 2 = j * 3 + 2 + 1 + 1 + 1 by omega]
    simp only [List.set_cons_succ]

theorem Toks.forms {w : World} {base : Nat} {v : Value} {L : List TokV} (h : Toks w base v L) : (v = .slice none 0 0 ∧ L = []) ∨ ∃ g cap, v = .slice (some ⟨g, 0, none⟩) L.length cap ∧ base ≤ g ∧ g < w.heap.size := by
  rcases h.2 with ⟨h1, h2⟩ | ⟨g, cap, cur, hv, hb, hg, _⟩
  · exact .inl ⟨h1, List.eq_nil_of_length_eq_zero h2⟩
  · refine .inr ⟨g, cap, hv, hb, ?_⟩
    rcases Nat.lt_or_ge g w.heap.size with h' | h'
    · exact h'
    · rw [Array.getElem?_eq_none h'] at hg; cases hg

theorem Toks.get {w : World} {base g cap : Nat} {L : List TokV} (h : Toks w base (.slice (some ⟨g, 0, none⟩) L.length cap) L) {j : Nat} (hj : j < L.length) :
    w.cell? ⟨g, j * 3, none⟩ = some (.int .i64 L[j].kind) ∧ w.cell? ⟨g, j * 3 + 1, none⟩ = some (.string L[j].text) ∧ w.cell? ⟨g, j * 3 + 2, none⟩ = some (.int .i64 L[j].at_) := by
  obtain ⟨a, b, c⟩ := tokVs_get L j hj
  exact ⟨by rw [World.ownsRow.cellAt h _ (by omega)]; exact a, by rw [World.ownsRow.cellAt h _ (by omega)]; exact b, by rw [World.ownsRow.cellAt h _ (by omega)]; exact c⟩

theorem eqToken_any (k : Int) (t : ByteArray) (a : Int) (w : World) : Calls Tryd.prog 21 #[.agg #[.int .i64 k, .string t, .int .i64 a], .agg #[.int .i64 k, .string t, .int .i64 a]] w fun e w' => e = .returned (.bool true) ∧ Below w.heap.size w w' := by
  have HBA := Lib.hid (Joins.below_alloc2 w (.cells #[.int .i64 k, .string t, .int .i64 a] 44) (.cells #[.int .i64 k, .string t, .int .i64 a] 44))
  go_enter Tryd.func21, Tryd.ntmps21
  go_wp2_with fail
  go_ret
  exact ⟨rfl, HBA.out⟩

set_option maxHeartbeats 1000000 in
set_option maxRecDepth 20000 in
theorem eqTokenS_any (v v2 : Value) (L : List TokV) (w : World) (base base2 : Nat) (h : Toks w base v L) (h2 : Toks w base2 v2 L) (hl : L.length ≤ 200) : Calls Tryd.prog 8 #[v, v2] w fun e w' => e = .returned (.bool true) ∧ Below w.heap.size w w' := by
  have hlen : ∃ A c, v = .slice A L.length c := by
    rcases h.forms with ⟨rfl, rfl⟩ | ⟨g, cap, rfl, _⟩
    · exact ⟨_, _, rfl⟩
    · exact ⟨_, _, rfl⟩
  have hlen2 : ∃ A c, v2 = .slice A L.length c := by
    rcases h2.forms with ⟨rfl, rfl⟩ | ⟨g, cap, rfl, _⟩
    · exact ⟨_, _, rfl⟩
    · exact ⟨_, _, rfl⟩
  have H := Lib.hid h
  have H2 := Lib.hid h2
  obtain ⟨A, c, rfl⟩ := hlen
  obtain ⟨A2, c2, rfl⟩ := hlen2
  clear h h2
  go_enter Tryd.func8, Tryd.ntmps8
  go_wp2_with fail
  go_loopw [5] (fun i wr => ∃ k : Nat, k ≤ L.length ∧ i = .int .i64 k ∧ Below w.heap.size w wr) (fun i _ => L.length - (intOf i).toNat)
  case atStart => exact ⟨0, Nat.zero_le _, rfl, below_refl _⟩
  case round =>
    obtain ⟨k, hk, rfl, hbel⟩ := hrel
    by_cases hlt : k < L.length
    · have hf : ∃ g, A = some ⟨g, 0, none⟩ := by
        rcases H.out.forms with ⟨_, rfl⟩ | ⟨g, cap, e, _⟩
        · simp at hlt
        · injection e with e; exact ⟨g, e⟩
      have hf2 : ∃ g, A2 = some ⟨g, 0, none⟩ := by
        rcases H2.out.forms with ⟨_, rfl⟩ | ⟨g, cap, e, _⟩
        · simp at hlt
        · injection e with e; exact ⟨g, e⟩
      obtain ⟨g, rfl⟩ := hf
      obtain ⟨g2, rfl⟩ := hf2
      obtain ⟨a0, a1, a2⟩ := (H.out.kept hbel).get hlt
      obtain ⟨b0, b1, b2⟩ := (H2.out.kept hbel).get hlt
      have HB := Lib.hid hbel.drew
      clear hbel
      generalize L[k] = x at *
      obtain ⟨kd, te, at_⟩ := x
      simp only at *
      have i0 : (0 : Int) ≤ k := by omega
      have i1 : (k : Int) < L.length := by omega
      go_wp2_with fail
      have a0' : World.cell? { heap := wr.heap, tape := wr.tape, drawn := wr.drawn + 1, os := wr.os, output := wr.output } ⟨g, k * 3, none⟩ = some (.int .i64 kd) := a0
      have a1' : World.cell? { heap := wr.heap, tape := wr.tape, drawn := wr.drawn + 1, os := wr.os, output := wr.output } ⟨g, k * 3 + 1, none⟩ = some (.string te) := a1
      have a2' : World.cell? { heap := wr.heap, tape := wr.tape, drawn := wr.drawn + 1, os := wr.os, output := wr.output } ⟨g, k * 3 + 2, none⟩ = some (.int .i64 at_) := a2
      have b0' : World.cell? { heap := wr.heap, tape := wr.tape, drawn := wr.drawn + 1, os := wr.os, output := wr.output } ⟨g2, k * 3, none⟩ = some (.int .i64 kd) := b0
      have b1' : World.cell? { heap := wr.heap, tape := wr.tape, drawn := wr.drawn + 1, os := wr.os, output := wr.output } ⟨g2, k * 3 + 1, none⟩ = some (.string te) := b1
      have b2' : World.cell? { heap := wr.heap, tape := wr.tape, drawn := wr.drawn + 1, os := wr.os, output := wr.output } ⟨g2, k * 3 + 2, none⟩ = some (.int .i64 at_) := b2
      go_still_tail 8, (by kernel_rfl)
      change wpList _ _ _ _ _ wr.drew
      generalize wr.drew = w5 at *
      clear a0 a1 a2 b0 b1 b2 a0' a1' a2' b0' b1' b2'
      go_wp2_with fail
      refine (eqToken_any kd te at_ _).mono ?_
      rintro e w6 ⟨rfl, b6⟩
      go_wp2_with fail
      exact ⟨⟨k + 1, by omega, by go_num, below_trans HB.out b6⟩, by simp [intOf]; omega⟩
    · go_wp2_with fail
      go_ret
      exact ⟨rfl, hbel⟩

theorem row_kept {w w' : World} {base size n : Nat} {e : TypeId} {v : Value} {xs : List Value} (h : w.ownsRow base e size v n xs) (hb : Below w.heap.size w w') : w'.ownsRow base e size v n xs := by
  refine ⟨h.1, h.2.imp id fun ⟨g, cap, cur, e1, e2, e3, e4⟩ => ⟨g, cap, cur, e1, e2, ?_, e4⟩⟩
  have hg : g < w.heap.size := by
    rcases Nat.lt_or_ge g w.heap.size with h' | h'
    · exact h'
    · rw [Array.getElem?_eq_none h'] at e3; cases e3
  rw [hb.block g hg]; exact e3

def marksT (k n : Nat) : List TokV := (List.range n).map fun i => ⟨((k + 3 * i : Nat) : Int), mtB (k + 3 * i + 1), ((k + 3 * i + 2 : Nat) : Int)⟩

theorem marksT_len (k n : Nat) : (marksT k n).length = n := by simp [marksT]

theorem marksT_succ (k n : Nat) : marksT k (n + 1) = marksT k n ++ [⟨((k + 3 * n : Nat) : Int), mtB (k + 3 * n + 1), ((k + 3 * n + 2 : Nat) : Int)⟩] := by simp [marksT, List.range_succ]

theorem set_midT (A B : List TokV) (x M : TokV) (j : Nat) (h : A.length = j) : (A ++ x :: B).set j M = A ++ [M] ++ B := by
  subst h; simp

set_option maxHeartbeats 1000000 in
set_option maxRecDepth 20000 in
theorem markTokenS_any (v : Value) (L : List TokV) (k : Nat) (hk0 : 1 ≤ k) (hk : (k : Int) ≤ 1000000) (w : World) (base : Nat) (h : Toks w base v L) (hl : L.length ≤ 200) (hbw : base ≤ w.heap.size) :
    Calls Tryd.prog 9 #[v, .int .i64 k] w fun e w' => e = .returned (.int .i64 ((k + 3 * L.length : Nat) : Int)) ∧ Toks w' base v (marksT k L.length) ∧ Below base w w' := by
  rcases h.forms with ⟨rfl, rfl⟩ | ⟨g, cap, rfl, hgb, hgl⟩
  · go_enter Tryd.func9, Tryd.ntmps9
    go_wp2_with fail
    go_loopw [1, 5] (fun q i wr => q = .int .i64 k ∧ i = .int .i64 0 ∧ wr = w) (fun _ _ _ => 0)
    case atStart => exact ⟨rfl, rfl, rfl⟩
    case round =>
      obtain ⟨rfl, rfl, rfl⟩ := hrel
      go_wp2_with fail
      go_ret
      exact ⟨rfl, h, Below.refl _ _⟩
  · go_enter Tryd.func9, Tryd.ntmps9
    go_wp2_with fail
    go_loopw [1, 5] (fun q i wr => ∃ j : Nat, j ≤ L.length ∧ i = .int .i64 j ∧ q = .int .i64 ((k + 3 * j : Nat) : Int) ∧ Hid (Toks wr base (.slice (some ⟨g, 0, none⟩) L.length cap) (marksT k j ++ L.drop j)) ∧ Hid (Below base w wr)) (fun _ i _ => L.length - (intOf i).toNat)
    case atStart => exact ⟨0, Nat.zero_le _, rfl, by go_num, by show Toks _ _ _ _; simpa [marksT] using h, Below.refl _ _⟩
    case round =>
      obtain ⟨j, hj, rfl, rfl, HS, HB⟩ := hrel
      by_cases hlt : j < L.length
      · have hln : (marksT k j ++ L.drop j).length = L.length := by simp [marksT]; omega
        have hS : wr.ownsRow base 44 3 (.slice (some ⟨g, 0, none⟩) L.length cap) L.length (tokVs (marksT k j ++ L.drop j)) := by have := HS.out; unfold Toks at this; rw [hln] at this; exact this
        obtain ⟨m, hm⟩ : ∃ m, k + 3 * j = m := ⟨_, rfl⟩
        rw [hm]
        have gj := tokVs_get (marksT k j ++ L.drop j) j (by omega)
        have c0 := (World.ownsRow.cellAt hS (j * 3) (by omega)).trans gj.1
        have f0 := World.ownsRow.frozenAt hS (j * 3)
        have HS1 := Lib.hid (World.ownsRow.stored hS (j * 3) (.int .i64 (m : Int))).1
        have HGJ := Lib.hid gj
        have HSET := Lib.hid (tokVs_set (m : Int) (mtB (m + 1)) ((m + 2 : Nat) : Int) (marksT k j ++ L.drop j) j (by omega))
        have HV : Hid ((marksT k j ++ L.drop j).set j ⟨(m : Int), mtB (m + 1), ((m + 2 : Nat) : Int)⟩ = marksT k (j + 1) ++ L.drop (j + 1)) := by
          show _ = _
          rw [List.drop_eq_getElem_cons hlt, set_midT _ _ _ _ j (marksT_len k j), marksT_succ, hm]
        have HM := Lib.hid hm
        have hm1 : 1 ≤ m := by omega
        have hm2 : (m : Int) ≤ 2000000 := by omega
        clear gj hS HS hm
        generalize (marksT k j ++ L.drop j)[j].kind = y0 at *
        generalize (marksT k j ++ L.drop j)[j].text = y1 at *
        generalize (marksT k j ++ L.drop j)[j].at_ = y2 at *
        generalize marksT k j ++ L.drop j = X at *
        have i0 : (0 : Int) ≤ j := by omega
        have i1 : (j : Int) < L.length := by omega
        have HB1 : Hid (Below base w (wr.setCell ⟨g, j * 3, none⟩ (.int .i64 (m : Int)))) := HB.out.trans ((Below.refl base wr).setCell (p := ⟨g, j * 3, none⟩) hgb _)
        clear HB
        go_wp2_with fail
        generalize wr.setCell ⟨g, j * 3, none⟩ (.int .i64 (m : Int)) = wa at *
        rw [show (m : Int) + 1 = ((m + 1 : Nat) : Int) by omega]
        refine (markText_any (m + 1) (by omega) (by omega) _).mono ?_
        rintro e w2 ⟨rfl, hb2⟩
        have hS2 := row_kept HS1.out hb2
        have HB2 : Hid (Below base w w2) := HB1.out.trans (hb2.mono (by have := HB1.out.size; omega))
        clear hb2 HB1 HS1
        have c1 := (World.ownsRow.cellAt hS2 (j * 3 + 1) (by omega)).trans ((List.getElem?_set_ne (by omega)).trans HGJ.out.2.1)
        have c2 := (World.ownsRow.cellAt hS2 (j * 3 + 2) (by omega)).trans ((List.getElem?_set_ne (by omega)).trans HGJ.out.2.2)
        have f1 := World.ownsRow.frozenAt hS2 (j * 3 + 1)
        have f2 := World.ownsRow.frozenAt hS2 (j * 3 + 2)
        have hS3 := (World.ownsRow.stored hS2 (j * 3 + 1) (.string (mtB (m + 1)))).1
        have HS4 := Lib.hid (World.ownsRow.stored hS3 (j * 3 + 2) (.int .i64 ((m + 2 : Nat) : Int))).1
        have HB4 : Hid (Below base w ((w2.setCell ⟨g, j * 3 + 1, none⟩ (.string (mtB (m + 1)))).setCell ⟨g, j * 3 + 2, none⟩ (.int .i64 ((m + 2 : Nat) : Int)))) := (HB2.out.setCell (p := ⟨g, j * 3 + 1, none⟩) hgb _).setCell (p := ⟨g, j * 3 + 2, none⟩) hgb _
        clear hS2 hS3 HB2 HGJ
        generalize mtB (m + 1) = M at *
        go_wp2_with fail
        refine ⟨⟨j + 1, by omega, by go_num, ?_, ?_, HB4.out⟩, by simp [intOf]; omega⟩
        · have := HM.out; congr 1; omega
        · show Toks _ _ _ _
          have h1 := HS4.out
          rw [HSET.out, HV.out] at h1
          unfold Toks
          have e : (marksT k (j + 1) ++ L.drop (j + 1)).length = L.length := by simp [marksT]; omega
          rw [e]
          exact h1
      · obtain rfl : j = L.length := by omega
        go_wp2_with fail
        go_ret
        refine ⟨rfl, ?_, HB.out⟩
        have := HS.out
        rw [List.drop_length, List.append_nil] at this
        exact this

set_option maxHeartbeats 1000000 in
set_option maxRecDepth 20000 in
theorem heldTokenS_any (v : Value) (n k : Nat) (hk0 : 1 ≤ k) (hk : (k : Int) ≤ 1000000) (w : World) (base : Nat) (h : Toks w base v (marksT k n)) (hl : n ≤ 200) :
    Calls Tryd.prog 10 #[v, .int .i64 k] w fun e w' => e = .returned (.int .i64 ((k + 3 * n : Nat) : Int)) ∧ Below w.heap.size w w' := by
  have H := Lib.hid h
  have hf : ∃ A c, v = .slice A n c := by
    rcases h.forms with ⟨rfl, e⟩ | ⟨g, cap, rfl, _⟩
    · have := congrArg List.length e
      rw [marksT_len] at this
      exact ⟨none, 0, by rw [this]; rfl⟩
    · rw [marksT_len]; exact ⟨_, _, rfl⟩
  obtain ⟨A, c, rfl⟩ := hf
  clear h
  go_enter Tryd.func10, Tryd.ntmps10
  go_wp2_with fail
  go_loopw [1, 5] (fun q i wr => ∃ j : Nat, j ≤ n ∧ i = .int .i64 j ∧ q = .int .i64 ((k + 3 * j : Nat) : Int) ∧ Below w.heap.size w wr) (fun _ i _ => n - (intOf i).toNat)
  case atStart => exact ⟨0, Nat.zero_le _, rfl, by go_num, below_refl _⟩
  case round =>
    obtain ⟨j, hj, rfl, rfl, hbel⟩ := hrel
    by_cases hlt : j < n
    · have hg : ∃ g, A = some ⟨g, 0, none⟩ := by
        rcases H.out.forms with ⟨_, e⟩ | ⟨g, cap, e, _⟩
        · have := congrArg List.length e
          rw [marksT_len] at this
          simp at this; omega
        · injection e with e; exact ⟨g, e⟩
      obtain ⟨g, rfl⟩ := hg
      obtain ⟨m, hm⟩ : ∃ m, k + 3 * j = m := ⟨_, rfl⟩
      have HC : Hid (∀ W, Below w.heap.size w W → W.cell? ⟨g, j * 3, none⟩ = some (.int .i64 (m : Int)) ∧ W.cell? ⟨g, j * 3 + 1, none⟩ = some (.string (mtB (m + 1))) ∧ W.cell? ⟨g, j * 3 + 2, none⟩ = some (.int .i64 ((m + 2 : Nat) : Int))) := fun W hW => by
        have h1 := H.out.kept hW
        have e : Value.slice (some ⟨g, 0, none⟩) n c = Value.slice (some ⟨g, 0, none⟩) (marksT k n).length c := by rw [marksT_len]
        rw [e] at h1
        have h2 := h1.get (j := j) (by rw [marksT_len]; exact hlt)
        simp only [marksT, List.getElem_map, List.getElem_range, hm] at h2
        exact h2
      rw [hm]
      have HM := Lib.hid hm
      have hm1 : 1 ≤ m := by omega
      have hm2 : (m : Int) ≤ 2000000 := by omega
      clear hm
      have i0 : (0 : Int) ≤ j := by omega
      have i1 : (j : Int) < n := by omega
      obtain ⟨c0, c1, c2⟩ := HC.out _ hbel
      have HMT := Lib.hid (fun W => markText_any (m + 1) (by omega) (by omega) W)
      generalize mtB (m + 1) = M at *
      have em : ((m + 1 : Nat) : Int) = (m : Int) + 1 := by omega
      rw [em] at HMT
      have em2 : ((m + 2 : Nat) : Int) = (m : Int) + 2 := by omega
      rw [em2] at HC c2
      clear em em2
      go_wp2_with fail
      go_region_with (go_at_call 22; refine (HMT.out _).mono ?_; rintro e w2 ⟨rfl, hb2⟩; have hb3 : Below w.heap.size w w2 := below_trans hbel ⟨hb2.os, hb2.tape, hb2.output, hb2.size, hb2.block⟩; obtain ⟨x0, x1, x2⟩ := HC.out _ hb3; clear hb2)
      all_goals
        go_wp2_with fail
        refine ⟨⟨j + 1, by omega, by go_num, ?_, hb3⟩, by simp [intOf]; omega⟩
        have := HM.out
        congr 1; omega
    · obtain rfl : j = n := by omega
      go_wp2_with fail
      go_ret
      exact ⟨rfl, hbel⟩

end Go.Proofs.YtkoagpeeohmokaaDoor
