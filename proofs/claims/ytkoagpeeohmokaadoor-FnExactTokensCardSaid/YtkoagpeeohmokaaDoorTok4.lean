/- Tokens: spec.l05Lex. -/
import Derived.Test.YtkoagpeeohmokaaDoorTok3
namespace Go.Proofs.YtkoagpeeohmokaaDoor
open Go.RowKit
set_option linter.unusedVariables false

/-- What the reference's l05Lex tells within the text. -/
def GotLex (l : List UInt8) (p : Nat) (e : Ending) : Prop := ∃ (k : Int) (r : ByteArray) (a q : Int) (b : Bool), e = .returned (.tuple #[.agg #[.int .i64 k, .string r, .int .i64 a], .int .i64 q, .bool b]) ∧
  Hid ((b = false ∧ lexT l = none) ∨ (b = true ∧ a = p ∧ ∃ n : Nat, q = ((p + n : Nat) : Int) ∧ lexT l = some (k, r.data.toList, n)))

theorem lexEnd {R : Ending → World → Prop} {a : Act} {w : World} {x y z v u : Value} {n : Nat} (hd : a.defers = []) (h4 : a.tmps.getD 4 undef = .pointer (some ⟨n, 0, none⟩)) (h5 : a.tmps.getD 5 undef = v) (h6 : a.tmps.getD 6 undef = u) (hg : w.heap[n]? = some (.cells #[x, y, z] 44 (0, 0)))
    (hR : R (.returned (.tuple #[.agg #[x, y, z], v, u])) w) : bodyPost Tryd.prog Tryd.f19 R .ret a w := by
  subst h5
  subst h6
  exact bodyPost_ret (results_cell_row3 rfl _ _ n 44 #[x, y, z] (0, 0) _ h4 hg Tryd.underlying44 rfl info_tok_size) hd hR

theorem ext_sfx (s : ByteArray) (p n : Nat) : (s.extract p (p + n)).data.toList = (sfx s p).take n := by
  rw [ext_list]
  unfold sfx
  rw [List.drop_take]
  congr 1
  omega

theorem lex_end (s : ByteArray) (p : Nat) (w : World) (hs : s.size ≤ 1048576) (hp : p ≤ 1048576) (hge : s.size ≤ p) : Calls Tryd.prog 19 #[.string s, .int .i64 (p : Int)] w fun e w' => e = .returned (.tuple #[.agg #[.int .i64 6, .string ⟨#[]⟩, .int .i64 (p : Int)], .int .i64 (p : Int), .bool true]) ∧ Below w.heap.size w w' := by
  go_enter Tryd.func19, Tryd.ntmps19
  go_wp2_with fail
  exact lexEnd rfl rfl rfl rfl (two_blocks (below_refl _)).1 ⟨rfl, Joins.below_alloc2 w _ _⟩

set_option maxHeartbeats 1000000 in
set_option maxRecDepth 20000 in
theorem lex_A (s : ByteArray) (p : Nat) (w : World) (hs : s.size ≤ 1048576) (hp : p < s.size) (HS : Hid (sfx s p = s[p] :: sfx s (p + 1))) (h32 : s[p] = 32) : Calls Tryd.prog 19 #[.string s, .int .i64 (p : Int)] w fun e w' => GotLex (sfx s p) p e ∧ Below w.heap.size w w' := by
  have e1 : ((s[p].toNat : Int) == 32) = true := by rw [h32]; rfl
  have k1 : ((s[p].toNat : Int) == 46) = false := by rw [h32]; rfl
  have i0 : (p : Int) + 1 ≤ s.size := by omega
  have HG : Hid (GotLex (sfx s p) p (.returned (.tuple #[.agg #[.int .i64 5, .string (s.extract p (p + 1)), .int .i64 (p : Int)], .int .i64 ((p + 1 : Nat) : Int), .bool true]))) :=
    ⟨5, _, _, _, true, rfl, Or.inr ⟨rfl, rfl, 1, rfl, by rw [HS.out, h32, lex_blank, ext_sfx, HS.out, h32]; rfl⟩⟩
  have H32 := Lib.hid h32
  clear h32 HS
  go_enter Tryd.func19, Tryd.ntmps19
  go_wp2_with fail
  exact lexEnd rfl rfl rfl rfl (two_blocks (below_refl _)).1 ⟨HG.out, Joins.below_alloc2 w _ _⟩

set_option maxHeartbeats 1000000 in
set_option maxRecDepth 20000 in
theorem lex_B (s : ByteArray) (p : Nat) (w : World) (hs : s.size ≤ 1048576) (hp : p < s.size) (HS : Hid (sfx s p = s[p] :: sfx s (p + 1))) (h34 : s[p] = 34) : Calls Tryd.prog 19 #[.string s, .int .i64 (p : Int)] w fun e w' => GotLex (sfx s p) p e ∧ Below w.heap.size w w' := by
  have e1 : ((s[p].toNat : Int) == 32) = false := by rw [h34]; rfl
  have f1 : ((s[p].toNat : Int) == 34) = true := by rw [h34]; rfl
  have k1 : ((s[p].toNat : Int) == 46) = false := by rw [h34]; rfl
  have H34 := Lib.hid h34
  clear h34
  go_enter Tryd.func19, Tryd.ntmps19
  go_wp2_with fail
  refine (l04Quoted_any s p _ hs (by omega)).mono ?_
  rintro e w1 ⟨⟨r, rfl, hr⟩, b1⟩
  obtain ⟨g0, g1⟩ := two_blocks b1
  have B1 := Lib.hid (below_trans (Joins.below_alloc2 w _ _) b1)
  have HR := Lib.hid hr
  have G0 := Lib.hid g0
  obtain ⟨c0, c1, c2, d0, d1, d2⟩ := three_cells g0
  obtain ⟨m0, m1, m2, q0, q1, q2⟩ := three_cells g1
  clear g0 g1 hr b1
  have hG : GotLex (sfx s p) p (.returned (.tuple #[.agg #[.int .i64 3, .string r, .int .i64 (p : Int)], .int .i64 (qLen (unq (sfx s (p + 1))) (p + 1)), .bool (unq (sfx s (p + 1))).isSome])) := by
    cases hu : unq (sfx s (p + 1)) with
    | none => exact ⟨3, r, _, _, false, rfl, Or.inl ⟨rfl, by rw [HS.out, H34.out, lex_text, hu]; rfl⟩⟩
    | some y =>
      refine ⟨3, r, _, _, true, rfl, Or.inr ⟨rfl, rfl, y.2 + 1, ?_, ?_⟩⟩
      · show ((y.2 + (p + 1) : Nat) : Int) = _
        congr 1; omega
      · rw [HS.out, H34.out, lex_text, hu, HR.out, hu]
        rfl
  have HG := Lib.hid hG
  clear hG HS
  generalize qLen (unq (sfx s (p + 1))) (p + 1) = q at *
  generalize (unq (sfx s (p + 1))).isSome = b at *
  go_wp2_with fail
  exact lexEnd rfl rfl rfl rfl (row3_set ((heap_setCell_other _ _ _ _ (by simp)).trans ((heap_setCell_other _ _ _ _ (by simp)).trans G0.out))) ⟨HG.out, row3_below ((B1.out.setCell (p := ⟨w.heap.size + 1, 0, none⟩) (by simp) _).setCell (p := ⟨w.heap.size + 1, 1, none⟩) (by simp) _) (Nat.le_refl _)⟩

set_option maxHeartbeats 1000000 in
set_option maxRecDepth 20000 in
theorem lex_N (s : ByteArray) (p : Nat) (w : World) (hs : s.size ≤ 1048576) (hp : p < s.size) (HS : Hid (sfx s p = s[p] :: sfx s (p + 1))) (n1 : s[p] ≠ 32) (n2 : s[p] ≠ 34) (hN : (isLet s[p].toNat || s[p].toNat == 37) = true) : Calls Tryd.prog 19 #[.string s, .int .i64 (p : Int)] w fun e w' => GotLex (sfx s p) p e ∧ Below w.heap.size w w' := by
  have e1 : ((s[p].toNat : Int) == 32) = false := by
    rw [beq_eq_false_iff_ne]; intro h; exact n1 (UInt8.toNat_inj.1 (by show _ = 32; omega))
  have f1 : ((s[p].toNat : Int) == 34) = false := by
    rw [beq_eq_false_iff_ne]; intro h; exact n2 (UInt8.toNat_inj.1 (by show _ = 34; omega))
  have HN1 := Lib.hid n1
  have HN2 := Lib.hid n2
  have HN := Lib.hid hN
  clear n1 n2 hN
  have k1 : ((s[p].toNat : Int) == 46) = false := by
    rw [beq_eq_false_iff_ne]; intro h
    have h2 : s[p].toNat = 46 := by omega
    have h3 := HN.out
    rw [h2] at h3
    exact absurd h3 (by decide)
  obtain ⟨n, hn⟩ : ∃ n, p + 1 + runN alnum (sfx s (p + 1)) = n := ⟨_, rfl⟩
  have HC : Hid (∀ W, Calls Tryd.prog 37 #[.string s, .int .i64 ((p + 1 : Nat) : Int)] W fun e w' => e = .returned (.int .i64 (n : Int)) ∧ W = w') := fun W => by rw [← hn]; exact l05Run_any _ _ W hs (by omega)
  have h1 : p + 1 ≤ n := by omega
  have h2 : n ≤ s.size := by have := runN_le alnum s (p + 1) (by omega); omega
  have HG : Hid (GotLex (sfx s p) p (.returned (.tuple #[.agg #[.int .i64 1, .string (s.extract p n), .int .i64 (p : Int)], .int .i64 (n : Int), .bool true]))) := by
    have e : n = p + nameN (sfx s (p + 1)) := by rw [← hn]; show _ = p + (1 + runN alnum _); omega
    refine ⟨1, _, _, _, true, rfl, Or.inr ⟨rfl, rfl, nameN (sfx s (p + 1)), by rw [e], ?_⟩⟩
    rw [HS.out, lex_name HN1.out HN2.out HN.out, e, ext_sfx, HS.out]
  clear hn HS HN1 HN2
  have i0 : (p : Int) ≤ n := by omega
  have i1 : (n : Int) ≤ s.size := by omega
  rcases eqForms (s[p].toNat : Int) 37 with ⟨j1, j2, j3⟩ | ⟨j1, j2, j3⟩ <;> cases hL : isLet s[p].toNat
  rotate_left 2
  · exfalso; have h5 := HN.out; rw [hL] at h5; have h6 := j3.out; simp at h5; omega
  all_goals
    go_enter Tryd.func19, Tryd.ntmps19
    go_wp2_with fail
    refine (l02Letter_any _ _).mono ?_
    rintro e w' ⟨rfl, rfl⟩
    rw [hL]
    go_wp2_with fail
    refine (HC.out _).mono ?_
    rintro e w' ⟨rfl, rfl⟩
    go_wp2_with fail
    exact lexEnd rfl rfl rfl rfl (two_blocks (below_refl _)).1 ⟨HG.out, Joins.below_alloc2 w _ _⟩

set_option maxHeartbeats 1000000 in
set_option maxRecDepth 20000 in
theorem lex_D (s : ByteArray) (p : Nat) (w : World) (hs : s.size ≤ 1048576) (hp : p < s.size) (HS : Hid (sfx s p = s[p] :: sfx s (p + 1))) (n1 : s[p] ≠ 32) (n2 : s[p] ≠ 34) (hN : (isLet s[p].toNat || s[p].toNat == 37) = false) (hc : (isDig s[p].toNat || (s[p].toNat == 46 && isDig ((sfx s (p + 1)).headD 0).toNat)) = true) : Calls Tryd.prog 19 #[.string s, .int .i64 (p : Int)] w fun e w' => GotLex (sfx s p) p e ∧ Below w.heap.size w w' := by
  have e1 : ((s[p].toNat : Int) == 32) = false := by
    rw [beq_eq_false_iff_ne]; intro h; exact n1 (UInt8.toNat_inj.1 (by show _ = 32; omega))
  have f1 : ((s[p].toNat : Int) == 34) = false := by
    rw [beq_eq_false_iff_ne]; intro h; exact n2 (UInt8.toNat_inj.1 (by show _ = 34; omega))
  have HN1 := Lib.hid n1
  have HN2 := Lib.hid n2
  have HN := Lib.hid hN
  clear n1 n2 hN
  have hL : isLet s[p].toNat = false := by
    cases h : isLet s[p].toNat
    · rfl
    · have hN := HN.out; rw [h] at hN; cases hN
  have j1 : ((s[p].toNat : Int) == 37) = false := by
    have hN := HN.out
    rw [hL, Bool.false_or, beq_eq_false_iff_ne] at hN
    rw [beq_eq_false_iff_ne]; omega
  have HCC := Lib.hid hc
  obtain ⟨k, hk⟩ : ∃ k, p + runN NM.dg (sfx s p) = k := ⟨_, rfl⟩
  have HC : Hid (∀ W, Calls Tryd.prog 38 #[.string s, .int .i64 (p : Int)] W fun e w' => e = .returned (.int .i64 (k : Int)) ∧ W = w') := fun W => by rw [← hk]; exact l05Digits_any _ _ W hs (by omega)
  have hkp : p ≤ k := by omega
  have hks : k ≤ s.size := by have := runN_le NM.dg s p (by omega); omega
  have HAT := Lib.hid (numN_at s p k (by omega) hk.symm)
  have HGG : Hid (∀ n : Nat, p + numN (sfx s p) = n → GotLex (sfx s p) p (.returned (.tuple #[.agg #[.int .i64 2, .string (s.extract p n), .int .i64 (p : Int)], .int .i64 (n : Int), .bool true]))) := fun n e => by
    refine ⟨2, _, _, _, true, rfl, Or.inr ⟨rfl, rfl, numN (sfx s p), by rw [e], ?_⟩⟩
    rw [← e, ext_sfx, HS.out]
    exact lex_num HN1.out HN2.out HN.out hc
  clear hk HN HN1 HN2
  have hd0 : (p : Int) ≤ k := by omega
  have hd1 : (k : Int) ≤ s.size := by omega
  have hdot : (isDig s[p].toNat = true ∧ ((s[p].toNat : Int) == 46) = false) ∨ (isDig s[p].toNat = false ∧ ((s[p].toNat : Int) == 46) = true ∧ ∃ h : p + 1 < s.size, isDig s[p + 1].toNat = true) := by
    cases hD : isDig s[p].toNat
    · right
      rw [hD, Bool.false_or, Bool.and_eq_true, beq_iff_eq] at hc
      refine ⟨rfl, by rw [beq_iff_eq]; omega, ?_⟩
      by_cases h : p + 1 < s.size
      · refine ⟨h, ?_⟩
        have := hc.2
        rw [sfx_lt h] at this
        exact this
      · have := hc.2
        rw [sfx_ge (by omega)] at this
        exact absurd this (by decide)
    · left
      refine ⟨rfl, ?_⟩
      rw [beq_eq_false_iff_ne]; intro h
      have h2 : s[p].toNat = 46 := by omega
      rw [h2] at hD
      exact absurd hD (by decide)
  clear hc HCC HS
  by_cases hlt : k < s.size
  · have hlt2 : (k : Int) < s.size := by omega
    rcases eqForms (s[k].toNat : Int) 46 with ⟨x1, x2, x3⟩ | ⟨x1, x2, x3⟩
    · have hck : s[k] = 46 := UInt8.toNat_inj.1 (by have := x3.out; show _ = 46; omega)
      obtain ⟨n, hn⟩ : ∃ n, k + 1 + runN NM.dg (sfx s (k + 1)) = n := ⟨_, rfl⟩
      have HC2 : Hid (∀ W, Calls Tryd.prog 38 #[.string s, .int .i64 ((k + 1 : Nat) : Int)] W fun e w' => e = .returned (.int .i64 (n : Int)) ∧ W = w') := fun W => by rw [← hn]; exact l05Digits_any _ _ W hs (by omega)
      have y0 : n ≤ s.size := by have := runN_le NM.dg s (k + 1) (by omega); omega
      have y1 : (p : Int) ≤ n := by omega
      have y2 : (n : Int) ≤ s.size := by omega
      have HG := Lib.hid (HGG.out n (by rw [HAT.out, dif_pos hlt, if_pos hck, hn]))
      clear hn HGG HAT hck
      rcases hdot with ⟨hD, k1⟩ | ⟨hD, k1, hs1, hD2⟩
      · go_enter Tryd.func19, Tryd.ntmps19
        go_wp2_with fail
        refine (l02Letter_any _ _).mono ?_
        rintro e w' ⟨rfl, rfl⟩
        rw [hL]
        go_wp2_with fail
        refine (l01Digit_any _ _).mono ?_
        rintro e w' ⟨rfl, rfl⟩
        rw [hD]
        go_wp2_with fail
        refine (HC.out _).mono ?_
        rintro e w' ⟨rfl, rfl⟩
        go_wp2_with fail
        refine (HC2.out _).mono ?_
        rintro e w' ⟨rfl, rfl⟩
        go_wp2_with fail
        exact lexEnd rfl rfl rfl rfl (two_blocks (below_refl _)).1 ⟨HG.out, Joins.below_alloc2 w _ _⟩
      · have hs2 : (p : Int) + 1 < s.size := by omega
        go_enter Tryd.func19, Tryd.ntmps19
        go_wp2_with fail
        refine (l01Digit_any _ _).mono ?_
        rintro e w' ⟨rfl, rfl⟩
        rw [hD2]
        go_wp2_with fail
        refine (l02Letter_any _ _).mono ?_
        rintro e w' ⟨rfl, rfl⟩
        rw [hL]
        go_wp2_with fail
        refine (l01Digit_any _ _).mono ?_
        rintro e w' ⟨rfl, rfl⟩
        rw [hD]
        go_wp2_with fail
        refine (HC.out _).mono ?_
        rintro e w' ⟨rfl, rfl⟩
        go_wp2_with fail
        refine (HC2.out _).mono ?_
        rintro e w' ⟨rfl, rfl⟩
        go_wp2_with fail
        exact lexEnd rfl rfl rfl rfl (two_blocks (below_refl _)).1 ⟨HG.out, Joins.below_alloc2 w _ _⟩
    · have hck : ¬ s[k] = 46 := fun h => by have := x3.out; rw [h] at this; exact this rfl
      have HG := Lib.hid (HGG.out k (by rw [HAT.out, dif_pos hlt, if_neg hck]))
      clear HGG HAT hck
      rcases hdot with ⟨hD, k1⟩ | ⟨hD, k1, hs1, hD2⟩
      · go_enter Tryd.func19, Tryd.ntmps19
        go_wp2_with fail
        refine (l02Letter_any _ _).mono ?_
        rintro e w' ⟨rfl, rfl⟩
        rw [hL]
        go_wp2_with fail
        refine (l01Digit_any _ _).mono ?_
        rintro e w' ⟨rfl, rfl⟩
        rw [hD]
        go_wp2_with fail
        refine (HC.out _).mono ?_
        rintro e w' ⟨rfl, rfl⟩
        go_wp2_with fail
        exact lexEnd rfl rfl rfl rfl (two_blocks (below_refl _)).1 ⟨HG.out, Joins.below_alloc2 w _ _⟩
      · have hs2 : (p : Int) + 1 < s.size := by omega
        go_enter Tryd.func19, Tryd.ntmps19
        go_wp2_with fail
        refine (l01Digit_any _ _).mono ?_
        rintro e w' ⟨rfl, rfl⟩
        rw [hD2]
        go_wp2_with fail
        refine (l02Letter_any _ _).mono ?_
        rintro e w' ⟨rfl, rfl⟩
        rw [hL]
        go_wp2_with fail
        refine (l01Digit_any _ _).mono ?_
        rintro e w' ⟨rfl, rfl⟩
        rw [hD]
        go_wp2_with fail
        refine (HC.out _).mono ?_
        rintro e w' ⟨rfl, rfl⟩
        go_wp2_with fail
        exact lexEnd rfl rfl rfl rfl (two_blocks (below_refl _)).1 ⟨HG.out, Joins.below_alloc2 w _ _⟩
  · have hlt2 : ¬ (k : Int) < s.size := by omega
    have HG := Lib.hid (HGG.out k (by rw [HAT.out, dif_neg hlt]))
    clear HGG HAT
    rcases hdot with ⟨hD, k1⟩ | ⟨hD, k1, hs1, hD2⟩
    · go_enter Tryd.func19, Tryd.ntmps19
      go_wp2_with fail
      refine (l02Letter_any _ _).mono ?_
      rintro e w' ⟨rfl, rfl⟩
      rw [hL]
      go_wp2_with fail
      refine (l01Digit_any _ _).mono ?_
      rintro e w' ⟨rfl, rfl⟩
      rw [hD]
      go_wp2_with fail
      refine (HC.out _).mono ?_
      rintro e w' ⟨rfl, rfl⟩
      go_wp2_with fail
      exact lexEnd rfl rfl rfl rfl (two_blocks (below_refl _)).1 ⟨HG.out, Joins.below_alloc2 w _ _⟩
    · have hs2 : (p : Int) + 1 < s.size := by omega
      go_enter Tryd.func19, Tryd.ntmps19
      go_wp2_with fail
      refine (l01Digit_any _ _).mono ?_
      rintro e w' ⟨rfl, rfl⟩
      rw [hD2]
      go_wp2_with fail
      refine (l02Letter_any _ _).mono ?_
      rintro e w' ⟨rfl, rfl⟩
      rw [hL]
      go_wp2_with fail
      refine (l01Digit_any _ _).mono ?_
      rintro e w' ⟨rfl, rfl⟩
      rw [hD]
      go_wp2_with fail
      refine (HC.out _).mono ?_
      rintro e w' ⟨rfl, rfl⟩
      go_wp2_with fail
      exact lexEnd rfl rfl rfl rfl (two_blocks (below_refl _)).1 ⟨HG.out, Joins.below_alloc2 w _ _⟩

set_option maxHeartbeats 1000000 in
set_option maxRecDepth 20000 in
theorem lex_S (s : ByteArray) (p : Nat) (w : World) (hs : s.size ≤ 1048576) (hp : p < s.size) (HS : Hid (sfx s p = s[p] :: sfx s (p + 1))) (n1 : s[p] ≠ 32) (n2 : s[p] ≠ 34) (hN : (isLet s[p].toNat || s[p].toNat == 37) = false) (hc : (isDig s[p].toNat || (s[p].toNat == 46 && isDig ((sfx s (p + 1)).headD 0).toNat)) = false) : Calls Tryd.prog 19 #[.string s, .int .i64 (p : Int)] w fun e w' => GotLex (sfx s p) p e ∧ Below w.heap.size w w' := by
  have e1 : ((s[p].toNat : Int) == 32) = false := by
    rw [beq_eq_false_iff_ne]; intro h; exact n1 (UInt8.toNat_inj.1 (by show _ = 32; omega))
  have f1 : ((s[p].toNat : Int) == 34) = false := by
    rw [beq_eq_false_iff_ne]; intro h; exact n2 (UInt8.toNat_inj.1 (by show _ = 34; omega))
  have HN1 := Lib.hid n1
  have HN2 := Lib.hid n2
  have HN := Lib.hid hN
  clear n1 n2 hN
  have hL : isLet s[p].toNat = false := by
    cases h : isLet s[p].toNat
    · rfl
    · have hN := HN.out; rw [h] at hN; cases hN
  have j1 : ((s[p].toNat : Int) == 37) = false := by
    have hN := HN.out
    rw [hL, Bool.false_or, beq_eq_false_iff_ne] at hN
    rw [beq_eq_false_iff_ne]; omega
  have hD : isDig s[p].toNat = false := by
    cases h : isDig s[p].toNat
    · rfl
    · rw [h] at hc; cases hc
  have HV : Hid (lexT (sfx s p) = if signN (sfx s p) = 0 then none else some (4, (sfx s p).take (signN (sfx s p)), signN (sfx s p))) := by
    show _ = _
    rw [HS.out]
    exact lex_sign HN1.out HN2.out HN.out hc
  have HGG : Hid (∀ n : Nat, (signN (sfx s p) = n ∧ 1 ≤ n ∧ p + n ≤ s.size) → GotLex (sfx s p) p (.returned (.tuple #[.agg #[.int .i64 4, .string (s.extract p (p + n)), .int .i64 (p : Int)], .int .i64 ((p + n : Nat) : Int), .bool true]))) := fun n e => by
    refine ⟨4, _, _, _, true, rfl, Or.inr ⟨rfl, rfl, n, rfl, ?_⟩⟩
    rw [HV.out, e.1, if_neg (by omega), ext_sfx]
  have hway : (isTwo (sfx s p) = true ∧ (signN (sfx s p) = 2 ∧ 1 ≤ 2 ∧ p + 2 ≤ s.size)) ∨ (isTwo (sfx s p) = false ∧ ones.contains s[p] = true ∧ (signN (sfx s p) = 1 ∧ 1 ≤ 1 ∧ p + 1 ≤ s.size)) ∨ (isTwo (sfx s p) = false ∧ ones.contains s[p] = false ∧ signN (sfx s p) = 0) := by
    cases hT : isTwo (sfx s p)
    · right
      have hh : (sfx s p).headD 0 = s[p] := by rw [HS.out]; rfl
      cases hO : ones.contains s[p]
      · right
        refine ⟨rfl, rfl, ?_⟩
        unfold signN
        rw [hT, if_neg (by decide), hh, hO]; rfl
      · left
        refine ⟨rfl, rfl, ?_, by omega, by omega⟩
        unfold signN
        rw [hT, if_neg (by decide), hh, hO]; rfl
    · left
      refine ⟨rfl, ?_, by omega, ?_⟩
      · unfold signN; rw [hT]; rfl
      · have := isTwo_len hT
        unfold sfx at this
        rw [List.length_drop, ← ba_size] at this
        omega
  have hdot : ((s[p].toNat : Int) == 46) = false ∨ (((s[p].toNat : Int) == 46) = true ∧ s.size ≤ p + 1) ∨ (((s[p].toNat : Int) == 46) = true ∧ ∃ h : p + 1 < s.size, isDig s[p + 1].toNat = false) := by
    rcases eqForms (s[p].toNat : Int) 46 with ⟨k1, k2, k3⟩ | ⟨k1, k2, k3⟩
    · right
      by_cases h : p + 1 < s.size
      · right
        refine ⟨k1, h, ?_⟩
        rw [hD, Bool.false_or, sfx_lt h] at hc
        cases hx : isDig s[p + 1].toNat
        · rfl
        · have h4 : s[p].toNat = 46 := by have := k3.out; omega
          rw [h4] at hc
          have h5 : isDig ((s[p + 1] :: sfx s (p + 1 + 1)).headD 0).toNat = true := hx
          rw [h5] at hc
          cases hc
      · left; exact ⟨k1, by omega⟩
    · left; exact k1
  clear hc HS HN HN1 HN2
  rcases hdot with k1 | ⟨k1, hs1⟩ | ⟨k1, hs1, hD2⟩
  · go_enter Tryd.func19, Tryd.ntmps19
    go_wp2_with fail
    refine (l02Letter_any _ _).mono ?_
    rintro e w' ⟨rfl, rfl⟩
    rw [hL]
    go_wp2_with fail
    refine (l01Digit_any _ _).mono ?_
    rintro e w' ⟨rfl, rfl⟩
    rw [hD]
    go_wp2_with fail
    refine (l05Two_any s p _ hs (by omega)).mono ?_
    rintro e w1 ⟨rfl, b1⟩
    obtain ⟨g0, g1⟩ := two_blocks b1
    have B1 := Lib.hid (below_trans (Joins.below_alloc2 w _ _) b1)
    have G0 := Lib.hid g0
    obtain ⟨c0, c1, c2, d0, d1, d2⟩ := three_cells g0
    obtain ⟨m0, m1, m2, q0, q1, q2⟩ := three_cells g1
    clear g0 g1 b1
    rcases hway with ⟨hT, hn⟩ | ⟨hT, hO, hn⟩ | ⟨hT, hO, hn⟩
    · have y0 : (p : Int) + 2 ≤ s.size := by omega
      have HG := HGG.out _ hn
      rw [hT]
      clear HGG
      go_wp2_with fail
      exact lexEnd rfl rfl rfl rfl (row3_set ((heap_setCell_other _ _ _ _ (by simp)).trans ((heap_setCell_other _ _ _ _ (by simp)).trans G0.out))) ⟨HG, row3_below ((B1.out.setCell (p := ⟨w.heap.size + 1, 0, none⟩) (by simp) _).setCell (p := ⟨w.heap.size + 1, 1, none⟩) (by simp) _) (Nat.le_refl _)⟩
    · have y0 : (p : Int) + 1 ≤ s.size := by omega
      have HG := HGG.out _ hn
      rw [hT]
      clear HGG
      go_wp2_with fail
      refine (l05Sign_any _ _).mono ?_
      rintro e w' ⟨rfl, rfl⟩
      rw [hO]
      go_wp2_with fail
      exact lexEnd rfl rfl rfl rfl (row3_set ((heap_setCell_other _ _ _ _ (by simp)).trans ((heap_setCell_other _ _ _ _ (by simp)).trans G0.out))) ⟨HG, row3_below ((B1.out.setCell (p := ⟨w.heap.size + 1, 0, none⟩) (by simp) _).setCell (p := ⟨w.heap.size + 1, 1, none⟩) (by simp) _) (Nat.le_refl _)⟩
    · rw [hT]
      clear HGG
      go_wp2_with fail
      refine (l05Sign_any _ _).mono ?_
      rintro e w' ⟨rfl, rfl⟩
      rw [hO]
      go_wp2_with fail
      exact lexEnd rfl rfl rfl rfl (row3_set G0.out) ⟨⟨0, _, 0, 0, false, rfl, Or.inl ⟨rfl, by rw [HV.out, if_pos hn]⟩⟩, row3_below B1.out (Nat.le_refl _)⟩
  · have hs2 : ¬ (p : Int) + 1 < s.size := by omega
    go_enter Tryd.func19, Tryd.ntmps19
    go_wp2_with fail
    refine (l02Letter_any _ _).mono ?_
    rintro e w' ⟨rfl, rfl⟩
    rw [hL]
    go_wp2_with fail
    refine (l01Digit_any _ _).mono ?_
    rintro e w' ⟨rfl, rfl⟩
    rw [hD]
    go_wp2_with fail
    refine (l05Two_any s p _ hs (by omega)).mono ?_
    rintro e w1 ⟨rfl, b1⟩
    obtain ⟨g0, g1⟩ := two_blocks b1
    have B1 := Lib.hid (below_trans (Joins.below_alloc2 w _ _) b1)
    have G0 := Lib.hid g0
    obtain ⟨c0, c1, c2, d0, d1, d2⟩ := three_cells g0
    obtain ⟨m0, m1, m2, q0, q1, q2⟩ := three_cells g1
    clear g0 g1 b1
    rcases hway with ⟨hT, hn⟩ | ⟨hT, hO, hn⟩ | ⟨hT, hO, hn⟩
    · exfalso
      have := hn.2.2
      omega
    · have y0 : (p : Int) + 1 ≤ s.size := by omega
      have HG := HGG.out _ hn
      rw [hT]
      clear HGG
      go_wp2_with fail
      refine (l05Sign_any _ _).mono ?_
      rintro e w' ⟨rfl, rfl⟩
      rw [hO]
      go_wp2_with fail
      exact lexEnd rfl rfl rfl rfl (row3_set ((heap_setCell_other _ _ _ _ (by simp)).trans ((heap_setCell_other _ _ _ _ (by simp)).trans G0.out))) ⟨HG, row3_below ((B1.out.setCell (p := ⟨w.heap.size + 1, 0, none⟩) (by simp) _).setCell (p := ⟨w.heap.size + 1, 1, none⟩) (by simp) _) (Nat.le_refl _)⟩
    · rw [hT]
      clear HGG
      go_wp2_with fail
      refine (l05Sign_any _ _).mono ?_
      rintro e w' ⟨rfl, rfl⟩
      rw [hO]
      go_wp2_with fail
      exact lexEnd rfl rfl rfl rfl (row3_set G0.out) ⟨⟨0, _, 0, 0, false, rfl, Or.inl ⟨rfl, by rw [HV.out, if_pos hn]⟩⟩, row3_below B1.out (Nat.le_refl _)⟩
  · have hs2 : (p : Int) + 1 < s.size := by omega
    go_enter Tryd.func19, Tryd.ntmps19
    go_wp2_with fail
    refine (l01Digit_any _ _).mono ?_
    rintro e w' ⟨rfl, rfl⟩
    rw [hD2]
    go_wp2_with fail
    refine (l02Letter_any _ _).mono ?_
    rintro e w' ⟨rfl, rfl⟩
    rw [hL]
    go_wp2_with fail
    refine (l01Digit_any _ _).mono ?_
    rintro e w' ⟨rfl, rfl⟩
    rw [hD]
    go_wp2_with fail
    refine (l05Two_any s p _ hs (by omega)).mono ?_
    rintro e w1 ⟨rfl, b1⟩
    obtain ⟨g0, g1⟩ := two_blocks b1
    have B1 := Lib.hid (below_trans (Joins.below_alloc2 w _ _) b1)
    have G0 := Lib.hid g0
    obtain ⟨c0, c1, c2, d0, d1, d2⟩ := three_cells g0
    obtain ⟨m0, m1, m2, q0, q1, q2⟩ := three_cells g1
    clear g0 g1 b1
    rcases hway with ⟨hT, hn⟩ | ⟨hT, hO, hn⟩ | ⟨hT, hO, hn⟩
    · have y0 : (p : Int) + 2 ≤ s.size := by omega
      have HG := HGG.out _ hn
      rw [hT]
      clear HGG
      go_wp2_with fail
      exact lexEnd rfl rfl rfl rfl (row3_set ((heap_setCell_other _ _ _ _ (by simp)).trans ((heap_setCell_other _ _ _ _ (by simp)).trans G0.out))) ⟨HG, row3_below ((B1.out.setCell (p := ⟨w.heap.size + 1, 0, none⟩) (by simp) _).setCell (p := ⟨w.heap.size + 1, 1, none⟩) (by simp) _) (Nat.le_refl _)⟩
    · have y0 : (p : Int) + 1 ≤ s.size := by omega
      have HG := HGG.out _ hn
      rw [hT]
      clear HGG
      go_wp2_with fail
      refine (l05Sign_any _ _).mono ?_
      rintro e w' ⟨rfl, rfl⟩
      rw [hO]
      go_wp2_with fail
      exact lexEnd rfl rfl rfl rfl (row3_set ((heap_setCell_other _ _ _ _ (by simp)).trans ((heap_setCell_other _ _ _ _ (by simp)).trans G0.out))) ⟨HG, row3_below ((B1.out.setCell (p := ⟨w.heap.size + 1, 0, none⟩) (by simp) _).setCell (p := ⟨w.heap.size + 1, 1, none⟩) (by simp) _) (Nat.le_refl _)⟩
    · rw [hT]
      clear HGG
      go_wp2_with fail
      refine (l05Sign_any _ _).mono ?_
      rintro e w' ⟨rfl, rfl⟩
      rw [hO]
      go_wp2_with fail
      exact lexEnd rfl rfl rfl rfl (row3_set G0.out) ⟨⟨0, _, 0, 0, false, rfl, Or.inl ⟨rfl, by rw [HV.out, if_pos hn]⟩⟩, row3_below B1.out (Nat.le_refl _)⟩

theorem l05Lex_any (s : ByteArray) (p : Nat) (w : World) (hs : s.size ≤ 1048576) (hp : p < s.size) : Calls Tryd.prog 19 #[.string s, .int .i64 (p : Int)] w fun e w' => GotLex (sfx s p) p e ∧ Below w.heap.size w w' := by
  have HS : Hid (sfx s p = s[p] :: sfx s (p + 1)) := sfx_lt hp
  by_cases h1 : s[p] = 32
  · exact lex_A s p w hs hp HS h1
  by_cases h2 : s[p] = 34
  · exact lex_B s p w hs hp HS h2
  rcases Bool.eq_false_or_eq_true (isLet s[p].toNat || s[p].toNat == 37) with hN | hN
  · exact lex_N s p w hs hp HS h1 h2 hN
  rcases Bool.eq_false_or_eq_true (isDig s[p].toNat || (s[p].toNat == 46 && isDig ((sfx s (p + 1)).headD 0).toNat)) with hc | hc
  · exact lex_D s p w hs hp HS h1 h2 hN hc
  · exact lex_S s p w hs hp HS h1 h2 hN hc

end Go.Proofs.YtkoagpeeohmokaaDoor
