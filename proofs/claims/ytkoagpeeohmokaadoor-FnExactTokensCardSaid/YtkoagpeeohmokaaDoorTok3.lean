/- Tokens: impl.tokenAt. -/
import Derived.Test.YtkoagpeeohmokaaDoorTok2
import Derived.Lib.SmallJoins
import Derived.Laws.Rows
import Derived.Laws.ResultCell
namespace Go.Proofs.YtkoagpeeohmokaaDoor
open Go.RowKit
set_option linter.unusedVariables false

/-- What the program's tokenAt tells. -/
def GotTok (l : List UInt8) (p : Nat) (e : Ending) : Prop := ∃ (k : Int) (r : ByteArray) (n : Nat), e = .returned (.tuple #[.agg #[.int .i64 k, .string r, .int .i64 (p : Int)], .int .i64 (n : Int)]) ∧
  Hid ((n = 0 ∧ lexT l = none) ∨ (1 ≤ n ∧ lexT l = some (k, r.data.toList, n)))

theorem lex_blank (r : List UInt8) : lexT (32 :: r) = some (5, [32], 1) := rfl

theorem lex_text (r : List UInt8) : lexT (34 :: r) = (unq r).map fun y => (3, y.1, y.2 + 1) := rfl

theorem lex_name {c : UInt8} {r : List UInt8} (h1 : c ≠ 32) (h2 : c ≠ 34) (h : (isLet c.toNat || c.toNat == 37) = true) : lexT (c :: r) = some (1, (c :: r).take (nameN r), nameN r) := by
  unfold lexT; simp only; rw [if_neg h1, if_neg h2, if_pos h]

theorem lex_num {c : UInt8} {r : List UInt8} (h1 : c ≠ 32) (h2 : c ≠ 34) (h : (isLet c.toNat || c.toNat == 37) = false) (h3 : (isDig c.toNat || (c.toNat == 46 && isDig (r.headD 0).toNat)) = true) : lexT (c :: r) = some (2, (c :: r).take (numN (c :: r)), numN (c :: r)) := by
  unfold lexT; simp only; rw [if_neg h1, if_neg h2, h, if_neg (by decide), if_pos h3]

theorem lex_sign {c : UInt8} {r : List UInt8} (h1 : c ≠ 32) (h2 : c ≠ 34) (h : (isLet c.toNat || c.toNat == 37) = false) (h3 : (isDig c.toNat || (c.toNat == 46 && isDig (r.headD 0).toNat)) = false) :
    lexT (c :: r) = if signN (c :: r) = 0 then none else some (4, (c :: r).take (signN (c :: r)), signN (c :: r)) := by
  unfold lexT; simp only; rw [if_neg h1, if_neg h2, h, if_neg (by decide), h3, if_neg (by decide)]

theorem ext_take (t : ByteArray) (n : Nat) : (t.extract 0 n).data.toList = (sfx t 0).take n := by
  rw [ext_list]; rfl

theorem results_cell_row2 {P : Program} {fn : Func} {p u : Tmp} {ty : TypeId} (h : fn.results = #[.cell p ty, .tmp u]) (tmps : Array Value) (w : World) (g : Nat) (t : TypeId) (cs : Array Value) (fr : Nat × Nat) (d : TypeDesc)
    (hp : tmps.getD p undef = .pointer (some ⟨g, 0, none⟩)) (hg : w.heap[g]? = some (.cells cs t fr))
    (hu : P.underlying ty = some d) (hd : (match d with | .struct _ | .array _ _ => true | _ => false) = true) (hi : (P.info? ty).map (·.size) = some cs.size) :
    (results fn tmps).run P w = .ok (.tuple #[.agg cs, tmps.getD u undef]) w := by
  rw [results_cell_tmp h, hp]
  simp [asAddr, run_loadVar_row w g t ty cs fr d hg hu hd hi, Result.andThen]

theorem results_cell_row3 {P : Program} {fn : Func} {p u v : Tmp} {ty : TypeId} (h : fn.results = #[.cell p ty, .tmp u, .tmp v]) (tmps : Array Value) (w : World) (g : Nat) (t : TypeId) (cs : Array Value) (fr : Nat × Nat) (d : TypeDesc)
    (hp : tmps.getD p undef = .pointer (some ⟨g, 0, none⟩)) (hg : w.heap[g]? = some (.cells cs t fr))
    (hu : P.underlying ty = some d) (hd : (match d with | .struct _ | .array _ _ => true | _ => false) = true) (hi : (P.info? ty).map (·.size) = some cs.size) :
    (results fn tmps).run P w = .ok (.tuple #[.agg cs, tmps.getD u undef, tmps.getD v undef]) w := by
  have hp' : tmps[p]?.getD undef = .pointer (some ⟨g, 0, none⟩) := by simpa using hp
  simp [results, h, hp', asAddr, run_loadVar_row w g t ty cs fr d hg hu hd hi]

theorem three_cells {W : World} {n : Nat} {a b c : Value} (h : W.heap[n]? = some (.cells #[a, b, c] 44 (0, 0))) :
    W.cell? ⟨n, 0, none⟩ = some a ∧ W.cell? ⟨n, 1, none⟩ = some b ∧ W.cell? ⟨n, 2, none⟩ = some c ∧ W.frozen? ⟨n, 0, none⟩ = false ∧ W.frozen? ⟨n, 1, none⟩ = false ∧ W.frozen? ⟨n, 2, none⟩ = false :=
  ⟨by rw [Lib.cell_of_heap h]; rfl, by rw [Lib.cell_of_heap h]; rfl, by rw [Lib.cell_of_heap h]; rfl, Lib.frozen_of_heap h 0, Lib.frozen_of_heap h 1, Lib.frozen_of_heap h 2⟩

theorem info_tok_size : (Tryd.prog.info? 44).map (·.size) = some 3 := by kernel_rfl

/-- Both cells behind a call that leaves them alone. -/
theorem two_blocks {w W : World} {A B : Obj} (hb : Below ((w.alloc A).alloc B).heap.size ((w.alloc A).alloc B) W) : W.heap[w.heap.size]? = some A ∧ W.heap[w.heap.size + 1]? = some B := by
  have h0 := hb.block w.heap.size (by simp; omega)
  have h1 := hb.block (w.heap.size + 1) (by simp)
  have e : (w.alloc A).heap.size = w.heap.size + 1 := by simp
  refine ⟨h0.trans ?_, h1.trans ?_⟩
  · exact (Below.heap_alloc (w.alloc A) B w.heap.size (by simp)).trans (Go.heap_alloc_new w A)
  · rw [← e]; exact Go.heap_alloc_new _ _

theorem row3_set {V : World} {n : Nat} {a b c x y z : Value} (h : V.heap[n]? = some (.cells #[x, y, z] 44 (0, 0))) :
    (((V.setCell ⟨n, 0, none⟩ a).setCell ⟨n, 1, none⟩ b).setCell ⟨n, 2, none⟩ c).heap[n]? = some (.cells #[a, b, c] 44 (0, 0)) :=
  heap_setCell_same _ _ 2 _ _ _ (heap_setCell_same _ _ 1 _ _ _ (heap_setCell_same _ _ 0 _ _ _ h))

theorem row3_below {w V : World} {n : Nat} {a b c : Value} (h : Below w.heap.size w V) (hn : w.heap.size ≤ n) : Below w.heap.size w (((V.setCell ⟨n, 0, none⟩ a).setCell ⟨n, 1, none⟩ b).setCell ⟨n, 2, none⟩ c) :=
  ((h.setCell (p := ⟨n, 0, none⟩) hn _).setCell (p := ⟨n, 1, none⟩) hn _).setCell (p := ⟨n, 2, none⟩) hn _

theorem tokEnd {R : Ending → World → Prop} {a : Act} {w : World} {x y z v : Value} {n : Nat} (hd : a.defers = []) (h4 : a.tmps.getD 4 undef = .pointer (some ⟨n, 0, none⟩)) (h5 : a.tmps.getD 5 undef = v) (hg : w.heap[n]? = some (.cells #[x, y, z] 44 (0, 0)))
    (hR : R (.returned (.tuple #[.agg #[x, y, z], v])) w) : bodyPost Tryd.prog Tryd.f20 R .ret a w := by
  subst h5
  exact bodyPost_ret (results_cell_row2 rfl _ _ n 44 #[x, y, z] (0, 0) _ h4 hg Tryd.underlying44 rfl info_tok_size) hd hR

theorem headD_sfx (t : ByteArray) : ((sfx t 1).headD 0).toNat = if h : 1 < t.size then t[1].toNat else 0 := by
  split
  · rename_i h; rw [sfx_lt h]; rfl
  · rename_i h; rw [sfx_ge (by omega)]; rfl

set_option maxHeartbeats 1000000 in
set_option maxRecDepth 20000 in
theorem tokenAt_B (s t : ByteArray) (p : Nat) (w : World) (hp : p < s.size) (ht : s.extract p s.size = t) (hz1 : t.size ≤ 1048576) (hz2 : 1 ≤ t.size) (HT : Hid (sfx t 0 = sfx s p)) (HS : Hid (sfx s p = t[0] :: sfx t 1)) (n1 : t[0] ≠ 32) (n2 : t[0] ≠ 34) (hN : (isLet t[0].toNat || t[0].toNat == 37) = true) :
    Calls Tryd.prog 20 #[.string s, .int .i64 (p : Int)] w fun e w' => GotTok (sfx s p) p e ∧ Below w.heap.size w w' := by
  have e1 : ((t[0].toNat : Int) == 32) = false := by
    rw [beq_eq_false_iff_ne]; intro h; exact n1 (UInt8.toNat_inj.1 (by show _ = 32; omega))
  have f1 : ((t[0].toNat : Int) == 34) = false := by
    rw [beq_eq_false_iff_ne]; intro h; exact n2 (UInt8.toNat_inj.1 (by show _ = 34; omega))
  have HN1 := Lib.hid n1
  have HN2 := Lib.hid n2
  clear n1 n2
  have HN := Lib.hid hN; clear hN
  obtain ⟨n, hn⟩ : ∃ n, 1 + runN alnum (sfx t 1) = n := ⟨_, rfl⟩
  have HC : Hid (∀ W, Calls Tryd.prog 43 #[.string t] W fun e w' => e = .returned (.int .i64 (n : Int)) ∧ W = w') := fun W => by rw [← hn]; exact nameLength_any _ W hz1 hz2
  have h1 : 1 ≤ n := by omega
  have h2 : n ≤ t.size := by have := runN_le alnum t 1 hz2; omega
  have HV : Hid (nameN (sfx t 1) = n) := hn
  clear hn
  have hG : GotTok (sfx s p) p (.returned (.tuple #[.agg #[.int .i64 1, .string (t.extract 0 n), .int .i64 (p : Int)], .int .i64 (n : Int)])) :=
    ⟨1, _, n, rfl, Or.inr ⟨h1, by rw [HS.out, lex_name HN1.out HN2.out HN.out, HV.out, ext_take, HT.out, HS.out]⟩⟩
  have HG := Lib.hid hG
  clear hG HT HS HV HN1 HN2
  have i0 : (n : Int) ≤ t.size := by omega
  rcases eqForms (t[0].toNat : Int) 37 with ⟨j1, j2, j3⟩ | ⟨j1, j2, j3⟩ <;> cases hL : isLet t[0].toNat
  rotate_left 2
  · exfalso; have h5 := HN.out; rw [hL] at h5; have h6 := j3.out; simp at h5; omega
  all_goals
    go_enter Tryd.func20, Tryd.ntmps20
    go_wp2_with fail
    refine (isLetter_any _ _).mono ?_
    rintro e w' ⟨rfl, rfl⟩
    rw [hL]
    go_wp2_with fail
    refine (HC.out _).mono ?_
    rintro e w' ⟨rfl, rfl⟩
    go_wp2_with fail
    exact tokEnd rfl rfl rfl (two_blocks (below_refl _)).1 ⟨HG.out, Joins.below_alloc2 w _ _⟩

set_option maxHeartbeats 1000000 in
set_option maxRecDepth 20000 in
theorem tokenAt_C (s t : ByteArray) (p : Nat) (w : World) (hp : p < s.size) (ht : s.extract p s.size = t) (hz1 : t.size ≤ 1048576) (hz2 : 1 ≤ t.size) (HT : Hid (sfx t 0 = sfx s p)) (HS : Hid (sfx s p = t[0] :: sfx t 1)) (n1 : t[0] ≠ 32) (n2 : t[0] ≠ 34) (hN : (isLet t[0].toNat || t[0].toNat == 37) = false) :
    Calls Tryd.prog 20 #[.string s, .int .i64 (p : Int)] w fun e w' => GotTok (sfx s p) p e ∧ Below w.heap.size w w' := by
  have e1 : ((t[0].toNat : Int) == 32) = false := by
    rw [beq_eq_false_iff_ne]; intro h; exact n1 (UInt8.toNat_inj.1 (by show _ = 32; omega))
  have f1 : ((t[0].toNat : Int) == 34) = false := by
    rw [beq_eq_false_iff_ne]; intro h; exact n2 (UInt8.toNat_inj.1 (by show _ = 34; omega))
  have hL : isLet t[0].toNat = false := by
    cases h : isLet t[0].toNat
    · rfl
    · rw [h] at hN; cases hN
  have j1 : ((t[0].toNat : Int) == 37) = false := by
    rw [hL, Bool.false_or, beq_eq_false_iff_ne] at hN
    rw [beq_eq_false_iff_ne]; omega
  have HN1 := Lib.hid n1
  have HN2 := Lib.hid n2
  have HN := Lib.hid hN
  clear n1 n2 hN
  have HH := Lib.hid (headD_sfx t)
  have hlen : (sfx s p).length = t.size := by rw [← HT.out, sfx_zero, ← ba_size]
  -- the number's way
  have HNUM : Hid ((isDig t[0].toNat || (t[0].toNat == 46 && isDig ((sfx t 1).headD 0).toNat)) = true → ∀ W, Calls Tryd.prog 45 #[.string t] W fun e w' => ∃ n : Nat, e = .returned (.int .i64 (n : Int)) ∧ n ≤ t.size ∧ Hid (GotTok (sfx s p) p (.returned (.tuple #[.agg #[.int .i64 2, .string (t.extract 0 n), .int .i64 (p : Int)], .int .i64 (n : Int)]))) ∧ Below W.heap.size W w') := fun hc W => by
    refine (numberLength_any t W hz1).mono ?_
    rintro e w' ⟨rfl, hb⟩
    refine ⟨numN (sfx t 0), rfl, by have := numN_le (sfx t 0); rw [HT.out] at this ⊢; omega, ⟨2, _, numN (sfx t 0), rfl, Or.inr ⟨?_, ?_⟩⟩, hb⟩
    · rw [HT.out, HS.out]; exact numN_pos hc
    · rw [HT.out, HS.out, lex_num HN1.out HN2.out HN.out hc, ext_take, HT.out, HS.out]
  have HSGN : Hid ((isDig t[0].toNat || (t[0].toNat == 46 && isDig ((sfx t 1).headD 0).toNat)) = false → ∀ W, Calls Tryd.prog 46 #[.string t] W fun e w' => ∃ n : Nat, e = .returned (.int .i64 (n : Int)) ∧ n ≤ t.size ∧ Hid (GotTok (sfx s p) p (.returned (.tuple #[.agg #[.int .i64 4, .string (t.extract 0 n), .int .i64 (p : Int)], .int .i64 (n : Int)]))) ∧ Below W.heap.size W w') := fun hc W => by
    refine (signLength_any t W hz1 hz2).mono ?_
    rintro e w' ⟨rfl, hb⟩
    have hv : lexT (sfx s p) = if signN (sfx t 0) = 0 then none else some (4, (t.extract 0 (signN (sfx t 0))).data.toList, signN (sfx t 0)) := by
      rw [ext_take, HT.out, HS.out, lex_sign HN1.out HN2.out HN.out hc]
    refine ⟨signN (sfx t 0), rfl, ?_, ⟨4, _, signN (sfx t 0), rfl, ?_⟩, hb⟩
    · have := signN_le (l := sfx s p) (by rw [HS.out]; simp)
      rw [HT.out]; omega
    · by_cases h : signN (sfx t 0) = 0
      · exact Or.inl ⟨h, by rw [hv, if_pos h]⟩
      · exact Or.inr ⟨by omega, by rw [hv, if_neg h]⟩
  clear HT HS HN HN1 HN2 hlen
  rcases Bool.eq_false_or_eq_true (isDig t[0].toNat || (t[0].toNat == 46 && isDig ((sfx t 1).headD 0).toNat)) with hc | hc
  · have HC := Lib.hid (HNUM.out hc)
    clear HNUM HSGN
    cases hD : isDig t[0].toNat
    · rw [hD, Bool.false_or, Bool.and_eq_true, beq_iff_eq, HH.out] at hc
      have k1 : ((t[0].toNat : Int) == 46) = true := by rw [beq_iff_eq]; omega
      by_cases hs1 : 1 < t.size
      · rw [dif_pos hs1] at hc
        have hD2 := hc.2
        clear hc HH
        have hs2 : (1 : Int) < t.size := by omega
        go_enter Tryd.func20, Tryd.ntmps20
        go_wp2_with fail
        refine (isLetter_any _ _).mono ?_
        rintro e w' ⟨rfl, rfl⟩
        rw [hL]
        go_wp2_with fail
        refine (isDigit_any _ _).mono ?_
        rintro e w' ⟨rfl, rfl⟩
        rw [hD]
        go_wp2_with fail
        refine (isDigit_any _ _).mono ?_
        rintro e w' ⟨rfl, rfl⟩
        rw [hD2]
        go_wp2_with fail
        refine (HC.out _).mono ?_
        rintro e w1 ⟨n, rfl, hn, HG, b1⟩
        obtain ⟨g0, g1⟩ := two_blocks b1
        have B1 := Lib.hid (below_trans (Joins.below_alloc2 w _ _) b1)
        have G0 := Lib.hid g0
        obtain ⟨c0, c1, c2, d0, d1, d2⟩ := three_cells g0
        obtain ⟨m0, m1, m2, q0, q1, q2⟩ := three_cells g1
        clear g0 g1 b1
        have i0 : (n : Int) ≤ t.size := by omega
        go_wp2_with fail
        exact tokEnd rfl rfl rfl (row3_set ((heap_setCell_other _ _ _ _ (by simp)).trans ((heap_setCell_other _ _ _ _ (by simp)).trans G0.out))) ⟨HG.out, row3_below ((B1.out.setCell (p := ⟨w.heap.size + 1, 0, none⟩) (by simp) _).setCell (p := ⟨w.heap.size + 1, 1, none⟩) (by simp) _) (Nat.le_refl _)⟩
      · rw [dif_neg hs1] at hc
        exact absurd hc.2 (by decide)
    · clear hc HH
      go_enter Tryd.func20, Tryd.ntmps20
      go_wp2_with fail
      refine (isLetter_any _ _).mono ?_
      rintro e w' ⟨rfl, rfl⟩
      rw [hL]
      go_wp2_with fail
      refine (isDigit_any _ _).mono ?_
      rintro e w' ⟨rfl, rfl⟩
      rw [hD]
      go_wp2_with fail
      refine (HC.out _).mono ?_
      rintro e w1 ⟨n, rfl, hn, HG, b1⟩
      obtain ⟨g0, g1⟩ := two_blocks b1
      have B1 := Lib.hid (below_trans (Joins.below_alloc2 w _ _) b1)
      have G0 := Lib.hid g0
      obtain ⟨c0, c1, c2, d0, d1, d2⟩ := three_cells g0
      obtain ⟨m0, m1, m2, q0, q1, q2⟩ := three_cells g1
      clear g0 g1 b1
      have i0 : (n : Int) ≤ t.size := by omega
      go_wp2_with fail
      exact tokEnd rfl rfl rfl (row3_set ((heap_setCell_other _ _ _ _ (by simp)).trans ((heap_setCell_other _ _ _ _ (by simp)).trans G0.out))) ⟨HG.out, row3_below ((B1.out.setCell (p := ⟨w.heap.size + 1, 0, none⟩) (by simp) _).setCell (p := ⟨w.heap.size + 1, 1, none⟩) (by simp) _) (Nat.le_refl _)⟩
  · have HC := Lib.hid (HSGN.out hc)
    clear HNUM HSGN
    have hD : isDig t[0].toNat = false := by
      cases h : isDig t[0].toNat
      · rfl
      · rw [h] at hc; cases hc
    rw [hD, Bool.false_or, HH.out] at hc
    rcases eqForms (t[0].toNat : Int) 46 with ⟨k1, k2, k3⟩ | ⟨k1, k2, k3⟩
    · by_cases hs1 : 1 < t.size
      · have hD2 : isDig t[1].toNat = false := by
          rw [dif_pos hs1] at hc
          cases h : isDig t[1].toNat
          · rfl
          · rw [h, Bool.and_true, beq_eq_false_iff_ne] at hc
            have := k3.out
            omega
        have hs2 : (1 : Int) < t.size := by omega
        clear hc HH
        go_enter Tryd.func20, Tryd.ntmps20
        go_wp2_with fail
        refine (isLetter_any _ _).mono ?_
        rintro e w' ⟨rfl, rfl⟩
        rw [hL]
        go_wp2_with fail
        refine (isDigit_any _ _).mono ?_
        rintro e w' ⟨rfl, rfl⟩
        rw [hD]
        go_wp2_with fail
        refine (isDigit_any _ _).mono ?_
        rintro e w' ⟨rfl, rfl⟩
        rw [hD2]
        go_wp2_with fail
        refine (HC.out _).mono ?_
        rintro e w1 ⟨n, rfl, hn, HG, b1⟩
        obtain ⟨g0, g1⟩ := two_blocks b1
        have B1 := Lib.hid (below_trans (Joins.below_alloc2 w _ _) b1)
        have G0 := Lib.hid g0
        obtain ⟨c0, c1, c2, d0, d1, d2⟩ := three_cells g0
        obtain ⟨m0, m1, m2, q0, q1, q2⟩ := three_cells g1
        clear g0 g1 b1
        have i0 : (n : Int) ≤ t.size := by omega
        go_wp2_with fail
        exact tokEnd rfl rfl rfl (row3_set ((heap_setCell_other _ _ _ _ (by simp)).trans ((heap_setCell_other _ _ _ _ (by simp)).trans G0.out))) ⟨HG.out, row3_below ((B1.out.setCell (p := ⟨w.heap.size + 1, 0, none⟩) (by simp) _).setCell (p := ⟨w.heap.size + 1, 1, none⟩) (by simp) _) (Nat.le_refl _)⟩
      · clear hc HH
        have hs2 : ¬ (1 : Int) < t.size := by omega
        go_enter Tryd.func20, Tryd.ntmps20
        go_wp2_with fail
        refine (isLetter_any _ _).mono ?_
        rintro e w' ⟨rfl, rfl⟩
        rw [hL]
        go_wp2_with fail
        refine (isDigit_any _ _).mono ?_
        rintro e w' ⟨rfl, rfl⟩
        rw [hD]
        go_wp2_with fail
        refine (HC.out _).mono ?_
        rintro e w1 ⟨n, rfl, hn, HG, b1⟩
        obtain ⟨g0, g1⟩ := two_blocks b1
        have B1 := Lib.hid (below_trans (Joins.below_alloc2 w _ _) b1)
        have G0 := Lib.hid g0
        obtain ⟨c0, c1, c2, d0, d1, d2⟩ := three_cells g0
        obtain ⟨m0, m1, m2, q0, q1, q2⟩ := three_cells g1
        clear g0 g1 b1
        have i0 : (n : Int) ≤ t.size := by omega
        go_wp2_with fail
        exact tokEnd rfl rfl rfl (row3_set ((heap_setCell_other _ _ _ _ (by simp)).trans ((heap_setCell_other _ _ _ _ (by simp)).trans G0.out))) ⟨HG.out, row3_below ((B1.out.setCell (p := ⟨w.heap.size + 1, 0, none⟩) (by simp) _).setCell (p := ⟨w.heap.size + 1, 1, none⟩) (by simp) _) (Nat.le_refl _)⟩
    · clear hc HH
      go_enter Tryd.func20, Tryd.ntmps20
      go_wp2_with fail
      refine (isLetter_any _ _).mono ?_
      rintro e w' ⟨rfl, rfl⟩
      rw [hL]
      go_wp2_with fail
      refine (isDigit_any _ _).mono ?_
      rintro e w' ⟨rfl, rfl⟩
      rw [hD]
      go_wp2_with fail
      refine (HC.out _).mono ?_
      rintro e w1 ⟨n, rfl, hn, HG, b1⟩
      obtain ⟨g0, g1⟩ := two_blocks b1
      have B1 := Lib.hid (below_trans (Joins.below_alloc2 w _ _) b1)
      have G0 := Lib.hid g0
      obtain ⟨c0, c1, c2, d0, d1, d2⟩ := three_cells g0
      obtain ⟨m0, m1, m2, q0, q1, q2⟩ := three_cells g1
      clear g0 g1 b1
      have i0 : (n : Int) ≤ t.size := by omega
      go_wp2_with fail
      exact tokEnd rfl rfl rfl (row3_set ((heap_setCell_other _ _ _ _ (by simp)).trans ((heap_setCell_other _ _ _ _ (by simp)).trans G0.out))) ⟨HG.out, row3_below ((B1.out.setCell (p := ⟨w.heap.size + 1, 0, none⟩) (by simp) _).setCell (p := ⟨w.heap.size + 1, 1, none⟩) (by simp) _) (Nat.le_refl _)⟩

set_option maxHeartbeats 1000000 in
set_option maxRecDepth 20000 in
theorem tokenAt_A (s : ByteArray) (p : Nat) (w : World) (hs : s.size ≤ 1048576) (hp : p < s.size) (h32 : (s.extract p s.size)[0]'(by simp; omega) = 32 ∨ (s.extract p s.size)[0]'(by simp; omega) = 34) : Calls Tryd.prog 20 #[.string s, .int .i64 (p : Int)] w fun e w' => GotTok (sfx s p) p e ∧ Below w.heap.size w w' := by
  have hz1 : (s.extract p s.size).size ≤ 1048576 := by simp; omega
  have hz2 : 1 ≤ (s.extract p s.size).size := by simp; omega
  have HT : Hid (sfx (s.extract p s.size) 0 = sfx s p) := extract_sfx s p
  have HS : Hid (sfx s p = (s.extract p s.size)[0] :: sfx (s.extract p s.size) 1) := HT.out.symm.trans (sfx_lt (by omega))
  have hlen : (sfx s p).length = (s.extract p s.size).size := by rw [← HT.out, sfx_zero, ← ba_size]
  have HL := Lib.hid hlen; clear hlen
  rcases eqForms ((s.extract p s.size)[0].toNat : Int) 32 with ⟨e1, e2, e3⟩ | ⟨e1, e2, e3⟩
  · have HC : Hid ((s.extract p s.size)[0] = 32) := UInt8.toNat_inj.1 (by have := e3.out; show _ = 32; omega)
    go_enter Tryd.func20, Tryd.ntmps20
    go_wp2_with fail
    refine tokEnd rfl rfl rfl (two_blocks (below_refl _)).1 ⟨⟨5, _, 1, rfl, Or.inr ⟨by omega, ?_⟩⟩, Joins.below_alloc2 w _ _⟩
    rw [HS.out, HC.out, lex_blank, ext_take, HT.out, HS.out, HC.out]
    rfl
  rcases eqForms ((s.extract p s.size)[0].toNat : Int) 34 with ⟨f1, f2, f3⟩ | ⟨f1, f2, f3⟩
  · have HC : Hid ((s.extract p s.size)[0] = 34) := UInt8.toNat_inj.1 (by have := f3.out; show _ = 34; omega)
    go_enter Tryd.func20, Tryd.ntmps20
    go_wp2_with fail
    refine (quoted_any (s.extract p s.size) _ hz1).mono ?_
    rintro e w1 ⟨⟨r, rfl, hr⟩, b1⟩
    obtain ⟨g0, g1⟩ := two_blocks b1
    have B1 := Lib.hid (below_trans (Joins.below_alloc2 w _ _) b1)
    have HR := Lib.hid hr
    have G0 := Lib.hid g0
    obtain ⟨c0, c1, c2, d0, d1, d2⟩ := three_cells g0
    obtain ⟨k0, k1, k2, m0, m1, m2⟩ := three_cells g1
    clear g0 g1 hr b1
    go_wp2_with fail
    have hG : GotTok (sfx s p) p (.returned (.tuple #[.agg #[.int .i64 3, .string r, .int .i64 (p : Int)], .int .i64 (qLen (unq (sfx (s.extract p s.size) 1)) 1)])) := by
      cases hu : unq (sfx (s.extract p s.size) 1) with
      | none => exact ⟨3, r, 0, rfl, Or.inl ⟨rfl, by rw [HS.out, HC.out, lex_text, hu]; rfl⟩⟩
      | some y =>
        refine ⟨3, r, y.2 + 1, rfl, Or.inr ⟨by omega, ?_⟩⟩
        rw [HS.out, HC.out, lex_text, hu, HR.out, hu]
        rfl
    exact tokEnd rfl rfl rfl (row3_set ((heap_setCell_other _ _ _ _ (by simp)).trans G0.out)) ⟨hG, row3_below (B1.out.setCell (p := ⟨w.heap.size + 1, 1, none⟩) (by simp) _) (Nat.le_refl _)⟩
  exfalso
  rcases h32 with h | h
  · exact e3.out (by rw [h]; rfl)
  · exact f3.out (by rw [h]; rfl)

theorem tokenAt_any (s : ByteArray) (p : Nat) (w : World) (hs : s.size ≤ 1048576) (hp : p < s.size) : Calls Tryd.prog 20 #[.string s, .int .i64 (p : Int)] w fun e w' => GotTok (sfx s p) p e ∧ Below w.heap.size w w' := by
  have hz1 : (s.extract p s.size).size ≤ 1048576 := by simp; omega
  have hz2 : 1 ≤ (s.extract p s.size).size := by simp; omega
  have HT : Hid (sfx (s.extract p s.size) 0 = sfx s p) := extract_sfx s p
  have HS : Hid (sfx s p = (s.extract p s.size)[0] :: sfx (s.extract p s.size) 1) := HT.out.symm.trans (sfx_lt (by omega))
  by_cases h1 : (s.extract p s.size)[0]'(by omega) = 32
  · exact tokenAt_A s p w hs hp (Or.inl h1)
  by_cases h2 : (s.extract p s.size)[0]'(by omega) = 34
  · exact tokenAt_A s p w hs hp (Or.inr h2)
  rcases Bool.eq_false_or_eq_true (isLet ((s.extract p s.size)[0]'(by omega)).toNat || ((s.extract p s.size)[0]'(by omega)).toNat == 37) with hN | hN
  · exact tokenAt_B s _ p w hp rfl hz1 hz2 HT HS h1 h2 hN
  · exact tokenAt_C s _ p w hp rfl hz1 hz2 HT HS h1 h2 hN

end Go.Proofs.YtkoagpeeohmokaaDoor
