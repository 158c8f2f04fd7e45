/- impl.SubsBefore and spec.l02SubsBefore; the walk of SubsBefore. -/
import Derived.Test.YtmgailihgeelmaaDoorBefore
import Derived.Test.YtmgailihgeelmaaDoorSubsL
import Derived.StillTailTactics
namespace Go.Proofs.YtmgailihgeelmaaDoor
open Go.RowKit
set_option linter.unusedVariables false

def sbef : List ByteArray → List ByteArray → Bool
  | _, [] => false
  | [], _ :: _ => true
  | a :: r, b :: t => if a = b then sbef r t else bef a b

theorem sbef_nil (l : List ByteArray) : sbef [] l = decide (0 < l.length) := by cases l <;> simp [sbef]

theorem sbef_nil2 (l : List ByteArray) : sbef l [] = false := by cases l <;> rfl

theorem sbef_ne {a b : ByteArray} {r t : List ByteArray} (h : ¬ a = b) : sbef (a :: r) (b :: t) = bef a b := by rw [sbef, if_neg h]

theorem sbef_eq {a b : ByteArray} {r t : List ByteArray} (h : a = b) : sbef (a :: r) (b :: t) = sbef r t := by rw [sbef, if_pos h]

set_option maxRecDepth 8000 in
theorem CompareFunc_any (v v2 : Value) (xs ys : List ByteArray) (w : World) (hT : T10 w) (h : StrsAt w w.heap.size v xs) (h2 : StrsAt w w.heap.size v2 ys) (hl : xs.length ≤ 1048576) (hl2 : ys.length ≤ 1048576) (hz : ∀ x ∈ xs, x.size ≤ 1048576) (hz2 : ∀ x ∈ ys, x.size ≤ 1048576) :
    Calls Tryd.prog 93 #[v, v2, .func (.func 94) #[] #[]] w fun e w' => ∃ c : Int, e = .returned (.int .i64 c) ∧ Hid (decide (c < 0) = sbef xs ys) ∧ Below w.heap.size w w' := by
  obtain ⟨A, c, rfl, hc, hr⟩ := h
  obtain ⟨A2, c2, rfl, hc2, hr2⟩ := h2
  have Z := Lib.hid hz; clear hz
  have Z2 := Lib.hid hz2; clear hz2
  have HT := Lib.hid hT; clear hT
  go_enter Tryd.func93, Tryd.ntmps93
  go_wp2_with fail
  go_loopw [13] (fun i wr => ∃ k : Nat, k ≤ xs.length ∧ k ≤ ys.length ∧ i = .int .i64 k ∧ Below w.heap.size w wr ∧ Hid (sbef xs ys = sbef (xs.drop k) (ys.drop k))) (fun i _ => xs.length - (intOf i).toNat)
  case atStart => exact ⟨0, Nat.zero_le _, Nat.zero_le _, rfl, below_refl _, by show _ = _; simp⟩
  case round =>
    obtain ⟨k, hk, hk2, rfl, hbel, HI⟩ := hrel
    have hbs := hbel.size
    by_cases hlt : k < xs.length
    · by_cases hlt2 : k < ys.length
      · obtain ⟨ad, rfl, _, hcell⟩ := (hr.below hbel).strAt hlt
        obtain ⟨ad2, rfl, _, hcell2⟩ := (hr2.below hbel).strAt hlt2
        have HD := Lib.hid (List.drop_eq_getElem_cons hlt)
        have HD2 := Lib.hid (List.drop_eq_getElem_cons hlt2)
        have hzx := Z.out _ (List.getElem_mem hlt)
        have hzy := Z2.out _ (List.getElem_mem hlt2)
        generalize xs[k] = x at *
        generalize ys[k] = y at *
        have i1 : (k : Int) < (ys.length : Int) := by omega
        go_wp2_with fail
        refine (collate_any x y _ (HT.out.below hbel) hzx hzy).mono ?_
        rintro e w1 ⟨c, rfl, HC, HC0, hb1⟩
        by_cases hxy : x = y
        · have hc0 : (c == 0) = true := by rw [HC0.out]; exact decide_eq_true hxy
          have hc1 : (c != 0) = false := by rw [bne, hc0]; rfl
          go_wp2_with fail
          refine ⟨⟨k + 1, by omega, by omega, by go_num, below_trans hbel hb1, ?_⟩, by simp [intOf]; omega⟩
          show _ = _
          rw [HI.out, HD.out, HD2.out, sbef_eq hxy]
        · have hc0 : (c == 0) = false := by rw [HC0.out]; exact decide_eq_false hxy
          have hc1 : (c != 0) = true := by rw [bne, hc0]; rfl
          go_wp2_with fail
          go_ret
          refine ⟨c, rfl, ?_, below_trans hbel hb1⟩
          show _ = _
          rw [HI.out, HD.out, HD2.out, sbef_ne hxy, HC.out]
      · have i1 : (ys.length : Int) ≤ (k : Int) := by omega
        obtain ⟨ad, rfl, _, hcell⟩ := (hr.below hbel).strAt hlt
        go_wp2_with fail
        go_ret
        refine ⟨_, rfl, ?_, hbel⟩
        show _ = _
        rw [HI.out, show ys.drop k = [] from List.drop_eq_nil_of_le (by omega), sbef_nil2]
        decide
    · have hke : k = xs.length := by omega
      by_cases hll : xs.length < ys.length
      · go_wp2_with fail
        go_ret
        refine ⟨_, rfl, ?_, hbel⟩
        show _ = _
        rw [HI.out, show xs.drop k = [] from List.drop_eq_nil_of_le (by omega), sbef_nil, List.length_drop, decide_eq_true (show 0 < ys.length - k by omega)]
        decide
      · go_wp2_with fail
        go_ret
        refine ⟨_, rfl, ?_, hbel⟩
        show _ = _
        rw [HI.out, show xs.drop k = [] from List.drop_eq_nil_of_le (by omega), sbef_nil, List.length_drop, decide_eq_false (show ¬ 0 < ys.length - k by omega)]
        decide

theorem SubsBefore_any (v v2 : Value) (xs ys : List ByteArray) (w : World) (hT : T10 w) (h : StrsAt w w.heap.size v xs) (h2 : StrsAt w w.heap.size v2 ys) (hl : xs.length ≤ 1048576) (hl2 : ys.length ≤ 1048576) (hz : ∀ x ∈ xs, x.size ≤ 1048576) (hz2 : ∀ x ∈ ys, x.size ≤ 1048576) :
    Calls Tryd.prog 24 #[v, v2] w fun e w' => e = .returned (.bool (sbef xs ys)) ∧ Below w.heap.size w w' := by
  have HC := Lib.hid (CompareFunc_any v v2 xs ys w hT h h2 hl hl2 hz hz2)
  clear hz hz2 hT
  go_enter Tryd.func24, Tryd.ntmps24
  go_wp2_with (go_at_call 51; go_in)
  refine HC.out.mono ?_
  rintro e w1 ⟨c, rfl, H, hb⟩
  go_wp2_with fail
  go_ret
  exact ⟨ret_bool H.out, hb⟩

set_option maxRecDepth 8000 in
theorem l02SubsBefore_any (v v2 : Value) (xs ys : List ByteArray) (w : World) (h : StrsAt w w.heap.size v xs) (h2 : StrsAt w w.heap.size v2 ys) (hl : xs.length ≤ 1048576) (hl2 : ys.length ≤ 1048576) (hz : ∀ x ∈ xs, x.size ≤ 1048576) (hz2 : ∀ x ∈ ys, x.size ≤ 1048576) :
    Calls Tryd.prog 50 #[v, v2] w fun e w' => e = .returned (.bool (sbef xs ys)) ∧ Below w.heap.size w w' := by
  obtain ⟨A, c, rfl, hc, hr⟩ := h
  obtain ⟨A2, c2, rfl, hc2, hr2⟩ := h2
  have Z := Lib.hid hz; clear hz
  have Z2 := Lib.hid hz2; clear hz2
  go_enter Tryd.func50, Tryd.ntmps50
  go_wp2_with fail
  go_loopw [5] (fun i wr => ∃ k : Nat, k ≤ xs.length ∧ k ≤ ys.length ∧ i = .int .i64 k ∧ Below w.heap.size w wr ∧ Hid (sbef xs ys = sbef (xs.drop k) (ys.drop k))) (fun i _ => xs.length - (intOf i).toNat)
  case atStart => exact ⟨0, Nat.zero_le _, Nat.zero_le _, rfl, below_refl _, by show _ = _; simp⟩
  case round =>
    obtain ⟨k, hk, hk2, rfl, hbel, HI⟩ := hrel
    have hbs := hbel.size
    by_cases hlt : k < xs.length
    · by_cases hlt2 : k < ys.length
      · obtain ⟨ad, rfl, hbl, hcell⟩ := (hr.below hbel).strAt hlt
        obtain ⟨ad2, rfl, hbl2, hcell2⟩ := (hr2.below hbel).strAt hlt2
        have HD := Lib.hid (List.drop_eq_getElem_cons hlt)
        have HD2 := Lib.hid (List.drop_eq_getElem_cons hlt2)
        have hzx := Z.out _ (List.getElem_mem hlt)
        have hzy := Z2.out _ (List.getElem_mem hlt2)
        generalize xs[k] = x at *
        generalize ys[k] = y at *
        have i0 : (0 : Int) ≤ k := by omega
        have i2 : (k : Int) < (xs.length : Int) := by omega
        have i1 : (k : Int) < (ys.length : Int) := by omega
        by_cases hxy : x = y
        · subst hxy
          go_wp2_with fail
          go_quiet (fail)
          go_wp2_with fail
          refine ⟨⟨k + 1, by omega, by omega, by go_num, below_trans hbel (below_drewN _ _), ?_⟩, by simp [intOf]; omega⟩
          show _ = _
          rw [HI.out, HD.out, HD2.out, sbef_eq rfl]
        · have hne : (x.toList == y.toList) = false := by
            rw [ba_toList, ba_toList]; exact beq_eq_false_iff_ne.2 (fun h => hxy (ba_ext h))
          go_wp2_with fail
          go_quiet (fail)
          go_wp2_with fail
          have hb5 : Below w.heap.size w (wr.drewN nq) := below_trans hbel (below_drewN _ _)
          have c1 : (wr.drewN nq).cell? (ad.add k) = some (.string x) := hcell
          have c2 : (wr.drewN nq).cell? (ad2.add k) = some (.string y) := hcell2
          generalize wr.drewN nq = w5 at *
          have d1 : World.cell? { heap := w5.heap, tape := w5.tape, drawn := w5.drawn + 1, os := w5.os, output := w5.output } (ad.add k) = some (.string x) := c1
          have d2 : World.cell? { heap := w5.heap, tape := w5.tape, drawn := w5.drawn + 1, os := w5.os, output := w5.output } (ad2.add k) = some (.string y) := c2
          go_still_tail 8, (by kernel_rfl)
          change wpList _ _ _ _ _ w5.drew
          have hb6 : Below w.heap.size w w5.drew := hb5.drew
          generalize w5.drew = w6 at *
          go_wp2_with fail
          refine (l02Before_any x y _ hzx hzy).mono ?_
          rintro e w1 ⟨rfl, hb1⟩
          go_wp2_with fail
          go_ret
          refine ⟨ret_bool ?_, below_trans hb6 hb1⟩
          rw [HI.out, HD.out, HD2.out, sbef_ne hxy]
      · have i1 : (ys.length : Int) ≤ (k : Int) := by omega
        have hll : ¬ xs.length < ys.length := by omega
        go_wp2_with fail
        go_ret
        refine ⟨ret_bool ?_, hbel⟩
        rw [HI.out, show ys.drop k = [] from List.drop_eq_nil_of_le (by omega), sbef_nil2]
    · have hke : k = xs.length := by omega
      go_wp2_with fail
      go_ret
      refine ⟨ret_bool ?_, hbel⟩
      rw [HI.out, show xs.drop k = [] from List.drop_eq_nil_of_le (by omega), sbef_nil, List.length_drop, decide_eq_decide]
      omega

set_option maxRecDepth 8000 in
theorem SubsBefore_walk (v0 : Value) (xs0 : List ByteArray) (v1 : Value) (xs1 : List ByteArray) (w : World) (h0 : StrsAt w w.heap.size v0 xs0) (l0 : xs0.length ≤ maxLen) (z0 : ∀ x ∈ xs0, x.size ≤ maxLen) (h1 : StrsAt w w.heap.size v1 xs1) (l1 : xs1.length ≤ maxLen) (z1 : ∀ x ∈ xs1, x.size ≤ maxLen) (hL : laidMetH Tryd.prog Rows.fnExactSubsBeforeRow.laid w) (hsh : w.ShapedOpen Tryd.prog) :
    Calls Tryd.prog 6 #[v0, v1] w fun e w' => e = .returned (.bool true) ∧ Below w.heap.size w w' := by
  have HT := Lib.hid (T10.of_laid hL); clear hL hsh
  have Z0 := Lib.hid z0; clear z0
  have Z1 := Lib.hid z1; clear z1
  go_enter Tryd.func6, Tryd.ntmps6
  go_wp2_with fail
  refine (szStringS_ex v0 xs0 1048576 _ _ h0 (by omega) (by omega) l0 Z0.out).mono ?_
  rintro e w' ⟨q, rfl, rfl, q1, q2, hq⟩
  have Q := Lib.hid hq; clear hq
  by_cases q0 : q < 0
  · go_wp2_with fail
    go_ret
    exact ⟨rfl, below_refl _⟩
  have s0 : xs0.length ≤ 1048576 := by have := Q.out (by omega); omega
  have ZZ0 : Hid (∀ x ∈ xs0, x.size ≤ 1048576) := fun x hx => by have := Q.out (by omega); have := size_le_total hx; omega
  go_wp2_with fail
  refine (szStringS_ex v1 xs1 q _ _ h1 (by omega) (by omega) l1 Z1.out).mono ?_
  rintro e w' ⟨p, rfl, rfl, p1, p2, hp⟩
  have P := Lib.hid hp; clear hp
  by_cases p0 : p < 0
  · go_wp2_with fail
    go_ret
    exact ⟨rfl, below_refl _⟩
  have s1 : xs1.length ≤ 1048576 := by have := P.out (by omega); omega
  have ZZ1 : Hid (∀ x ∈ xs1, x.size ≤ 1048576) := fun x hx => by have := P.out (by omega); have := size_le_total hx; omega
  clear Q P Z0 Z1
  go_wp2_with fail
  refine (toStringS_any v0 xs0 _ _ h0 (Nat.le_refl _) s0).mono ?_
  rintro e wa ⟨va, rfl, ha, ba⟩
  have hA := ha.at_; clear ha
  have h1a := h1.on ba
  go_wp2_with fail
  refine (toStringS_any v1 xs1 _ _ h1a (Nat.le_refl _) s1).mono ?_
  rintro e wb ⟨vb, rfl, hb, bb⟩
  have hB := hb.at_; clear hb
  have hAb := hA.on bb
  go_wp2_with (go_at_call 22; go_in)
  refine (l02SubsBefore_any va vb xs0 xs1 _ hAb hB s0 s1 ZZ0.out ZZ1.out).mono ?_
  rintro e wb2 ⟨rfl, b2⟩
  have B2 : Below w.heap.size w wb2 := below_trans (below_trans ba bb) b2
  clear hA h1a hB hAb
  have h0c := h0.on B2
  have h1c := h1.on B2
  go_wp2_with fail
  refine (toStringS_any v0 xs0 _ _ h0c (Nat.le_refl _) s0).mono ?_
  rintro e wc ⟨x0, rfl, hx0, bc⟩
  have X0 := hx0.at_; clear hx0
  have h1d := h1c.on bc
  go_wp2_with fail
  refine (toStringS_any v1 xs1 _ _ h1d (Nat.le_refl _) s1).mono ?_
  rintro e wd ⟨x1, rfl, hx1, bd⟩
  have X1 := hx1.at_; clear hx1
  have X0d := X0.on bd
  clear X0
  go_wp2_with fail
  refine (SubsBefore_any x0 x1 xs0 xs1 _ (HT.out.below (below_trans B2 (below_trans bc bd))) X0d X1 s0 s1 ZZ0.out ZZ1.out).mono ?_
  rintro e wd2 ⟨rfl, b3⟩
  have B3 : Below w.heap.size w wd2 := below_trans B2 (below_trans (below_trans bc bd) b3)
  have X0e := X0d.on b3
  have X1e := X1.on b3
  have h0e := h0.on B3
  clear X0d X1 h0c h1c h1d
  go_wp2_with fail
  refine (toStringS_any v0 xs0 _ _ h0e (Nat.le_refl _) s0).mono ?_
  rintro e we ⟨y0, rfl, hy0, be⟩
  have Y0 := hy0.at_; clear hy0
  have X0f := X0e.on be
  have X1f := X1e.on be
  go_wp2_with fail
  refine (eqStringS_any x0 y0 xs0 xs0 _ _ X0f Y0 s0).mono ?_
  rintro e w' ⟨rfl, k, rfl⟩
  have B4 : Below w.heap.size w (we.drewN k) := below_trans B3 (below_trans be (below_drewN _ _))
  have X1g := X1f.on (below_drewN we k)
  have h1g := h1.on B4
  clear X0f Y0 X0e X1e X1f h0e
  go_wp2_with fail
  refine (toStringS_any v1 xs1 _ _ h1g (Nat.le_refl _) s1).mono ?_
  rintro e wf ⟨y1, rfl, hy1, bf⟩
  have Y1 := hy1.at_; clear hy1
  have X1h := X1g.on bf
  go_wp2_with fail
  refine (eqStringS_any x1 y1 xs1 xs1 _ _ X1h Y1 s1).mono ?_
  rintro e w' ⟨rfl, k2, rfl⟩
  go_wp2_with fail
  go_ret
  exact ⟨rfl, below_trans B4 (below_trans bf (below_drewN _ _))⟩

end Go.Proofs.YtmgailihgeelmaaDoor
