/- impl.SubsBefore and spec.l02SubsBefore; the walk of SubsBefore. -/
import Derived.Test.YtllamjgloilioaaGreatDoorBefore
import Derived.Test.YtllamjgloilioaaGreatDoorSubsL
import Derived.StillTailTactics
namespace Go.Proofs.YtllamjgloilioaaGreatDoor
open Go.RowKit
set_option linter.unusedVariables false

def sbef : List ByteArray → List ByteArray → Bool
  | _, [] => false
  | [], _ :: _ => true
  | a :: r, b :: t => if a = b then sbef r t else bef a b

theorem sbef_nil (l : List ByteArray) : sbef [] l = decide (0 < l.length) := by cases l <;> simp [sbef]

theorem sbef_nil2 (l : List ByteArray) : sbef l [] = false := by cases l <;> rfl

theorem sbef_ne {a b : ByteArray} {r t : List ByteArray} (h : ¬ a = b) : sbef (a :: r) (b :: t) = bef a b := by rw [sbef, if_neg h]

theorem sbef_eq {a b : ByteArray} {r t : List ByteArray} (h : a = b) : sbef (a :: r) (b :: t) = sbef r t := by rw [sbef, if_pos h]

set_option maxRecDepth 8000 in
theorem CompareFunc_any (v v2 : Value) (xs ys : List ByteArray) (w : World) (hT : T10 w) (h : StrsAt w w.heap.size v xs) (h2 : StrsAt w w.heap.size v2 ys) (hl : xs.length ≤ 1048576) (hl2 : ys.length ≤ 1048576) (hz : ∀ x ∈ xs, x.size ≤ 1048576) (hz2 : ∀ x ∈ ys, x.size ≤ 1048576) :
    Calls Tryz.prog 68 #[v, v2, .func (.func 69) #[] #[]] w fun e w' => ∃ c : Int, e = .returned (.int .i64 c) ∧ Hid (decide (c < 0) = sbef xs ys) ∧ Below w.heap.size w w' := by
  obtain ⟨A, c, rfl, hc, hr⟩ := h
  obtain ⟨A2, c2, rfl, hc2, hr2⟩ := h2
  have Z := Lib.hid hz; clear hz
  have Z2 := Lib.hid hz2; clear hz2
  have HT := Lib.hid hT; clear hT
  go_enter Tryz.func68, Tryz.ntmps68
  go_wp2_with fail
  go_loopw [13] (fun i wr => ∃ k : Nat, k ≤ xs.length ∧ k ≤ ys.length ∧ i = .int .i64 k ∧ Below w.heap.size w wr ∧ Hid (sbef xs ys = sbef (xs.drop k) (ys.drop k))) (fun i _ => xs.length - (intOf i).toNat)
  case atStart => exact ⟨0, Nat.zero_le _, Nat.zero_le _, rfl, below_refl _, by show _ = _; simp⟩
  case round =>
    obtain ⟨k, hk, hk2, rfl, hbel, HI⟩ := hrel
    have hbs := hbel.size
    by_cases hlt : k < xs.length
    · by_cases hlt2 : k < ys.length
      · obtain ⟨ad, rfl, _, hcell⟩ := (hr.below hbel).strAt hlt
        obtain ⟨ad2, rfl, _, hcell2⟩ := (hr2.below hbel).strAt hlt2
        have HD := Lib.hid (List.drop_eq_getElem_cons hlt)
        have HD2 := Lib.hid (List.drop_eq_getElem_cons hlt2)
        have hzx := Z.out _ (List.getElem_mem hlt)
        have hzy := Z2.out _ (List.getElem_mem hlt2)
        generalize xs[k] = x at *
        generalize ys[k] = y at *
        have i1 : (k : Int) < (ys.length : Int) := by omega
        go_wp2_with fail
        refine (collate_any x y _ (HT.out.below hbel) hzx hzy).mono ?_
        rintro e w1 ⟨c, rfl, HC, HC0, hb1⟩
        by_cases hxy : x = y
        · have hc0 : (c == 0) = true := by rw [HC0.out]; exact decide_eq_true hxy
          have hc1 : (c != 0) = false := by rw [bne, hc0]; rfl
          go_wp2_with fail
          refine ⟨⟨k + 1, by omega, by omega, by go_num, below_trans hbel hb1, ?_⟩, by simp [intOf]; omega⟩
          show _ = _
          rw [HI.out, HD.out, HD2.out, sbef_eq hxy]
        · have hc0 : (c == 0) = false := by rw [HC0.out]; exact decide_eq_false hxy
          have hc1 : (c != 0) = true := by rw [bne, hc0]; rfl
          go_wp2_with fail
          go_ret
          refine ⟨c, rfl, ?_, below_trans hbel hb1⟩
          show _ = _
          rw [HI.out, HD.out, HD2.out, sbef_ne hxy, HC.out]
      · have i1 : (ys.length : Int) ≤ (k : Int) := by omega
        obtain ⟨ad, rfl, _, hcell⟩ := (hr.below hbel).strAt hlt
        go_wp2_with fail
        go_ret
        refine ⟨_, rfl, ?_, hbel⟩
        show _ = _
        rw [HI.out, show ys.drop k = [] from List.drop_eq_nil_of_le (by omega), sbef_nil2]
        decide
    · have hke : k = xs.length := by omega
      by_cases hll : xs.length < ys.length
      · go_wp2_with fail
        go_ret
        refine ⟨_, rfl, ?_, hbel⟩
        show _ = _
        rw [HI.out, show xs.drop k = [] from List.drop_eq_nil_of_le (by omega), sbef_nil, List.length_drop, decide_eq_true (show 0 < ys.length - k by omega)]
        decide
      · go_wp2_with fail
        go_ret
        refine ⟨_, rfl, ?_, hbel⟩
        show _ = _
        rw [HI.out, show xs.drop k = [] from List.drop_eq_nil_of_le (by omega), sbef_nil, List.length_drop, decide_eq_false (show ¬ 0 < ys.length - k by omega)]
        decide

set_option maxRecDepth 8000 in
theorem l02SubsBefore_any (v v2 : Value) (xs ys : List ByteArray) (w : World) (h : StrsAt w w.heap.size v xs) (h2 : StrsAt w w.heap.size v2 ys) (hl : xs.length ≤ 1048576) (hl2 : ys.length ≤ 1048576) (hz : ∀ x ∈ xs, x.size ≤ 1048576) (hz2 : ∀ x ∈ ys, x.size ≤ 1048576) :
    Calls Tryz.prog 62 #[v, v2] w fun e w' => e = .returned (.bool (sbef xs ys)) ∧ Below w.heap.size w w' := by
  obtain ⟨A, c, rfl, hc, hr⟩ := h
  obtain ⟨A2, c2, rfl, hc2, hr2⟩ := h2
  have Z := Lib.hid hz; clear hz
  have Z2 := Lib.hid hz2; clear hz2
  go_enter Tryz.func62, Tryz.ntmps62
  go_wp2_with fail
  go_loopw [5] (fun i wr => ∃ k : Nat, k ≤ xs.length ∧ k ≤ ys.length ∧ i = .int .i64 k ∧ Below w.heap.size w wr ∧ Hid (sbef xs ys = sbef (xs.drop k) (ys.drop k))) (fun i _ => xs.length - (intOf i).toNat)
  case atStart => exact ⟨0, Nat.zero_le _, Nat.zero_le _, rfl, below_refl _, by show _ = _; simp⟩
  case round =>
    obtain ⟨k, hk, hk2, rfl, hbel, HI⟩ := hrel
    have hbs := hbel.size
    by_cases hlt : k < xs.length
    · by_cases hlt2 : k < ys.length
      · obtain ⟨ad, rfl, hbl, hcell⟩ := (hr.below hbel).strAt hlt
        obtain ⟨ad2, rfl, hbl2, hcell2⟩ := (hr2.below hbel).strAt hlt2
        have HD := Lib.hid (List.drop_eq_getElem_cons hlt)
        have HD2 := Lib.hid (List.drop_eq_getElem_cons hlt2)
        have hzx := Z.out _ (List.getElem_mem hlt)
        have hzy := Z2.out _ (List.getElem_mem hlt2)
        generalize xs[k] = x at *
        generalize ys[k] = y at *
        have i0 : (0 : Int) ≤ k := by omega
        have i2 : (k : Int) < (xs.length : Int) := by omega
        have i1 : (k : Int) < (ys.length : Int) := by omega
        by_cases hxy : x = y
        · subst hxy
          go_wp2_with fail
          go_quiet (fail)
          go_wp2_with fail
          refine ⟨⟨k + 1, by omega, by omega, by go_num, below_trans hbel (below_drewN _ _), ?_⟩, by simp [intOf]; omega⟩
          show _ = _
          rw [HI.out, HD.out, HD2.out, sbef_eq rfl]
        · have hne : (x.toList == y.toList) = false := by
            rw [ba_toList, ba_toList]; exact beq_eq_false_iff_ne.2 (fun h => hxy (ba_ext h))
          go_wp2_with fail
          go_quiet (fail)
          go_wp2_with fail
          have hb5 : Below w.heap.size w (wr.drewN nq) := below_trans hbel (below_drewN _ _)
          have c1 : (wr.drewN nq).cell? (ad.add k) = some (.string x) := hcell
          have c2 : (wr.drewN nq).cell? (ad2.add k) = some (.string y) := hcell2
          generalize wr.drewN nq = w5 at *
          have d1 : World.cell? { heap := w5.heap, tape := w5.tape, drawn := w5.drawn + 1, os := w5.os, output := w5.output } (ad.add k) = some (.string x) := c1
          have d2 : World.cell? { heap := w5.heap, tape := w5.tape, drawn := w5.drawn + 1, os := w5.os, output := w5.output } (ad2.add k) = some (.string y) := c2
          go_still_tail 8, (by kernel_rfl)
          change wpList _ _ _ _ _ w5.drew
          have hb6 : Below w.heap.size w w5.drew := hb5.drew
          generalize w5.drew = w6 at *
          go_wp2_with fail
          refine (l02Before_any x y _ hzx hzy).mono ?_
          rintro e w1 ⟨rfl, hb1⟩
          go_wp2_with fail
          go_ret
          refine ⟨ret_bool ?_, below_trans hb6 hb1⟩
          rw [HI.out, HD.out, HD2.out, sbef_ne hxy]
      · have i1 : (ys.length : Int) ≤ (k : Int) := by omega
        have hll : ¬ xs.length < ys.length := by omega
        go_wp2_with fail
        go_ret
        refine ⟨ret_bool ?_, hbel⟩
        rw [HI.out, show ys.drop k = [] from List.drop_eq_nil_of_le (by omega), sbef_nil2]
    · have hke : k = xs.length := by omega
      go_wp2_with fail
      go_ret
      refine ⟨ret_bool ?_, hbel⟩
      rw [HI.out, show xs.drop k = [] from List.drop_eq_nil_of_le (by omega), sbef_nil, List.length_drop, decide_eq_decide]
      omega

end Go.Proofs.YtllamjgloilioaaGreatDoor
