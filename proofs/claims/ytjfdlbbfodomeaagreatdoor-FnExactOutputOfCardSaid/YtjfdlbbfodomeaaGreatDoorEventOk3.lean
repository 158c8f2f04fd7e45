/- EventOk: spec's side. -/
import Derived.Test.YtjfdlbbfodomeaaGreatDoorEventOk
import Derived.Test.YtjfdlbbfodomeaaGreatDoorInts
namespace Go.Proofs.YtjfdlbbfodomeaaGreatDoor
open Go.RowKit Go.ChangeShapes Go.WideShapes Go.ChangeAt Go.Deep
set_option linter.unusedVariables false

theorem l00Has_any (g : Nat) (zs : List Int) (n : Int) (w : World) (hc : ∀ j (h : j < zs.length), w.cell? ⟨g, j, none⟩ = some (.int .i64 zs[j])) (hl : zs.length ≤ 100) :
    Calls Tryz.prog 164 #[.slice (some ⟨g, 0, none⟩) zs.length zs.length, .int .i64 n] w fun e w' => e = .returned (.bool (zs.contains n)) ∧ w = w' := by
  have HC := Lib.hid hc; clear hc
  obtain ⟨R, hR⟩ : ∃ R : Bool, zs.contains n = R := ⟨_, rfl⟩
  rw [hR]
  have HR := Lib.hid hR; clear hR
  go_enter Tryz.func164, Tryz.ntmps164
  go_wp2
  go_loop [5] (fun i => ∃ k : Nat, k ≤ zs.length ∧ i = .int .i64 k ∧ Hid (R = (zs.drop k).contains n)) (fun i => zs.length - (intOf i).toNat)
  case atStart => exact ⟨0, Nat.zero_le _, rfl, HR.out.symm⟩
  case round =>
    clear HR
    obtain ⟨k, hk, rfl, HI⟩ := hrel
    by_cases hlt : k < zs.length
    · have hcell := HC.out k hlt
      have HD := Lib.hid (List.drop_eq_getElem_cons hlt)
      generalize zs[k] = z at *
      have i0 : (0 : Int) ≤ k := by omega
      have i1 : (k : Int) < zs.length := by omega
      rcases eqForms z n with ⟨a1, a2, a3⟩ | ⟨a1, a2, a3⟩
      · go_wp2
        go_ret
        exact ⟨ret_bool (by rw [HI.out, HD.out, a3.out]; simp), rfl⟩
      · go_wp2
        refine ⟨⟨k + 1, by omega, by go_num, ?_⟩, by simp [intOf]; omega⟩
        show _ = _
        rw [HI.out, HD.out, List.contains_cons, show (n == z) = false from beq_eq_false_iff_ne.2 (fun h => a3.out h.symm)]; rfl
    · go_wp2
      go_ret
      exact ⟨ret_bool (by rw [HI.out, List.drop_eq_nil_of_le (by omega)]; rfl), rfl⟩

theorem l00Has_new (zs : List Int) (n : Int) (W : World) (hl : zs.length ≤ 100) :
    Calls Tryz.prog 164 #[.slice (some ⟨W.heap.size, 0, none⟩) zs.length zs.length, .int .i64 n] (W.alloc (.cells (intVs zs).toArray 2)) fun e w' => e = .returned (.bool (zs.contains n)) ∧ W.alloc (.cells (intVs zs).toArray 2) = w' :=
  l00Has_any W.heap.size zs n _ (fun j h => (CellsAt.new W (intVs zs).toArray 2).2 j _ (by simp [intVs, h])) hl

def hasV (k : Int) : Bool := [1, 2, 5, 6, 7, 8, 9].contains k

def hasN (k : Int) : Bool := [1, 4, 5, 6, 9, 13, 15].contains k

theorem hasV_at (k : Int) (W : World) : Calls Tryz.prog 164 #[.slice (some ⟨W.heap.size, 0, none⟩) 7 7, .int .i64 k] (W.alloc (.cells #[.int .i64 1, .int .i64 2, .int .i64 5, .int .i64 6, .int .i64 7, .int .i64 8, .int .i64 9] 2)) fun e w' => e = .returned (.bool (hasV k)) ∧ W.alloc (.cells #[.int .i64 1, .int .i64 2, .int .i64 5, .int .i64 6, .int .i64 7, .int .i64 8, .int .i64 9] 2) = w' :=
  l00Has_new [1, 2, 5, 6, 7, 8, 9] k W (by decide)

theorem hasN_at (k : Int) (W : World) : Calls Tryz.prog 164 #[.slice (some ⟨W.heap.size, 0, none⟩) 7 7, .int .i64 k] (W.alloc (.cells #[.int .i64 1, .int .i64 4, .int .i64 5, .int .i64 6, .int .i64 9, .int .i64 13, .int .i64 15] 2)) fun e w' => e = .returned (.bool (hasN k)) ∧ W.alloc (.cells #[.int .i64 1, .int .i64 4, .int .i64 5, .int .i64 6, .int .i64 9, .int .i64 13, .int .i64 15] 2) = w' :=
  l00Has_new [1, 4, 5, 6, 9, 13, 15] k W (by decide)

theorem has4_at (k : Int) (W : World) : Calls Tryz.prog 164 #[.slice (some ⟨W.heap.size, 0, none⟩) 4 4, .int .i64 k] (W.alloc (.cells #[.int .i64 0, .int .i64 1, .int .i64 10, .int .i64 11] 2)) fun e w' => e = .returned (.bool (cntB k)) ∧ W.alloc (.cells #[.int .i64 0, .int .i64 1, .int .i64 10, .int .i64 11] 2) = w' := by
  have h := l00Has_new [0, 1, 10, 11] k W (by decide)
  have e : [0, 1, 10, 11].contains k = cntB k := by unfold cntB; rw [Bool.eq_iff_iff]; simp
  rw [e] at h
  exact h

def bareB (x : EventV) : Bool := ((decide (x.kind ≤ 6) || (x.kind == 9)) || (empB x.name && x.subs.isEmpty)) && ((hasV x.kind || empB x.value) && (hasN x.kind || (x.n == 0)))

set_option maxHeartbeats 2000000 in
set_option maxRecDepth 20000 in
theorem l11Bare_any (x : EventV) (w : World) (h : x.At w) : Calls Tryz.prog 136 #[.agg x.cells] w fun e w' => e = .returned (.bool (bareB x)) ∧ Below w.heap.size w w' := by
  have hba : Below w.heap.size w (w.alloc (.cells x.cells 53)) := Joins.below_alloc1 w _
  obtain ⟨kind, name, sv, xs, value, n⟩ := x
  obtain ⟨hs, _⟩ := h
  simp only [EventV.cells] at *
  obtain ⟨A, c, rfl, _, _⟩ := id hs
  clear hs
  have HV : Hid (bareB ⟨kind, name, .slice A xs.length c, xs, value, n⟩ = (((decide (kind ≤ 6) || (kind == 9)) || (empB name && xs.isEmpty)) && ((hasV kind || empB value) && (hasN kind || (n == 0))))) := rfl
  have H1 : Hid (Calls Tryz.prog 164 #[.slice (some ⟨w.heap.size + 1, 0, none⟩) 7 7, .int .i64 kind] ((w.alloc (.cells #[.int .i64 kind, .string name, .slice A xs.length c, .string value, .int .i64 n] 53)).alloc (.cells #[.int .i64 1, .int .i64 2, .int .i64 5, .int .i64 6, .int .i64 7, .int .i64 8, .int .i64 9] 2)) fun e w' => e = .returned (.bool (hasV kind)) ∧ (w.alloc (.cells #[.int .i64 kind, .string name, .slice A xs.length c, .string value, .int .i64 n] 53)).alloc (.cells #[.int .i64 1, .int .i64 2, .int .i64 5, .int .i64 6, .int .i64 7, .int .i64 8, .int .i64 9] 2) = w') := by
    have h := hasV_at kind (w.alloc (.cells #[.int .i64 kind, .string name, .slice A xs.length c, .string value, .int .i64 n] 53))
    rw [show (w.alloc (.cells #[.int .i64 kind, .string name, .slice A xs.length c, .string value, .int .i64 n] 53)).heap.size = w.heap.size + 1 by simp] at h
    exact h
  have H2 : Hid (Calls Tryz.prog 164 #[.slice (some ⟨w.heap.size + 1 + 1, 0, none⟩) 7 7, .int .i64 kind] (((w.alloc (.cells #[.int .i64 kind, .string name, .slice A xs.length c, .string value, .int .i64 n] 53)).alloc (.cells #[.int .i64 1, .int .i64 2, .int .i64 5, .int .i64 6, .int .i64 7, .int .i64 8, .int .i64 9] 2)).alloc (.cells #[.int .i64 1, .int .i64 4, .int .i64 5, .int .i64 6, .int .i64 9, .int .i64 13, .int .i64 15] 2)) fun e w' => e = .returned (.bool (hasN kind)) ∧ ((w.alloc (.cells #[.int .i64 kind, .string name, .slice A xs.length c, .string value, .int .i64 n] 53)).alloc (.cells #[.int .i64 1, .int .i64 2, .int .i64 5, .int .i64 6, .int .i64 7, .int .i64 8, .int .i64 9] 2)).alloc (.cells #[.int .i64 1, .int .i64 4, .int .i64 5, .int .i64 6, .int .i64 9, .int .i64 13, .int .i64 15] 2) = w') := by
    have h := hasN_at kind ((w.alloc (.cells #[.int .i64 kind, .string name, .slice A xs.length c, .string value, .int .i64 n] 53)).alloc (.cells #[.int .i64 1, .int .i64 2, .int .i64 5, .int .i64 6, .int .i64 7, .int .i64 8, .int .i64 9] 2))
    rw [show ((w.alloc (.cells #[.int .i64 kind, .string name, .slice A xs.length c, .string value, .int .i64 n] 53)).alloc (.cells #[.int .i64 1, .int .i64 2, .int .i64 5, .int .i64 6, .int .i64 7, .int .i64 8, .int .i64 9] 2)).heap.size = w.heap.size + 1 + 1 by simp] at h
    exact h
  generalize hasV kind = BV at *
  generalize hasN kind = BN at *
  have HB3 : Hid (Below w.heap.size w (((w.alloc (.cells #[.int .i64 kind, .string name, .slice A xs.length c, .string value, .int .i64 n] 53)).alloc (.cells #[.int .i64 1, .int .i64 2, .int .i64 5, .int .i64 6, .int .i64 7, .int .i64 8, .int .i64 9] 2)).alloc (.cells #[.int .i64 1, .int .i64 4, .int .i64 5, .int .i64 6, .int .i64 9, .int .i64 13, .int .i64 15] 2))) := Joins.below_alloc3 w _ _ _
  clear hba
  have key : ∃ M : Bool, Hid ((decide (kind ≤ 6) || (kind == 9)) = M) ∧ ((M = true ∧ (decide (kind ≤ 6) = true)) ∨ (M = true ∧ decide (kind ≤ 6) = false ∧ (kind == 9) = true) ∨ (M = false ∧ decide (kind ≤ 6) = false ∧ (kind == 9) = false)) := by
    by_cases h6 : kind ≤ 6
    · exact ⟨true, by show _ = _; rw [decide_eq_true h6]; rfl, .inl ⟨rfl, decide_eq_true h6⟩⟩
    · by_cases h9 : kind = 9
      · exact ⟨true, by show _ = _; rw [decide_eq_false h6, h9]; rfl, .inr (.inl ⟨rfl, decide_eq_false h6, by rw [h9]; rfl⟩)⟩
      · exact ⟨false, by show _ = _; rw [decide_eq_false h6]; simp [h9], .inr (.inr ⟨rfl, decide_eq_false h6, by simp [h9]⟩)⟩
  obtain ⟨M, HM, key⟩ := key
  rw [HM.out] at HV
  clear HM
  rcases key with ⟨rfl, k1⟩ | ⟨rfl, k1, k2⟩ | ⟨rfl, k1, k2⟩
  rotate_left 2
  · rcases emptyForms name with ⟨m1, m2, m3, m4⟩ | ⟨m1, m2, m3, m4⟩
    rotate_left
    · rw [show empB name = false from m4.out] at HV
      go_enter Tryz.func136, Tryz.ntmps136
      go_wp2_with fail
      refine H1.out.mono ?_
      rintro e w1 ⟨rfl, rfl⟩
      go_wp2_with fail
      refine H2.out.mono ?_
      rintro e w1 ⟨rfl, rfl⟩
      go_wp2_with fail
      go_ret
      exact ⟨ret_bool (by rw [HV.out]; rfl), HB3.out⟩
    rcases lenForms xs with ⟨l1, l2, l3⟩ | ⟨l1, l2, l3⟩
    rotate_left
    · rw [show empB name = true from m4.out, l3.out] at HV
      go_enter Tryz.func136, Tryz.ntmps136
      go_wp2_with fail
      refine H1.out.mono ?_
      rintro e w1 ⟨rfl, rfl⟩
      go_wp2_with fail
      refine H2.out.mono ?_
      rintro e w1 ⟨rfl, rfl⟩
      go_wp2_with fail
      go_ret
      exact ⟨ret_bool (by rw [HV.out]; rfl), HB3.out⟩
    rw [show empB name = true from m4.out, l3.out] at HV
    cases BV
    all_goals
      rcases emptyForms value with ⟨v1, v2, v3, v4⟩ | ⟨v1, v2, v3, v4⟩
      all_goals
        cases BN
        all_goals
          go_enter Tryz.func136, Tryz.ntmps136
          go_wp2_with fail
          refine H1.out.mono ?_
          rintro e w1 ⟨rfl, rfl⟩
          go_wp2_with fail
          refine H2.out.mono ?_
          rintro e w1 ⟨rfl, rfl⟩
          go_wp2_with fail
          go_ret
          exact ⟨ret_bool (by rw [HV.out]; unfold empB; rw [v4.out]; simp), HB3.out⟩
  all_goals
    cases BV
    all_goals
      rcases emptyForms value with ⟨v1, v2, v3, v4⟩ | ⟨v1, v2, v3, v4⟩
      all_goals
        cases BN
        all_goals
          go_enter Tryz.func136, Tryz.ntmps136
          go_wp2_with fail
          refine H1.out.mono ?_
          rintro e w1 ⟨rfl, rfl⟩
          go_wp2_with fail
          refine H2.out.mono ?_
          rintro e w1 ⟨rfl, rfl⟩
          go_wp2_with fail
          go_ret
          exact ⟨ret_bool (by rw [HV.out]; unfold empB; rw [v4.out]; simp), HB3.out⟩

end Go.Proofs.YtjfdlbbfodomeaaGreatDoor
