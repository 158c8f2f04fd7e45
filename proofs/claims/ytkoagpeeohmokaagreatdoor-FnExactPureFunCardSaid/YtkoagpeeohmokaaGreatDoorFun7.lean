/- PureFun: spec's l10Fun at TR. -/
import Derived.Test.YtkoagpeeohmokaaGreatDoorFun6
import Derived.Test.YtkoagpeeohmokaaGreatDoorAppendAny
namespace Go.Proofs.YtkoagpeeohmokaaGreatDoor
open Go.RowKit
set_option linter.unusedVariables false

theorem step_append_strs (w : World) {ops : Array Oper} {o : Oper} {a : Act} {K : Act → World → Prop} {Q : Exit → Act → World → Prop} {E : Prop} (hgd : o.guard = none) (s x : Operand)
    (ho : o.op = .call { callee := .builtin .append, args := #[s, x], argTypes := #[22, 22] }) (base : Nat) (v : Value) (l : List ByteArray) (hown : Strs w base v l) (hs : a.eval s = v) (A : Option Addr) (c B : Nat) (xs : List ByteArray) (hr : Reads w B 1 A xs.length (strVs xs))
    (hx : a.eval x = .slice A xs.length c) (hlen : l.length + xs.length ≤ 4398046511104) (hbase : base ≤ w.heap.size)
    (h : ∀ v' w', Strs w' base v' (l ++ xs) → Below base w w' → K (a.put o.dst v') w') :
    if Region.wanted o (yielded ops a.tmps) = true then Oper.wp Tryz.prog o a w K Q else E := by
  have hw : Region.wanted o (yielded ops a.tmps) = true := by simp [Region.wanted, hgd]
  rw [if_pos hw]
  obtain ⟨i0, hi0, hz0, hz1, hz2⟩ := info_parts info_string
  obtain ⟨v', w', hrun, h2, h3, _⟩ := run_append_any (P := Tryz.prog) w base 22 o.type 9 i0 _ 1 16 Tryz.underlying22 hi0 hz0 hz1 hz2 rfl (by omega) v l.length (strVs l) hown B A xs.length c (strVs xs) hr (fun u hu => by
      obtain ⟨y, _, rfl⟩ := List.mem_map.1 hu; rfl) (by unfold maxLen; omega) (by omega) hbase
  have hbl : Below base w w' := by
    refine (Below.refl _ _).grown h3 hbase (fun k hk => ?_)
    exact (World.ownsRow.lt hown k hk).1
  unfold Oper.wp execOp
  simp only [ho, resolve, invoke, builtin, Sem.run_bind, Sem.run_pure, Result.andThen_ok, List.map_toArray, List.map_cons, List.map_nil, hs, hx, hrun]
  refine h v' w' ?_ hbl
  show w'.ownsRow base 9 1 v' (l ++ xs).length (strVs (l ++ xs))
  rw [strVs_append, List.length_append]
  exact h2

theorem reads_one (w : World) : Reads (w.alloc (.cells #[.string ⟨#[]⟩] 9)) (w.alloc (.cells #[.string ⟨#[]⟩] 9)).heap.size 1 (some ⟨w.heap.size, 0, none⟩) 1 (strVs [⟨#[]⟩]) := by
  have h : Strs (w.alloc (.cells #[.string ⟨#[]⟩] 9)) w.heap.size (.slice (some ⟨w.heap.size, 0, none⟩) 1 1) [⟨#[]⟩] := World.ownsRow_lit w #[.string ⟨#[]⟩] 1 (Nat.le_refl _) (by unfold maxLen; omega) rfl
  obtain ⟨A, c, e, _, hr⟩ := h.at_
  injection e with e1 e2 e3
  subst e1
  exact hr

/-- The same where a row of one string lies beside, in block g, which is not the row that grows. -/
theorem step_append_strs2 (w : World) {ops : Array Oper} {o : Oper} {a : Act} {K : Act → World → Prop} {Q : Exit → Act → World → Prop} {E : Prop} (hgd : o.guard = none) (s x : Operand)
    (ho : o.op = .call { callee := .builtin .append, args := #[s, x], argTypes := #[22, 22] }) (base b0 : Nat) (l : List ByteArray) (hown : Strs w base (.slice (some ⟨b0, 0, none⟩) 0 0) l) (hs : a.eval s = .slice (some ⟨b0, 0, none⟩) 0 0) (A : Option Addr) (c B : Nat) (xs : List ByteArray) (hr : Reads w B 1 A xs.length (strVs xs))
    (hx : a.eval x = .slice A xs.length c) (hlen : l.length + xs.length ≤ 4398046511104) (hbase : base ≤ w.heap.size) (g : Nat) (hg : ¬ b0 = g) (hone : Reads w w.heap.size 1 (some ⟨g, 0, none⟩) 1 (strVs [⟨#[]⟩]))
    (h : ∀ v' w', Strs w' base v' (l ++ xs) → Below base w w' → Reads w' w'.heap.size 1 (some ⟨g, 0, none⟩) 1 (strVs [⟨#[]⟩]) → K (a.put o.dst v') w') :
    if Region.wanted o (yielded ops a.tmps) = true then Oper.wp Tryz.prog o a w K Q else E := by
  have hw : Region.wanted o (yielded ops a.tmps) = true := by simp [Region.wanted, hgd]
  rw [if_pos hw]
  obtain ⟨i0, hi0, hz0, hz1, hz2⟩ := info_parts info_string
  obtain ⟨v', w', hrun, h2, h3, _⟩ := run_append_any (P := Tryz.prog) w base 22 o.type 9 i0 _ 1 16 Tryz.underlying22 hi0 hz0 hz1 hz2 rfl (by omega) _ l.length (strVs l) hown B A xs.length c (strVs xs) hr (fun u hu => by
      obtain ⟨y, _, rfl⟩ := List.mem_map.1 hu; rfl) (by unfold maxLen; omega) (by omega) hbase
  have hbl : Below base w w' := by
    refine (Below.refl _ _).grown h3 hbase (fun k hk => ?_)
    exact (World.ownsRow.lt hown k hk).1
  unfold Oper.wp execOp
  simp only [ho, resolve, invoke, builtin, Sem.run_bind, Sem.run_pure, Result.andThen_ok, List.map_toArray, List.map_cons, List.map_nil, hs, hx, hrun]
  refine h v' w' ?_ hbl ?_
  · show w'.ownsRow base 9 1 v' (l ++ xs).length (strVs (l ++ xs))
    rw [strVs_append, List.length_append]
    exact h2
  · refine ⟨hone.1, fun hn => ?_⟩
    obtain ⟨ad, e, hb, hc⟩ := hone.2 hn
    injection e with e
    subst e
    refine ⟨_, rfl, Nat.lt_of_lt_of_le hb h3.size, fun j u hu => ?_⟩
    rw [← hc j u hu]
    have e2 : ((⟨g, 0, none⟩ : Addr).add j).block = g := block_of_add _ _
    have h4 := h3.block g hb (by intro e; simp [Value.ownBlock] at e; exact hg e.symm)
    exact World.cell?_of_block (by rw [e2]; exact h4)

theorem trTo_get (xs : List ByteArray) (h : 1 < xs.length) : (strVs (([] ++ xs) ++ [⟨#[]⟩]))[2]? = some (.string (trToL xs)) := by
  unfold strVs trToL
  rw [List.nil_append, List.map_append, List.map_cons, List.map_nil]
  rcases Nat.lt_or_ge 2 xs.length with h2 | h2
  · rw [List.getElem?_append_left (by simpa using h2), List.getElem?_map, List.getElem?_eq_getElem h2]; rfl
  · have e : xs.length = 2 := by omega
    have h3 : xs[2]? = none := List.getElem?_eq_none (by omega)
    rw [List.getElem?_append_right (by simp; omega), List.length_map, e, h3]; rfl

set_option maxHeartbeats 1000000 in
set_option maxRecDepth 8000 in
theorem sfTR (v : Value) (xs : List ByteArray) (x0 x1 : ByteArray) (g0 : xs[0]? = some x0) (g1 : xs[1]? = some x1) (w : World) (h : StrsAt w w.heap.size v xs) (hl : xs.length ≤ 1048576) (hz : ∀ x ∈ xs, x.size ≤ 1048576) :
    Calls Tryz.prog 24 #[.string ⟨#[84, 82]⟩, v] w fun e w' => GotFun (trans (sfx x0 0) (sfx x1 0) (sfx (trToL xs) 0), 0) e ∧ Below w.heap.size w w' := by
  have hs0 := hz x0 (mem_of_get g0)
  have hs1 := hz x1 (mem_of_get g1)
  have hln0 := lt_of_get g0
  have hln := lt_of_get g1
  have i1 : (1 : Int) < xs.length := by omega
  have i0 : (0 : Int) < xs.length := by omega
  have H := Lib.hid h
  obtain ⟨A, c, rfl, _, _⟩ := id h
  obtain ⟨ad, rfl, hc0⟩ := h.cell g0
  obtain ⟨ad', ha, hc1⟩ := h.cell g1
  injection ha with ha
  subst ha
  rw [add_succ] at hc1
  rw [add_zero] at hc0
  have HC : Hid (∀ W, Below w.heap.size w W → W.cell? ad = some (.string x0) ∧ W.cell? ⟨ad.block, ad.off + 1, none⟩ = some (.string x1)) := fun W hb => ⟨(hb.cell (lt_of_cell hc0)).trans hc0, (hb.cell (lt_of_cell hc1)).trans hc1⟩
  have HB0 : Hid (Below w.heap.size w w.drew) := (below_refl w).drew
  have HTR := Lib.hid (trTo_get xs hln)
  have hs2 : (trToL xs).size ≤ 1048576 := by
    unfold trToL
    cases h2 : xs[2]? with
    | none => decide
    | some y => exact hz y (mem_of_get h2)
  have HX := Lib.hid (fun W => l10Translate_any x0 x1 (trToL xs) W hs0 hs1 hs2)
  have HRD : Hid (∀ W, Below w.heap.size w W → Reads W W.heap.size 1 (some ad) xs.length (strVs xs)) := fun W hb => by
    obtain ⟨A', c', e', _, hr⟩ := H.out.on hb
    injection e' with e1 e2 e3
    subst e1
    exact hr
  clear hc0 hc1 h hz g0 g1
  go_enter Tryz.func24, Tryz.ntmps24
  go_wp2_with fail
  have HS0 := HC.out _ HB0.out
  refine wp_region_held_drew (S := (fun W => W.cell? ad = some (.string x0) ∧ W.cell? ⟨ad.block, ad.off + 1, none⟩ = some (.string x1))) (by kernel_rfl) HS0 (fun hHeld => ?_)
  ((refine wpAnyH_take (i := 0) (v := ?_) rfl (by kernel_rfl) (by kernel_rfl) (by kernel_rfl) (fun _ _ _ h => h) (Or.inl ⟨by rfl, ?_⟩) (by assumption) ?_; rotate_left; (focus (intro w hSw; (try dsimp only at hSw); go_simp <;> with_reducible rfl)); try simp only [Act.put, List.getElem_toArray, List.getElem_cons_zero, List.setIfInBounds_toArray, List.set_cons_zero, List.set_cons_succ]); (refine wpAnyH_take (i := 1) (v := ?_) rfl (by kernel_rfl) (by kernel_rfl) (by kernel_rfl) (fun _ _ _ h => h) (Or.inl ⟨by rfl, ?_⟩) (by assumption) ?_; rotate_left; (focus (intro w hSw; (try dsimp only at hSw); go_simp <;> with_reducible rfl)); try simp only [Act.put, List.getElem_toArray, List.getElem_cons_succ, List.getElem_cons_zero, List.setIfInBounds_toArray, List.set_cons_zero, List.set_cons_succ]); (refine wpAnyH_take (i := 2) (v := ?_) rfl (by kernel_rfl) (by kernel_rfl) (by kernel_rfl) (fun _ _ _ h => h) (Or.inl ⟨by rfl, ?_⟩) (by assumption) ?_; rotate_left; (focus (intro w hSw; (try dsimp only at hSw); go_simp <;> with_reducible rfl)); try simp only [Act.put, List.getElem_toArray, List.getElem_cons_succ, List.getElem_cons_zero, List.setIfInBounds_toArray, List.set_cons_zero, List.set_cons_succ]); (refine wpAnyH_take (i := 3) (v := ?_) rfl (by kernel_rfl) (by kernel_rfl) (by kernel_rfl) (fun _ _ _ h => h) (Or.inl ⟨by rfl, ?_⟩) (by assumption) ?_; rotate_left; (focus (intro w hSw; (try dsimp only at hSw); go_simp <;> with_reducible rfl)); try simp only [Act.put, List.getElem_toArray, List.getElem_cons_succ, List.getElem_cons_zero, List.setIfInBounds_toArray, List.set_cons_zero, List.set_cons_succ]); (refine wpAnyH_take (i := 4) (v := ?_) rfl (by kernel_rfl) (by kernel_rfl) (by kernel_rfl) (fun _ _ _ h => h) (Or.inl ⟨by rfl, ?_⟩) (by assumption) ?_; rotate_left; (focus (intro w hSw; (try dsimp only at hSw); go_simp <;> with_reducible rfl)); try simp only [Act.put, List.getElem_toArray, List.getElem_cons_succ, List.getElem_cons_zero, List.setIfInBounds_toArray, List.set_cons_zero, List.set_cons_succ]); (refine wpAnyH_take (i := 5) (v := ?_) rfl (by kernel_rfl) (by kernel_rfl) (by kernel_rfl) (fun _ _ _ h => h) (Or.inl ⟨by rfl, ?_⟩) (by assumption) ?_; rotate_left; (focus (intro w hSw; (try dsimp only at hSw); go_simp <;> with_reducible rfl)); try simp only [Act.put, List.getElem_toArray, List.getElem_cons_succ, List.getElem_cons_zero, List.setIfInBounds_toArray, List.set_cons_zero, List.set_cons_succ]))
  ((refine wpAnyH_take (i := 7) (v := ?_) rfl (by kernel_rfl) (by kernel_rfl) (by kernel_rfl) (fun _ _ _ h => h) (Or.inl ⟨by rfl, ?_⟩) (by assumption) ?_; rotate_left; (focus (intro w hSw; (try dsimp only at hSw); go_simp <;> with_reducible rfl)); try simp only [Act.put, List.getElem_toArray, List.getElem_cons_succ, List.getElem_cons_zero, List.setIfInBounds_toArray, List.set_cons_zero, List.set_cons_succ]))
  refine wpAnyH_ready (rs := [6, 9]) (by kernel_rfl) (by simp) ?_
  refine AllReadyH.cons rfl (fun K hK => ?_) (AllReadyH.cons rfl (fun K hK => ?_) AllReadyH.nil)
  · go_simp
    have hb1 : Below w.heap.size w (w.alloc (.cells #[] 9)).drew := (Joins.below_alloc1 w _).drew
    have hs1 : Strs (w.alloc (.cells #[] 9)).drew w.heap.size (.slice (some ⟨w.heap.size, 0, none⟩) 0 0) [] := World.ownsRow_lit w #[] 0 (Nat.le_refl _) (by unfold maxLen; omega) rfl
    generalize (w.alloc (.cells #[] 9)).drew = W1 at *
    have HB1 := Lib.hid hb1; have HS1 := Lib.hid hs1; clear hb1 hs1
    refine hK.out _ _ (HC.out _ HB1.out) (fun hHeld => ?_)
    clear hK K
    try simp only [Act.put, List.getElem_toArray, List.getElem_cons_succ, List.getElem_cons_zero, List.setIfInBounds_toArray, List.set_cons_zero, List.set_cons_succ]
    have HR1 : Hid (Reads W1 W1.heap.size 1 (some ad) xs.length (strVs xs)) := HRD.out _ HB1.out
    refine wpAnyH_ready (rs := [8, 9]) (by kernel_rfl) (by simp) ?_
    refine AllReadyH.cons rfl (fun K hK => ?_) (AllReadyH.cons rfl (fun K hK => ?_) AllReadyH.nil)
    · skip
      refine step_append_strs W1 rfl _ _ rfl w.heap.size _ [] HS1.out rfl (some ad) c W1.heap.size xs HR1.out rfl (by simp; omega) HB1.out.size ?_
      intro v2 W2 hs' hb'
      have HS2 := Lib.hid hs'
      have HB2 : Hid (Below w.heap.size w W2) := HB1.out.trans hb'
      clear hs' hb'
      refine hK.out _ _ (HC.out _ HB2.out) (fun hHeld => ?_)
      clear hK K
      try simp only [Act.put, List.getElem_toArray, List.getElem_cons_succ, List.getElem_cons_zero, List.setIfInBounds_toArray, List.set_cons_zero, List.set_cons_succ]
      refine wpAnyH_ready (rs := [9]) (by kernel_rfl) (by simp) ?_
      refine AllReadyH.cons rfl (fun K hK => ?_) AllReadyH.nil
      go_simp
      have hb3 : Below w.heap.size w (W2.alloc (.cells #[.string ⟨#[]⟩] 9)) := HB2.out.alloc HB2.out.size _
      have hs3 : Strs (W2.alloc (.cells #[.string ⟨#[]⟩] 9)) w.heap.size v2 ([] ++ xs) := World.ownsRow.alloc HS2.out _
      have hr3 : Reads (W2.alloc (.cells #[.string ⟨#[]⟩] 9)) (W2.alloc (.cells #[.string ⟨#[]⟩] 9)).heap.size 1 (some ⟨W2.heap.size, 0, none⟩) 1 (strVs [⟨#[]⟩]) := reads_one W2
      generalize W2.heap.size = g2 at *
      generalize W2.alloc (.cells #[.string ⟨#[]⟩] 9) = W3 at *
      have HB3 := Lib.hid hb3; have HS3 := Lib.hid hs3; have HR3 := Lib.hid hr3; clear hb3 hs3 hr3
      refine hK.out _ _ (HC.out _ HB3.out) (fun hHeld => ?_)
      clear hK K
      try simp only [Act.put, List.getElem_toArray, List.getElem_cons_succ, List.getElem_cons_zero, List.setIfInBounds_toArray, List.set_cons_zero, List.set_cons_succ]
      refine wpAnyH_ready (rs := [10]) (by kernel_rfl) (by simp) ?_
      refine AllReadyH.cons rfl (fun K hK => ?_) AllReadyH.nil
      refine step_append_strs W3 rfl _ _ rfl w.heap.size _ ([] ++ xs) HS3.out rfl (some ⟨g2, 0, none⟩) 1 W3.heap.size [⟨#[]⟩] HR3.out rfl (by simp; omega) HB3.out.size ?_
      intro v4 W4 hs' hb'
      have HS4 := Lib.hid hs'
      have HB4 : Hid (Below w.heap.size w W4) := HB3.out.trans hb'
      clear hs' hb'
      refine hK.out _ _ (HC.out _ HB4.out) (fun hHeld => ?_)
      clear hK K
      try simp only [Act.put, List.getElem_toArray, List.getElem_cons_succ, List.getElem_cons_zero, List.setIfInBounds_toArray, List.set_cons_zero, List.set_cons_succ]
      obtain ⟨g4, c4, rfl⟩ : ∃ g c, v4 = .slice (some ⟨g, 0, none⟩) (xs.length + 1) c := by
        have h4 := HS4.out
        rcases h4.2 with ⟨_, hn⟩ | ⟨g, c, cur, hv, _⟩
        · simp at hn
        · exact ⟨g, c, by rw [hv]; simp⟩
      have hc4 : W4.cell? ⟨g4, 2, none⟩ = some (.string (trToL xs)) := by
        have h4 := HS4.out
        have := World.ownsRow.cells (g := g4) h4 rfl 2 (.string (trToL xs)) (by rw [HTR.out])
        simpa [addr_at] using this
      have i2 : (2 : Int) < (xs.length : Int) + 1 := by omega
      have i3 : 2 < xs.length + 1 := by omega
      refine wpAnyH_ready (rs := [11]) (by kernel_rfl) (by simp) ?_
      refine AllReadyH.cons rfl (fun K hK => ?_) AllReadyH.nil
      go_simp
      refine hK.out _ _ (HC.out _ HB4.out) (fun hHeld => ?_)
      clear hK K
      try simp only [Act.put, List.getElem_toArray, List.getElem_cons_succ, List.getElem_cons_zero, List.setIfInBounds_toArray, List.set_cons_zero, List.set_cons_succ]
      refine wpAnyH_ready (rs := [12]) (by kernel_rfl) (by simp) ?_
      refine AllReadyH.cons rfl (fun K hK => ?_) AllReadyH.nil
      go_simp
      refine hK.out _ _ (HC.out _ HB4.out) (fun hHeld => ?_)
      clear hK K
      try simp only [Act.put, List.getElem_toArray, List.getElem_cons_succ, List.getElem_cons_zero, List.setIfInBounds_toArray, List.set_cons_zero, List.set_cons_succ]
      refine wpAnyH_ready (rs := [13]) (by kernel_rfl) (by simp) ?_
      refine AllReadyH.cons rfl (fun K hK => ?_) AllReadyH.nil
      go_simp
      refine (HX.out W4).mono ?_
      rintro e w6 ⟨⟨r, rfl, hr⟩, b6⟩
      have HR := Lib.hid hr; clear hr
      have HB6 := Lib.hid (below_trans HB4.out b6)
      try go_wp2_with fail
      refine hK.out _ _ (HC.out _ HB6.out) (fun hHeld => ?_)
      clear hK K
      try simp only [Act.put, List.getElem_toArray, List.getElem_cons_succ, List.getElem_cons_zero, List.setIfInBounds_toArray, List.set_cons_zero, List.set_cons_succ]
      refine wpAnyH_ready (rs := [14]) (by kernel_rfl) (by simp) ?_
      refine AllReadyH.cons rfl (fun K hK => ?_) AllReadyH.nil
      go_simp
      refine hK.out _ _ (HC.out _ HB6.out) (fun hHeld => ?_)
      clear hK K
      try simp only [Act.put, List.getElem_toArray, List.getElem_cons_succ, List.getElem_cons_zero, List.setIfInBounds_toArray, List.set_cons_zero, List.set_cons_succ]
      refine wpAnyH_ready (rs := [15]) (by kernel_rfl) (by simp) ?_
      refine AllReadyH.cons rfl (fun K hK => ?_) AllReadyH.nil
      go_simp
      refine hK.out _ _ (HC.out _ HB6.out) (fun hHeld => ?_)
      clear hK K
      try simp only [Act.put, List.getElem_toArray, List.getElem_cons_succ, List.getElem_cons_zero, List.setIfInBounds_toArray, List.set_cons_zero, List.set_cons_succ]
      refine wpAnyH_done (by kernel_rfl) ?_ _
      go_wp2_with fail
      go_ret2
      exact ⟨⟨_, _, rfl, by rw [HR.out]⟩, HB6.out⟩
    · go_simp
      have hb3 : Below w.heap.size w (W1.alloc (.cells #[.string ⟨#[]⟩] 9)) := HB1.out.alloc HB1.out.size _
      have hs3 : Strs (W1.alloc (.cells #[.string ⟨#[]⟩] 9)) w.heap.size (.slice (some ⟨w.heap.size, 0, none⟩) 0 0) [] := World.ownsRow.alloc HS1.out _
      have hr3 : Reads (W1.alloc (.cells #[.string ⟨#[]⟩] 9)) (W1.alloc (.cells #[.string ⟨#[]⟩] 9)).heap.size 1 (some ⟨W1.heap.size, 0, none⟩) 1 (strVs [⟨#[]⟩]) := reads_one W1
      have hg2 : w.heap.size < W1.heap.size := by have := World.ownsRow.lt HS1.out w.heap.size rfl; omega
      generalize W1.heap.size = g2 at *
      generalize W1.alloc (.cells #[.string ⟨#[]⟩] 9) = W2 at *
      have HB2 := Lib.hid hb3; have HS2 := Lib.hid hs3; have HR2 := Lib.hid hr3; clear hb3 hs3 hr3
      refine hK.out _ _ (HC.out _ HB2.out) (fun hHeld => ?_)
      clear hK K
      try simp only [Act.put, List.getElem_toArray, List.getElem_cons_succ, List.getElem_cons_zero, List.setIfInBounds_toArray, List.set_cons_zero, List.set_cons_succ]
      have HRx : Hid (Reads W2 W2.heap.size 1 (some ad) xs.length (strVs xs)) := HRD.out _ HB2.out
      refine wpAnyH_ready (rs := [8]) (by kernel_rfl) (by simp) ?_
      refine AllReadyH.cons rfl (fun K hK => ?_) AllReadyH.nil
      refine step_append_strs2 W2 rfl _ _ rfl w.heap.size _ [] HS2.out rfl (some ad) c W2.heap.size xs HRx.out rfl (by simp; omega) HB2.out.size g2 (by omega) HR2.out ?_
      intro v3 W3 hs' hb' hr'
      have HS3 := Lib.hid hs'
      have HR3 := Lib.hid hr'
      have HB3 : Hid (Below w.heap.size w W3) := HB2.out.trans hb'
      clear hs' hb' hr'
      refine hK.out _ _ (HC.out _ HB3.out) (fun hHeld => ?_)
      clear hK K
      try simp only [Act.put, List.getElem_toArray, List.getElem_cons_succ, List.getElem_cons_zero, List.setIfInBounds_toArray, List.set_cons_zero, List.set_cons_succ]
      refine wpAnyH_ready (rs := [10]) (by kernel_rfl) (by simp) ?_
      refine AllReadyH.cons rfl (fun K hK => ?_) AllReadyH.nil
      refine step_append_strs W3 rfl _ _ rfl w.heap.size _ ([] ++ xs) HS3.out rfl (some ⟨g2, 0, none⟩) 1 W3.heap.size [⟨#[]⟩] HR3.out rfl (by simp; omega) HB3.out.size ?_
      intro v4 W4 hs' hb'
      have HS4 := Lib.hid hs'
      have HB4 : Hid (Below w.heap.size w W4) := HB3.out.trans hb'
      clear hs' hb'
      refine hK.out _ _ (HC.out _ HB4.out) (fun hHeld => ?_)
      clear hK K
      try simp only [Act.put, List.getElem_toArray, List.getElem_cons_succ, List.getElem_cons_zero, List.setIfInBounds_toArray, List.set_cons_zero, List.set_cons_succ]
      obtain ⟨g4, c4, rfl⟩ : ∃ g c, v4 = .slice (some ⟨g, 0, none⟩) (xs.length + 1) c := by
        have h4 := HS4.out
        rcases h4.2 with ⟨_, hn⟩ | ⟨g, c, cur, hv, _⟩
        · simp at hn
        · exact ⟨g, c, by rw [hv]; simp⟩
      have hc4 : W4.cell? ⟨g4, 2, none⟩ = some (.string (trToL xs)) := by
        have h4 := HS4.out
        have := World.ownsRow.cells (g := g4) h4 rfl 2 (.string (trToL xs)) (by rw [HTR.out])
        simpa [addr_at] using this
      have i2 : (2 : Int) < (xs.length : Int) + 1 := by omega
      have i3 : 2 < xs.length + 1 := by omega
      refine wpAnyH_ready (rs := [11]) (by kernel_rfl) (by simp) ?_
      refine AllReadyH.cons rfl (fun K hK => ?_) AllReadyH.nil
      go_simp
      refine hK.out _ _ (HC.out _ HB4.out) (fun hHeld => ?_)
      clear hK K
      try simp only [Act.put, List.getElem_toArray, List.getElem_cons_succ, List.getElem_cons_zero, List.setIfInBounds_toArray, List.set_cons_zero, List.set_cons_succ]
      refine wpAnyH_ready (rs := [12]) (by kernel_rfl) (by simp) ?_
      refine AllReadyH.cons rfl (fun K hK => ?_) AllReadyH.nil
      go_simp
      refine hK.out _ _ (HC.out _ HB4.out) (fun hHeld => ?_)
      clear hK K
      try simp only [Act.put, List.getElem_toArray, List.getElem_cons_succ, List.getElem_cons_zero, List.setIfInBounds_toArray, List.set_cons_zero, List.set_cons_succ]
      refine wpAnyH_ready (rs := [13]) (by kernel_rfl) (by simp) ?_
      refine AllReadyH.cons rfl (fun K hK => ?_) AllReadyH.nil
      go_simp
      refine (HX.out W4).mono ?_
      rintro e w6 ⟨⟨r, rfl, hr⟩, b6⟩
      have HR := Lib.hid hr; clear hr
      have HB6 := Lib.hid (below_trans HB4.out b6)
      try go_wp2_with fail
      refine hK.out _ _ (HC.out _ HB6.out) (fun hHeld => ?_)
      clear hK K
      try simp only [Act.put, List.getElem_toArray, List.getElem_cons_succ, List.getElem_cons_zero, List.setIfInBounds_toArray, List.set_cons_zero, List.set_cons_succ]
      refine wpAnyH_ready (rs := [14]) (by kernel_rfl) (by simp) ?_
      refine AllReadyH.cons rfl (fun K hK => ?_) AllReadyH.nil
      go_simp
      refine hK.out _ _ (HC.out _ HB6.out) (fun hHeld => ?_)
      clear hK K
      try simp only [Act.put, List.getElem_toArray, List.getElem_cons_succ, List.getElem_cons_zero, List.setIfInBounds_toArray, List.set_cons_zero, List.set_cons_succ]
      refine wpAnyH_ready (rs := [15]) (by kernel_rfl) (by simp) ?_
      refine AllReadyH.cons rfl (fun K hK => ?_) AllReadyH.nil
      go_simp
      refine hK.out _ _ (HC.out _ HB6.out) (fun hHeld => ?_)
      clear hK K
      try simp only [Act.put, List.getElem_toArray, List.getElem_cons_succ, List.getElem_cons_zero, List.setIfInBounds_toArray, List.set_cons_zero, List.set_cons_succ]
      refine wpAnyH_done (by kernel_rfl) ?_ _
      go_wp2_with fail
      go_ret2
      exact ⟨⟨_, _, rfl, by rw [HR.out]⟩, HB6.out⟩
  · go_simp
    have hb1 : Below w.heap.size w (w.alloc (.cells #[.string ⟨#[]⟩] 9)).drew := (Joins.below_alloc1 w _).drew
    have hr1 : Reads (w.alloc (.cells #[.string ⟨#[]⟩] 9)).drew (w.alloc (.cells #[.string ⟨#[]⟩] 9)).drew.heap.size 1 (some ⟨w.heap.size, 0, none⟩) 1 (strVs [⟨#[]⟩]) := reads_one w
    have hg1 : w.heap.size < (w.alloc (.cells #[.string ⟨#[]⟩] 9)).drew.heap.size := by show w.heap.size < (w.alloc _).heap.size; simp
    generalize (w.alloc (.cells #[.string ⟨#[]⟩] 9)).drew = W1 at *
    have HB1 := Lib.hid hb1; have HR1 := Lib.hid hr1; clear hb1 hr1
    refine hK.out _ _ (HC.out _ HB1.out) (fun hHeld => ?_)
    clear hK K
    try simp only [Act.put, List.getElem_toArray, List.getElem_cons_succ, List.getElem_cons_zero, List.setIfInBounds_toArray, List.set_cons_zero, List.set_cons_succ]
    refine wpAnyH_ready (rs := [6]) (by kernel_rfl) (by simp) ?_
    refine AllReadyH.cons rfl (fun K hK => ?_) AllReadyH.nil
    go_simp
    have hb2 : Below w.heap.size w (W1.alloc (.cells #[] 9)) := HB1.out.alloc HB1.out.size _
    have hs2 : Strs (W1.alloc (.cells #[] 9)) w.heap.size (.slice (some ⟨W1.heap.size, 0, none⟩) 0 0) [] := World.ownsRow_lit W1 #[] 0 HB1.out.size (by unfold maxLen; omega) rfl
    have hr2 : Reads (W1.alloc (.cells #[] 9)) (W1.alloc (.cells #[] 9)).heap.size 1 (some ⟨w.heap.size, 0, none⟩) 1 (strVs [⟨#[]⟩]) := (HR1.out.alloc (Nat.le_refl _) _).more (by simp)
    have hg2 : w.heap.size < W1.heap.size := hg1
    generalize hgg : W1.heap.size = g1 at *
    generalize W1.alloc (.cells #[] 9) = W2 at *
    have HB2 := Lib.hid hb2; have HS2 := Lib.hid hs2; have HR2 := Lib.hid hr2; clear hb2 hs2 hr2 hgg hg1
    refine hK.out _ _ (HC.out _ HB2.out) (fun hHeld => ?_)
    clear hK K
    try simp only [Act.put, List.getElem_toArray, List.getElem_cons_succ, List.getElem_cons_zero, List.setIfInBounds_toArray, List.set_cons_zero, List.set_cons_succ]
    have HRx : Hid (Reads W2 W2.heap.size 1 (some ad) xs.length (strVs xs)) := HRD.out _ HB2.out
    refine wpAnyH_ready (rs := [8]) (by kernel_rfl) (by simp) ?_
    refine AllReadyH.cons rfl (fun K hK => ?_) AllReadyH.nil
    refine step_append_strs2 W2 rfl _ _ rfl w.heap.size _ [] HS2.out rfl (some ad) c W2.heap.size xs HRx.out rfl (by simp; omega) HB2.out.size w.heap.size (by omega) HR2.out ?_
    intro v3 W3 hs' hb' hr'
    have HS3 := Lib.hid hs'
    have HR3 := Lib.hid hr'
    have HB3 : Hid (Below w.heap.size w W3) := HB2.out.trans hb'
    clear hs' hb' hr'
    refine hK.out _ _ (HC.out _ HB3.out) (fun hHeld => ?_)
    clear hK K
    try simp only [Act.put, List.getElem_toArray, List.getElem_cons_succ, List.getElem_cons_zero, List.setIfInBounds_toArray, List.set_cons_zero, List.set_cons_succ]
    refine wpAnyH_ready (rs := [10]) (by kernel_rfl) (by simp) ?_
    refine AllReadyH.cons rfl (fun K hK => ?_) AllReadyH.nil
    refine step_append_strs W3 rfl _ _ rfl w.heap.size _ ([] ++ xs) HS3.out rfl (some ⟨w.heap.size, 0, none⟩) 1 W3.heap.size [⟨#[]⟩] HR3.out rfl (by simp; omega) HB3.out.size ?_
    intro v4 W4 hs' hb'
    have HS4 := Lib.hid hs'
    have HB4 : Hid (Below w.heap.size w W4) := HB3.out.trans hb'
    clear hs' hb'
    refine hK.out _ _ (HC.out _ HB4.out) (fun hHeld => ?_)
    clear hK K
    try simp only [Act.put, List.getElem_toArray, List.getElem_cons_succ, List.getElem_cons_zero, List.setIfInBounds_toArray, List.set_cons_zero, List.set_cons_succ]
    obtain ⟨g4, c4, rfl⟩ : ∃ g c, v4 = .slice (some ⟨g, 0, none⟩) (xs.length + 1) c := by
      have h4 := HS4.out
      rcases h4.2 with ⟨_, hn⟩ | ⟨g, c, cur, hv, _⟩
      · simp at hn
      · exact ⟨g, c, by rw [hv]; simp⟩
    have hc4 : W4.cell? ⟨g4, 2, none⟩ = some (.string (trToL xs)) := by
      have h4 := HS4.out
      have := World.ownsRow.cells (g := g4) h4 rfl 2 (.string (trToL xs)) (by rw [HTR.out])
      simpa [addr_at] using this
    have i2 : (2 : Int) < (xs.length : Int) + 1 := by omega
    have i3 : 2 < xs.length + 1 := by omega
    refine wpAnyH_ready (rs := [11]) (by kernel_rfl) (by simp) ?_
    refine AllReadyH.cons rfl (fun K hK => ?_) AllReadyH.nil
    go_simp
    refine hK.out _ _ (HC.out _ HB4.out) (fun hHeld => ?_)
    clear hK K
    try simp only [Act.put, List.getElem_toArray, List.getElem_cons_succ, List.getElem_cons_zero, List.setIfInBounds_toArray, List.set_cons_zero, List.set_cons_succ]
    refine wpAnyH_ready (rs := [12]) (by kernel_rfl) (by simp) ?_
    refine AllReadyH.cons rfl (fun K hK => ?_) AllReadyH.nil
    go_simp
    refine hK.out _ _ (HC.out _ HB4.out) (fun hHeld => ?_)
    clear hK K
    try simp only [Act.put, List.getElem_toArray, List.getElem_cons_succ, List.getElem_cons_zero, List.setIfInBounds_toArray, List.set_cons_zero, List.set_cons_succ]
    refine wpAnyH_ready (rs := [13]) (by kernel_rfl) (by simp) ?_
    refine AllReadyH.cons rfl (fun K hK => ?_) AllReadyH.nil
    go_simp
    refine (HX.out W4).mono ?_
    rintro e w6 ⟨⟨r, rfl, hr⟩, b6⟩
    have HR := Lib.hid hr; clear hr
    have HB6 := Lib.hid (below_trans HB4.out b6)
    try go_wp2_with fail
    refine hK.out _ _ (HC.out _ HB6.out) (fun hHeld => ?_)
    clear hK K
    try simp only [Act.put, List.getElem_toArray, List.getElem_cons_succ, List.getElem_cons_zero, List.setIfInBounds_toArray, List.set_cons_zero, List.set_cons_succ]
    refine wpAnyH_ready (rs := [14]) (by kernel_rfl) (by simp) ?_
    refine AllReadyH.cons rfl (fun K hK => ?_) AllReadyH.nil
    go_simp
    refine hK.out _ _ (HC.out _ HB6.out) (fun hHeld => ?_)
    clear hK K
    try simp only [Act.put, List.getElem_toArray, List.getElem_cons_succ, List.getElem_cons_zero, List.setIfInBounds_toArray, List.set_cons_zero, List.set_cons_succ]
    refine wpAnyH_ready (rs := [15]) (by kernel_rfl) (by simp) ?_
    refine AllReadyH.cons rfl (fun K hK => ?_) AllReadyH.nil
    go_simp
    refine hK.out _ _ (HC.out _ HB6.out) (fun hHeld => ?_)
    clear hK K
    try simp only [Act.put, List.getElem_toArray, List.getElem_cons_succ, List.getElem_cons_zero, List.setIfInBounds_toArray, List.set_cons_zero, List.set_cons_succ]
    refine wpAnyH_done (by kernel_rfl) ?_ _
    go_wp2_with fail
    go_ret2
    exact ⟨⟨_, _, rfl, by rw [HR.out]⟩, HB6.out⟩

end Go.Proofs.YtkoagpeeohmokaaGreatDoor
