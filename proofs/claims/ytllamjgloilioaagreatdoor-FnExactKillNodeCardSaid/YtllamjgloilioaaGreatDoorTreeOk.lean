/- TreeOk: both sides. -/
import Derived.Test.YtllamjgloilioaaGreatDoorTree
import Derived.Test.YtllamjgloilioaaGreatDoorLoc
import Derived.Test.YtllamjgloilioaaGreatDoorSubsBefore
import Derived.Deep.RegionHeld3
namespace Go.Proofs.YtllamjgloilioaaGreatDoor
open Go.RowKit Go.ChangeShapes Go.WideShapes Go.ChangeAt Go.Deep
set_option linter.unusedVariables false

def nodeOkB (x : NodeV) : Bool := locOk x.name x.subs && decide (x.value.size ≤ 64)

/-- A place stands ahead of another one. -/
def lessB (x y : NodeV) : Bool := Op.bytesLess x.name.toList y.name.toList || (decide (x.name = y.name) && sbef x.subs y.subs)

/-- From node k on, p being the one ahead of it. -/
def treeGo : Option NodeV → List NodeV → Bool
  | _, [] => true
  | p, x :: r => (nodeOkB x && (match p with | none => true | some y => lessB y x)) && treeGo (some x) r

def treeOkB (ns : List NodeV) : Bool := decide (ns.length ≤ 120) && treeGo none ns

set_option maxRecDepth 8000 in
theorem nodeOk_any (x : NodeV) (w : World) (h : x.At w) (hok : x.Ok 1048576) : Calls Tryz.prog 36 #[.agg x.cells] w fun e w' => e = .returned (.bool (nodeOkB x)) ∧ Below w.heap.size w w' := by
  have hA := h.on (Joins.below_alloc1 w (.cells x.cells 50))
  have hba : Below w.heap.size w (w.alloc (.cells x.cells 50)) := Joins.below_alloc1 w _
  obtain ⟨R, hR⟩ : ∃ R : Bool, nodeOkB x = R := ⟨_, rfl⟩
  rw [hR]
  have HR := Lib.hid hR; clear hR
  obtain ⟨name, sv, xs, value⟩ := x
  obtain ⟨hn, ⟨hl, hz⟩, hv, _⟩ := hok
  obtain ⟨hs, _⟩ := h
  obtain ⟨hAs, _⟩ := hA
  simp only [NodeV.cells, nodeOkB] at *
  have HZ := Lib.hid hz; clear hz
  have HA := Lib.hid hAs; clear hAs
  obtain ⟨A, c, rfl, _, _⟩ := id hs
  go_enter Tryz.func36, Tryz.ntmps36
  go_wp2_with fail
  refine (locationOk_any name _ xs _ _ hn HA.out hl HZ.out).mono ?_
  rintro e w' ⟨rfl, rfl⟩
  cases hloc : locOk name xs
  · rw [hloc] at HR
    go_wp2_with fail
    go_ret
    exact ⟨ret_bool (by rw [← HR.out]; rfl), hba⟩
  · rw [hloc] at HR
    go_wp2_with fail
    go_ret
    refine ⟨ret_bool ?_, hba⟩
    rw [← HR.out, Bool.true_and, decide_eq_decide]; omega

set_option maxRecDepth 8000 in
theorem l03Node_any (x : NodeV) (w : World) (h : x.At w) (hok : x.Ok 1048576) : Calls Tryz.prog 29 #[.agg x.cells] w fun e w' => e = .returned (.bool (nodeOkB x)) ∧ Below w.heap.size w w' := by
  have hA := h.on (Joins.below_alloc1 w (.cells x.cells 50))
  have hba : Below w.heap.size w (w.alloc (.cells x.cells 50)) := Joins.below_alloc1 w _
  obtain ⟨R, hR⟩ : ∃ R : Bool, nodeOkB x = R := ⟨_, rfl⟩
  rw [hR]
  have HR := Lib.hid hR; clear hR
  obtain ⟨name, sv, xs, value⟩ := x
  obtain ⟨hn, ⟨hl, hz⟩, hv, _⟩ := hok
  obtain ⟨hs, _⟩ := h
  obtain ⟨hAs, _⟩ := hA
  simp only [NodeV.cells, nodeOkB] at *
  have HZ := Lib.hid hz; clear hz
  have HA := Lib.hid hAs; clear hAs
  obtain ⟨A, c, rfl, _, _⟩ := id hs
  go_enter Tryz.func29, Tryz.ntmps29
  go_wp2_with fail
  refine (l03Place_any name _ xs _ _ hn HA.out hl HZ.out).mono ?_
  rintro e w' ⟨rfl, rfl⟩
  cases hloc : locOk name xs
  · rw [hloc] at HR
    go_wp2_with fail
    go_ret
    exact ⟨ret_bool (by rw [← HR.out]; rfl), hba⟩
  · rw [hloc] at HR
    go_wp2_with fail
    go_ret
    refine ⟨ret_bool ?_, hba⟩
    rw [← HR.out, Bool.true_and, decide_eq_decide]; omega

theorem Or_any (a b : Int) (w : World) (g : Nat) (h0 : w.cell? ⟨g, 0, none⟩ = some (.int .i64 a)) (h1 : w.cell? ⟨g, 1, none⟩ = some (.int .i64 b)) : Calls Tryz.prog 51 #[.slice (some ⟨g, 0, none⟩) 2 2] w fun e w' => ∃ r : Int, e = .returned (.int .i64 r) ∧ Hid (r = if a = 0 then b else a) ∧ w = w' := by
  go_enter Tryz.func51, Tryz.ntmps51
  go_wp2
  go_loopw [8] (fun i wr => wr = w ∧ ((i = .int .i64 0) ∨ (i = .int .i64 1 ∧ Hid (a = 0)) ∨ (i = .int .i64 2 ∧ Hid (a = 0) ∧ Hid (b = 0)))) (fun i _ => 2 - (intOf i).toNat)
  case atStart => exact ⟨rfl, .inl rfl⟩
  case round =>
    obtain ⟨rfl, rfl | ⟨rfl, HA⟩ | ⟨rfl, HA, HB⟩⟩ := hrel
    · rcases eqForms a 0 with ⟨e1, e2, e3⟩ | ⟨e1, e2, e3⟩
      · go_wp2
        exact ⟨⟨trivial, .inr (.inl ⟨rfl, e3⟩)⟩, by simp [intOf]⟩
      · go_wp2
        go_ret
        exact ⟨_, rfl, by show _ = _; first | rfl | rw [if_neg e3.out], rfl⟩
    · rcases eqForms b 0 with ⟨e1, e2, e3⟩ | ⟨e1, e2, e3⟩
      · go_wp2
        exact ⟨⟨trivial, .inr (.inr ⟨rfl, HA, e3⟩)⟩, by simp [intOf]⟩
      · go_wp2
        go_ret
        exact ⟨_, rfl, by show _ = _; first | rfl | rw [if_pos HA.out], rfl⟩
    · go_wp2
      go_ret
      exact ⟨_, rfl, by show _ = _; first | exact HB.out.symm | rw [if_pos HA.out, HB.out], rfl⟩

set_option maxRecDepth 8000 in
theorem compareLocations_any (n1 n2 : ByteArray) (v1 v2 : Value) (xs ys : List ByteArray) (w : World) (hT : T10 w) (h : StrsAt w w.heap.size v1 xs) (h2 : StrsAt w w.heap.size v2 ys) (hl : xs.length ≤ 1048576) (hl2 : ys.length ≤ 1048576) (hz : ∀ x ∈ xs, x.size ≤ 1048576) (hz2 : ∀ x ∈ ys, x.size ≤ 1048576) :
    Calls Tryz.prog 37 #[.string n1, v1, .string n2, v2] w fun e w' => ∃ c : Int, e = .returned (.int .i64 c) ∧ Hid (decide (c < 0) = (Op.bytesLess n1.toList n2.toList || (decide (n1 = n2) && sbef xs ys))) ∧ Below w.heap.size w w' := by
  have HC := Lib.hid (CompareFunc_any v1 v2 xs ys w hT h h2 hl hl2 hz hz2)
  clear hT hz hz2
  have HV : Hid (∀ c1 c2 : Int, decide (c1 < 0) = Op.bytesLess n1.toList n2.toList → (c1 == 0) = decide (n1 = n2) → decide (c2 < 0) = sbef xs ys → decide ((if c1 = 0 then c2 else c1) < 0) = (Op.bytesLess n1.toList n2.toList || (decide (n1 = n2) && sbef xs ys))) := fun c1 c2 e1 e2 e3 => by
    by_cases h0 : c1 = 0
    · rw [if_pos h0, ← e1, ← e2, e3]; subst h0; simp
    · rw [if_neg h0, e1, ← e2]
      have : (c1 == 0) = false := by simpa using h0
      rw [this]; simp
  go_enter Tryz.func37, Tryz.ntmps37
  go_wp2_with fail
  refine (CompareS_any n1 n2 _).mono ?_
  rintro e w1 ⟨c1, rfl, H1, H2, rfl⟩
  go_wp2_with (go_at_call 53; go_in)
  refine HC.out.mono ?_
  rintro e w2 ⟨c2, rfl, H3, b2⟩
  go_wp2_with fail
  refine (Or_any c1 c2 _ _ ((CellsAt.new w2 #[.int .i64 c1, .int .i64 c2] _).2 0 _ rfl) ((CellsAt.new w2 #[.int .i64 c1, .int .i64 c2] _).2 1 _ rfl)).mono ?_
  rintro e w3 ⟨r, rfl, HR, rfl⟩
  go_wp2_with fail
  go_ret
  exact ⟨r, rfl, by show _ = _; rw [HR.out]; exact HV.out c1 c2 H1.out H2.out H3.out, below_trans b2 (Joins.below_alloc1 _ _)⟩

set_option maxRecDepth 8000 in
theorem l03Less_any (n1 n2 : ByteArray) (v1 v2 : Value) (xs ys : List ByteArray) (w : World) (h : StrsAt w w.heap.size v1 xs) (h2 : StrsAt w w.heap.size v2 ys) (hl : xs.length ≤ 1048576) (hl2 : ys.length ≤ 1048576) (hz : ∀ x ∈ xs, x.size ≤ 1048576) (hz2 : ∀ x ∈ ys, x.size ≤ 1048576) :
    Calls Tryz.prog 30 #[.string n1, v1, .string n2, v2] w fun e w' => e = .returned (.bool (Op.bytesLess n1.toList n2.toList || (decide (n1 = n2) && sbef xs ys))) ∧ Below w.heap.size w w' := by
  have HC := Lib.hid (l02SubsBefore_any v1 v2 xs ys w h h2 hl hl2 hz hz2)
  clear hz hz2
  cases hlt : Op.bytesLess n1.toList n2.toList
  · by_cases hn : n1 = n2
    · subst hn
      have he : (n1.toList == n1.toList) = true := by simp
      go_enter Tryz.func30, Tryz.ntmps30
      go_wp2_with (go_at_call 46; go_in)
      refine HC.out.mono ?_
      rintro e w1 ⟨rfl, b1⟩
      go_wp2_with fail
      go_ret
      exact ⟨ret_bool (by simp), b1⟩
    · have he : (n1.toList == n2.toList) = false := by
        rw [ba_toList, ba_toList]; exact beq_eq_false_iff_ne.2 (fun h => hn (ba_ext h))
      have HN := Lib.hid hn; clear hn
      go_enter Tryz.func30, Tryz.ntmps30
      go_wp2_with fail
      go_ret
      exact ⟨ret_bool (by simp [HN.out]), below_refl _⟩
  · go_enter Tryz.func30, Tryz.ntmps30
    go_wp2_with fail
    go_ret
    exact ⟨ret_bool (by simp), below_refl _⟩

set_option maxHeartbeats 4000000 in
set_option maxRecDepth 8000 in
theorem TreeOk_any (v : Value) (ns : List NodeV) (w : World) (hT : T10 w) (h : NodesAt w v ns) (hl : ns.length ≤ 1048576) (hok : ∀ x ∈ ns, x.Ok 1048576) :
    Calls Tryz.prog 20 #[.agg #[v]] w fun e w' => e = .returned (.bool (treeOkB ns)) ∧ Below w.heap.size w w' := by
  obtain ⟨R, hR⟩ : ∃ R : Bool, treeOkB ns = R := ⟨_, rfl⟩
  rw [hR]
  have HR := Lib.hid hR; clear hR
  have hba : Below w.heap.size w (w.alloc (.cells #[v] 30)) := Joins.below_alloc1 w _
  have H := Lib.hid (h.on hba)
  have HT := Lib.hid hT; clear hT
  have HOK := Lib.hid hok; clear hok
  obtain ⟨A, c, rfl, hc, _⟩ := h
  have HC1 := Lib.hid (CellsAt.new w #[.slice A ns.length c] 30)
  by_cases h120 : ns.length ≤ 120
  · go_enter Tryz.func20, Tryz.ntmps20
    go_wp2
    go_loopw [12] (fun i wr => ∃ k : Nat, k ≤ ns.length ∧ i = .int .i64 k ∧ Hid (R = treeGo (if k = 0 then none else ns[k - 1]?) (ns.drop k)) ∧ Below (w.alloc (.cells #[.slice A ns.length c] 30)).heap.size (w.alloc (.cells #[.slice A ns.length c] 30)) wr) (fun i _ => ns.length - (intOf i).toNat)
    case atStart => exact ⟨0, Nat.zero_le _, rfl, by show _ = _; rw [← HR.out, if_pos rfl, List.drop_zero]; unfold treeOkB; rw [decide_eq_true h120]; rfl, below_refl _⟩
    case round =>
      clear HR
      obtain ⟨k, hk, rfl, HI, hbel⟩ := hrel
      by_cases hlt : k < ns.length
      · obtain ⟨ad, rfl, hbl, hat, a0, a1, a2⟩ := (H.out.on hbel).get hlt
        have c1 : wr.cell? ⟨w.heap.size, 0, none⟩ = some (.slice (some ad) ns.length c) := (HC1.out.below hbel).2 0 _ rfl
        have HX := Lib.hid (HOK.out _ (List.getElem_mem hlt))
        have HD := Lib.hid (List.drop_eq_getElem_cons hlt)
        have HB := Lib.hid (below_trans hba hbel)
        have hb1 : Below wr.heap.size wr (wr.alloc (.cells ns[k].cells 50)) := Joins.below_alloc1 wr _
        have hbel1 := below_trans hbel hb1
        have HAT := Lib.hid (hat.on hb1)
        have HCX := Lib.hid (CellsAt.new wr ns[k].cells 50)
        by_cases hk0 : k = 0
        · subst hk0
          have HST : Hid (R = ((nodeOkB ns[0] && true) && treeGo (some ns[0]) (ns.drop 1))) := by
            show _ = _
            rw [HI.out, if_pos rfl, HD.out]; rfl
          have HNX : Hid (ns[0]? = some ns[0]) := List.getElem?_eq_getElem hlt
          clear HI HD
          generalize ns[0] = x at *
          obtain ⟨name, sv, xs, value⟩ := x
          obtain ⟨Ax, cx, hsx, _, _⟩ := id hat.1
          replace hsx : sv = .slice Ax xs.length cx := hsx
          subst hsx
          simp only [NodeV.cells] at *
          rw [Nat.zero_mul] at a0 a1 a2
          have e0 : ad.add 0 = ad := by simp [Addr.add]
          rw [e0] at a0 a1 a2
          obtain ⟨N, hN⟩ : ∃ N : Bool, nodeOkB ⟨name, .slice Ax xs.length cx, xs, value⟩ = N := ⟨_, rfl⟩
          have HN := Lib.hid (fun W (hW : NodeV.At ⟨name, .slice Ax xs.length cx, xs, value⟩ W) => nodeOk_any ⟨name, .slice Ax xs.length cx, xs, value⟩ W hW HX.out)
          rw [hN] at HN
          have HNN := Lib.hid hN; clear hN
          simp only [NodeV.cells] at HN
          have HAd : Hid (NodeV.At ⟨name, .slice Ax xs.length cx, xs, value⟩ (wr.alloc (.cells #[.string name, .slice Ax xs.length cx, .string value] 50)).drew) := HAT.out
          have SS : Hid (∀ W, Below (wr.alloc (.cells #[.string name, .slice Ax xs.length cx, .string value] 50)).heap.size (wr.alloc (.cells #[.string name, .slice Ax xs.length cx, .string value] 50)) W → (W.cell? ⟨wr.heap.size, 0, none⟩ = some (.string name) ∧ W.cell? ⟨wr.heap.size, 1, none⟩ = some (.slice Ax xs.length cx) ∧ W.cell? ⟨wr.heap.size, 2, none⟩ = some (.string value) ∧ W.cell? ⟨w.heap.size, 0, none⟩ = some (.slice (some ad) ns.length c))) := fun W hW => by
            have hc := HCX.out.below hW
            exact ⟨hc.2 0 _ rfl, hc.2 1 _ rfl, hc.2 2 _ rfl, (HC1.out.below (below_trans hbel1 hW)).2 0 _ rfl⟩
          have HXD : Hid (Below (wr.alloc (.cells #[.string name, .slice Ax xs.length cx, .string value] 50)).heap.size (wr.alloc (.cells #[.string name, .slice Ax xs.length cx, .string value] 50)) (wr.alloc (.cells #[.string name, .slice Ax xs.length cx, .string value] 50)).drew) := (below_refl _).drew
          have HS0 := SS.out _ HXD.out
          have HBX : Hid (Below w.heap.size w (wr.alloc (.cells #[.string name, .slice Ax xs.length cx, .string value] 50))) := below_trans hba hbel1
          cases N
          · go_wp2_with fail
            refine wp_region_held_drew (S := (fun W => (W.cell? ⟨wr.heap.size, 0, none⟩ = some (.string name) ∧ W.cell? ⟨wr.heap.size, 1, none⟩ = some (.slice Ax xs.length cx) ∧ W.cell? ⟨wr.heap.size, 2, none⟩ = some (.string value) ∧ W.cell? ⟨w.heap.size, 0, none⟩ = some (.slice (some ad) ns.length c)))) (by kernel_rfl) HS0 (fun hHeld => ?_)
            ((refine wpAnyH_take (i := 0) (v := ?_) rfl (by kernel_rfl) (by kernel_rfl) (by kernel_rfl) (fun _ _ _ h => h) (Or.inl ⟨by rfl, ?_⟩) (by assumption) ?_; rotate_left; (focus (intro w hSw; (try dsimp only at hSw); go_simp <;> with_reducible rfl)); try simp only [Act.put, List.getElem_toArray, List.getElem_cons_zero, List.setIfInBounds_toArray, List.set_cons_zero, List.set_cons_succ]))
            refine wpAnyH_ready (rs := [1]) (by kernel_rfl) (by simp) ?_; refine AllReadyH.cons rfl (fun K hK => ?_) AllReadyH.nil; go_simp
            (go_at_call 36; refine (HN.out _ HAd.out).mono ?_; rintro e w5 ⟨rfl, b5⟩; have HB5 := Lib.hid (below_trans HXD.out b5); have HS5 := SS.out _ HB5.out; clear b5)
            try go_wp2_with fail
            refine hK.out _ _ HS5 (fun hHeld => ?_)
            clear hK K
            try simp only [Act.put, List.getElem_toArray, List.getElem_cons_succ, List.getElem_cons_zero, List.setIfInBounds_toArray, List.set_cons_zero, List.set_cons_succ]
            ((refine wpAnyH_take (i := 2) (v := ?_) rfl (by kernel_rfl) (by kernel_rfl) (by kernel_rfl) (fun _ _ _ h => h) (Or.inl ⟨by rfl, ?_⟩) (by assumption) ?_; rotate_left; (focus (intro w hSw; (try dsimp only at hSw); go_simp <;> with_reducible rfl)); try simp only [Act.put, List.getElem_toArray, List.getElem_cons_succ, List.getElem_cons_zero, List.setIfInBounds_toArray, List.set_cons_zero, List.set_cons_succ]); (refine wpAnyH_take (i := 3) (v := ?_) rfl (by kernel_rfl) (by kernel_rfl) (by kernel_rfl) (fun _ _ _ h => h) (Or.inl ⟨by rfl, ?_⟩) (by assumption) ?_; rotate_left; (focus (intro w hSw; (try dsimp only at hSw); go_simp <;> with_reducible rfl)); try simp only [Act.put, List.getElem_toArray, List.getElem_cons_succ, List.getElem_cons_zero, List.setIfInBounds_toArray, List.set_cons_zero, List.set_cons_succ]))
            ((refine wpAnyH_take (i := 4) (v := undef) rfl (by kernel_rfl) (by kernel_rfl) (by kernel_rfl) (fun _ _ _ h => h) (Or.inr ⟨by rfl, rfl⟩) (by assumption) ?_; try simp only [Act.put, List.getElem_toArray, List.getElem_cons_succ, List.getElem_cons_zero, List.setIfInBounds_toArray, List.set_cons_zero, List.set_cons_succ]); (refine wpAnyH_take (i := 5) (v := undef) rfl (by kernel_rfl) (by kernel_rfl) (by kernel_rfl) (fun _ _ _ h => h) (Or.inr ⟨by rfl, rfl⟩) (by assumption) ?_; try simp only [Act.put, List.getElem_toArray, List.getElem_cons_succ, List.getElem_cons_zero, List.setIfInBounds_toArray, List.set_cons_zero, List.set_cons_succ]); (refine wpAnyH_take (i := 6) (v := undef) rfl (by kernel_rfl) (by kernel_rfl) (by kernel_rfl) (fun _ _ _ h => h) (Or.inr ⟨by rfl, rfl⟩) (by assumption) ?_; try simp only [Act.put, List.getElem_toArray, List.getElem_cons_succ, List.getElem_cons_zero, List.setIfInBounds_toArray, List.set_cons_zero, List.set_cons_succ]); (refine wpAnyH_take (i := 7) (v := undef) rfl (by kernel_rfl) (by kernel_rfl) (by kernel_rfl) (fun _ _ _ h => h) (Or.inr ⟨by rfl, rfl⟩) (by assumption) ?_; try simp only [Act.put, List.getElem_toArray, List.getElem_cons_succ, List.getElem_cons_zero, List.setIfInBounds_toArray, List.set_cons_zero, List.set_cons_succ]); (refine wpAnyH_take (i := 8) (v := undef) rfl (by kernel_rfl) (by kernel_rfl) (by kernel_rfl) (fun _ _ _ h => h) (Or.inr ⟨by rfl, rfl⟩) (by assumption) ?_; try simp only [Act.put, List.getElem_toArray, List.getElem_cons_succ, List.getElem_cons_zero, List.setIfInBounds_toArray, List.set_cons_zero, List.set_cons_succ]); (refine wpAnyH_take (i := 9) (v := undef) rfl (by kernel_rfl) (by kernel_rfl) (by kernel_rfl) (fun _ _ _ h => h) (Or.inr ⟨by rfl, rfl⟩) (by assumption) ?_; try simp only [Act.put, List.getElem_toArray, List.getElem_cons_succ, List.getElem_cons_zero, List.setIfInBounds_toArray, List.set_cons_zero, List.set_cons_succ]); (refine wpAnyH_take (i := 10) (v := undef) rfl (by kernel_rfl) (by kernel_rfl) (by kernel_rfl) (fun _ _ _ h => h) (Or.inr ⟨by rfl, rfl⟩) (by assumption) ?_; try simp only [Act.put, List.getElem_toArray, List.getElem_cons_succ, List.getElem_cons_zero, List.setIfInBounds_toArray, List.set_cons_zero, List.set_cons_succ]); (refine wpAnyH_take (i := 11) (v := undef) rfl (by kernel_rfl) (by kernel_rfl) (by kernel_rfl) (fun _ _ _ h => h) (Or.inr ⟨by rfl, rfl⟩) (by assumption) ?_; try simp only [Act.put, List.getElem_toArray, List.getElem_cons_succ, List.getElem_cons_zero, List.setIfInBounds_toArray, List.set_cons_zero, List.set_cons_succ]); (refine wpAnyH_take (i := 12) (v := undef) rfl (by kernel_rfl) (by kernel_rfl) (by kernel_rfl) (fun _ _ _ h => h) (Or.inr ⟨by rfl, rfl⟩) (by assumption) ?_; try simp only [Act.put, List.getElem_toArray, List.getElem_cons_succ, List.getElem_cons_zero, List.setIfInBounds_toArray, List.set_cons_zero, List.set_cons_succ]); (refine wpAnyH_take (i := 13) (v := undef) rfl (by kernel_rfl) (by kernel_rfl) (by kernel_rfl) (fun _ _ _ h => h) (Or.inr ⟨by rfl, rfl⟩) (by assumption) ?_; try simp only [Act.put, List.getElem_toArray, List.getElem_cons_succ, List.getElem_cons_zero, List.setIfInBounds_toArray, List.set_cons_zero, List.set_cons_succ]); (refine wpAnyH_take (i := 14) (v := undef) rfl (by kernel_rfl) (by kernel_rfl) (by kernel_rfl) (fun _ _ _ h => h) (Or.inr ⟨by rfl, rfl⟩) (by assumption) ?_; try simp only [Act.put, List.getElem_toArray, List.getElem_cons_succ, List.getElem_cons_zero, List.setIfInBounds_toArray, List.set_cons_zero, List.set_cons_succ]); (refine wpAnyH_take (i := 15) (v := undef) rfl (by kernel_rfl) (by kernel_rfl) (by kernel_rfl) (fun _ _ _ h => h) (Or.inr ⟨by rfl, rfl⟩) (by assumption) ?_; try simp only [Act.put, List.getElem_toArray, List.getElem_cons_succ, List.getElem_cons_zero, List.setIfInBounds_toArray, List.set_cons_zero, List.set_cons_succ]); (refine wpAnyH_take (i := 16) (v := undef) rfl (by kernel_rfl) (by kernel_rfl) (by kernel_rfl) (fun _ _ _ h => h) (Or.inr ⟨by rfl, rfl⟩) (by assumption) ?_; try simp only [Act.put, List.getElem_toArray, List.getElem_cons_succ, List.getElem_cons_zero, List.setIfInBounds_toArray, List.set_cons_zero, List.set_cons_succ]); (refine wpAnyH_take (i := 17) (v := undef) rfl (by kernel_rfl) (by kernel_rfl) (by kernel_rfl) (fun _ _ _ h => h) (Or.inr ⟨by rfl, rfl⟩) (by assumption) ?_; try simp only [Act.put, List.getElem_toArray, List.getElem_cons_succ, List.getElem_cons_zero, List.setIfInBounds_toArray, List.set_cons_zero, List.set_cons_succ]); (refine wpAnyH_take (i := 18) (v := undef) rfl (by kernel_rfl) (by kernel_rfl) (by kernel_rfl) (fun _ _ _ h => h) (Or.inr ⟨by rfl, rfl⟩) (by assumption) ?_; try simp only [Act.put, List.getElem_toArray, List.getElem_cons_succ, List.getElem_cons_zero, List.setIfInBounds_toArray, List.set_cons_zero, List.set_cons_succ]); (refine wpAnyH_take (i := 19) (v := undef) rfl (by kernel_rfl) (by kernel_rfl) (by kernel_rfl) (fun _ _ _ h => h) (Or.inr ⟨by rfl, rfl⟩) (by assumption) ?_; try simp only [Act.put, List.getElem_toArray, List.getElem_cons_succ, List.getElem_cons_zero, List.setIfInBounds_toArray, List.set_cons_zero, List.set_cons_succ]); (refine wpAnyH_take (i := 20) (v := undef) rfl (by kernel_rfl) (by kernel_rfl) (by kernel_rfl) (fun _ _ _ h => h) (Or.inr ⟨by rfl, rfl⟩) (by assumption) ?_; try simp only [Act.put, List.getElem_toArray, List.getElem_cons_succ, List.getElem_cons_zero, List.setIfInBounds_toArray, List.set_cons_zero, List.set_cons_succ]); (refine wpAnyH_take (i := 21) (v := undef) rfl (by kernel_rfl) (by kernel_rfl) (by kernel_rfl) (fun _ _ _ h => h) (Or.inr ⟨by rfl, rfl⟩) (by assumption) ?_; try simp only [Act.put, List.getElem_toArray, List.getElem_cons_succ, List.getElem_cons_zero, List.setIfInBounds_toArray, List.set_cons_zero, List.set_cons_succ]); (refine wpAnyH_take (i := 22) (v := undef) rfl (by kernel_rfl) (by kernel_rfl) (by kernel_rfl) (fun _ _ _ h => h) (Or.inr ⟨by rfl, rfl⟩) (by assumption) ?_; try simp only [Act.put, List.getElem_toArray, List.getElem_cons_succ, List.getElem_cons_zero, List.setIfInBounds_toArray, List.set_cons_zero, List.set_cons_succ]); (refine wpAnyH_take (i := 23) (v := undef) rfl (by kernel_rfl) (by kernel_rfl) (by kernel_rfl) (fun _ _ _ h => h) (Or.inr ⟨by rfl, rfl⟩) (by assumption) ?_; try simp only [Act.put, List.getElem_toArray, List.getElem_cons_succ, List.getElem_cons_zero, List.setIfInBounds_toArray, List.set_cons_zero, List.set_cons_succ]); (refine wpAnyH_take (i := 24) (v := undef) rfl (by kernel_rfl) (by kernel_rfl) (by kernel_rfl) (fun _ _ _ h => h) (Or.inr ⟨by rfl, rfl⟩) (by assumption) ?_; try simp only [Act.put, List.getElem_toArray, List.getElem_cons_succ, List.getElem_cons_zero, List.setIfInBounds_toArray, List.set_cons_zero, List.set_cons_succ]); (refine wpAnyH_take (i := 25) (v := undef) rfl (by kernel_rfl) (by kernel_rfl) (by kernel_rfl) (fun _ _ _ h => h) (Or.inr ⟨by rfl, rfl⟩) (by assumption) ?_; try simp only [Act.put, List.getElem_toArray, List.getElem_cons_succ, List.getElem_cons_zero, List.setIfInBounds_toArray, List.set_cons_zero, List.set_cons_succ]); (refine wpAnyH_take (i := 26) (v := undef) rfl (by kernel_rfl) (by kernel_rfl) (by kernel_rfl) (fun _ _ _ h => h) (Or.inr ⟨by rfl, rfl⟩) (by assumption) ?_; try simp only [Act.put, List.getElem_toArray, List.getElem_cons_succ, List.getElem_cons_zero, List.setIfInBounds_toArray, List.set_cons_zero, List.set_cons_succ]); (refine wpAnyH_take (i := 27) (v := undef) rfl (by kernel_rfl) (by kernel_rfl) (by kernel_rfl) (fun _ _ _ h => h) (Or.inr ⟨by rfl, rfl⟩) (by assumption) ?_; try simp only [Act.put, List.getElem_toArray, List.getElem_cons_succ, List.getElem_cons_zero, List.setIfInBounds_toArray, List.set_cons_zero, List.set_cons_succ]))
            ((refine wpAnyH_take (i := 28) (v := ?_) rfl (by kernel_rfl) (by kernel_rfl) (by kernel_rfl) (fun _ _ _ h => h) (Or.inl ⟨by rfl, ?_⟩) (by assumption) ?_; rotate_left; (focus (intro w hSw; (try dsimp only at hSw); go_simp <;> with_reducible rfl)); try simp only [Act.put, List.getElem_toArray, List.getElem_cons_succ, List.getElem_cons_zero, List.setIfInBounds_toArray, List.set_cons_zero, List.set_cons_succ]))
            refine wpAnyH_done (by kernel_rfl) ?_ _
            go_wp2_with fail
            go_ret
            refine ⟨ret_bool ?_, below_trans HBX.out HB5.out⟩
            rw [HST.out, HNN.out]; rfl
          · go_wp2_with fail
            refine wp_region_held_drew (S := (fun W => (W.cell? ⟨wr.heap.size, 0, none⟩ = some (.string name) ∧ W.cell? ⟨wr.heap.size, 1, none⟩ = some (.slice Ax xs.length cx) ∧ W.cell? ⟨wr.heap.size, 2, none⟩ = some (.string value) ∧ W.cell? ⟨w.heap.size, 0, none⟩ = some (.slice (some ad) ns.length c)))) (by kernel_rfl) HS0 (fun hHeld => ?_)
            ((refine wpAnyH_take (i := 0) (v := ?_) rfl (by kernel_rfl) (by kernel_rfl) (by kernel_rfl) (fun _ _ _ h => h) (Or.inl ⟨by rfl, ?_⟩) (by assumption) ?_; rotate_left; (focus (intro w hSw; (try dsimp only at hSw); go_simp <;> with_reducible rfl)); try simp only [Act.put, List.getElem_toArray, List.getElem_cons_zero, List.setIfInBounds_toArray, List.set_cons_zero, List.set_cons_succ]))
            refine wpAnyH_ready (rs := [1]) (by kernel_rfl) (by simp) ?_; refine AllReadyH.cons rfl (fun K hK => ?_) AllReadyH.nil; go_simp
            (go_at_call 36; refine (HN.out _ HAd.out).mono ?_; rintro e w5 ⟨rfl, b5⟩; have HB5 := Lib.hid (below_trans HXD.out b5); have HS5 := SS.out _ HB5.out; clear b5)
            try go_wp2_with fail
            refine hK.out _ _ HS5 (fun hHeld => ?_)
            clear hK K
            try simp only [Act.put, List.getElem_toArray, List.getElem_cons_succ, List.getElem_cons_zero, List.setIfInBounds_toArray, List.set_cons_zero, List.set_cons_succ]
            ((refine wpAnyH_take (i := 2) (v := ?_) rfl (by kernel_rfl) (by kernel_rfl) (by kernel_rfl) (fun _ _ _ h => h) (Or.inl ⟨by rfl, ?_⟩) (by assumption) ?_; rotate_left; (focus (intro w hSw; (try dsimp only at hSw); go_simp <;> with_reducible rfl)); try simp only [Act.put, List.getElem_toArray, List.getElem_cons_succ, List.getElem_cons_zero, List.setIfInBounds_toArray, List.set_cons_zero, List.set_cons_succ]); (refine wpAnyH_take (i := 3) (v := ?_) rfl (by kernel_rfl) (by kernel_rfl) (by kernel_rfl) (fun _ _ _ h => h) (Or.inl ⟨by rfl, ?_⟩) (by assumption) ?_; rotate_left; (focus (intro w hSw; (try dsimp only at hSw); go_simp <;> with_reducible rfl)); try simp only [Act.put, List.getElem_toArray, List.getElem_cons_succ, List.getElem_cons_zero, List.setIfInBounds_toArray, List.set_cons_zero, List.set_cons_succ]); (refine wpAnyH_take (i := 4) (v := ?_) rfl (by kernel_rfl) (by kernel_rfl) (by kernel_rfl) (fun _ _ _ h => h) (Or.inl ⟨by rfl, ?_⟩) (by assumption) ?_; rotate_left; (focus (intro w hSw; (try dsimp only at hSw); go_simp <;> with_reducible rfl)); try simp only [Act.put, List.getElem_toArray, List.getElem_cons_succ, List.getElem_cons_zero, List.setIfInBounds_toArray, List.set_cons_zero, List.set_cons_succ]); (refine wpAnyH_take (i := 5) (v := ?_) rfl (by kernel_rfl) (by kernel_rfl) (by kernel_rfl) (fun _ _ _ h => h) (Or.inl ⟨by rfl, ?_⟩) (by assumption) ?_; rotate_left; (focus (intro w hSw; (try dsimp only at hSw); go_simp <;> with_reducible rfl)); try simp only [Act.put, List.getElem_toArray, List.getElem_cons_succ, List.getElem_cons_zero, List.setIfInBounds_toArray, List.set_cons_zero, List.set_cons_succ]); (refine wpAnyH_take (i := 6) (v := ?_) rfl (by kernel_rfl) (by kernel_rfl) (by kernel_rfl) (fun _ _ _ h => h) (Or.inl ⟨by rfl, ?_⟩) (by assumption) ?_; rotate_left; (focus (intro w hSw; (try dsimp only at hSw); go_simp <;> with_reducible rfl)); try simp only [Act.put, List.getElem_toArray, List.getElem_cons_succ, List.getElem_cons_zero, List.setIfInBounds_toArray, List.set_cons_zero, List.set_cons_succ]))
            ((refine wpAnyH_take (i := 7) (v := undef) rfl (by kernel_rfl) (by kernel_rfl) (by kernel_rfl) (fun _ _ _ h => h) (Or.inr ⟨by rfl, rfl⟩) (by assumption) ?_; try simp only [Act.put, List.getElem_toArray, List.getElem_cons_succ, List.getElem_cons_zero, List.setIfInBounds_toArray, List.set_cons_zero, List.set_cons_succ]); (refine wpAnyH_take (i := 8) (v := undef) rfl (by kernel_rfl) (by kernel_rfl) (by kernel_rfl) (fun _ _ _ h => h) (Or.inr ⟨by rfl, rfl⟩) (by assumption) ?_; try simp only [Act.put, List.getElem_toArray, List.getElem_cons_succ, List.getElem_cons_zero, List.setIfInBounds_toArray, List.set_cons_zero, List.set_cons_succ]); (refine wpAnyH_take (i := 9) (v := undef) rfl (by kernel_rfl) (by kernel_rfl) (by kernel_rfl) (fun _ _ _ h => h) (Or.inr ⟨by rfl, rfl⟩) (by assumption) ?_; try simp only [Act.put, List.getElem_toArray, List.getElem_cons_succ, List.getElem_cons_zero, List.setIfInBounds_toArray, List.set_cons_zero, List.set_cons_succ]); (refine wpAnyH_take (i := 10) (v := undef) rfl (by kernel_rfl) (by kernel_rfl) (by kernel_rfl) (fun _ _ _ h => h) (Or.inr ⟨by rfl, rfl⟩) (by assumption) ?_; try simp only [Act.put, List.getElem_toArray, List.getElem_cons_succ, List.getElem_cons_zero, List.setIfInBounds_toArray, List.set_cons_zero, List.set_cons_succ]); (refine wpAnyH_take (i := 11) (v := undef) rfl (by kernel_rfl) (by kernel_rfl) (by kernel_rfl) (fun _ _ _ h => h) (Or.inr ⟨by rfl, rfl⟩) (by assumption) ?_; try simp only [Act.put, List.getElem_toArray, List.getElem_cons_succ, List.getElem_cons_zero, List.setIfInBounds_toArray, List.set_cons_zero, List.set_cons_succ]); (refine wpAnyH_take (i := 12) (v := undef) rfl (by kernel_rfl) (by kernel_rfl) (by kernel_rfl) (fun _ _ _ h => h) (Or.inr ⟨by rfl, rfl⟩) (by assumption) ?_; try simp only [Act.put, List.getElem_toArray, List.getElem_cons_succ, List.getElem_cons_zero, List.setIfInBounds_toArray, List.set_cons_zero, List.set_cons_succ]); (refine wpAnyH_take (i := 13) (v := undef) rfl (by kernel_rfl) (by kernel_rfl) (by kernel_rfl) (fun _ _ _ h => h) (Or.inr ⟨by rfl, rfl⟩) (by assumption) ?_; try simp only [Act.put, List.getElem_toArray, List.getElem_cons_succ, List.getElem_cons_zero, List.setIfInBounds_toArray, List.set_cons_zero, List.set_cons_succ]); (refine wpAnyH_take (i := 14) (v := undef) rfl (by kernel_rfl) (by kernel_rfl) (by kernel_rfl) (fun _ _ _ h => h) (Or.inr ⟨by rfl, rfl⟩) (by assumption) ?_; try simp only [Act.put, List.getElem_toArray, List.getElem_cons_succ, List.getElem_cons_zero, List.setIfInBounds_toArray, List.set_cons_zero, List.set_cons_succ]); (refine wpAnyH_take (i := 15) (v := undef) rfl (by kernel_rfl) (by kernel_rfl) (by kernel_rfl) (fun _ _ _ h => h) (Or.inr ⟨by rfl, rfl⟩) (by assumption) ?_; try simp only [Act.put, List.getElem_toArray, List.getElem_cons_succ, List.getElem_cons_zero, List.setIfInBounds_toArray, List.set_cons_zero, List.set_cons_succ]); (refine wpAnyH_take (i := 16) (v := undef) rfl (by kernel_rfl) (by kernel_rfl) (by kernel_rfl) (fun _ _ _ h => h) (Or.inr ⟨by rfl, rfl⟩) (by assumption) ?_; try simp only [Act.put, List.getElem_toArray, List.getElem_cons_succ, List.getElem_cons_zero, List.setIfInBounds_toArray, List.set_cons_zero, List.set_cons_succ]); (refine wpAnyH_take (i := 17) (v := undef) rfl (by kernel_rfl) (by kernel_rfl) (by kernel_rfl) (fun _ _ _ h => h) (Or.inr ⟨by rfl, rfl⟩) (by assumption) ?_; try simp only [Act.put, List.getElem_toArray, List.getElem_cons_succ, List.getElem_cons_zero, List.setIfInBounds_toArray, List.set_cons_zero, List.set_cons_succ]); (refine wpAnyH_take (i := 18) (v := undef) rfl (by kernel_rfl) (by kernel_rfl) (by kernel_rfl) (fun _ _ _ h => h) (Or.inr ⟨by rfl, rfl⟩) (by assumption) ?_; try simp only [Act.put, List.getElem_toArray, List.getElem_cons_succ, List.getElem_cons_zero, List.setIfInBounds_toArray, List.set_cons_zero, List.set_cons_succ]); (refine wpAnyH_take (i := 19) (v := undef) rfl (by kernel_rfl) (by kernel_rfl) (by kernel_rfl) (fun _ _ _ h => h) (Or.inr ⟨by rfl, rfl⟩) (by assumption) ?_; try simp only [Act.put, List.getElem_toArray, List.getElem_cons_succ, List.getElem_cons_zero, List.setIfInBounds_toArray, List.set_cons_zero, List.set_cons_succ]); (refine wpAnyH_take (i := 20) (v := undef) rfl (by kernel_rfl) (by kernel_rfl) (by kernel_rfl) (fun _ _ _ h => h) (Or.inr ⟨by rfl, rfl⟩) (by assumption) ?_; try simp only [Act.put, List.getElem_toArray, List.getElem_cons_succ, List.getElem_cons_zero, List.setIfInBounds_toArray, List.set_cons_zero, List.set_cons_succ]); (refine wpAnyH_take (i := 21) (v := undef) rfl (by kernel_rfl) (by kernel_rfl) (by kernel_rfl) (fun _ _ _ h => h) (Or.inr ⟨by rfl, rfl⟩) (by assumption) ?_; try simp only [Act.put, List.getElem_toArray, List.getElem_cons_succ, List.getElem_cons_zero, List.setIfInBounds_toArray, List.set_cons_zero, List.set_cons_succ]); (refine wpAnyH_take (i := 22) (v := undef) rfl (by kernel_rfl) (by kernel_rfl) (by kernel_rfl) (fun _ _ _ h => h) (Or.inr ⟨by rfl, rfl⟩) (by assumption) ?_; try simp only [Act.put, List.getElem_toArray, List.getElem_cons_succ, List.getElem_cons_zero, List.setIfInBounds_toArray, List.set_cons_zero, List.set_cons_succ]); (refine wpAnyH_take (i := 23) (v := undef) rfl (by kernel_rfl) (by kernel_rfl) (by kernel_rfl) (fun _ _ _ h => h) (Or.inr ⟨by rfl, rfl⟩) (by assumption) ?_; try simp only [Act.put, List.getElem_toArray, List.getElem_cons_succ, List.getElem_cons_zero, List.setIfInBounds_toArray, List.set_cons_zero, List.set_cons_succ]); (refine wpAnyH_take (i := 24) (v := undef) rfl (by kernel_rfl) (by kernel_rfl) (by kernel_rfl) (fun _ _ _ h => h) (Or.inr ⟨by rfl, rfl⟩) (by assumption) ?_; try simp only [Act.put, List.getElem_toArray, List.getElem_cons_succ, List.getElem_cons_zero, List.setIfInBounds_toArray, List.set_cons_zero, List.set_cons_succ]); (refine wpAnyH_take (i := 25) (v := undef) rfl (by kernel_rfl) (by kernel_rfl) (by kernel_rfl) (fun _ _ _ h => h) (Or.inr ⟨by rfl, rfl⟩) (by assumption) ?_; try simp only [Act.put, List.getElem_toArray, List.getElem_cons_succ, List.getElem_cons_zero, List.setIfInBounds_toArray, List.set_cons_zero, List.set_cons_succ]); (refine wpAnyH_take (i := 26) (v := undef) rfl (by kernel_rfl) (by kernel_rfl) (by kernel_rfl) (fun _ _ _ h => h) (Or.inr ⟨by rfl, rfl⟩) (by assumption) ?_; try simp only [Act.put, List.getElem_toArray, List.getElem_cons_succ, List.getElem_cons_zero, List.setIfInBounds_toArray, List.set_cons_zero, List.set_cons_succ]))
            ((refine wpAnyH_take (i := 27) (v := ?_) rfl (by kernel_rfl) (by kernel_rfl) (by kernel_rfl) (fun _ _ _ h => h) (Or.inl ⟨by rfl, ?_⟩) (by assumption) ?_; rotate_left; (focus (intro w hSw; (try dsimp only at hSw); go_simp <;> with_reducible rfl)); try simp only [Act.put, List.getElem_toArray, List.getElem_cons_succ, List.getElem_cons_zero, List.setIfInBounds_toArray, List.set_cons_zero, List.set_cons_succ]); (refine wpAnyH_take (i := 28) (v := ?_) rfl (by kernel_rfl) (by kernel_rfl) (by kernel_rfl) (fun _ _ _ h => h) (Or.inl ⟨by rfl, ?_⟩) (by assumption) ?_; rotate_left; (focus (intro w hSw; (try dsimp only at hSw); go_simp <;> with_reducible rfl)); try simp only [Act.put, List.getElem_toArray, List.getElem_cons_succ, List.getElem_cons_zero, List.setIfInBounds_toArray, List.set_cons_zero, List.set_cons_succ]))
            refine wpAnyH_done (by kernel_rfl) ?_ _
            go_wp2_with fail
            refine ⟨⟨0 + 1, by omega, by go_num, ?_, below_trans hbel1 HB5.out⟩, by simp [intOf]; omega⟩
            show _ = _
            rw [HST.out, HNN.out, if_neg (by omega), Nat.add_sub_cancel, HNX.out]; rfl
        · obtain ⟨j, rfl⟩ : ∃ j, k = j + 1 := ⟨k - 1, by omega⟩
          rw [Nat.add_sub_cancel] at HI
          have hlt1 : j < ns.length := by omega
          have w1 : IntKind.i64.wrap (j : Int) = j := IntWalk.i64_in _ (by omega)
          have w2 : IntKind.i64.wrap ((j : Int) + 1 - 1) = j := by rw [Int.add_sub_cancel]; exact w1
          have j0 : (0 : Int) ≤ j := by omega
          have j1 : (j : Int) < ns.length := by omega
          have HP : Hid (ns[j]? = some ns[j]) := List.getElem?_eq_getElem hlt1
          have HXP := Lib.hid (HOK.out _ (List.getElem_mem hlt1))
          have HST : Hid (R = ((nodeOkB ns[j + 1] && lessB ns[j] ns[j + 1]) && treeGo (some ns[j + 1]) (ns.drop (j + 1 + 1)))) := by
            show _ = _
            rw [HI.out, if_neg (by omega), HP.out, HD.out]; rfl
          have HNX : Hid (ns[j + 1]? = some ns[j + 1]) := List.getElem?_eq_getElem hlt
          clear HI HP HD
          have hget : ∀ W, Below (w.alloc (.cells #[.slice (some ad) ns.length c] 30)).heap.size (w.alloc (.cells #[.slice (some ad) ns.length c] 30)) W → ns[j].At W ∧ W.cell? (ad.add ((j) * 3)) = some (.string ns[j].name) ∧ W.cell? ⟨(ad.add ((j) * 3)).block, (ad.add ((j) * 3)).off + 1, none⟩ = some ns[j].subsv := fun W hW => by
            obtain ⟨ad', e, _, h1, h2, h3, _⟩ := (H.out.on hW).get hlt1
            injection e with e; subst e
            exact ⟨h1, h2, h3⟩
          have HG := Lib.hid hget; clear hget
          generalize ns[j] = p at *
          generalize ns[j + 1] = x at *
          obtain ⟨name, sv, xs, value⟩ := x
          obtain ⟨pname, psv, pxs, pvalue⟩ := p
          obtain ⟨Ax, cx, hsx, _, _⟩ := id hat.1
          replace hsx : sv = .slice Ax xs.length cx := hsx
          subst hsx
          simp only [NodeV.cells] at *
          obtain ⟨N, hN⟩ : ∃ N : Bool, nodeOkB ⟨name, .slice Ax xs.length cx, xs, value⟩ = N := ⟨_, rfl⟩
          have HN := Lib.hid (fun W (hW : NodeV.At ⟨name, .slice Ax xs.length cx, xs, value⟩ W) => nodeOk_any ⟨name, .slice Ax xs.length cx, xs, value⟩ W hW HX.out)
          rw [hN] at HN
          simp only [NodeV.cells] at HN
          have hkp : (0 : Int) < ((j + 1 : Nat) : Int) := by omega
          have hkd : decide ((0 : Int) < ((j + 1 : Nat) : Int)) = true := by rw [decide_eq_true_iff]; exact hkp
          have hkp2 : (0 : Int) < (j : Int) + 1 := by omega
          have hkd2 : decide ((0 : Int) < (j : Int) + 1) = true := by rw [decide_eq_true_iff]; exact hkp2
          have hkn : decide (0 < j + 1) = true := by simp
          have HAd : Hid (NodeV.At ⟨name, .slice Ax xs.length cx, xs, value⟩ (wr.alloc (.cells #[.string name, .slice Ax xs.length cx, .string value] 50)).drew) := HAT.out
          have HBd : Hid (Below (w.alloc (.cells #[.slice (some ad) ns.length c] 30)).heap.size (w.alloc (.cells #[.slice (some ad) ns.length c] 30)) (wr.alloc (.cells #[.string name, .slice Ax xs.length cx, .string value] 50)).drew) := hbel1.drew
          have HCd : Hid (CellsAt (wr.alloc (.cells #[.string name, .slice Ax xs.length cx, .string value] 50)).drew wr.heap.size [.string name, .slice Ax xs.length cx, .string value]) := HCX.out
          obtain ⟨hnx, ⟨hlx, hzx⟩, hvx, _⟩ := HX.out
          obtain ⟨hnp, ⟨hlp, hzp⟩, hvp, _⟩ := HXP.out
          have HZX := Lib.hid hzx; have HZP := Lib.hid hzp; clear hzx hzp
          have SS : Hid (∀ W, Below (wr.alloc (.cells #[.string name, .slice Ax xs.length cx, .string value] 50)).heap.size (wr.alloc (.cells #[.string name, .slice Ax xs.length cx, .string value] 50)) W → (W.cell? ⟨wr.heap.size, 0, none⟩ = some (.string name) ∧ W.cell? ⟨wr.heap.size, 1, none⟩ = some (.slice Ax xs.length cx) ∧ W.cell? ⟨wr.heap.size, 2, none⟩ = some (.string value) ∧ W.cell? ⟨w.heap.size, 0, none⟩ = some (.slice (some ad) ns.length c) ∧ W.cell? (ad.add ((j) * 3)) = some (.string pname) ∧ W.cell? ⟨(ad.add ((j) * 3)).block, (ad.add ((j) * 3)).off + 1, none⟩ = some psv)) := fun W hW => by
            have hc := HCX.out.below hW
            obtain ⟨_, g2, g3⟩ := HG.out W (below_trans hbel1 hW)
            exact ⟨hc.2 0 _ rfl, hc.2 1 _ rfl, hc.2 2 _ rfl, (HC1.out.below (below_trans hbel1 hW)).2 0 _ rfl, g2, g3⟩
          have HXD : Hid (Below (wr.alloc (.cells #[.string name, .slice Ax xs.length cx, .string value] 50)).heap.size (wr.alloc (.cells #[.string name, .slice Ax xs.length cx, .string value] 50)) (wr.alloc (.cells #[.string name, .slice Ax xs.length cx, .string value] 50)).drew) := (below_refl _).drew
          have HS0 := SS.out _ HXD.out
          have HBX : Hid (Below w.heap.size w (wr.alloc (.cells #[.string name, .slice Ax xs.length cx, .string value] 50))) := below_trans hba hbel1
          have HNN := Lib.hid hN; clear hN
          cases N
          · go_wp2_with fail
            refine wp_region_held_drew (S := (fun W => (W.cell? ⟨wr.heap.size, 0, none⟩ = some (.string name) ∧ W.cell? ⟨wr.heap.size, 1, none⟩ = some (.slice Ax xs.length cx) ∧ W.cell? ⟨wr.heap.size, 2, none⟩ = some (.string value) ∧ W.cell? ⟨w.heap.size, 0, none⟩ = some (.slice (some ad) ns.length c) ∧ W.cell? (ad.add ((j) * 3)) = some (.string pname) ∧ W.cell? ⟨(ad.add ((j) * 3)).block, (ad.add ((j) * 3)).off + 1, none⟩ = some psv))) (by kernel_rfl) HS0 (fun hHeld => ?_)
            ((refine wpAnyH_take (i := 0) (v := ?_) rfl (by kernel_rfl) (by kernel_rfl) (by kernel_rfl) (fun _ _ _ h => h) (Or.inl ⟨by rfl, ?_⟩) (by assumption) ?_; rotate_left; (focus (intro w hSw; (try dsimp only at hSw); go_simp <;> with_reducible rfl)); try simp only [Act.put, List.getElem_toArray, List.getElem_cons_zero, List.setIfInBounds_toArray, List.set_cons_zero, List.set_cons_succ]))
            refine wpAnyH_ready (rs := [1]) (by kernel_rfl) (by simp) ?_; refine AllReadyH.cons rfl (fun K hK => ?_) AllReadyH.nil; go_simp
            (go_at_call 36; refine (HN.out _ HAd.out).mono ?_; rintro e w5 ⟨rfl, b5⟩; have HB5 := Lib.hid (below_trans HXD.out b5); have HS5 := SS.out _ HB5.out; clear b5)
            try go_wp2_with fail
            refine hK.out _ _ HS5 (fun hHeld => ?_)
            clear hK K
            try simp only [Act.put, List.getElem_toArray, List.getElem_cons_succ, List.getElem_cons_zero, List.setIfInBounds_toArray, List.set_cons_zero, List.set_cons_succ]
            ((refine wpAnyH_take (i := 2) (v := ?_) rfl (by kernel_rfl) (by kernel_rfl) (by kernel_rfl) (fun _ _ _ h => h) (Or.inl ⟨by rfl, ?_⟩) (by assumption) ?_; rotate_left; (focus (intro w hSw; (try dsimp only at hSw); go_simp <;> with_reducible rfl)); try simp only [Act.put, List.getElem_toArray, List.getElem_cons_succ, List.getElem_cons_zero, List.setIfInBounds_toArray, List.set_cons_zero, List.set_cons_succ]); (refine wpAnyH_take (i := 3) (v := ?_) rfl (by kernel_rfl) (by kernel_rfl) (by kernel_rfl) (fun _ _ _ h => h) (Or.inl ⟨by rfl, ?_⟩) (by assumption) ?_; rotate_left; (focus (intro w hSw; (try dsimp only at hSw); go_simp <;> with_reducible rfl)); try simp only [Act.put, List.getElem_toArray, List.getElem_cons_succ, List.getElem_cons_zero, List.setIfInBounds_toArray, List.set_cons_zero, List.set_cons_succ]))
            ((refine wpAnyH_take (i := 4) (v := undef) rfl (by kernel_rfl) (by kernel_rfl) (by kernel_rfl) (fun _ _ _ h => h) (Or.inr ⟨by rfl, rfl⟩) (by assumption) ?_; try simp only [Act.put, List.getElem_toArray, List.getElem_cons_succ, List.getElem_cons_zero, List.setIfInBounds_toArray, List.set_cons_zero, List.set_cons_succ]); (refine wpAnyH_take (i := 5) (v := undef) rfl (by kernel_rfl) (by kernel_rfl) (by kernel_rfl) (fun _ _ _ h => h) (Or.inr ⟨by rfl, rfl⟩) (by assumption) ?_; try simp only [Act.put, List.getElem_toArray, List.getElem_cons_succ, List.getElem_cons_zero, List.setIfInBounds_toArray, List.set_cons_zero, List.set_cons_succ]); (refine wpAnyH_take (i := 6) (v := undef) rfl (by kernel_rfl) (by kernel_rfl) (by kernel_rfl) (fun _ _ _ h => h) (Or.inr ⟨by rfl, rfl⟩) (by assumption) ?_; try simp only [Act.put, List.getElem_toArray, List.getElem_cons_succ, List.getElem_cons_zero, List.setIfInBounds_toArray, List.set_cons_zero, List.set_cons_succ]); (refine wpAnyH_take (i := 7) (v := undef) rfl (by kernel_rfl) (by kernel_rfl) (by kernel_rfl) (fun _ _ _ h => h) (Or.inr ⟨by rfl, rfl⟩) (by assumption) ?_; try simp only [Act.put, List.getElem_toArray, List.getElem_cons_succ, List.getElem_cons_zero, List.setIfInBounds_toArray, List.set_cons_zero, List.set_cons_succ]); (refine wpAnyH_take (i := 8) (v := undef) rfl (by kernel_rfl) (by kernel_rfl) (by kernel_rfl) (fun _ _ _ h => h) (Or.inr ⟨by rfl, rfl⟩) (by assumption) ?_; try simp only [Act.put, List.getElem_toArray, List.getElem_cons_succ, List.getElem_cons_zero, List.setIfInBounds_toArray, List.set_cons_zero, List.set_cons_succ]); (refine wpAnyH_take (i := 9) (v := undef) rfl (by kernel_rfl) (by kernel_rfl) (by kernel_rfl) (fun _ _ _ h => h) (Or.inr ⟨by rfl, rfl⟩) (by assumption) ?_; try simp only [Act.put, List.getElem_toArray, List.getElem_cons_succ, List.getElem_cons_zero, List.setIfInBounds_toArray, List.set_cons_zero, List.set_cons_succ]); (refine wpAnyH_take (i := 10) (v := undef) rfl (by kernel_rfl) (by kernel_rfl) (by kernel_rfl) (fun _ _ _ h => h) (Or.inr ⟨by rfl, rfl⟩) (by assumption) ?_; try simp only [Act.put, List.getElem_toArray, List.getElem_cons_succ, List.getElem_cons_zero, List.setIfInBounds_toArray, List.set_cons_zero, List.set_cons_succ]); (refine wpAnyH_take (i := 11) (v := undef) rfl (by kernel_rfl) (by kernel_rfl) (by kernel_rfl) (fun _ _ _ h => h) (Or.inr ⟨by rfl, rfl⟩) (by assumption) ?_; try simp only [Act.put, List.getElem_toArray, List.getElem_cons_succ, List.getElem_cons_zero, List.setIfInBounds_toArray, List.set_cons_zero, List.set_cons_succ]); (refine wpAnyH_take (i := 12) (v := undef) rfl (by kernel_rfl) (by kernel_rfl) (by kernel_rfl) (fun _ _ _ h => h) (Or.inr ⟨by rfl, rfl⟩) (by assumption) ?_; try simp only [Act.put, List.getElem_toArray, List.getElem_cons_succ, List.getElem_cons_zero, List.setIfInBounds_toArray, List.set_cons_zero, List.set_cons_succ]); (refine wpAnyH_take (i := 13) (v := undef) rfl (by kernel_rfl) (by kernel_rfl) (by kernel_rfl) (fun _ _ _ h => h) (Or.inr ⟨by rfl, rfl⟩) (by assumption) ?_; try simp only [Act.put, List.getElem_toArray, List.getElem_cons_succ, List.getElem_cons_zero, List.setIfInBounds_toArray, List.set_cons_zero, List.set_cons_succ]); (refine wpAnyH_take (i := 14) (v := undef) rfl (by kernel_rfl) (by kernel_rfl) (by kernel_rfl) (fun _ _ _ h => h) (Or.inr ⟨by rfl, rfl⟩) (by assumption) ?_; try simp only [Act.put, List.getElem_toArray, List.getElem_cons_succ, List.getElem_cons_zero, List.setIfInBounds_toArray, List.set_cons_zero, List.set_cons_succ]); (refine wpAnyH_take (i := 15) (v := undef) rfl (by kernel_rfl) (by kernel_rfl) (by kernel_rfl) (fun _ _ _ h => h) (Or.inr ⟨by rfl, rfl⟩) (by assumption) ?_; try simp only [Act.put, List.getElem_toArray, List.getElem_cons_succ, List.getElem_cons_zero, List.setIfInBounds_toArray, List.set_cons_zero, List.set_cons_succ]); (refine wpAnyH_take (i := 16) (v := undef) rfl (by kernel_rfl) (by kernel_rfl) (by kernel_rfl) (fun _ _ _ h => h) (Or.inr ⟨by rfl, rfl⟩) (by assumption) ?_; try simp only [Act.put, List.getElem_toArray, List.getElem_cons_succ, List.getElem_cons_zero, List.setIfInBounds_toArray, List.set_cons_zero, List.set_cons_succ]); (refine wpAnyH_take (i := 17) (v := undef) rfl (by kernel_rfl) (by kernel_rfl) (by kernel_rfl) (fun _ _ _ h => h) (Or.inr ⟨by rfl, rfl⟩) (by assumption) ?_; try simp only [Act.put, List.getElem_toArray, List.getElem_cons_succ, List.getElem_cons_zero, List.setIfInBounds_toArray, List.set_cons_zero, List.set_cons_succ]); (refine wpAnyH_take (i := 18) (v := undef) rfl (by kernel_rfl) (by kernel_rfl) (by kernel_rfl) (fun _ _ _ h => h) (Or.inr ⟨by rfl, rfl⟩) (by assumption) ?_; try simp only [Act.put, List.getElem_toArray, List.getElem_cons_succ, List.getElem_cons_zero, List.setIfInBounds_toArray, List.set_cons_zero, List.set_cons_succ]); (refine wpAnyH_take (i := 19) (v := undef) rfl (by kernel_rfl) (by kernel_rfl) (by kernel_rfl) (fun _ _ _ h => h) (Or.inr ⟨by rfl, rfl⟩) (by assumption) ?_; try simp only [Act.put, List.getElem_toArray, List.getElem_cons_succ, List.getElem_cons_zero, List.setIfInBounds_toArray, List.set_cons_zero, List.set_cons_succ]); (refine wpAnyH_take (i := 20) (v := undef) rfl (by kernel_rfl) (by kernel_rfl) (by kernel_rfl) (fun _ _ _ h => h) (Or.inr ⟨by rfl, rfl⟩) (by assumption) ?_; try simp only [Act.put, List.getElem_toArray, List.getElem_cons_succ, List.getElem_cons_zero, List.setIfInBounds_toArray, List.set_cons_zero, List.set_cons_succ]); (refine wpAnyH_take (i := 21) (v := undef) rfl (by kernel_rfl) (by kernel_rfl) (by kernel_rfl) (fun _ _ _ h => h) (Or.inr ⟨by rfl, rfl⟩) (by assumption) ?_; try simp only [Act.put, List.getElem_toArray, List.getElem_cons_succ, List.getElem_cons_zero, List.setIfInBounds_toArray, List.set_cons_zero, List.set_cons_succ]); (refine wpAnyH_take (i := 22) (v := undef) rfl (by kernel_rfl) (by kernel_rfl) (by kernel_rfl) (fun _ _ _ h => h) (Or.inr ⟨by rfl, rfl⟩) (by assumption) ?_; try simp only [Act.put, List.getElem_toArray, List.getElem_cons_succ, List.getElem_cons_zero, List.setIfInBounds_toArray, List.set_cons_zero, List.set_cons_succ]); (refine wpAnyH_take (i := 23) (v := undef) rfl (by kernel_rfl) (by kernel_rfl) (by kernel_rfl) (fun _ _ _ h => h) (Or.inr ⟨by rfl, rfl⟩) (by assumption) ?_; try simp only [Act.put, List.getElem_toArray, List.getElem_cons_succ, List.getElem_cons_zero, List.setIfInBounds_toArray, List.set_cons_zero, List.set_cons_succ]); (refine wpAnyH_take (i := 24) (v := undef) rfl (by kernel_rfl) (by kernel_rfl) (by kernel_rfl) (fun _ _ _ h => h) (Or.inr ⟨by rfl, rfl⟩) (by assumption) ?_; try simp only [Act.put, List.getElem_toArray, List.getElem_cons_succ, List.getElem_cons_zero, List.setIfInBounds_toArray, List.set_cons_zero, List.set_cons_succ]); (refine wpAnyH_take (i := 25) (v := undef) rfl (by kernel_rfl) (by kernel_rfl) (by kernel_rfl) (fun _ _ _ h => h) (Or.inr ⟨by rfl, rfl⟩) (by assumption) ?_; try simp only [Act.put, List.getElem_toArray, List.getElem_cons_succ, List.getElem_cons_zero, List.setIfInBounds_toArray, List.set_cons_zero, List.set_cons_succ]); (refine wpAnyH_take (i := 26) (v := undef) rfl (by kernel_rfl) (by kernel_rfl) (by kernel_rfl) (fun _ _ _ h => h) (Or.inr ⟨by rfl, rfl⟩) (by assumption) ?_; try simp only [Act.put, List.getElem_toArray, List.getElem_cons_succ, List.getElem_cons_zero, List.setIfInBounds_toArray, List.set_cons_zero, List.set_cons_succ]); (refine wpAnyH_take (i := 27) (v := undef) rfl (by kernel_rfl) (by kernel_rfl) (by kernel_rfl) (fun _ _ _ h => h) (Or.inr ⟨by rfl, rfl⟩) (by assumption) ?_; try simp only [Act.put, List.getElem_toArray, List.getElem_cons_succ, List.getElem_cons_zero, List.setIfInBounds_toArray, List.set_cons_zero, List.set_cons_succ]))
            ((refine wpAnyH_take (i := 28) (v := ?_) rfl (by kernel_rfl) (by kernel_rfl) (by kernel_rfl) (fun _ _ _ h => h) (Or.inl ⟨by rfl, ?_⟩) (by assumption) ?_; rotate_left; (focus (intro w hSw; (try dsimp only at hSw); go_simp <;> with_reducible rfl)); try simp only [Act.put, List.getElem_toArray, List.getElem_cons_succ, List.getElem_cons_zero, List.setIfInBounds_toArray, List.set_cons_zero, List.set_cons_succ]))
            refine wpAnyH_done (by kernel_rfl) ?_ _
            go_wp2_with fail
            go_ret
            refine ⟨ret_bool ?_, below_trans HBX.out HB5.out⟩
            rw [HST.out, HNN.out]; rfl
          · go_wp2_with fail
            go_region_held3 (fun W => (W.cell? ⟨wr.heap.size, 0, none⟩ = some (.string name) ∧ W.cell? ⟨wr.heap.size, 1, none⟩ = some (.slice Ax xs.length cx) ∧ W.cell? ⟨wr.heap.size, 2, none⟩ = some (.string value) ∧ W.cell? ⟨w.heap.size, 0, none⟩ = some (.slice (some ad) ns.length c) ∧ W.cell? (ad.add ((j) * 3)) = some (.string pname) ∧ W.cell? ⟨(ad.add ((j) * 3)).block, (ad.add ((j) * 3)).off + 1, none⟩ = some psv)) (first | exact HS0 | exact HS5 | exact HS6)
              (first | (go_at_call 36; refine (HN.out _ HAd.out).mono ?_; rintro e w5 ⟨rfl, b5⟩; have HB5 := Lib.hid (below_trans HXD.out b5); have HS5 := SS.out _ HB5.out; have HA5 := Lib.hid (HAd.out.on b5); have HP5 := Lib.hid (HG.out _ (below_trans hbel1 HB5.out)).1; clear b5) | (go_at_call 37; refine (compareLocations_any pname name _ _ pxs xs _ (HT.out.below (below_trans HBX.out HB5.out)) HP5.out.1 HA5.out.1 hlp hlx HZP.out HZX.out).mono ?_; rintro e w6 ⟨cc, rfl, HCC, b6⟩; have HB6 := Lib.hid (below_trans HB5.out b6); have HS6 := SS.out _ HB6.out; clear b6))
            rcases ltForms cc 0 with ⟨l1, l2⟩ | ⟨l1, l2⟩
            · have l3 : decide (0 ≤ cc) = false := by rw [decide_eq_false_iff_not]; omega
              go_wp2_with fail
              refine ⟨⟨j + 1 + 1, by omega, by go_num, ?_, below_trans hbel1 HB6.out⟩, by simp [intOf]; omega⟩
              show _ = _
              have hc := HCC.out
              rw [l1] at hc
              rw [HST.out, HNN.out, if_neg (by omega), Nat.add_sub_cancel, HNX.out, Bool.true_and]
              unfold lessB
              rw [← hc, Bool.true_and]
            · have l3 : decide (0 ≤ cc) = true := by rw [decide_eq_true_iff]; omega
              go_wp2_with fail
              go_ret
              refine ⟨ret_bool ?_, below_trans HBX.out HB6.out⟩
              have hc := HCC.out
              rw [l1] at hc
              rw [HST.out, HNN.out, Bool.true_and]
              unfold lessB
              rw [← hc]; rfl
      · go_wp2
        go_ret
        refine ⟨ret_bool ?_, below_trans hba hbel⟩
        rw [HI.out, List.drop_eq_nil_of_le (by omega)]; rfl
  · go_enter Tryz.func20, Tryz.ntmps20
    go_wp2
    go_ret
    exact ⟨ret_bool (by rw [← HR.out]; unfold treeOkB; rw [decide_eq_false h120]; rfl), hba⟩

set_option maxHeartbeats 4000000 in
set_option maxRecDepth 8000 in
theorem sTreeOk_any (v : Value) (ns : List NodeV) (w : World) (h : NodesAt w v ns) (hl : ns.length ≤ 1048576) (hok : ∀ x ∈ ns, x.Ok 1048576) :
    Calls Tryz.prog 16 #[.agg #[v]] w fun e w' => e = .returned (.bool (treeOkB ns)) ∧ Below w.heap.size w w' := by
  obtain ⟨R, hR⟩ : ∃ R : Bool, treeOkB ns = R := ⟨_, rfl⟩
  rw [hR]
  have HR := Lib.hid hR; clear hR
  have hba : Below w.heap.size w (w.alloc (.cells #[v] 30)) := Joins.below_alloc1 w _
  have H := Lib.hid (h.on hba)
  have HOK := Lib.hid hok; clear hok
  obtain ⟨A, c, rfl, hc, _⟩ := h
  have HC1 := Lib.hid (CellsAt.new w #[.slice A ns.length c] 30)
  by_cases h120 : ns.length ≤ 120
  · go_enter Tryz.func16, Tryz.ntmps16
    go_wp2
    go_loopw [3] (fun i wr => ∃ k : Nat, k ≤ ns.length ∧ i = .int .i64 k ∧ Hid (R = treeGo (if k = 0 then none else ns[k - 1]?) (ns.drop k)) ∧ Below (w.alloc (.cells #[.slice A ns.length c] 30)).heap.size (w.alloc (.cells #[.slice A ns.length c] 30)) wr) (fun i _ => ns.length - (intOf i).toNat)
    case atStart => exact ⟨0, Nat.zero_le _, rfl, by show _ = _; rw [← HR.out, if_pos rfl, List.drop_zero]; unfold treeOkB; rw [decide_eq_true h120]; rfl, below_refl _⟩
    case round =>
      clear HR
      obtain ⟨k, hk, rfl, HI, hbel⟩ := hrel
      by_cases hlt : k < ns.length
      · obtain ⟨ad, rfl, hbl, hat, a0, a1, a2⟩ := (H.out.on hbel).get hlt
        have c1 : wr.cell? ⟨w.heap.size, 0, none⟩ = some (.slice (some ad) ns.length c) := (HC1.out.below hbel).2 0 _ rfl
        have HX := Lib.hid (HOK.out _ (List.getElem_mem hlt))
        have HD := Lib.hid (List.drop_eq_getElem_cons hlt)
        have HB := Lib.hid (below_trans hba hbel)
        have hb1 : Below wr.heap.size wr (wr.alloc (.cells ns[k].cells 50)) := Joins.below_alloc1 wr _
        have hbel1 := below_trans hbel hb1
        have HAT := Lib.hid (hat.on hb1)
        have HCX := Lib.hid (CellsAt.new wr ns[k].cells 50)
        by_cases hk0 : k = 0
        · subst hk0
          have HST : Hid (R = ((nodeOkB ns[0] && true) && treeGo (some ns[0]) (ns.drop 1))) := by
            show _ = _
            rw [HI.out, if_pos rfl, HD.out]; rfl
          have HNX : Hid (ns[0]? = some ns[0]) := List.getElem?_eq_getElem hlt
          clear HI HD
          generalize ns[0] = x at *
          obtain ⟨name, sv, xs, value⟩ := x
          obtain ⟨Ax, cx, hsx, _, _⟩ := id hat.1
          replace hsx : sv = .slice Ax xs.length cx := hsx
          subst hsx
          simp only [NodeV.cells] at *
          rw [Nat.zero_mul] at a0 a1 a2
          have e0 : ad.add 0 = ad := by simp [Addr.add]
          rw [e0] at a0 a1 a2
          obtain ⟨N, hN⟩ : ∃ N : Bool, nodeOkB ⟨name, .slice Ax xs.length cx, xs, value⟩ = N := ⟨_, rfl⟩
          have HN := Lib.hid (fun W (hW : NodeV.At ⟨name, .slice Ax xs.length cx, xs, value⟩ W) => l03Node_any ⟨name, .slice Ax xs.length cx, xs, value⟩ W hW HX.out)
          rw [hN] at HN
          have HNN := Lib.hid hN; clear hN
          simp only [NodeV.cells] at HN
          have HAd : Hid (NodeV.At ⟨name, .slice Ax xs.length cx, xs, value⟩ (wr.alloc (.cells #[.string name, .slice Ax xs.length cx, .string value] 50)).drew) := HAT.out
          have SS : Hid (∀ W, Below (wr.alloc (.cells #[.string name, .slice Ax xs.length cx, .string value] 50)).heap.size (wr.alloc (.cells #[.string name, .slice Ax xs.length cx, .string value] 50)) W → (W.cell? ⟨wr.heap.size, 0, none⟩ = some (.string name) ∧ W.cell? ⟨wr.heap.size, 1, none⟩ = some (.slice Ax xs.length cx) ∧ W.cell? ⟨wr.heap.size, 2, none⟩ = some (.string value) ∧ W.cell? ⟨w.heap.size, 0, none⟩ = some (.slice (some ad) ns.length c))) := fun W hW => by
            have hc := HCX.out.below hW
            exact ⟨hc.2 0 _ rfl, hc.2 1 _ rfl, hc.2 2 _ rfl, (HC1.out.below (below_trans hbel1 hW)).2 0 _ rfl⟩
          have HXD : Hid (Below (wr.alloc (.cells #[.string name, .slice Ax xs.length cx, .string value] 50)).heap.size (wr.alloc (.cells #[.string name, .slice Ax xs.length cx, .string value] 50)) (wr.alloc (.cells #[.string name, .slice Ax xs.length cx, .string value] 50)).drew) := (below_refl _).drew
          have HS0 := SS.out _ HXD.out
          have HBX : Hid (Below w.heap.size w (wr.alloc (.cells #[.string name, .slice Ax xs.length cx, .string value] 50))) := below_trans hba hbel1
          cases N
          · go_wp2_with fail
            refine wp_region_held_drew (S := (fun W => (W.cell? ⟨wr.heap.size, 0, none⟩ = some (.string name) ∧ W.cell? ⟨wr.heap.size, 1, none⟩ = some (.slice Ax xs.length cx) ∧ W.cell? ⟨wr.heap.size, 2, none⟩ = some (.string value) ∧ W.cell? ⟨w.heap.size, 0, none⟩ = some (.slice (some ad) ns.length c)))) (by kernel_rfl) HS0 (fun hHeld => ?_)
            ((refine wpAnyH_take (i := 0) (v := ?_) rfl (by kernel_rfl) (by kernel_rfl) (by kernel_rfl) (fun _ _ _ h => h) (Or.inl ⟨by rfl, ?_⟩) (by assumption) ?_; rotate_left; (focus (intro w hSw; (try dsimp only at hSw); go_simp <;> with_reducible rfl)); try simp only [Act.put, List.getElem_toArray, List.getElem_cons_zero, List.setIfInBounds_toArray, List.set_cons_zero, List.set_cons_succ]))
            refine wpAnyH_ready (rs := [1]) (by kernel_rfl) (by simp) ?_; refine AllReadyH.cons rfl (fun K hK => ?_) AllReadyH.nil; go_simp
            (go_at_call 29; refine (HN.out _ HAd.out).mono ?_; rintro e w5 ⟨rfl, b5⟩; have HB5 := Lib.hid (below_trans HXD.out b5); have HS5 := SS.out _ HB5.out; clear b5)
            try go_wp2_with fail
            refine hK.out _ _ HS5 (fun hHeld => ?_)
            clear hK K
            try simp only [Act.put, List.getElem_toArray, List.getElem_cons_succ, List.getElem_cons_zero, List.setIfInBounds_toArray, List.set_cons_zero, List.set_cons_succ]
            ((refine wpAnyH_take (i := 2) (v := ?_) rfl (by kernel_rfl) (by kernel_rfl) (by kernel_rfl) (fun _ _ _ h => h) (Or.inl ⟨by rfl, ?_⟩) (by assumption) ?_; rotate_left; (focus (intro w hSw; (try dsimp only at hSw); go_simp <;> with_reducible rfl)); try simp only [Act.put, List.getElem_toArray, List.getElem_cons_succ, List.getElem_cons_zero, List.setIfInBounds_toArray, List.set_cons_zero, List.set_cons_succ]); (refine wpAnyH_take (i := 3) (v := ?_) rfl (by kernel_rfl) (by kernel_rfl) (by kernel_rfl) (fun _ _ _ h => h) (Or.inl ⟨by rfl, ?_⟩) (by assumption) ?_; rotate_left; (focus (intro w hSw; (try dsimp only at hSw); go_simp <;> with_reducible rfl)); try simp only [Act.put, List.getElem_toArray, List.getElem_cons_succ, List.getElem_cons_zero, List.setIfInBounds_toArray, List.set_cons_zero, List.set_cons_succ]))
            ((refine wpAnyH_take (i := 4) (v := undef) rfl (by kernel_rfl) (by kernel_rfl) (by kernel_rfl) (fun _ _ _ h => h) (Or.inr ⟨by rfl, rfl⟩) (by assumption) ?_; try simp only [Act.put, List.getElem_toArray, List.getElem_cons_succ, List.getElem_cons_zero, List.setIfInBounds_toArray, List.set_cons_zero, List.set_cons_succ]); (refine wpAnyH_take (i := 5) (v := undef) rfl (by kernel_rfl) (by kernel_rfl) (by kernel_rfl) (fun _ _ _ h => h) (Or.inr ⟨by rfl, rfl⟩) (by assumption) ?_; try simp only [Act.put, List.getElem_toArray, List.getElem_cons_succ, List.getElem_cons_zero, List.setIfInBounds_toArray, List.set_cons_zero, List.set_cons_succ]); (refine wpAnyH_take (i := 6) (v := undef) rfl (by kernel_rfl) (by kernel_rfl) (by kernel_rfl) (fun _ _ _ h => h) (Or.inr ⟨by rfl, rfl⟩) (by assumption) ?_; try simp only [Act.put, List.getElem_toArray, List.getElem_cons_succ, List.getElem_cons_zero, List.setIfInBounds_toArray, List.set_cons_zero, List.set_cons_succ]); (refine wpAnyH_take (i := 7) (v := undef) rfl (by kernel_rfl) (by kernel_rfl) (by kernel_rfl) (fun _ _ _ h => h) (Or.inr ⟨by rfl, rfl⟩) (by assumption) ?_; try simp only [Act.put, List.getElem_toArray, List.getElem_cons_succ, List.getElem_cons_zero, List.setIfInBounds_toArray, List.set_cons_zero, List.set_cons_succ]); (refine wpAnyH_take (i := 8) (v := undef) rfl (by kernel_rfl) (by kernel_rfl) (by kernel_rfl) (fun _ _ _ h => h) (Or.inr ⟨by rfl, rfl⟩) (by assumption) ?_; try simp only [Act.put, List.getElem_toArray, List.getElem_cons_succ, List.getElem_cons_zero, List.setIfInBounds_toArray, List.set_cons_zero, List.set_cons_succ]); (refine wpAnyH_take (i := 9) (v := undef) rfl (by kernel_rfl) (by kernel_rfl) (by kernel_rfl) (fun _ _ _ h => h) (Or.inr ⟨by rfl, rfl⟩) (by assumption) ?_; try simp only [Act.put, List.getElem_toArray, List.getElem_cons_succ, List.getElem_cons_zero, List.setIfInBounds_toArray, List.set_cons_zero, List.set_cons_succ]); (refine wpAnyH_take (i := 10) (v := undef) rfl (by kernel_rfl) (by kernel_rfl) (by kernel_rfl) (fun _ _ _ h => h) (Or.inr ⟨by rfl, rfl⟩) (by assumption) ?_; try simp only [Act.put, List.getElem_toArray, List.getElem_cons_succ, List.getElem_cons_zero, List.setIfInBounds_toArray, List.set_cons_zero, List.set_cons_succ]); (refine wpAnyH_take (i := 11) (v := undef) rfl (by kernel_rfl) (by kernel_rfl) (by kernel_rfl) (fun _ _ _ h => h) (Or.inr ⟨by rfl, rfl⟩) (by assumption) ?_; try simp only [Act.put, List.getElem_toArray, List.getElem_cons_succ, List.getElem_cons_zero, List.setIfInBounds_toArray, List.set_cons_zero, List.set_cons_succ]); (refine wpAnyH_take (i := 12) (v := undef) rfl (by kernel_rfl) (by kernel_rfl) (by kernel_rfl) (fun _ _ _ h => h) (Or.inr ⟨by rfl, rfl⟩) (by assumption) ?_; try simp only [Act.put, List.getElem_toArray, List.getElem_cons_succ, List.getElem_cons_zero, List.setIfInBounds_toArray, List.set_cons_zero, List.set_cons_succ]); (refine wpAnyH_take (i := 13) (v := undef) rfl (by kernel_rfl) (by kernel_rfl) (by kernel_rfl) (fun _ _ _ h => h) (Or.inr ⟨by rfl, rfl⟩) (by assumption) ?_; try simp only [Act.put, List.getElem_toArray, List.getElem_cons_succ, List.getElem_cons_zero, List.setIfInBounds_toArray, List.set_cons_zero, List.set_cons_succ]); (refine wpAnyH_take (i := 14) (v := undef) rfl (by kernel_rfl) (by kernel_rfl) (by kernel_rfl) (fun _ _ _ h => h) (Or.inr ⟨by rfl, rfl⟩) (by assumption) ?_; try simp only [Act.put, List.getElem_toArray, List.getElem_cons_succ, List.getElem_cons_zero, List.setIfInBounds_toArray, List.set_cons_zero, List.set_cons_succ]); (refine wpAnyH_take (i := 15) (v := undef) rfl (by kernel_rfl) (by kernel_rfl) (by kernel_rfl) (fun _ _ _ h => h) (Or.inr ⟨by rfl, rfl⟩) (by assumption) ?_; try simp only [Act.put, List.getElem_toArray, List.getElem_cons_succ, List.getElem_cons_zero, List.setIfInBounds_toArray, List.set_cons_zero, List.set_cons_succ]); (refine wpAnyH_take (i := 16) (v := undef) rfl (by kernel_rfl) (by kernel_rfl) (by kernel_rfl) (fun _ _ _ h => h) (Or.inr ⟨by rfl, rfl⟩) (by assumption) ?_; try simp only [Act.put, List.getElem_toArray, List.getElem_cons_succ, List.getElem_cons_zero, List.setIfInBounds_toArray, List.set_cons_zero, List.set_cons_succ]); (refine wpAnyH_take (i := 17) (v := undef) rfl (by kernel_rfl) (by kernel_rfl) (by kernel_rfl) (fun _ _ _ h => h) (Or.inr ⟨by rfl, rfl⟩) (by assumption) ?_; try simp only [Act.put, List.getElem_toArray, List.getElem_cons_succ, List.getElem_cons_zero, List.setIfInBounds_toArray, List.set_cons_zero, List.set_cons_succ]); (refine wpAnyH_take (i := 18) (v := undef) rfl (by kernel_rfl) (by kernel_rfl) (by kernel_rfl) (fun _ _ _ h => h) (Or.inr ⟨by rfl, rfl⟩) (by assumption) ?_; try simp only [Act.put, List.getElem_toArray, List.getElem_cons_succ, List.getElem_cons_zero, List.setIfInBounds_toArray, List.set_cons_zero, List.set_cons_succ]); (refine wpAnyH_take (i := 19) (v := undef) rfl (by kernel_rfl) (by kernel_rfl) (by kernel_rfl) (fun _ _ _ h => h) (Or.inr ⟨by rfl, rfl⟩) (by assumption) ?_; try simp only [Act.put, List.getElem_toArray, List.getElem_cons_succ, List.getElem_cons_zero, List.setIfInBounds_toArray, List.set_cons_zero, List.set_cons_succ]); (refine wpAnyH_take (i := 20) (v := undef) rfl (by kernel_rfl) (by kernel_rfl) (by kernel_rfl) (fun _ _ _ h => h) (Or.inr ⟨by rfl, rfl⟩) (by assumption) ?_; try simp only [Act.put, List.getElem_toArray, List.getElem_cons_succ, List.getElem_cons_zero, List.setIfInBounds_toArray, List.set_cons_zero, List.set_cons_succ]); (refine wpAnyH_take (i := 21) (v := undef) rfl (by kernel_rfl) (by kernel_rfl) (by kernel_rfl) (fun _ _ _ h => h) (Or.inr ⟨by rfl, rfl⟩) (by assumption) ?_; try simp only [Act.put, List.getElem_toArray, List.getElem_cons_succ, List.getElem_cons_zero, List.setIfInBounds_toArray, List.set_cons_zero, List.set_cons_succ]); (refine wpAnyH_take (i := 22) (v := undef) rfl (by kernel_rfl) (by kernel_rfl) (by kernel_rfl) (fun _ _ _ h => h) (Or.inr ⟨by rfl, rfl⟩) (by assumption) ?_; try simp only [Act.put, List.getElem_toArray, List.getElem_cons_succ, List.getElem_cons_zero, List.setIfInBounds_toArray, List.set_cons_zero, List.set_cons_succ]); (refine wpAnyH_take (i := 23) (v := undef) rfl (by kernel_rfl) (by kernel_rfl) (by kernel_rfl) (fun _ _ _ h => h) (Or.inr ⟨by rfl, rfl⟩) (by assumption) ?_; try simp only [Act.put, List.getElem_toArray, List.getElem_cons_succ, List.getElem_cons_zero, List.setIfInBounds_toArray, List.set_cons_zero, List.set_cons_succ]); (refine wpAnyH_take (i := 24) (v := undef) rfl (by kernel_rfl) (by kernel_rfl) (by kernel_rfl) (fun _ _ _ h => h) (Or.inr ⟨by rfl, rfl⟩) (by assumption) ?_; try simp only [Act.put, List.getElem_toArray, List.getElem_cons_succ, List.getElem_cons_zero, List.setIfInBounds_toArray, List.set_cons_zero, List.set_cons_succ]); (refine wpAnyH_take (i := 25) (v := undef) rfl (by kernel_rfl) (by kernel_rfl) (by kernel_rfl) (fun _ _ _ h => h) (Or.inr ⟨by rfl, rfl⟩) (by assumption) ?_; try simp only [Act.put, List.getElem_toArray, List.getElem_cons_succ, List.getElem_cons_zero, List.setIfInBounds_toArray, List.set_cons_zero, List.set_cons_succ]); (refine wpAnyH_take (i := 26) (v := undef) rfl (by kernel_rfl) (by kernel_rfl) (by kernel_rfl) (fun _ _ _ h => h) (Or.inr ⟨by rfl, rfl⟩) (by assumption) ?_; try simp only [Act.put, List.getElem_toArray, List.getElem_cons_succ, List.getElem_cons_zero, List.setIfInBounds_toArray, List.set_cons_zero, List.set_cons_succ]); (refine wpAnyH_take (i := 27) (v := undef) rfl (by kernel_rfl) (by kernel_rfl) (by kernel_rfl) (fun _ _ _ h => h) (Or.inr ⟨by rfl, rfl⟩) (by assumption) ?_; try simp only [Act.put, List.getElem_toArray, List.getElem_cons_succ, List.getElem_cons_zero, List.setIfInBounds_toArray, List.set_cons_zero, List.set_cons_succ]))
            ((refine wpAnyH_take (i := 28) (v := ?_) rfl (by kernel_rfl) (by kernel_rfl) (by kernel_rfl) (fun _ _ _ h => h) (Or.inl ⟨by rfl, ?_⟩) (by assumption) ?_; rotate_left; (focus (intro w hSw; (try dsimp only at hSw); go_simp <;> with_reducible rfl)); try simp only [Act.put, List.getElem_toArray, List.getElem_cons_succ, List.getElem_cons_zero, List.setIfInBounds_toArray, List.set_cons_zero, List.set_cons_succ]))
            refine wpAnyH_done (by kernel_rfl) ?_ _
            go_wp2_with fail
            go_ret
            refine ⟨ret_bool ?_, below_trans HBX.out HB5.out⟩
            rw [HST.out, HNN.out]; rfl
          · go_wp2_with fail
            refine wp_region_held_drew (S := (fun W => (W.cell? ⟨wr.heap.size, 0, none⟩ = some (.string name) ∧ W.cell? ⟨wr.heap.size, 1, none⟩ = some (.slice Ax xs.length cx) ∧ W.cell? ⟨wr.heap.size, 2, none⟩ = some (.string value) ∧ W.cell? ⟨w.heap.size, 0, none⟩ = some (.slice (some ad) ns.length c)))) (by kernel_rfl) HS0 (fun hHeld => ?_)
            ((refine wpAnyH_take (i := 0) (v := ?_) rfl (by kernel_rfl) (by kernel_rfl) (by kernel_rfl) (fun _ _ _ h => h) (Or.inl ⟨by rfl, ?_⟩) (by assumption) ?_; rotate_left; (focus (intro w hSw; (try dsimp only at hSw); go_simp <;> with_reducible rfl)); try simp only [Act.put, List.getElem_toArray, List.getElem_cons_zero, List.setIfInBounds_toArray, List.set_cons_zero, List.set_cons_succ]))
            refine wpAnyH_ready (rs := [1]) (by kernel_rfl) (by simp) ?_; refine AllReadyH.cons rfl (fun K hK => ?_) AllReadyH.nil; go_simp
            (go_at_call 29; refine (HN.out _ HAd.out).mono ?_; rintro e w5 ⟨rfl, b5⟩; have HB5 := Lib.hid (below_trans HXD.out b5); have HS5 := SS.out _ HB5.out; clear b5)
            try go_wp2_with fail
            refine hK.out _ _ HS5 (fun hHeld => ?_)
            clear hK K
            try simp only [Act.put, List.getElem_toArray, List.getElem_cons_succ, List.getElem_cons_zero, List.setIfInBounds_toArray, List.set_cons_zero, List.set_cons_succ]
            ((refine wpAnyH_take (i := 2) (v := ?_) rfl (by kernel_rfl) (by kernel_rfl) (by kernel_rfl) (fun _ _ _ h => h) (Or.inl ⟨by rfl, ?_⟩) (by assumption) ?_; rotate_left; (focus (intro w hSw; (try dsimp only at hSw); go_simp <;> with_reducible rfl)); try simp only [Act.put, List.getElem_toArray, List.getElem_cons_succ, List.getElem_cons_zero, List.setIfInBounds_toArray, List.set_cons_zero, List.set_cons_succ]); (refine wpAnyH_take (i := 3) (v := ?_) rfl (by kernel_rfl) (by kernel_rfl) (by kernel_rfl) (fun _ _ _ h => h) (Or.inl ⟨by rfl, ?_⟩) (by assumption) ?_; rotate_left; (focus (intro w hSw; (try dsimp only at hSw); go_simp <;> with_reducible rfl)); try simp only [Act.put, List.getElem_toArray, List.getElem_cons_succ, List.getElem_cons_zero, List.setIfInBounds_toArray, List.set_cons_zero, List.set_cons_succ]); (refine wpAnyH_take (i := 4) (v := ?_) rfl (by kernel_rfl) (by kernel_rfl) (by kernel_rfl) (fun _ _ _ h => h) (Or.inl ⟨by rfl, ?_⟩) (by assumption) ?_; rotate_left; (focus (intro w hSw; (try dsimp only at hSw); go_simp <;> with_reducible rfl)); try simp only [Act.put, List.getElem_toArray, List.getElem_cons_succ, List.getElem_cons_zero, List.setIfInBounds_toArray, List.set_cons_zero, List.set_cons_succ]); (refine wpAnyH_take (i := 5) (v := ?_) rfl (by kernel_rfl) (by kernel_rfl) (by kernel_rfl) (fun _ _ _ h => h) (Or.inl ⟨by rfl, ?_⟩) (by assumption) ?_; rotate_left; (focus (intro w hSw; (try dsimp only at hSw); go_simp <;> with_reducible rfl)); try simp only [Act.put, List.getElem_toArray, List.getElem_cons_succ, List.getElem_cons_zero, List.setIfInBounds_toArray, List.set_cons_zero, List.set_cons_succ]); (refine wpAnyH_take (i := 6) (v := ?_) rfl (by kernel_rfl) (by kernel_rfl) (by kernel_rfl) (fun _ _ _ h => h) (Or.inl ⟨by rfl, ?_⟩) (by assumption) ?_; rotate_left; (focus (intro w hSw; (try dsimp only at hSw); go_simp <;> with_reducible rfl)); try simp only [Act.put, List.getElem_toArray, List.getElem_cons_succ, List.getElem_cons_zero, List.setIfInBounds_toArray, List.set_cons_zero, List.set_cons_succ]))
            ((refine wpAnyH_take (i := 7) (v := undef) rfl (by kernel_rfl) (by kernel_rfl) (by kernel_rfl) (fun _ _ _ h => h) (Or.inr ⟨by rfl, rfl⟩) (by assumption) ?_; try simp only [Act.put, List.getElem_toArray, List.getElem_cons_succ, List.getElem_cons_zero, List.setIfInBounds_toArray, List.set_cons_zero, List.set_cons_succ]); (refine wpAnyH_take (i := 8) (v := undef) rfl (by kernel_rfl) (by kernel_rfl) (by kernel_rfl) (fun _ _ _ h => h) (Or.inr ⟨by rfl, rfl⟩) (by assumption) ?_; try simp only [Act.put, List.getElem_toArray, List.getElem_cons_succ, List.getElem_cons_zero, List.setIfInBounds_toArray, List.set_cons_zero, List.set_cons_succ]); (refine wpAnyH_take (i := 9) (v := undef) rfl (by kernel_rfl) (by kernel_rfl) (by kernel_rfl) (fun _ _ _ h => h) (Or.inr ⟨by rfl, rfl⟩) (by assumption) ?_; try simp only [Act.put, List.getElem_toArray, List.getElem_cons_succ, List.getElem_cons_zero, List.setIfInBounds_toArray, List.set_cons_zero, List.set_cons_succ]); (refine wpAnyH_take (i := 10) (v := undef) rfl (by kernel_rfl) (by kernel_rfl) (by kernel_rfl) (fun _ _ _ h => h) (Or.inr ⟨by rfl, rfl⟩) (by assumption) ?_; try simp only [Act.put, List.getElem_toArray, List.getElem_cons_succ, List.getElem_cons_zero, List.setIfInBounds_toArray, List.set_cons_zero, List.set_cons_succ]); (refine wpAnyH_take (i := 11) (v := undef) rfl (by kernel_rfl) (by kernel_rfl) (by kernel_rfl) (fun _ _ _ h => h) (Or.inr ⟨by rfl, rfl⟩) (by assumption) ?_; try simp only [Act.put, List.getElem_toArray, List.getElem_cons_succ, List.getElem_cons_zero, List.setIfInBounds_toArray, List.set_cons_zero, List.set_cons_succ]); (refine wpAnyH_take (i := 12) (v := undef) rfl (by kernel_rfl) (by kernel_rfl) (by kernel_rfl) (fun _ _ _ h => h) (Or.inr ⟨by rfl, rfl⟩) (by assumption) ?_; try simp only [Act.put, List.getElem_toArray, List.getElem_cons_succ, List.getElem_cons_zero, List.setIfInBounds_toArray, List.set_cons_zero, List.set_cons_succ]); (refine wpAnyH_take (i := 13) (v := undef) rfl (by kernel_rfl) (by kernel_rfl) (by kernel_rfl) (fun _ _ _ h => h) (Or.inr ⟨by rfl, rfl⟩) (by assumption) ?_; try simp only [Act.put, List.getElem_toArray, List.getElem_cons_succ, List.getElem_cons_zero, List.setIfInBounds_toArray, List.set_cons_zero, List.set_cons_succ]); (refine wpAnyH_take (i := 14) (v := undef) rfl (by kernel_rfl) (by kernel_rfl) (by kernel_rfl) (fun _ _ _ h => h) (Or.inr ⟨by rfl, rfl⟩) (by assumption) ?_; try simp only [Act.put, List.getElem_toArray, List.getElem_cons_succ, List.getElem_cons_zero, List.setIfInBounds_toArray, List.set_cons_zero, List.set_cons_succ]); (refine wpAnyH_take (i := 15) (v := undef) rfl (by kernel_rfl) (by kernel_rfl) (by kernel_rfl) (fun _ _ _ h => h) (Or.inr ⟨by rfl, rfl⟩) (by assumption) ?_; try simp only [Act.put, List.getElem_toArray, List.getElem_cons_succ, List.getElem_cons_zero, List.setIfInBounds_toArray, List.set_cons_zero, List.set_cons_succ]); (refine wpAnyH_take (i := 16) (v := undef) rfl (by kernel_rfl) (by kernel_rfl) (by kernel_rfl) (fun _ _ _ h => h) (Or.inr ⟨by rfl, rfl⟩) (by assumption) ?_; try simp only [Act.put, List.getElem_toArray, List.getElem_cons_succ, List.getElem_cons_zero, List.setIfInBounds_toArray, List.set_cons_zero, List.set_cons_succ]); (refine wpAnyH_take (i := 17) (v := undef) rfl (by kernel_rfl) (by kernel_rfl) (by kernel_rfl) (fun _ _ _ h => h) (Or.inr ⟨by rfl, rfl⟩) (by assumption) ?_; try simp only [Act.put, List.getElem_toArray, List.getElem_cons_succ, List.getElem_cons_zero, List.setIfInBounds_toArray, List.set_cons_zero, List.set_cons_succ]); (refine wpAnyH_take (i := 18) (v := undef) rfl (by kernel_rfl) (by kernel_rfl) (by kernel_rfl) (fun _ _ _ h => h) (Or.inr ⟨by rfl, rfl⟩) (by assumption) ?_; try simp only [Act.put, List.getElem_toArray, List.getElem_cons_succ, List.getElem_cons_zero, List.setIfInBounds_toArray, List.set_cons_zero, List.set_cons_succ]); (refine wpAnyH_take (i := 19) (v := undef) rfl (by kernel_rfl) (by kernel_rfl) (by kernel_rfl) (fun _ _ _ h => h) (Or.inr ⟨by rfl, rfl⟩) (by assumption) ?_; try simp only [Act.put, List.getElem_toArray, List.getElem_cons_succ, List.getElem_cons_zero, List.setIfInBounds_toArray, List.set_cons_zero, List.set_cons_succ]); (refine wpAnyH_take (i := 20) (v := undef) rfl (by kernel_rfl) (by kernel_rfl) (by kernel_rfl) (fun _ _ _ h => h) (Or.inr ⟨by rfl, rfl⟩) (by assumption) ?_; try simp only [Act.put, List.getElem_toArray, List.getElem_cons_succ, List.getElem_cons_zero, List.setIfInBounds_toArray, List.set_cons_zero, List.set_cons_succ]); (refine wpAnyH_take (i := 21) (v := undef) rfl (by kernel_rfl) (by kernel_rfl) (by kernel_rfl) (fun _ _ _ h => h) (Or.inr ⟨by rfl, rfl⟩) (by assumption) ?_; try simp only [Act.put, List.getElem_toArray, List.getElem_cons_succ, List.getElem_cons_zero, List.setIfInBounds_toArray, List.set_cons_zero, List.set_cons_succ]); (refine wpAnyH_take (i := 22) (v := undef) rfl (by kernel_rfl) (by kernel_rfl) (by kernel_rfl) (fun _ _ _ h => h) (Or.inr ⟨by rfl, rfl⟩) (by assumption) ?_; try simp only [Act.put, List.getElem_toArray, List.getElem_cons_succ, List.getElem_cons_zero, List.setIfInBounds_toArray, List.set_cons_zero, List.set_cons_succ]); (refine wpAnyH_take (i := 23) (v := undef) rfl (by kernel_rfl) (by kernel_rfl) (by kernel_rfl) (fun _ _ _ h => h) (Or.inr ⟨by rfl, rfl⟩) (by assumption) ?_; try simp only [Act.put, List.getElem_toArray, List.getElem_cons_succ, List.getElem_cons_zero, List.setIfInBounds_toArray, List.set_cons_zero, List.set_cons_succ]); (refine wpAnyH_take (i := 24) (v := undef) rfl (by kernel_rfl) (by kernel_rfl) (by kernel_rfl) (fun _ _ _ h => h) (Or.inr ⟨by rfl, rfl⟩) (by assumption) ?_; try simp only [Act.put, List.getElem_toArray, List.getElem_cons_succ, List.getElem_cons_zero, List.setIfInBounds_toArray, List.set_cons_zero, List.set_cons_succ]); (refine wpAnyH_take (i := 25) (v := undef) rfl (by kernel_rfl) (by kernel_rfl) (by kernel_rfl) (fun _ _ _ h => h) (Or.inr ⟨by rfl, rfl⟩) (by assumption) ?_; try simp only [Act.put, List.getElem_toArray, List.getElem_cons_succ, List.getElem_cons_zero, List.setIfInBounds_toArray, List.set_cons_zero, List.set_cons_succ]); (refine wpAnyH_take (i := 26) (v := undef) rfl (by kernel_rfl) (by kernel_rfl) (by kernel_rfl) (fun _ _ _ h => h) (Or.inr ⟨by rfl, rfl⟩) (by assumption) ?_; try simp only [Act.put, List.getElem_toArray, List.getElem_cons_succ, List.getElem_cons_zero, List.setIfInBounds_toArray, List.set_cons_zero, List.set_cons_succ]))
            ((refine wpAnyH_take (i := 27) (v := ?_) rfl (by kernel_rfl) (by kernel_rfl) (by kernel_rfl) (fun _ _ _ h => h) (Or.inl ⟨by rfl, ?_⟩) (by assumption) ?_; rotate_left; (focus (intro w hSw; (try dsimp only at hSw); go_simp <;> with_reducible rfl)); try simp only [Act.put, List.getElem_toArray, List.getElem_cons_succ, List.getElem_cons_zero, List.setIfInBounds_toArray, List.set_cons_zero, List.set_cons_succ]); (refine wpAnyH_take (i := 28) (v := ?_) rfl (by kernel_rfl) (by kernel_rfl) (by kernel_rfl) (fun _ _ _ h => h) (Or.inl ⟨by rfl, ?_⟩) (by assumption) ?_; rotate_left; (focus (intro w hSw; (try dsimp only at hSw); go_simp <;> with_reducible rfl)); try simp only [Act.put, List.getElem_toArray, List.getElem_cons_succ, List.getElem_cons_zero, List.setIfInBounds_toArray, List.set_cons_zero, List.set_cons_succ]))
            refine wpAnyH_done (by kernel_rfl) ?_ _
            go_wp2_with fail
            refine ⟨⟨0 + 1, by omega, by go_num, ?_, below_trans hbel1 HB5.out⟩, by simp [intOf]; omega⟩
            show _ = _
            rw [HST.out, HNN.out, if_neg (by omega), Nat.add_sub_cancel, HNX.out]; rfl
        · obtain ⟨j, rfl⟩ : ∃ j, k = j + 1 := ⟨k - 1, by omega⟩
          rw [Nat.add_sub_cancel] at HI
          have hlt1 : j < ns.length := by omega
          have w1 : IntKind.i64.wrap (j : Int) = j := IntWalk.i64_in _ (by omega)
          have w2 : IntKind.i64.wrap ((j : Int) + 1 - 1) = j := by rw [Int.add_sub_cancel]; exact w1
          have j0 : (0 : Int) ≤ j := by omega
          have j1 : (j : Int) < ns.length := by omega
          have HP : Hid (ns[j]? = some ns[j]) := List.getElem?_eq_getElem hlt1
          have HXP := Lib.hid (HOK.out _ (List.getElem_mem hlt1))
          have HST : Hid (R = ((nodeOkB ns[j + 1] && lessB ns[j] ns[j + 1]) && treeGo (some ns[j + 1]) (ns.drop (j + 1 + 1)))) := by
            show _ = _
            rw [HI.out, if_neg (by omega), HP.out, HD.out]; rfl
          have HNX : Hid (ns[j + 1]? = some ns[j + 1]) := List.getElem?_eq_getElem hlt
          clear HI HP HD
          have hget : ∀ W, Below (w.alloc (.cells #[.slice (some ad) ns.length c] 30)).heap.size (w.alloc (.cells #[.slice (some ad) ns.length c] 30)) W → ns[j].At W ∧ W.cell? (ad.add ((j) * 3)) = some (.string ns[j].name) ∧ W.cell? ⟨(ad.add ((j) * 3)).block, (ad.add ((j) * 3)).off + 1, none⟩ = some ns[j].subsv := fun W hW => by
            obtain ⟨ad', e, _, h1, h2, h3, _⟩ := (H.out.on hW).get hlt1
            injection e with e; subst e
            exact ⟨h1, h2, h3⟩
          have HG := Lib.hid hget; clear hget
          generalize ns[j] = p at *
          generalize ns[j + 1] = x at *
          obtain ⟨name, sv, xs, value⟩ := x
          obtain ⟨pname, psv, pxs, pvalue⟩ := p
          obtain ⟨Ax, cx, hsx, _, _⟩ := id hat.1
          replace hsx : sv = .slice Ax xs.length cx := hsx
          subst hsx
          simp only [NodeV.cells] at *
          obtain ⟨N, hN⟩ : ∃ N : Bool, nodeOkB ⟨name, .slice Ax xs.length cx, xs, value⟩ = N := ⟨_, rfl⟩
          have HN := Lib.hid (fun W (hW : NodeV.At ⟨name, .slice Ax xs.length cx, xs, value⟩ W) => l03Node_any ⟨name, .slice Ax xs.length cx, xs, value⟩ W hW HX.out)
          rw [hN] at HN
          simp only [NodeV.cells] at HN
          have hkp : (0 : Int) < ((j + 1 : Nat) : Int) := by omega
          have hkd : decide ((0 : Int) < ((j + 1 : Nat) : Int)) = true := by rw [decide_eq_true_iff]; exact hkp
          have hkp2 : (0 : Int) < (j : Int) + 1 := by omega
          have hkd2 : decide ((0 : Int) < (j : Int) + 1) = true := by rw [decide_eq_true_iff]; exact hkp2
          have hkn : decide (0 < j + 1) = true := by simp
          have HAd : Hid (NodeV.At ⟨name, .slice Ax xs.length cx, xs, value⟩ (wr.alloc (.cells #[.string name, .slice Ax xs.length cx, .string value] 50)).drew) := HAT.out
          have HBd : Hid (Below (w.alloc (.cells #[.slice (some ad) ns.length c] 30)).heap.size (w.alloc (.cells #[.slice (some ad) ns.length c] 30)) (wr.alloc (.cells #[.string name, .slice Ax xs.length cx, .string value] 50)).drew) := hbel1.drew
          have HCd : Hid (CellsAt (wr.alloc (.cells #[.string name, .slice Ax xs.length cx, .string value] 50)).drew wr.heap.size [.string name, .slice Ax xs.length cx, .string value]) := HCX.out
          obtain ⟨hnx, ⟨hlx, hzx⟩, hvx, _⟩ := HX.out
          obtain ⟨hnp, ⟨hlp, hzp⟩, hvp, _⟩ := HXP.out
          have HZX := Lib.hid hzx; have HZP := Lib.hid hzp; clear hzx hzp
          have SS : Hid (∀ W, Below (wr.alloc (.cells #[.string name, .slice Ax xs.length cx, .string value] 50)).heap.size (wr.alloc (.cells #[.string name, .slice Ax xs.length cx, .string value] 50)) W → (W.cell? ⟨wr.heap.size, 0, none⟩ = some (.string name) ∧ W.cell? ⟨wr.heap.size, 1, none⟩ = some (.slice Ax xs.length cx) ∧ W.cell? ⟨wr.heap.size, 2, none⟩ = some (.string value) ∧ W.cell? ⟨w.heap.size, 0, none⟩ = some (.slice (some ad) ns.length c) ∧ W.cell? (ad.add ((j) * 3)) = some (.string pname) ∧ W.cell? ⟨(ad.add ((j) * 3)).block, (ad.add ((j) * 3)).off + 1, none⟩ = some psv)) := fun W hW => by
            have hc := HCX.out.below hW
            obtain ⟨_, g2, g3⟩ := HG.out W (below_trans hbel1 hW)
            exact ⟨hc.2 0 _ rfl, hc.2 1 _ rfl, hc.2 2 _ rfl, (HC1.out.below (below_trans hbel1 hW)).2 0 _ rfl, g2, g3⟩
          have HXD : Hid (Below (wr.alloc (.cells #[.string name, .slice Ax xs.length cx, .string value] 50)).heap.size (wr.alloc (.cells #[.string name, .slice Ax xs.length cx, .string value] 50)) (wr.alloc (.cells #[.string name, .slice Ax xs.length cx, .string value] 50)).drew) := (below_refl _).drew
          have HS0 := SS.out _ HXD.out
          have HBX : Hid (Below w.heap.size w (wr.alloc (.cells #[.string name, .slice Ax xs.length cx, .string value] 50))) := below_trans hba hbel1
          have HNN := Lib.hid hN; clear hN
          obtain ⟨LB, hLB⟩ : ∃ LB : Bool, (Op.bytesLess pname.toList name.toList || (decide (pname = name) && sbef pxs xs)) = LB := ⟨_, rfl⟩
          have HLs := Lib.hid (fun W (h1 : StrsAt W W.heap.size psv pxs) (h2 : StrsAt W W.heap.size (.slice Ax xs.length cx) xs) => l03Less_any pname name psv (.slice Ax xs.length cx) pxs xs W h1 h2 hlp hlx HZP.out HZX.out)
          rw [hLB] at HLs
          have HLB := Lib.hid hLB; clear hLB
          cases N
          · go_wp2_with fail
            refine wp_region_held_drew (S := (fun W => (W.cell? ⟨wr.heap.size, 0, none⟩ = some (.string name) ∧ W.cell? ⟨wr.heap.size, 1, none⟩ = some (.slice Ax xs.length cx) ∧ W.cell? ⟨wr.heap.size, 2, none⟩ = some (.string value) ∧ W.cell? ⟨w.heap.size, 0, none⟩ = some (.slice (some ad) ns.length c) ∧ W.cell? (ad.add ((j) * 3)) = some (.string pname) ∧ W.cell? ⟨(ad.add ((j) * 3)).block, (ad.add ((j) * 3)).off + 1, none⟩ = some psv))) (by kernel_rfl) HS0 (fun hHeld => ?_)
            ((refine wpAnyH_take (i := 0) (v := ?_) rfl (by kernel_rfl) (by kernel_rfl) (by kernel_rfl) (fun _ _ _ h => h) (Or.inl ⟨by rfl, ?_⟩) (by assumption) ?_; rotate_left; (focus (intro w hSw; (try dsimp only at hSw); go_simp <;> with_reducible rfl)); try simp only [Act.put, List.getElem_toArray, List.getElem_cons_zero, List.setIfInBounds_toArray, List.set_cons_zero, List.set_cons_succ]))
            refine wpAnyH_ready (rs := [1]) (by kernel_rfl) (by simp) ?_; refine AllReadyH.cons rfl (fun K hK => ?_) AllReadyH.nil; go_simp
            (go_at_call 29; refine (HN.out _ HAd.out).mono ?_; rintro e w5 ⟨rfl, b5⟩; have HB5 := Lib.hid (below_trans HXD.out b5); have HS5 := SS.out _ HB5.out; clear b5)
            try go_wp2_with fail
            refine hK.out _ _ HS5 (fun hHeld => ?_)
            clear hK K
            try simp only [Act.put, List.getElem_toArray, List.getElem_cons_succ, List.getElem_cons_zero, List.setIfInBounds_toArray, List.set_cons_zero, List.set_cons_succ]
            ((refine wpAnyH_take (i := 2) (v := ?_) rfl (by kernel_rfl) (by kernel_rfl) (by kernel_rfl) (fun _ _ _ h => h) (Or.inl ⟨by rfl, ?_⟩) (by assumption) ?_; rotate_left; (focus (intro w hSw; (try dsimp only at hSw); go_simp <;> with_reducible rfl)); try simp only [Act.put, List.getElem_toArray, List.getElem_cons_succ, List.getElem_cons_zero, List.setIfInBounds_toArray, List.set_cons_zero, List.set_cons_succ]); (refine wpAnyH_take (i := 3) (v := ?_) rfl (by kernel_rfl) (by kernel_rfl) (by kernel_rfl) (fun _ _ _ h => h) (Or.inl ⟨by rfl, ?_⟩) (by assumption) ?_; rotate_left; (focus (intro w hSw; (try dsimp only at hSw); go_simp <;> with_reducible rfl)); try simp only [Act.put, List.getElem_toArray, List.getElem_cons_succ, List.getElem_cons_zero, List.setIfInBounds_toArray, List.set_cons_zero, List.set_cons_succ]))
            ((refine wpAnyH_take (i := 4) (v := undef) rfl (by kernel_rfl) (by kernel_rfl) (by kernel_rfl) (fun _ _ _ h => h) (Or.inr ⟨by rfl, rfl⟩) (by assumption) ?_; try simp only [Act.put, List.getElem_toArray, List.getElem_cons_succ, List.getElem_cons_zero, List.setIfInBounds_toArray, List.set_cons_zero, List.set_cons_succ]); (refine wpAnyH_take (i := 5) (v := undef) rfl (by kernel_rfl) (by kernel_rfl) (by kernel_rfl) (fun _ _ _ h => h) (Or.inr ⟨by rfl, rfl⟩) (by assumption) ?_; try simp only [Act.put, List.getElem_toArray, List.getElem_cons_succ, List.getElem_cons_zero, List.setIfInBounds_toArray, List.set_cons_zero, List.set_cons_succ]); (refine wpAnyH_take (i := 6) (v := undef) rfl (by kernel_rfl) (by kernel_rfl) (by kernel_rfl) (fun _ _ _ h => h) (Or.inr ⟨by rfl, rfl⟩) (by assumption) ?_; try simp only [Act.put, List.getElem_toArray, List.getElem_cons_succ, List.getElem_cons_zero, List.setIfInBounds_toArray, List.set_cons_zero, List.set_cons_succ]); (refine wpAnyH_take (i := 7) (v := undef) rfl (by kernel_rfl) (by kernel_rfl) (by kernel_rfl) (fun _ _ _ h => h) (Or.inr ⟨by rfl, rfl⟩) (by assumption) ?_; try simp only [Act.put, List.getElem_toArray, List.getElem_cons_succ, List.getElem_cons_zero, List.setIfInBounds_toArray, List.set_cons_zero, List.set_cons_succ]); (refine wpAnyH_take (i := 8) (v := undef) rfl (by kernel_rfl) (by kernel_rfl) (by kernel_rfl) (fun _ _ _ h => h) (Or.inr ⟨by rfl, rfl⟩) (by assumption) ?_; try simp only [Act.put, List.getElem_toArray, List.getElem_cons_succ, List.getElem_cons_zero, List.setIfInBounds_toArray, List.set_cons_zero, List.set_cons_succ]); (refine wpAnyH_take (i := 9) (v := undef) rfl (by kernel_rfl) (by kernel_rfl) (by kernel_rfl) (fun _ _ _ h => h) (Or.inr ⟨by rfl, rfl⟩) (by assumption) ?_; try simp only [Act.put, List.getElem_toArray, List.getElem_cons_succ, List.getElem_cons_zero, List.setIfInBounds_toArray, List.set_cons_zero, List.set_cons_succ]); (refine wpAnyH_take (i := 10) (v := undef) rfl (by kernel_rfl) (by kernel_rfl) (by kernel_rfl) (fun _ _ _ h => h) (Or.inr ⟨by rfl, rfl⟩) (by assumption) ?_; try simp only [Act.put, List.getElem_toArray, List.getElem_cons_succ, List.getElem_cons_zero, List.setIfInBounds_toArray, List.set_cons_zero, List.set_cons_succ]); (refine wpAnyH_take (i := 11) (v := undef) rfl (by kernel_rfl) (by kernel_rfl) (by kernel_rfl) (fun _ _ _ h => h) (Or.inr ⟨by rfl, rfl⟩) (by assumption) ?_; try simp only [Act.put, List.getElem_toArray, List.getElem_cons_succ, List.getElem_cons_zero, List.setIfInBounds_toArray, List.set_cons_zero, List.set_cons_succ]); (refine wpAnyH_take (i := 12) (v := undef) rfl (by kernel_rfl) (by kernel_rfl) (by kernel_rfl) (fun _ _ _ h => h) (Or.inr ⟨by rfl, rfl⟩) (by assumption) ?_; try simp only [Act.put, List.getElem_toArray, List.getElem_cons_succ, List.getElem_cons_zero, List.setIfInBounds_toArray, List.set_cons_zero, List.set_cons_succ]); (refine wpAnyH_take (i := 13) (v := undef) rfl (by kernel_rfl) (by kernel_rfl) (by kernel_rfl) (fun _ _ _ h => h) (Or.inr ⟨by rfl, rfl⟩) (by assumption) ?_; try simp only [Act.put, List.getElem_toArray, List.getElem_cons_succ, List.getElem_cons_zero, List.setIfInBounds_toArray, List.set_cons_zero, List.set_cons_succ]); (refine wpAnyH_take (i := 14) (v := undef) rfl (by kernel_rfl) (by kernel_rfl) (by kernel_rfl) (fun _ _ _ h => h) (Or.inr ⟨by rfl, rfl⟩) (by assumption) ?_; try simp only [Act.put, List.getElem_toArray, List.getElem_cons_succ, List.getElem_cons_zero, List.setIfInBounds_toArray, List.set_cons_zero, List.set_cons_succ]); (refine wpAnyH_take (i := 15) (v := undef) rfl (by kernel_rfl) (by kernel_rfl) (by kernel_rfl) (fun _ _ _ h => h) (Or.inr ⟨by rfl, rfl⟩) (by assumption) ?_; try simp only [Act.put, List.getElem_toArray, List.getElem_cons_succ, List.getElem_cons_zero, List.setIfInBounds_toArray, List.set_cons_zero, List.set_cons_succ]); (refine wpAnyH_take (i := 16) (v := undef) rfl (by kernel_rfl) (by kernel_rfl) (by kernel_rfl) (fun _ _ _ h => h) (Or.inr ⟨by rfl, rfl⟩) (by assumption) ?_; try simp only [Act.put, List.getElem_toArray, List.getElem_cons_succ, List.getElem_cons_zero, List.setIfInBounds_toArray, List.set_cons_zero, List.set_cons_succ]); (refine wpAnyH_take (i := 17) (v := undef) rfl (by kernel_rfl) (by kernel_rfl) (by kernel_rfl) (fun _ _ _ h => h) (Or.inr ⟨by rfl, rfl⟩) (by assumption) ?_; try simp only [Act.put, List.getElem_toArray, List.getElem_cons_succ, List.getElem_cons_zero, List.setIfInBounds_toArray, List.set_cons_zero, List.set_cons_succ]); (refine wpAnyH_take (i := 18) (v := undef) rfl (by kernel_rfl) (by kernel_rfl) (by kernel_rfl) (fun _ _ _ h => h) (Or.inr ⟨by rfl, rfl⟩) (by assumption) ?_; try simp only [Act.put, List.getElem_toArray, List.getElem_cons_succ, List.getElem_cons_zero, List.setIfInBounds_toArray, List.set_cons_zero, List.set_cons_succ]); (refine wpAnyH_take (i := 19) (v := undef) rfl (by kernel_rfl) (by kernel_rfl) (by kernel_rfl) (fun _ _ _ h => h) (Or.inr ⟨by rfl, rfl⟩) (by assumption) ?_; try simp only [Act.put, List.getElem_toArray, List.getElem_cons_succ, List.getElem_cons_zero, List.setIfInBounds_toArray, List.set_cons_zero, List.set_cons_succ]); (refine wpAnyH_take (i := 20) (v := undef) rfl (by kernel_rfl) (by kernel_rfl) (by kernel_rfl) (fun _ _ _ h => h) (Or.inr ⟨by rfl, rfl⟩) (by assumption) ?_; try simp only [Act.put, List.getElem_toArray, List.getElem_cons_succ, List.getElem_cons_zero, List.setIfInBounds_toArray, List.set_cons_zero, List.set_cons_succ]); (refine wpAnyH_take (i := 21) (v := undef) rfl (by kernel_rfl) (by kernel_rfl) (by kernel_rfl) (fun _ _ _ h => h) (Or.inr ⟨by rfl, rfl⟩) (by assumption) ?_; try simp only [Act.put, List.getElem_toArray, List.getElem_cons_succ, List.getElem_cons_zero, List.setIfInBounds_toArray, List.set_cons_zero, List.set_cons_succ]); (refine wpAnyH_take (i := 22) (v := undef) rfl (by kernel_rfl) (by kernel_rfl) (by kernel_rfl) (fun _ _ _ h => h) (Or.inr ⟨by rfl, rfl⟩) (by assumption) ?_; try simp only [Act.put, List.getElem_toArray, List.getElem_cons_succ, List.getElem_cons_zero, List.setIfInBounds_toArray, List.set_cons_zero, List.set_cons_succ]); (refine wpAnyH_take (i := 23) (v := undef) rfl (by kernel_rfl) (by kernel_rfl) (by kernel_rfl) (fun _ _ _ h => h) (Or.inr ⟨by rfl, rfl⟩) (by assumption) ?_; try simp only [Act.put, List.getElem_toArray, List.getElem_cons_succ, List.getElem_cons_zero, List.setIfInBounds_toArray, List.set_cons_zero, List.set_cons_succ]); (refine wpAnyH_take (i := 24) (v := undef) rfl (by kernel_rfl) (by kernel_rfl) (by kernel_rfl) (fun _ _ _ h => h) (Or.inr ⟨by rfl, rfl⟩) (by assumption) ?_; try simp only [Act.put, List.getElem_toArray, List.getElem_cons_succ, List.getElem_cons_zero, List.setIfInBounds_toArray, List.set_cons_zero, List.set_cons_succ]); (refine wpAnyH_take (i := 25) (v := undef) rfl (by kernel_rfl) (by kernel_rfl) (by kernel_rfl) (fun _ _ _ h => h) (Or.inr ⟨by rfl, rfl⟩) (by assumption) ?_; try simp only [Act.put, List.getElem_toArray, List.getElem_cons_succ, List.getElem_cons_zero, List.setIfInBounds_toArray, List.set_cons_zero, List.set_cons_succ]); (refine wpAnyH_take (i := 26) (v := undef) rfl (by kernel_rfl) (by kernel_rfl) (by kernel_rfl) (fun _ _ _ h => h) (Or.inr ⟨by rfl, rfl⟩) (by assumption) ?_; try simp only [Act.put, List.getElem_toArray, List.getElem_cons_succ, List.getElem_cons_zero, List.setIfInBounds_toArray, List.set_cons_zero, List.set_cons_succ]); (refine wpAnyH_take (i := 27) (v := undef) rfl (by kernel_rfl) (by kernel_rfl) (by kernel_rfl) (fun _ _ _ h => h) (Or.inr ⟨by rfl, rfl⟩) (by assumption) ?_; try simp only [Act.put, List.getElem_toArray, List.getElem_cons_succ, List.getElem_cons_zero, List.setIfInBounds_toArray, List.set_cons_zero, List.set_cons_succ]))
            ((refine wpAnyH_take (i := 28) (v := ?_) rfl (by kernel_rfl) (by kernel_rfl) (by kernel_rfl) (fun _ _ _ h => h) (Or.inl ⟨by rfl, ?_⟩) (by assumption) ?_; rotate_left; (focus (intro w hSw; (try dsimp only at hSw); go_simp <;> with_reducible rfl)); try simp only [Act.put, List.getElem_toArray, List.getElem_cons_succ, List.getElem_cons_zero, List.setIfInBounds_toArray, List.set_cons_zero, List.set_cons_succ]))
            refine wpAnyH_done (by kernel_rfl) ?_ _
            go_wp2_with fail
            go_ret
            refine ⟨ret_bool ?_, below_trans HBX.out HB5.out⟩
            rw [HST.out, HNN.out]; rfl
          · go_wp2_with fail
            go_region_held3 (fun W => (W.cell? ⟨wr.heap.size, 0, none⟩ = some (.string name) ∧ W.cell? ⟨wr.heap.size, 1, none⟩ = some (.slice Ax xs.length cx) ∧ W.cell? ⟨wr.heap.size, 2, none⟩ = some (.string value) ∧ W.cell? ⟨w.heap.size, 0, none⟩ = some (.slice (some ad) ns.length c) ∧ W.cell? (ad.add ((j) * 3)) = some (.string pname) ∧ W.cell? ⟨(ad.add ((j) * 3)).block, (ad.add ((j) * 3)).off + 1, none⟩ = some psv)) (first | exact HS0 | exact HS5 | exact HS6)
              (first | (go_at_call 29; refine (HN.out _ HAd.out).mono ?_; rintro e w5 ⟨rfl, b5⟩; have HB5 := Lib.hid (below_trans HXD.out b5); have HS5 := SS.out _ HB5.out; have HA5 := Lib.hid (HAd.out.on b5); have HP5 := Lib.hid (HG.out _ (below_trans hbel1 HB5.out)).1; clear b5) | (go_at_call 30; refine (HLs.out _ HP5.out.1 HA5.out.1).mono ?_; rintro e w6 ⟨rfl, b6⟩; have HB6 := Lib.hid (below_trans HB5.out b6); have HS6 := SS.out _ HB6.out; clear b6))
            cases LB
            · go_wp2_with fail
              go_ret
              refine ⟨ret_bool ?_, below_trans HBX.out HB6.out⟩
              rw [HST.out, HNN.out, Bool.true_and]
              unfold lessB
              rw [HLB.out]; rfl
            · go_wp2_with fail
              refine ⟨⟨j + 1 + 1, by omega, by go_num, ?_, below_trans hbel1 HB6.out⟩, by simp [intOf]; omega⟩
              show _ = _
              rw [HST.out, HNN.out, if_neg (by omega), Nat.add_sub_cancel, HNX.out, Bool.true_and]
              unfold lessB
              rw [HLB.out, Bool.true_and]
      · have c1 : wr.cell? ⟨w.heap.size, 0, none⟩ = some (.slice A ns.length c) := (HC1.out.below hbel).2 0 _ rfl
        go_wp2
        go_ret
        refine ⟨ret_bool ?_, below_trans hba hbel⟩
        rw [HI.out, List.drop_eq_nil_of_le (by omega)]; rfl
  · go_enter Tryz.func16, Tryz.ntmps16
    go_wp2
    go_ret
    exact ⟨ret_bool (by rw [← HR.out]; unfold treeOkB; rw [decide_eq_false h120]; rfl), hba⟩


end Go.Proofs.YtllamjgloilioaaGreatDoor
