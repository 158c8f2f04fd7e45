/- The law of TreeOk; what the laws of one tree share. -/
import Derived.Test.YtjfdlbbfodomeaaGreatDoorTreeOk
import Derived.Deep.RegionHeld3
namespace Go.Proofs.YtjfdlbbfodomeaaGreatDoor
open Go.RowKit Go.ChangeShapes Go.WideShapes Go.ChangeAt Go.Deep
set_option linter.unusedVariables false

theorem NodeV.dat_eq {x y : NodeV} (h : x.dat = y.dat) : x.name = y.name ∧ x.subs = y.subs ∧ x.value = y.value := by
  unfold NodeV.dat at h
  injection h with h1 h2
  injection h2 with h2 h3
  exact ⟨h1, h2, h3⟩

theorem nodeOkB_dat {x y : NodeV} (h : x.dat = y.dat) : nodeOkB x = nodeOkB y := by
  obtain ⟨h1, h2, h3⟩ := NodeV.dat_eq h
  unfold nodeOkB; rw [h1, h2, h3]

theorem lessB_dat {x y a b : NodeV} (h : x.dat = y.dat) (h' : a.dat = b.dat) : lessB x a = lessB y b := by
  obtain ⟨h1, h2, h3⟩ := NodeV.dat_eq h
  obtain ⟨k1, k2, k3⟩ := NodeV.dat_eq h'
  unfold lessB; rw [h1, h2, k1, k2]

theorem treeGo_dat : ∀ (xs ys : List NodeV) (p q : Option NodeV), p.map NodeV.dat = q.map NodeV.dat → xs.map NodeV.dat = ys.map NodeV.dat → treeGo p xs = treeGo q ys
  | [], [], p, q, _, _ => by cases p <;> cases q <;> rfl
  | [], y :: ys, _, _, _, h => by simp at h
  | x :: xs, [], _, _, _, h => by simp at h
  | x :: xs, y :: ys, p, q, hp, h => by
    simp only [List.map_cons, List.cons.injEq] at h
    have ih := treeGo_dat xs ys (some x) (some y) (by simp [h.1]) h.2
    unfold treeGo
    rw [ih, nodeOkB_dat h.1]
    cases p with
    | none => cases q with
      | none => rfl
      | some b => simp at hp
    | some a => cases q with
      | none => simp at hp
      | some b =>
        have e : a.dat = b.dat := by simpa using hp
        simp only [lessB_dat e h.1]

theorem treeOkB_dat {xs ys : List NodeV} (h : xs.map NodeV.dat = ys.map NodeV.dat) : treeOkB xs = treeOkB ys := by
  unfold treeOkB; rw [dat_len h, treeGo_dat xs ys none none rfl h]

/-- One tree, in a cell of its own; the world has only grown since w0. -/
def T1 (w0 w : World) (va : Value) (ns : List NodeV) (gA : Nat) : Prop := Below w0.heap.size w0 w ∧ CellsAt w gA [va] ∧ NodesAt w va ns

theorem T1.on {w0 w w' : World} {va : Value} {ns : List NodeV} {gA : Nat} (h : T1 w0 w va ns gA) (hb : Below w.heap.size w w') : T1 w0 w' va ns gA :=
  ⟨below_trans h.1 hb, h.2.1.below hb, h.2.2.on hb⟩

theorem T1.drew {w0 w : World} {va : Value} {ns : List NodeV} {gA : Nat} (h : T1 w0 w va ns gA) : T1 w0 w.drew va ns gA := h.on (below_refl w).drew

theorem T1.a {w0 w : World} {va : Value} {ns : List NodeV} {gA : Nat} (h : T1 w0 w va ns gA) : w.cell? ⟨gA, 0, none⟩ = some va := h.2.1.2 0 _ rfl

theorem T1.new {w : World} {va : Value} {ns : List NodeV} (t : TypeId) (h : NodesAt w va ns) : T1 w (w.alloc (.cells #[va] t)) va ns w.heap.size :=
  ⟨Joins.below_alloc1 w _, CellsAt.new w #[va] t, h.on (Joins.below_alloc1 w _)⟩

set_option maxHeartbeats 1000000 in
set_option maxRecDepth 8000 in
theorem TreeOk_walk (v0 : Value) (x0 : Value × List NodeV) (w : World) (e0 : v0 = .agg #[x0.1]) (h0 : NodesAt w x0.1 x0.2) (k0 : x0.2.length ≤ maxLen ∧ ∀ n ∈ x0.2, n.Ok maxLen) (hL : laidMetH Tryz.prog Rows.fnExactTreeOkRow.laid w) (hsh : w.ShapedOpen Tryz.prog) :
    Calls Tryz.prog 3 #[v0] w fun e w' => e = .returned (.bool true) ∧ Below w.heap.size w w' := by
  have HT := Lib.hid (T10.of_laid hL); clear hL hsh
  obtain ⟨va, ns⟩ := x0
  simp only at *
  subst e0
  obtain ⟨la, oa⟩ := k0
  have OA := Lib.hid oa; clear oa
  have T0 := Lib.hid (T1.new 24 h0)
  obtain ⟨A, c, rfl, _, _⟩ := h0
  obtain ⟨D, hD⟩ : ∃ D : Bool, treeOkB ns = D := ⟨_, rfl⟩
  have HDD := Lib.hid hD; clear hD
  go_enter Tryz.func3, Tryz.ntmps3
  go_wp2_with fail
  refine (szTree_ex _ ns 1048576 _ T0.out.2.2 (by omega) (by omega) la OA.out).mono ?_
  rintro e w1 ⟨⟨q, rfl, q1, q2, hq⟩, b1⟩
  have HQ := Lib.hid hq; clear hq
  have TT1 := Lib.hid (T0.out.on b1); clear T0 b1
  by_cases q0 : q < 0
  · go_wp2_with fail
    go_ret
    exact ⟨rfl, TT1.out.1⟩
  have KA := Lib.hid (HQ.out (by omega)).2
  have sa := (HQ.out (by omega)).1
  clear HQ OA
  have ca := TT1.out.a
  go_wp2_with fail
  refine (toTree_any _ ns _ TT1.out.2.2 sa KA.out).mono ?_
  rintro e w2 ⟨vs, ss, rfl, HSs, hns, b2⟩
  have T2 := Lib.hid (TT1.out.on b2)
  have HSP := Lib.hid (sTreeOk_any vs ss _ hns (by rw [dat_len HSs.out]; exact sa) (oks_dat HSs.out _ KA.out))
  rw [treeOkB_dat HSs.out, HDD.out] at HSP
  clear TT1 b2 ca hns
  have ca := T2.out.a
  go_wp2_with fail
  refine HSP.out.mono ?_
  rintro e w3 ⟨rfl, b3⟩
  have T3 := Lib.hid (T2.out.on b3); clear T2 b3 ca HSP
  have ca := T3.out.a
  go_wp2_with fail
  refine (toTree_any _ ns _ T3.out.2.2 sa KA.out).mono ?_
  rintro e w7 ⟨xa, us, rfl, HU, hnu, b7⟩
  have U7 := Lib.hid (T1.new 29 hnu)
  obtain ⟨Au, cu, rfl, _, _⟩ := id hnu
  have T7 := Lib.hid ((T3.out.on b7).on (Joins.below_alloc1 w7 (.cells #[.slice Au us.length cu] 29)))
  clear T3 b7 hnu ca
  have ca := T7.out.a
  have cu0 := U7.out.a
  have HSM := Lib.hid (TreeOk_any _ us _ (HT.out.below T7.out.1) U7.out.2.2 (by rw [dat_len HU.out]; exact sa) (oks_dat HU.out _ KA.out))
  rw [treeOkB_dat HU.out, HDD.out] at HSM
  go_wp2_with fail
  refine HSM.out.mono ?_
  rintro e w9 ⟨rfl, b9⟩
  have T9 := Lib.hid (T7.out.on b9).drew
  have U9 := Lib.hid (U7.out.on b9).drew
  clear T7 U7 HSM b9 ca cu0
  have ca : w9.cell? ⟨w.heap.size, 0, none⟩ = some (.slice A ns.length c) := T9.out.a
  have cu0 : w9.cell? ⟨w7.heap.size, 0, none⟩ = some (.slice Au us.length cu) := U9.out.a
  go_wp2_with fail
  have HS0 : w9.drew.cell? ⟨w.heap.size, 0, none⟩ = some (.slice A ns.length c) ∧ w9.drew.cell? ⟨w7.heap.size, 0, none⟩ = some (.slice Au us.length cu) := ⟨T9.out.a, U9.out.a⟩
  go_region_held3 (fun W => W.cell? ⟨w.heap.size, 0, none⟩ = some (.slice A ns.length c) ∧ W.cell? ⟨w7.heap.size, 0, none⟩ = some (.slice Au us.length cu)) (first | exact HS0 | exact HS5 | exact HS6)
    (first | (go_at_call 16; refine (toTree_any _ ns _ T9.out.2.2 sa KA.out).mono ?_; rintro e wa ⟨xc, ts, rfl, HTS, hnt, ba⟩; have TA := Lib.hid (T9.out.on ba); have UA := Lib.hid (U9.out.on ba); have HS5 := And.intro TA.out.a UA.out.a; have HE := Lib.hid (eqTree_any _ _ us ts _ UA.out.2.2 hnt (by rw [dat_len HU.out]; exact sa) (oks_dat HU.out _ KA.out)); rw [show decide (us.map NodeV.dat = ts.map NodeV.dat) = true from decide_eq_true (HU.out.trans HTS.out.symm)] at HE; clear hnt ba) | (go_at_call 18; refine HE.out.mono ?_; rintro e wb ⟨rfl, bb⟩; have TB := Lib.hid (TA.out.on bb); have UB := Lib.hid (UA.out.on bb); have HS6 := And.intro TB.out.a UB.out.a; clear bb))
  go_wp2_with fail
  go_ret
  exact ⟨rfl, TB.out.1⟩

end Go.Proofs.YtjfdlbbfodomeaaGreatDoor
