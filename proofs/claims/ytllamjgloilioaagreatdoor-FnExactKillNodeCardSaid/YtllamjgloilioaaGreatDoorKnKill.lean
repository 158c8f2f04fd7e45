/- KillNode: impl's side. -/
import Derived.Test.YtllamjgloilioaaGreatDoorKnDel3
namespace Go.Proofs.YtllamjgloilioaaGreatDoor
open Go.RowKit Go.ChangeShapes Go.WideShapes Go.ChangeAt Go.Deep
set_option linter.unusedVariables false
set_option linter.unusedSimpArgs false

theorem filt_dat (name : ByteArray) (ys : List ByteArray) : ∀ (a b : List NodeV), a.map NodeV.dat = b.map NodeV.dat → (a.filter fun x => !inB x name ys).map NodeV.dat = (b.filter fun x => !inB x name ys).map NodeV.dat
  | [], [], _ => rfl
  | [], _ :: _, h => by simp at h
  | _ :: _, [], h => by simp at h
  | x :: a, y :: b, h => by
    rw [List.map_cons, List.map_cons, List.cons.injEq] at h
    have e := inB_dat h.1 name ys
    rw [List.filter_cons, List.filter_cons, e]
    by_cases hq : (!inB y name ys) = true
    · rw [if_pos hq, if_pos hq, List.map_cons, List.map_cons, h.1, filt_dat name ys a b h.2]
    · rw [if_neg hq, if_neg hq, filt_dat name ys a b h.2]

/-- What KillNode answers. -/
def killA (ns : List NodeV) (name : ByteArray) (ys : List ByteArray) : List NodeV := if (treeOkB ns && locOk name ys) = true then ns.filter fun x => !inB x name ys else []

theorem killA_dat {a b : List NodeV} (h : a.map NodeV.dat = b.map NodeV.dat) (name : ByteArray) (ys : List ByteArray) : (killA a name ys).map NodeV.dat = (killA b name ys).map NodeV.dat := by
  unfold killA
  rw [treeOkB_dat h]
  split
  · exact filt_dat name ys a b h
  · rfl

theorem killA_sub (ns : List NodeV) (name : ByteArray) (ys : List ByteArray) : (killA ns name ys).Sublist ns := by
  unfold killA
  split
  · exact List.filter_sublist
  · exact List.nil_sublist _

theorem own_ne {w : World} {B o : Nat} {e t : TypeId} {size : Nat} {v : Value} {n : Nat} {xs : List Value} {cs : Array Value} {fr : Nat × Nat} (h : w.ownsRow B e size v n xs) (ho : w.heap[o]? = some (.cells cs t fr)) (ht : e ≠ t) : v.ownBlock ≠ some o := by
  rcases h.2 with ⟨rfl, _⟩ | ⟨g, cap, cur, rfl, _, hg, _⟩
  · simp [Value.ownBlock]
  · intro e'
    simp only [Value.ownBlock, Option.some.injEq] at e'
    subst e'
    rw [hg] at ho
    injection ho with ho
    injection ho with _ h2
    exact ht h2

/-- The variable beside the row is written. -/
theorem NOwn.var {w : World} {B o : Nat} {v u : Value} {xs : List NodeV} (h : NOwn w B v xs) (ho : TreeIn w o u) (u' : Value) : NOwn (w.setCell ⟨o, 0, none⟩ u') B v xs := by
  have hg : w.grownBy (w.setCell ⟨o, 0, none⟩ u') (some o) := grown_set _ _ _ _
  exact ⟨World.ownsRow.kept h.1 hg (.inr (own_ne h.1 ho (by decide))), fun x hx => ⟨⟨World.ownsRow.kept (h.2.1 x hx).1.1 hg (.inr (own_ne (h.2.1 x hx).1.1 ho (by decide))), trivial⟩, (h.2.1 x hx).2⟩, h.2.2⟩

theorem NOwn.slice {w : World} {B : Nat} {v : Value} {ns : List NodeV} (h : NOwn w B v ns) : ∃ A n c, v = .slice A n c := by
  rcases h.form with ⟨rfl, _⟩ | ⟨g, cap, rfl, _⟩
  · exact ⟨_, _, _, rfl⟩
  · exact ⟨_, _, _, rfl⟩

set_option maxHeartbeats 2000000 in
set_option maxRecDepth 8000 in
theorem kill_own (o : Nat) (v : Value) (ns : List NodeV) (B : Nat) (name : ByteArray) (v2 : Value) (ys : List ByteArray) (w : World) (hB : B ≤ w.heap.size) (hcell : TreeIn w o v) (h : NOwn w B v ns) (ho : v.ownBlock ≠ some o) (hl : ns.length ≤ 1048576) (hok : ∀ x ∈ ns, x.Ok 1048576) (h2 : StrsAt w B v2 ys) (hl2 : ys.length ≤ 1048576) (hn : name.size ≤ 1048576) (hBo : B ≤ o) :
    Calls Tryz.prog 23 #[.pointer (some ⟨o, 0, none⟩), .string name, v2] w fun e w' => e = .returned (.tuple #[]) ∧ ∃ v', TreeIn w' o v' ∧ NOwn w' B v' (ns.filter fun x => !inB x name ys) ∧ Below B w w' := by
  have hmf : ∀ (fn : Fn) (first cap : Array Value) (w : World), (Instr.makeFunc fn first cap).run Tryz.prog w = .ok (.func fn first cap) w := fun _ _ _ _ => rfl
  have hba : Below w.heap.size w ((w.alloc (.cells #[.string name] 9)).alloc (.cells #[v2] 25)) := Joins.below_alloc2 w _ _
  have hE : Env ((w.alloc (.cells #[.string name] 9)).alloc (.cells #[v2] 25)) B w.heap.size (w.heap.size + 1) name v2 ys := by
    refine ⟨Nat.le_trans hB hba.size, h2.below (hba.mono hB), ?_, ?_⟩
    · exact ((CellsAt.new w #[.string name] 9).below (Joins.below_alloc1 _ _)).2 0 _ rfl
    · have := (CellsAt.new (w.alloc (.cells #[.string name] 9)) #[v2] 25).2 0 _ rfl
      rw [show (w.alloc (.cells #[.string name] 9)).heap.size = w.heap.size + 1 by simp] at this
      exact this
  have hlt := World.ownsRow.lt h.1
  have HD := Lib.hid (DeleteNodes_own v ns B w.heap.size (w.heap.size + 1) name v2 ys _ (h.on hba) hl hok hE (fun e => by have := (hlt _ e.symm).2; omega) (fun e => by have := (hlt _ e.symm).2; omega) hl2)
  have HT := Lib.hid (hcell.on hba)
  have HNE : Hid (some o ≠ v.ownBlock) := fun e => ho e.symm
  have HBL : Hid (∀ W, ((w.alloc (.cells #[.string name] 9)).alloc (.cells #[v2] 25)).grownBy W v.ownBlock → Below B w W) := fun W hW => ((hba.mono hB)).grown hW (Nat.le_trans hB hba.size) (fun k hk => (hlt k hk).1)
  have HBO := Lib.hid hBo
  obtain ⟨A2, c2, rfl, _, _⟩ := h2
  obtain ⟨Av, nv, cv, rfl⟩ := h.slice
  have ct := HT.out.cell.1
  have ct0 := hcell.cell.1
  clear hba hE hlt h hcell ho hok hBo
  go_enter Tryz.func23, Tryz.ntmps23
  go_wp2_with fail
  refine HD.out.mono ?_
  rintro e w1 ⟨v', rfl, hn1, hg1, hv1⟩
  have HN1 := Lib.hid hn1
  have HT1 := Lib.hid (HT.out.grown hg1 HNE.out)
  have HB1 := Lib.hid (HBL.out _ hg1)
  have HV1 : Hid (some o ≠ v'.ownBlock) := by show _ ≠ _; rw [hv1]; exact HNE.out
  obtain ⟨ct1, ft1⟩ := HT1.out.cell
  obtain ⟨A', n', c', rfl⟩ := hn1.slice
  clear hn1 hg1 hv1 HT HBL HD HNE ct ct0
  go_wp2_with fail
  go_end0
  exact ⟨rfl, _, HT1.out.set _, HN1.out.var HT1.out _, HB1.out.setCell (p := ⟨o, 0, none⟩) HBO.out _⟩

set_option maxHeartbeats 2000000 in
set_option maxRecDepth 8000 in
theorem KillNode_own (g c : Nat) (ns : List NodeV) (name : ByteArray) (v2 : Value) (ys : List ByteArray) (w : World) (hT : T10 w) (h : NodesOwn w g ns.length ns) (hc : ns.length ≤ c) (hl : ns.length ≤ 1048576) (hok : ∀ x ∈ ns, x.Ok 1048576) (hn : name.size ≤ 1048576) (h2 : StrsAt w w.heap.size v2 ys) (hl2 : ys.length ≤ 1048576) (hz2 : ∀ x ∈ ys, x.size ≤ 1048576) :
    Calls Tryz.prog 9 #[.agg #[.slice (some ⟨g, 0, none⟩) ns.length c], .string name, v2] w fun e w' => ∃ v xs, e = .returned (.agg #[v]) ∧ Hid (xs.map NodeV.dat = (killA ns name ys).map NodeV.dat) ∧ NOwn w' w.heap.size v xs ∧ Below w.heap.size w w' := by
  have hba : Below w.heap.size w ((w.alloc (.cells #[.slice (some ⟨g, 0, none⟩) ns.length c] 30)).alloc (.cells #[.slice none 0 0] 30)) := Joins.below_alloc2 w _ _
  have HBA := Lib.hid hba
  have HN := Lib.hid (h.on hba)
  have H2 := Lib.hid (h2.on hba)
  have H20 := Lib.hid h2
  have HT := Lib.hid (hT.below hba)
  have HTR := Lib.hid (TreeOk_any _ ns _ HT.out (HN.out.at_ rfl hc) hl hok)
  have HCX : Hid (TreeIn ((w.alloc (.cells #[.slice (some ⟨g, 0, none⟩) ns.length c] 30)).alloc (.cells #[.slice none 0 0] 30)) w.heap.size (.slice (some ⟨g, 0, none⟩) ns.length c)) := by
    show _ = _
    rw [Below.heap_alloc _ _ _ (by simp)]
    exact heap_alloc_new _ _
  have HRX : Hid (TreeIn ((w.alloc (.cells #[.slice (some ⟨g, 0, none⟩) ns.length c] 30)).alloc (.cells #[.slice none 0 0] 30)) (w.heap.size + 1) (.slice none 0 0)) := by
    have := heap_alloc_new (w.alloc (.cells #[.slice (some ⟨g, 0, none⟩) ns.length c] 30)) (.cells #[.slice none 0 0] 30)
    rw [show (w.alloc (.cells #[.slice (some ⟨g, 0, none⟩) ns.length c] 30)).heap.size = w.heap.size + 1 by simp] at this
    exact this
  have HOK := Lib.hid hok; have HZ2 := Lib.hid hz2
  have HV : Hid (killA ns name ys = if (treeOkB ns && locOk name ys) = true then ns.filter fun x => !inB x name ys else []) := rfl
  have HLO := Lib.hid (fun W hb => locationOk_any name v2 ys W _ hn ((H2.out.on hb : StrsAt W W.heap.size v2 ys)) hl2 HZ2.out)
  generalize killA ns name ys = Q at *
  generalize treeOkB ns = R at *
  generalize locOk name ys = L at *
  obtain ⟨A2, c2, rfl, _, _⟩ := h2
  clear hT hok h hz2 hba
  go_enter Tryz.func9, Tryz.ntmps9
  go_wp2_with fail
  refine HTR.out.mono ?_
  rintro e w2 ⟨rfl, b2⟩
  have B2 := Lib.hid b2
  have HC2 := Lib.hid (HCX.out.on b2)
  have HR2 := Lib.hid (HRX.out.on b2)
  have c0 := HC2.out.cell.1
  obtain ⟨r0, s0⟩ := HR2.out.cell
  clear HTR b2 HCX HRX
  have HB0 := Lib.hid (below_trans HBA.out B2.out)
  cases R
  · go_wp2_with fail
    exact bodyPost_ret (results_cell_row rfl _ _ (w.heap.size + 1) 30 #[.slice none 0 0] (0, 0) _ rfl (HR2.out.set _) Tryz.underlying30 rfl (by kernel_rfl)) rfl ⟨_, [], rfl, (by show _ = _; rw [HV.out]; rfl), NOwn.nil _ _, HB0.out.setCell (p := ⟨w.heap.size + 1, 0, none⟩) (by simp) _⟩
  go_wp2_with fail
  refine (HLO.out _ B2.out).mono ?_
  rintro e w3 ⟨rfl, rfl⟩
  cases L
  · go_wp2_with fail
    exact bodyPost_ret (results_cell_row rfl _ _ (w.heap.size + 1) 30 #[.slice none 0 0] (0, 0) _ rfl (HR2.out.set _) Tryz.underlying30 rfl (by kernel_rfl)) rfl ⟨_, [], rfl, (by show _ = _; rw [HV.out]; rfl), NOwn.nil _ _, HB0.out.setCell (p := ⟨w.heap.size + 1, 0, none⟩) (by simp) _⟩
  have HQ0 : Hid (Q = ns.filter fun x => !inB x name ys) := HV.out
  have HCT := Lib.hid (copyTree_own g c ns w2 (HN.out.on B2.out) hc hl HOK.out)
  clear HV HLO
  go_wp2_with fail
  refine HCT.out.mono ?_
  rintro e w4 ⟨v', xs, rfl, hd4, hn4, b4⟩
  have HN4 := Lib.hid hn4
  have HD4 := Lib.hid hd4
  have hxl : xs.length = ns.length := dat_len hd4.out
  have HXO : Hid (∀ x ∈ xs, x.Ok 1048576) := oks_dat hd4.out _ HOK.out
  have HR4 := Lib.hid (HR2.out.on b4)
  have HB4 := Lib.hid (below_trans HB0.out b4)
  have HS4 : Hid (w2.heap.size ≤ w4.heap.size) := b4.size
  have H24 : Hid (StrsAt w2 w2.heap.size (.slice A2 ys.length c2) ys) := H2.out.on B2.out
  have HB24 := Lib.hid b4
  have HW2 : Hid (w.heap.size + 1 < w2.heap.size) := HR2.out.lt
  obtain ⟨Av, nv, cv, rfl⟩ := hn4.slice
  clear hd4 hn4 b4 HCT c0 r0 s0
  have hb5 : Below w4.heap.size w4 (w4.alloc (.cells #[.slice Av nv cv] 30)) := Joins.below_alloc1 w4 _
  have HKI := Lib.hid (kill_own w4.heap.size (.slice Av nv cv) xs w2.heap.size name (.slice A2 ys.length c2) ys (w4.alloc (.cells #[.slice Av nv cv] 30)) (Nat.le_trans HS4.out hb5.size) (heap_alloc_new w4 _) (HN4.out.on hb5) (fun e => by have := (World.ownsRow.lt HN4.out.1 _ e).2; omega) (by omega) HXO.out (H24.out.below (HB24.out.trans (hb5.mono HS4.out))) hl2 hn HS4.out)
  have HR5 := Lib.hid (HR4.out.on hb5)
  have HB5 := Lib.hid (below_trans HB4.out hb5)
  have HFD : Hid ((xs.filter fun x => !inB x name ys).map NodeV.dat = Q.map NodeV.dat) := by show _ = _; rw [HQ0.out]; exact filt_dat name ys _ _ HD4.out
  clear hb5
  go_wp2_with fail
  refine HKI.out.mono ?_
  rintro e w6 ⟨rfl, v6, ht6, hn6, b6⟩
  have HN6 := Lib.hid hn6
  have HT6 := Lib.hid ht6
  have HR6 : Hid (TreeIn w6 (w.heap.size + 1) (.slice none 0 0)) := (b6.block _ HW2.out).trans HR5.out
  have HB6 : Hid (Below w.heap.size w w6) := HB5.out.trans (b6.mono (Nat.le_of_lt (Nat.lt_of_succ_lt HW2.out)))
  obtain ⟨A6, n6, c6, rfl⟩ := hn6.slice
  obtain ⟨t0, _⟩ := HT6.out.cell
  obtain ⟨r0, s0⟩ := HR6.out.cell
  clear hn6 ht6 b6 HKI
  go_wp2_with fail
  exact bodyPost_ret (results_cell_row rfl _ _ (w.heap.size + 1) 30 #[.slice A6 n6 c6] (0, 0) _ rfl (HR6.out.set _) Tryz.underlying30 rfl (by kernel_rfl)) rfl ⟨_, xs.filter fun x => !inB x name ys, rfl, HFD, (HN6.out.var HR6.out _).le (Nat.le_of_lt (Nat.lt_of_succ_lt HW2.out)), HB6.out.setCell (p := ⟨w.heap.size + 1, 0, none⟩) (by simp) _⟩

end Go.Proofs.YtllamjgloilioaaGreatDoor
