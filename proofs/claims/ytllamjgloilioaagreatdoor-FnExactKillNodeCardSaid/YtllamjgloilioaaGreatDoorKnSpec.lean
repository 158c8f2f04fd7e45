/- KillNode: spec's side. -/
import Derived.Test.YtllamjgloilioaaGreatDoorKnKill
import Derived.Test.YtllamjgloilioaaGreatDoorAppendAny
import Derived.Deep.RegionHeld3
namespace Go.Proofs.YtllamjgloilioaaGreatDoor
open Go.RowKit Go.ChangeShapes Go.WideShapes Go.ChangeAt Go.Deep
set_option linter.unusedVariables false
set_option linter.unusedSimpArgs false

theorem NodesAt.form {w : World} {v : Value} {ns : List NodeV} (h : NodesAt w v ns) : ∃ A c, v = .slice A ns.length c ∧ ns.length ≤ c := by
  obtain ⟨A, c, e, hc, _⟩ := h
  exact ⟨A, c, e, hc⟩

theorem nodes_lit (w : World) : (w.alloc (.cells #[] 50)).ownsRow w.heap.size 50 3 (.slice (some ⟨w.heap.size, 0, none⟩) 0 0) 0 (nodeVs []) := World.ownsRow_lit w #[] 0 (Nat.le_refl _) (by unfold maxLen; omega) rfl

set_option maxHeartbeats 4000000 in
set_option maxRecDepth 8000 in
theorem l03Own_any (v : Value) (ns : List NodeV) (w : World) (h : NodesAt w v ns) (hl : ns.length ≤ 1048576) (hok : ∀ x ∈ ns, x.Ok 1048576) :
    Calls Tryz.prog 34 #[v] w fun e w' => ∃ v' xs, e = .returned v' ∧ Hid (xs.map NodeV.dat = ns.map NodeV.dat) ∧ NOwn w' w.heap.size v' xs ∧ Below w.heap.size w w' := by
  have hba : Below w.heap.size w (w.alloc (.cells #[] 50)) := Joins.below_alloc1 w _
  have HBA := Lib.hid hba
  have HN := Lib.hid h
  have HOK := Lib.hid hok
  have HO0 : Hid (NOwn (w.alloc (.cells #[] 50)) w.heap.size (.slice (some ⟨w.heap.size, 0, none⟩) 0 0) []) := ⟨nodes_lit w, fun x hx => absurd hx (by simp), List.Pairwise.nil⟩
  obtain ⟨A, c, rfl, hc⟩ := h.form
  clear h hok hba
  go_enter Tryz.func34, Tryz.ntmps34
  go_wp2_with fail
  go_loopw [3, 4] (fun v i wr => ∃ xs : List NodeV, xs.length ≤ ns.length ∧ i = .int .i64 xs.length ∧ Hid (xs.map NodeV.dat = (ns.take xs.length).map NodeV.dat) ∧ Hid (NOwn wr w.heap.size v xs) ∧ Hid (Below w.heap.size w wr)) (fun _ i _ => ns.length - (intOf i).toNat)
  case atStart => exact ⟨[], Nat.zero_le _, rfl, rfl, HO0.out, HBA.out⟩
  case round =>
    clear HO0 HBA
    obtain ⟨xs, hk, rfl, HD, HX, HB⟩ := hrel
    by_cases hlt : xs.length < ns.length
    · have hbd : Below w.heap.size w wr.drew := (HB.out).drew
      have HB0 := Lib.hid hbd
      obtain ⟨ad, rfl, hbl, hat, a0, a1, a2⟩ := (HN.out.on hbd).get hlt
      have HSS : Hid (∀ W, Below w.heap.size w W → W.cell? (ad.add (xs.length * 3)) = some (.string ns[xs.length].name) ∧ W.cell? ⟨(ad.add (xs.length * 3)).block, (ad.add (xs.length * 3)).off + 1, none⟩ = some ns[xs.length].subsv ∧ W.cell? ⟨(ad.add (xs.length * 3)).block, (ad.add (xs.length * 3)).off + 2, none⟩ = some (.string ns[xs.length].value)) := fun W hW => by
        obtain ⟨ad', e, _, _, q0, q1, q2⟩ := (HN.out.on hW).get hlt
        injection e with e
        subst e
        exact ⟨q0, q1, q2⟩
      have HT : Hid (ns.take (xs.length + 1) = ns.take xs.length ++ [ns[xs.length]]) := List.take_succ_eq_append_getElem hlt
      have HL := Lib.hid (l03Subs_any ns[xs.length].subsv ns[xs.length].subs wr.drew hat.1 (HOK.out _ (List.getElem_mem hlt)).2.1.1)
      have HX0 : Hid (NOwn wr.drew w.heap.size u3 xs) := HX.out.on (below_refl wr).drew
      have hln : xs.length < 1099511627776 := by omega
      have hsz : w.heap.size ≤ wr.heap.size := HB.out.size
      clear hbd HX a0 a1 a2
      generalize ns[xs.length] = x at *
      obtain ⟨nm, sv, ys, value⟩ := x
      obtain ⟨Ax, cx, hsx, _, _⟩ := id hat.1
      replace hsx : sv = .slice Ax ys.length cx := hsx
      subst hsx
      simp only at *
      clear hat
      have i0 : (0 : Int) ≤ xs.length := by omega
      have i1 : (xs.length : Int) < ns.length := by omega
      go_wp2_with fail
      have HS0 := HSS.out _ HB0.out
      go_region_held3 (fun W => W.cell? (ad.add (xs.length * 3)) = some (.string nm) ∧ W.cell? ⟨(ad.add (xs.length * 3)).block, (ad.add (xs.length * 3)).off + 1, none⟩ = some (.slice Ax ys.length cx) ∧ W.cell? ⟨(ad.add (xs.length * 3)).block, (ad.add (xs.length * 3)).off + 2, none⟩ = some (.string value)) (first | exact HS0 | exact HS5 | exact HS6 | exact HS7)
        (first | (refine step_append_Node w5 rfl _ _ rfl w.heap.size u3 xs.length (nodeVs xs) (.string nm) (.slice A' ys.length c') (.string value) rfl rfl rfl HX5.out.1 rfl rfl hln hs5 ?_; intro v7 w7 hr7 hg7 hb7 hv7; have HX7 := Lib.hid (NOwn.push (x := ⟨nm, .slice A' ys.length c', ys, value⟩) HX0.out hsz B5.out HY5.out hr7 hg7 hv7); have HB7 : Hid (Below w.heap.size w w7) := HB5.out.trans hb7; have HS7 := HSS.out _ HB7.out; clear hr7 hg7 hb7 hv7) | (go_at_call 50; refine HL.out.mono ?_; rintro e w5 ⟨v', rfl, hs', b5⟩; obtain ⟨A', c', rfl, _, _⟩ := hs'.at_; have HY5 : Hid (NodeV.Own ⟨nm, .slice A' ys.length c', ys, value⟩ w5 wr.drew.heap.size) := ⟨hs', trivial⟩; have B5 := Lib.hid b5; have HX5 := Lib.hid (HX0.out.on b5); have HB5 := Lib.hid (below_trans HB0.out b5); have HS5 := HSS.out _ HB5.out; have HS6 := HSS.out _ (HB5.out.alloc HB5.out.size (.cells #[.string nm, .slice A' ys.length c', .string value] 50)); have hs5 : w.heap.size ≤ w5.heap.size := HB5.out.size; clear hs' b5))
      all_goals
        go_wp2_with fail
        refine ⟨⟨xs ++ [⟨nm, .slice A' ys.length c', ys, value⟩], by simp; omega, by simp, ?_, ?_, HB7⟩, by simp [intOf]; omega⟩
        · show _ = _
          rw [List.length_append, List.length_singleton, HT.out, List.map_append, List.map_append, HD.out]
          rfl
        · exact HX7.out
    · have hkn : xs.length = ns.length := by omega
      rw [hkn, List.take_length] at HD
      go_wp2_with fail
      go_ret
      exact ⟨_, xs, rfl, HD, HX.out, HB.out⟩

theorem NodesAt.all {w : World} {v : Value} {ns : List NodeV} (h : NodesAt w v ns) : ∀ x ∈ ns, x.At w := by
  intro x hx
  obtain ⟨k, hk, rfl⟩ := List.getElem_of_mem hx
  obtain ⟨A, c, e, hc, hr⟩ := h
  obtain ⟨ad, _, _, hq⟩ := hr (by omega)
  exact (hq k hk).2

theorem NRow.form {w : World} {B : Nat} {v : Value} {xs : List NodeV} (h : NRow w B v xs) : ∃ A c, v = .slice A xs.length c := by
  obtain ⟨A, c, e, _⟩ := h.at_
  exact ⟨A, c, e⟩

set_option maxHeartbeats 4000000 in
set_option maxRecDepth 8000 in
theorem l03Kill_any (v : Value) (ns : List NodeV) (name : ByteArray) (v2 : Value) (ys : List ByteArray) (w : World) (h : NodesAt w v ns) (hl : ns.length ≤ 1048576) (hok : ∀ x ∈ ns, x.Ok 1048576) (hn : name.size ≤ 1048576) (h2 : StrsAt w w.heap.size v2 ys) (hl2 : ys.length ≤ 1048576) :
    Calls Tryz.prog 18 #[.agg #[v], .string name, v2] w fun e w' => ∃ v' xs, e = .returned (.agg #[v']) ∧ Hid (xs.map NodeV.dat = (ns.filter fun x => !inB x name ys).map NodeV.dat) ∧ NOwn w' w.heap.size v' xs ∧ Below w.heap.size w w' := by
  have hba : Below w.heap.size w (((w.alloc (.cells #[v] 30)).alloc (.cells #[.slice none 0 0] 30)).alloc (.cells #[] 50)) := Joins.below_alloc3 w _ _ _
  have HBA := Lib.hid hba
  have HN := Lib.hid h
  have HOK := Lib.hid hok
  have H2 := Lib.hid h2
  have HC0 : Hid (TreeIn (((w.alloc (.cells #[v] 30)).alloc (.cells #[.slice none 0 0] 30)).alloc (.cells #[] 50)) w.heap.size v) := by
    show _ = _
    rw [Below.heap_alloc _ _ _ (by simp; omega), Below.heap_alloc _ _ _ (by simp)]
    exact heap_alloc_new _ _
  have HR0 : Hid (TreeIn (((w.alloc (.cells #[v] 30)).alloc (.cells #[.slice none 0 0] 30)).alloc (.cells #[] 50)) (w.heap.size + 1) (.slice none 0 0)) := by
    show _ = _
    rw [Below.heap_alloc _ _ _ (by simp)]
    have := heap_alloc_new (w.alloc (.cells #[v] 30)) (.cells #[.slice none 0 0] 30)
    rw [show (w.alloc (.cells #[v] 30)).heap.size = w.heap.size + 1 by simp] at this
    exact this
  have HX0 : Hid (NRow (((w.alloc (.cells #[v] 30)).alloc (.cells #[.slice none 0 0] 30)).alloc (.cells #[] 50)) (w.heap.size + 1 + 1) (.slice (some ⟨w.heap.size + 1 + 1, 0, none⟩) 0 0) []) := by
    have := nodes_lit ((w.alloc (.cells #[v] 30)).alloc (.cells #[.slice none 0 0] 30))
    rw [show ((w.alloc (.cells #[v] 30)).alloc (.cells #[.slice none 0 0] 30)).heap.size = w.heap.size + 1 + 1 by simp] at this
    exact ⟨this, fun x hx => absurd hx (by simp)⟩
  have HAT : Hid (∀ W, Below w.heap.size w W → ∀ x ∈ ns, x.At W) := fun W hW => (HN.out.on hW).all
  obtain ⟨A, c, rfl, hc⟩ := h.form
  obtain ⟨A2, c2, rfl, _, _⟩ := id h2
  clear h hok hba h2
  go_enter Tryz.func18, Tryz.ntmps18
  go_wp2_with fail
  go_loopw [7, 8] (fun v7 i wr => ∃ (k : Nat) (xs : List NodeV), k ≤ ns.length ∧ i = .int .i64 k ∧ xs.length ≤ k ∧ Hid (xs = (ns.take k).filter fun x => !inB x name ys) ∧ Hid (NRow wr (w.heap.size + 1 + 1) v7 xs) ∧ Hid (TreeIn wr w.heap.size (.slice A ns.length c)) ∧ Hid (TreeIn wr (w.heap.size + 1) (.slice none 0 0)) ∧ Hid (Below w.heap.size w wr)) (fun _ i _ => ns.length - (intOf i).toNat)
  case atStart => exact ⟨0, [], Nat.zero_le _, rfl, Nat.zero_le _, rfl, HX0.out, HC0.out, HR0.out, HBA.out⟩
  case round =>
    clear HX0 HC0 HR0 HBA
    obtain ⟨k, xs, hk, rfl, hxk, HD, HX, HC, HR, HB⟩ := hrel
    have c0 := HC.out.cell.1
    by_cases hlt : k < ns.length
    · obtain ⟨ad, rfl, hbl, hat, a0, a1, a2⟩ := (HN.out.on HB.out).get hlt
      have HSS : Hid (∀ W, Below w.heap.size w W → W.cell? (ad.add (k * 3)) = some (.string ns[k].name) ∧ W.cell? ⟨(ad.add (k * 3)).block, (ad.add (k * 3)).off + 1, none⟩ = some ns[k].subsv ∧ W.cell? ⟨(ad.add (k * 3)).block, (ad.add (k * 3)).off + 2, none⟩ = some (.string ns[k].value)) := fun W hW => by
        obtain ⟨ad', e, _, _, q0, q1, q2⟩ := (HN.out.on hW).get hlt
        injection e with e
        subst e
        exact ⟨q0, q1, q2⟩
      have HXM : Hid (ns[k] ∈ ns) := List.getElem_mem hlt
      have HQ := Lib.hid (l03In_any ns[k] name _ ys _ hat (HOK.out _ HXM.out) (H2.out.on HB.out) hl2)
      obtain ⟨R, hR⟩ : ∃ R, inB ns[k] name ys = R := ⟨_, rfl⟩
      rw [hR] at HQ
      have HT : Hid ((ns.take (k + 1)).filter (fun x => !inB x name ys) = xs ++ (if R = true then [] else [ns[k]])) := by
        show _ = _
        rw [List.take_succ_eq_append_getElem hlt, List.filter_append, ← HD.out]
        cases R <;> simp [hR]
      have hln : xs.length < 1099511627776 := by omega
      have HSB : Hid (xs.Sublist ns) := by show List.Sublist _ _; rw [HD.out]; exact List.filter_sublist.trans (List.take_sublist _ _)
      clear hR HD
      generalize ns[k] = x at *
      obtain ⟨nm, sv, zs, value⟩ := x
      obtain ⟨Ax, cx, hsx, _, _⟩ := id hat.1
      replace hsx : sv = .slice Ax zs.length cx := hsx
      subst hsx
      simp only [NodeV.cells] at *
      clear hat
      have i0 : (0 : Int) ≤ k := by omega
      have i1 : (k : Int) < ns.length := by omega
      go_wp2_with fail
      refine HQ.out.mono ?_
      rintro e w5 ⟨rfl, b5⟩
      have HB5 := Lib.hid (below_trans HB.out b5)
      have HX5 := Lib.hid (HX.out.on b5)
      have HC5 := Lib.hid (HC.out.on b5)
      have HR5 := Lib.hid (HR.out.on b5)
      have c5 := HC5.out.cell.1
      have hs5 : w.heap.size + 1 + 1 ≤ w5.heap.size := by have := HR5.out.lt; omega
      obtain ⟨d0, d1, d2⟩ := HSS.out _ HB5.out
      clear HQ HX HC HR b5 a0 a1 a2 c0
      cases R
      · have HNE : Hid (∀ o, o < w.heap.size + 1 + 1 → some o ≠ u7.ownBlock) := fun o ho e => by
          have h1 := (World.ownsRow.lt HX5.out.1 o e.symm).1
          omega
        go_wp2_with (at_builtin; refine wpList_append_Node w5 rfl _ _ rfl (w.heap.size + 1 + 1) _ xs.length (nodeVs xs) _ _ _ rfl rfl rfl HX5.out.1 rfl rfl hln hs5 ?_; intro v7 w7 hr7 hg7 hb7 hv7; have HB7 : Hid (Below w.heap.size w w7) := HB5.out.trans (hb7.mono (by omega)); have HR7 := Lib.hid hr7; have HG7 := Lib.hid hg7; clear hr7 hg7 hb7 hv7)
        refine ⟨⟨k + 1, xs ++ [⟨nm, .slice Ax zs.length cx, zs, value⟩], by omega, by go_num, by simp; omega, ?_, ?_, HC5.out.grown HG7.out (HNE.out _ (by omega)), HR5.out.grown HG7.out (HNE.out _ (by omega)), HB7⟩, by simp [intOf]; omega⟩
        · show _ = _
          rw [HT.out]; rfl
        · refine NRow.push (w1 := w5) (v := u7) (fun y hy => ?_) (HAT.out _ HB7.out _ HXM.out) HR7.out
          exact HAT.out _ HB7.out _ ((HSB.out).subset hy)
      · go_wp2_with fail
        refine ⟨⟨k + 1, xs, by omega, by go_num, by omega, ?_, HX5, HC5, HR5, HB5⟩, by simp [intOf]; omega⟩
        show _ = _
        rw [HT.out]; simp
    · have hkn : k = ns.length := by omega
      rw [hkn, List.take_length] at HD
      have HOW := Lib.hid (l03Own_any u7 xs wr HX.out.at_ (by omega) (fun x hx => HOK.out x (by rw [HD.out] at hx; exact (List.mem_filter.1 hx).1)))
      obtain ⟨A7, c7, rfl⟩ := HX.out.form
      go_wp2_with fail
      refine HOW.out.mono ?_
      rintro e w5 ⟨v', zs, rfl, hd, hn5, b5⟩
      have HB5 := Lib.hid (below_trans HB.out b5)
      have HR5 := Lib.hid (HR.out.on b5)
      have HN5 := Lib.hid hn5
      have HD5 := Lib.hid hd
      obtain ⟨r0, s0⟩ := HR5.out.cell
      obtain ⟨A5, n5, c5, rfl⟩ := hn5.slice
      clear b5 hn5 hd HOW
      go_wp2_with fail
      refine bodyPost_ret (results_cell_row rfl _ _ (w.heap.size + 1) 30 #[.slice A5 n5 c5] (0, 0) _ rfl (HR5.out.set _) Tryz.underlying30 rfl (by kernel_rfl)) rfl ⟨_, zs, rfl, ?_, (HN5.out.var HR5.out _).le HB.out.size, HB5.out.setCell (p := ⟨w.heap.size + 1, 0, none⟩) (by simp) _⟩
      show _ = _
      rw [HD5.out.out, HD.out]

set_option maxHeartbeats 2000000 in
set_option maxRecDepth 8000 in
theorem sKillNode_any (v : Value) (ns : List NodeV) (name : ByteArray) (v2 : Value) (ys : List ByteArray) (w : World) (h : NodesAt w v ns) (hl : ns.length ≤ 1048576) (hok : ∀ x ∈ ns, x.Ok 1048576) (hn : name.size ≤ 1048576) (h2 : StrsAt w w.heap.size v2 ys) (hl2 : ys.length ≤ 1048576) (hz2 : ∀ x ∈ ys, x.size ≤ 1048576) :
    Calls Tryz.prog 6 #[.agg #[v], .string name, v2] w fun e w' => ∃ v xs, e = .returned (.agg #[v]) ∧ Hid (xs.map NodeV.dat = (killA ns name ys).map NodeV.dat) ∧ NodesAt w' v xs ∧ Below w.heap.size w w' := by
  have hba : Below w.heap.size w ((w.alloc (.cells #[v] 30)).alloc (.cells #[.slice none 0 0] 30)) := Joins.below_alloc2 w _ _
  have HBA := Lib.hid hba
  have HN := Lib.hid (h.on hba)
  have H2 := Lib.hid (h2.on hba)
  have HTR := Lib.hid (sTreeOk_any v ns _ HN.out hl hok)
  have HCX : Hid (TreeIn ((w.alloc (.cells #[v] 30)).alloc (.cells #[.slice none 0 0] 30)) w.heap.size v) := by
    show _ = _
    rw [Below.heap_alloc _ _ _ (by simp)]
    exact heap_alloc_new _ _
  have HRX : Hid (TreeIn ((w.alloc (.cells #[v] 30)).alloc (.cells #[.slice none 0 0] 30)) (w.heap.size + 1) (.slice none 0 0)) := by
    have := heap_alloc_new (w.alloc (.cells #[v] 30)) (.cells #[.slice none 0 0] 30)
    rw [show (w.alloc (.cells #[v] 30)).heap.size = w.heap.size + 1 by simp] at this
    exact this
  have HOK := Lib.hid hok; have HZ2 := Lib.hid hz2
  have HV : Hid (killA ns name ys = if (treeOkB ns && locOk name ys) = true then ns.filter fun x => !inB x name ys else []) := rfl
  have HLO := Lib.hid (fun W hb => l03Place_any name v2 ys W _ hn ((H2.out.on hb : StrsAt W W.heap.size v2 ys)) hl2 HZ2.out)
  generalize killA ns name ys = Q at *
  generalize treeOkB ns = R at *
  generalize locOk name ys = L at *
  obtain ⟨A2, c2, rfl, _, _⟩ := h2
  obtain ⟨A, c, rfl, _⟩ := h.form
  clear hok h hz2 hba
  go_enter Tryz.func6, Tryz.ntmps6
  go_wp2_with fail
  refine HTR.out.mono ?_
  rintro e w2 ⟨rfl, b2⟩
  have B2 := Lib.hid b2
  have HC2 := Lib.hid (HCX.out.on b2)
  have HR2 := Lib.hid (HRX.out.on b2)
  have c0 := HC2.out.cell.1
  obtain ⟨r0, s0⟩ := HR2.out.cell
  clear HTR b2 HCX HRX
  have HB0 := Lib.hid (below_trans HBA.out B2.out)
  cases R
  · go_wp2_with fail
    exact bodyPost_ret (results_cell_row rfl _ _ (w.heap.size + 1) 30 #[.slice none 0 0] (0, 0) _ rfl (HR2.out.set _) Tryz.underlying30 rfl (by kernel_rfl)) rfl ⟨_, [], rfl, (by show _ = _; rw [HV.out]; rfl), (NOwn.nil _ 0).at_, HB0.out.setCell (p := ⟨w.heap.size + 1, 0, none⟩) (by simp) _⟩
  go_wp2_with fail
  refine (HLO.out _ B2.out).mono ?_
  rintro e w3 ⟨rfl, rfl⟩
  cases L
  · go_wp2_with fail
    exact bodyPost_ret (results_cell_row rfl _ _ (w.heap.size + 1) 30 #[.slice none 0 0] (0, 0) _ rfl (HR2.out.set _) Tryz.underlying30 rfl (by kernel_rfl)) rfl ⟨_, [], rfl, (by show _ = _; rw [HV.out]; rfl), (NOwn.nil _ 0).at_, HB0.out.setCell (p := ⟨w.heap.size + 1, 0, none⟩) (by simp) _⟩
  have HQ0 : Hid (Q = ns.filter fun x => !inB x name ys) := HV.out
  have HKI := Lib.hid (l03Kill_any (.slice A ns.length c) ns name _ ys w2 (HN.out.on B2.out) hl HOK.out hn (H2.out.on B2.out) hl2)
  clear HV HLO
  go_wp2_with fail
  refine HKI.out.mono ?_
  rintro e w4 ⟨v', xs, rfl, hd4, hn4, b4⟩
  have HN4 := Lib.hid hn4
  have HD4 := Lib.hid hd4
  have HR4 := Lib.hid (HR2.out.on b4)
  have HB4 := Lib.hid (below_trans HB0.out b4)
  obtain ⟨A4, n4, c4, rfl⟩ := hn4.slice
  clear hd4 hn4 b4 HKI c0 r0 s0
  obtain ⟨r0, s0⟩ := HR4.out.cell
  go_wp2_with fail
  refine bodyPost_ret (results_cell_row rfl _ _ (w.heap.size + 1) 30 #[.slice A4 n4 c4] (0, 0) _ rfl (HR4.out.set _) Tryz.underlying30 rfl (by kernel_rfl)) rfl ⟨_, xs, rfl, ?_, ?_, HB4.out.setCell (p := ⟨w.heap.size + 1, 0, none⟩) (by simp) _⟩
  · show _ = _
    rw [HD4.out.out, HQ0.out]
  · exact (HN4.out.var HR4.out _).at_

end Go.Proofs.YtllamjgloilioaaGreatDoor
