/- OrderOf: the loops. -/
import Derived.Test.YtjfdlbbfodomeaaGreatDoorOrder
namespace Go.Proofs.YtjfdlbbfodomeaaGreatDoor
open Go.RowKit Go.ChangeShapes Go.WideShapes Go.ChangeAt Go.Deep
set_option linter.unusedVariables false

theorem ordStep_off {back : Bool} {name : ByteArray} {zs : List ByteArray} {last best : ByteArray} {x : NodeV} (h : onLev name zs x = false) : ordStep back name zs last best x = best := by
  unfold ordStep; rw [h]; rfl

theorem ordStep_on {back : Bool} {name : ByteArray} {zs : List ByteArray} {last best s : ByteArray} {x : NodeV} (h : onLev name zs x = true) (hs : x.subs[zs.length]? = some s) : ordStep back name zs last best x = pick back last best s := by
  unfold ordStep; rw [h, hs]; rfl

set_option maxHeartbeats 4000000 in
set_option maxRecDepth 8000 in
theorem order_any (v : Value) (ns : List NodeV) (name : ByteArray) (v2 : Value) (zs : List ByteArray) (l : ByteArray) (back : Bool) (w : World) (hT : T10 w) (h : NodesAt w v ns) (hl : ns.length ≤ 1048576) (hok : ∀ x ∈ ns, x.Ok 1048576) (h2 : StrsAt w w.heap.size v2 (zs ++ [l])) (hl2 : zs.length ≤ 1048575) (hzl : l.size ≤ 1048576) :
    Calls Tryz.prog 71 #[.agg #[v], .string name, v2, .bool back] w fun e w' => e = .returned (.string (ordGo back name zs l ⟨#[]⟩ ns)) ∧ Below w.heap.size w w' := by
  obtain ⟨R, hR⟩ : ∃ R : ByteArray, ordGo back name zs l ⟨#[]⟩ ns = R := ⟨_, rfl⟩
  rw [hR]
  have HR := Lib.hid hR; clear hR
  have hba : Below w.heap.size w (w.alloc (.cells #[v] 29)) := Joins.below_alloc1 w _
  have H := Lib.hid (h.on hba)
  have hTa : T10 (w.alloc (.cells #[v] 29)) := hT.below hba
  have HTa := Lib.hid hTa; clear hTa hT
  have H2 := Lib.hid (h2.on hba)
  have HOK := Lib.hid hok; clear hok
  obtain ⟨A, c, rfl, hc, _⟩ := h
  obtain ⟨A2, c2, rfl, hc2, hr2⟩ := h2
  have hlen : (zs ++ [l]).length = zs.length + 1 := by simp
  obtain ⟨ad2, rfl, had2, hcell⟩ := hr2.strAt (k := zs.length) (by omega)
  rw [show (zs ++ [l])[zs.length]'(by omega) = l by simp] at hcell
  have H3 : Hid (StrsAt (w.alloc (.cells #[.slice A ns.length c] 29)) (w.alloc (.cells #[.slice A ns.length c] 29)).heap.size (.slice (some ad2) zs.length c2) zs) := by
    have := H2.out.take (m := zs.length) (by omega)
    rwa [List.take_left] at this
  clear hr2 H2
  rw [hlen] at hc2 ⊢
  clear hlen
  obtain ⟨m, hm⟩ : ∃ m, zs.length = m := ⟨_, rfl⟩
  rw [hm] at hc2 hl2 hcell H3 ⊢
  have HM := Lib.hid hm; clear hm
  have hcA : (w.alloc (.cells #[.slice A ns.length c] 29)).cell? (ad2.add m) = some (.string l) := by
    rw [World.cell?_alloc_lt _ _ _ (by rw [block_of_add]; exact had2)]; exact hcell
  have w1 : IntKind.i64.wrap ((m : Int) + 1 - 1) = m := by rw [Int.add_sub_cancel]; exact IntWalk.i64_in _ (by omega)
  have j0 : (0 : Int) ≤ m := by omega
  have j1 : (m : Int) < (m : Int) + 1 := by omega
  have HC1 := Lib.hid (CellsAt.new w #[.slice A ns.length c] 29)
  go_enter Tryz.func71, Tryz.ntmps71
  go_wp2
  go_loopw [10, 25] (fun n i wr => ∃ (k : Nat) (best : ByteArray), k ≤ ns.length ∧ i = .int .i64 k ∧ n = .string best ∧ best.size ≤ 1048576 ∧ Hid (R = ordGo back name zs l best (ns.drop k)) ∧ Gr (w.alloc (.cells #[.slice A ns.length c] 29)) wr) (fun _ i _ => ns.length - (intOf i).toNat)
  case atStart => exact ⟨0, ⟨#[]⟩, Nat.zero_le _, rfl, rfl, by decide, HR.out.symm, below_refl _⟩
  case round =>
    clear HR
    obtain ⟨k, best, hk, rfl, rfl, hbz, HI, hgr⟩ := hrel
    by_cases hlt : k < ns.length
    · obtain ⟨ad, rfl, hbl, hat, a0, a1, a2⟩ := (H.out.on hgr.out).get hlt
      have HX := HOK.out _ (List.getElem_mem hlt)
      have HD : Hid (R = ordGo back name zs l (ordStep back name zs l best ns[k]) (ns.drop (k + 1))) := by
        show _ = _
        rw [HI.out, List.drop_eq_getElem_cons hlt]; rfl
      have hb1 : Below wr.heap.size wr (wr.alloc (.cells ns[k].cells 79)) := Joins.below_alloc1 wr _
      have hgr1 := hgr.step hb1
      have hT1 := HTa.out.below hgr1.out
      have HA1 := Lib.hid (hat.on hb1)
      have H31 := Lib.hid (H3.out.on hgr1.out)
      clear HI hgr hb1
      generalize ns[k] = x at *
      obtain ⟨nm, sv, xs, value⟩ := x
      obtain ⟨Ax, cx, hsx, hcx, hrx⟩ := id hat.1
      replace hsx : sv = .slice Ax xs.length cx := hsx
      subst hsx
      obtain ⟨hxn, ⟨hxl, hxz⟩, hxv, _⟩ := HX
      simp only [NodeV.cells] at *
      have HXZ := Lib.hid hxz; clear hxz hat
      by_cases hnm : nm = name
      · subst hnm
        have he := str_eq nm
        by_cases hxm : xs.length < m + 1
        · have HO : Hid (onLev nm zs ⟨nm, .slice Ax xs.length cx, xs, value⟩ = false) := by
            show _ = _
            unfold onLev; rw [decide_eq_false (show ¬ zs.length + 1 ≤ xs.length by rw [HM.out]; omega)]; simp
          have x1 : decide ((xs.length : Int) < (m : Int) + 1) = true := decide_eq_true (by omega)
          have x2 : decide (xs.length < m + 1) = true := decide_eq_true hxm
          go_wp2_with fail
          go_quiet (fail)
          go_wp2_with fail
          refine ⟨⟨k + 1, best, by omega, by go_num, rfl, hbz, ?_, hgr1.step (below_drewN _ _)⟩, by simp [intOf]; omega⟩
          show _ = _
          rw [HD.out, ordStep_off HO.out]
        · obtain ⟨adx, rfl, hadx, hcm⟩ := hrx.strAt (k := m) (by omega)
          have hszm : xs[m].size ≤ 1048576 := HXZ.out _ (List.getElem_mem _)
          have HGM : Hid (xs[m]? = some xs[m]) := List.getElem?_eq_getElem (by omega)
          generalize xs[m]'(by omega) = s at *
          have hcmA : (wr.alloc (.cells #[.string nm, .slice (some adx) xs.length cx, .string value] 79)).cell? (adx.add m) = some (.string s) := by
            rw [World.cell?_alloc_lt _ _ _ (by rw [block_of_add]; exact hadx)]; exact hcm
          have x1 : decide ((xs.length : Int) < (m : Int) + 1) = false := decide_eq_false (by omega)
          have x2 : decide (xs.length < m + 1) = false := decide_eq_false hxm
          have x3 : (m : Int) ≤ cx := by omega
          have x4 : (m : Int) ≤ c2 := by omega
          have x5 : (m : Int) < xs.length := by omega
          have wm : IntKind.i64.wrap (m : Int) = m := IntWalk.i64_in _ (by omega)
          obtain ⟨E, hE⟩ : ∃ E : Bool, decide (xs.take m = zs) = E := ⟨_, rfl⟩
          have HQ : Hid (∀ q, Calls Tryz.prog 122 #[.slice (some adx) m cx, .slice (some ad2) m c2] ((wr.alloc (.cells #[.string nm, .slice (some adx) xs.length cx, .string value] 79)).drewN q) fun e w' => e = .returned (.bool E) ∧ ∃ n, w' = ((wr.alloc (.cells #[.string nm, .slice (some adx) xs.length cx, .string value] 79)).drewN q).drewN n) := fun q => by
            have t1 := HA1.out.1.take (m := m) (by simp only; omega)
            have := slicesEqual_any _ _ _ zs ((wr.alloc (.cells #[.string nm, .slice (some adx) xs.length cx, .string value] 79)).drewN q) _ t1 H31.out (by simp only [List.length_take]; omega)
            simp only at this
            rwa [hE] at this
          have HO : Hid (onLev nm zs ⟨nm, .slice (some adx) xs.length cx, xs, value⟩ = E) := by
            show _ = _
            unfold onLev; rw [HM.out, hE, decide_eq_true (show m + 1 ≤ xs.length by omega)]; simp
          clear hE
          cases E
          · go_wp2_with fail
            go_quiet ((go_at_call 122; exact Calls.quiet_of (HQ.out _)))
            go_wp2_with fail
            refine ⟨⟨k + 1, best, by omega, by go_num, rfl, hbz, ?_, hgr1.step (below_drewN _ _)⟩, by simp [intOf]; omega⟩
            show _ = _
            rw [HD.out, ordStep_off HO.out]
          · have HST : Hid (R = ordGo back nm zs l (pick back l best s) (ns.drop (k + 1))) := by
              show _ = _
              rw [HD.out, ordStep_on HO.out (by rw [HM.out]; exact HGM.out)]
            clear HD HO
            go_wp2_with fail
            go_quiet ((go_at_call 122; exact Calls.quiet_of (HQ.out _)))
            have hG5 := hgr1.step (below_drewN _ nq)
            have hT5 := HTa.out.below hG5.out
            clear hT1 hgr1
            cases back
            all_goals
              rcases emptyForms l with ⟨l1, l2, l3, l4⟩ | ⟨l1, l2, l3, l4⟩
              all_goals
                rcases emptyForms best with ⟨b1, b2, b3, b4⟩ | ⟨b1, b2, b3, b4⟩
                all_goals
                  go_wp2_with (go_at_call 123; refine (Before_any _ _ _ (by assumption) (by assumption) (by assumption)).mono ?_; rintro e w' ⟨rfl, hb⟩; have hT' := T10.below (by assumption) hb; have hG' := Gr.step (by assumption) hb; clear hb)
                  all_goals
                    refine ⟨⟨k + 1, _, by omega, by go_num, rfl, by assumption, ?_, by assumption⟩, by simp [intOf]; omega⟩
                    show _ = _
                    rw [HST.out]
                    refine congrArg (fun z => ordGo _ nm zs l z _) ?_
                    simp only [pick, l4.out, b4.out]
                    simp [*]
      · have he := str_ne hnm
        have HN := Lib.hid hnm; clear hnm
        have HO : Hid (onLev name zs ⟨nm, .slice Ax xs.length cx, xs, value⟩ = false) := by
          show _ = _
          unfold onLev; rw [decide_eq_false HN.out]; rfl
        go_wp2_with fail
        go_quiet (fail)
        go_wp2_with fail
        refine ⟨⟨k + 1, best, by omega, by go_num, rfl, hbz, ?_, hgr1.step (below_drewN _ _)⟩, by simp [intOf]; omega⟩
        show _ = _
        rw [HD.out, ordStep_off HO.out]
    · go_wp2_with fail
      go_ret
      refine ⟨?_, below_trans hba hgr.out⟩
      rw [HI.out, List.drop_eq_nil_of_le (by omega)]; rfl

end Go.Proofs.YtjfdlbbfodomeaaGreatDoor
