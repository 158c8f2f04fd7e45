/- KillNode: slices.DeleteFunc over a row of nodes of the call's own. -/
import Derived.Test.YtllamjgloilioaaGreatDoorKnDel2
namespace Go.Proofs.YtllamjgloilioaaGreatDoor
open Go.RowKit Go.ChangeShapes Go.WideShapes Go.ChangeAt Go.Deep
set_option linter.unusedVariables false
set_option linter.unusedSimpArgs false

theorem NOwn.form {w : World} {B : Nat} {v : Value} {ns : List NodeV} (h : NOwn w B v ns) : (v = .slice none 0 0 ∧ ns = []) ∨ ∃ g cap, v = .slice (some ⟨g, 0, none⟩) ns.length cap ∧ B ≤ g ∧ ns.length ≤ cap := by
  rcases h.1.2 with ⟨h1, h2⟩ | ⟨g, cap, cur, h1, h2, _, h3, _⟩
  · exact .inl ⟨h1, List.eq_nil_of_length_eq_zero h2⟩
  · exact .inr ⟨g, cap, h1, h2, h3⟩

set_option maxHeartbeats 2000000 in
set_option maxRecDepth 8000 in
theorem DeleteNodes_own (v : Value) (ns : List NodeV) (B bn bs : Nat) (name : ByteArray) (v2 : Value) (ys : List ByteArray) (w : World) (h : NOwn w B v ns) (hl : ns.length ≤ 1048576) (hok : ∀ x ∈ ns, x.Ok 1048576) (he : Env w B bn bs name v2 ys) (h1 : some bn ≠ v.ownBlock) (h2 : some bs ≠ v.ownBlock) (hl2 : ys.length ≤ 1048576) :
    Calls Tryz.prog 41 #[v, .func (.func 42) #[] #[.pointer (some ⟨bn, 0, none⟩), .pointer (some ⟨bs, 0, none⟩)]] w fun e w' => ∃ v', e = .returned v' ∧ NOwn w' B v' (ns.filter fun x => !inB x name ys) ∧ w.grownBy w' v.ownBlock ∧ v'.ownBlock = v.ownBlock := by
  have HIX := Lib.hid (IndexNodes_any v ns B bn bs name v2 ys w h.at_ hl hok he hl2)
  have HN := Lib.hid h
  have HOK := Lib.hid hok
  have HEV : Hid (∀ W, w.grownBy W v.ownBlock → Env W B bn bs name v2 ys) := fun W hW => he.grown hW (fun k hk => (World.ownsRow.lt HN.out.1 k hk).1) h1 h2
  have hform := h.form
  clear hok he h1 h2 h
  rcases hform with ⟨rfl, rfl⟩ | ⟨g, cap, rfl, hgB, hnc⟩
  · go_enter Tryz.func41, Tryz.ntmps41
    go_wp2_with fail
    refine HIX.out.mono ?_
    rintro e w1 ⟨⟨z, rfl, HZ⟩, b1⟩
    have hz : z = -1 := by
      rcases HZ.out with ⟨e, _⟩ | ⟨pre, x, post, e, _⟩
      · exact e
      · simp at e
    subst hz
    have HB := Lib.hid b1; clear b1 HZ
    go_wp2_with fail
    go_ret
    exact ⟨_, rfl, HN.out.on HB.out, grown_below HB.out _, rfl⟩
  have HLS : Hid (∀ W, w.grownBy W (some g) → ∀ x ∈ ns, x.Own W B ∧ x.row ≠ some g) := fun W hW x hx => by
    obtain ⟨q1, q2⟩ := HN.out.2.1 x hx
    have q3 : x.row ≠ some g := fun e => q2 g e rfl
    exact ⟨⟨World.ownsRow.kept q1.1 hW (.inr q3), trivial⟩, q3⟩
  have HR0 : Hid (NodesIn w B g cap ns.length ns) := HN.out.1
  have HAP : Hid (Apart (ns.map NodeV.row)) := HN.out.2.2
  go_enter Tryz.func41, Tryz.ntmps41
  go_wp2_with fail
  refine HIX.out.mono ?_
  rintro e w1 ⟨⟨z, rfl, HZ⟩, b1⟩
  have HB1 := Lib.hid b1; clear b1 HIX
  rcases HZ.out with ⟨rfl, hall⟩ | ⟨pre, x0, post, hns, hpre, hx0, rfl⟩
  · have HAL := Lib.hid hall; clear hall
    go_wp2_with fail
    go_ret
    exact ⟨_, rfl, by rw [filter_none HAL.out]; exact HN.out.on HB1.out, grown_below HB1.out _, rfl⟩
  have HNS := Lib.hid hns
  have HPRE := Lib.hid hpre
  have HX0 := Lib.hid hx0
  have hpl : pre.length + 1 ≤ ns.length := by rw [hns]; simp
  have hz0 : ((pre.length : Int) == -1) = false := beq_eq_false_iff_ne.2 (by omega)
  clear hns hpre hx0 HZ HN
  go_wp2_with fail
  go_loopw [5, 6, 7] (fun i j _ wr => ∃ (P K G R : List NodeV), Hid (ns = P ++ R) ∧ Hid (K = P.filter fun x => !inB x name ys) ∧ j = .int .i64 P.length ∧ i = .int .i64 K.length ∧ G.length + K.length = P.length ∧ 0 < G.length ∧ P.length ≤ ns.length ∧ Hid (NodesIn wr B g cap ns.length (K ++ G ++ R)) ∧ Hid (w.grownBy wr (some g))) (fun _ j _ _ => ns.length - (intOf j).toNat)
  case atStart =>
    refine ⟨pre ++ [x0], pre, [x0], post, ?_, ?_, by simp, rfl, by simp; omega, by simp, by simpa using hpl, ?_, ?_⟩
    · show _ = _; rw [HNS.out]; simp
    · show _ = _; rw [List.filter_append, filter_none HPRE.out]; simp [HX0.out]
    · show NodesIn _ _ _ _ _ _
      have := HR0.out.on HB1.out
      rw [List.append_assoc, List.singleton_append, ← HNS.out]; exact this
    · exact grown_below HB1.out _
  case round =>
    clear HNS HPRE HX0 hpl hz0 HB1 HR0
    obtain ⟨P, K, G, R, HP, HK, rfl, rfl, hGK, hG, hPn, HR, HG⟩ := hrel
    cases R with
    | nil =>
      have hpn : P.length = ns.length := by rw [HP.out, List.append_nil]
      have HPN : Hid (P = ns) := by show _ = _; rw [HP.out, List.append_nil]
      have hk1 : K.length < ns.length := by omega
      have hrow := HR.out
      rw [List.append_nil] at hrow
      have hcl : ∀ ty, (Builtin.clear_ #[28] ty #[.slice (some ⟨g, K.length * 3, none⟩) (ns.length - K.length) (cap - K.length)]).run Tryz.prog wr = .ok (.tuple #[]) (wr.setCells g (K.length * 3) (Builtin.zeroCells #[.string ⟨#[]⟩, .slice none 0 0, .string ⟨#[]⟩] (ns.length - K.length)).toList) := fun ty =>
        run_clear_nodes wr g (K.length * 3) _ _ ty (by omega) (fun j hj => by
          rw [World.ownsRow.cellAt hrow _ (by omega), List.getElem?_eq_getElem (by rw [hrow.1]; omega)]; rfl) (fun j hj => World.ownsRow.frozenAt hrow _)
      obtain ⟨cs', hc1, hc2, hc3⟩ := ownsRow_setCells (Builtin.zeroCells #[.string ⟨#[]⟩, .slice none 0 0, .string ⟨#[]⟩] (ns.length - K.length)).toList (K.length * 3) wr _ hrow
      have HC1 := Lib.hid hc1; have HC2 := Lib.hid hc2; have HC3 := Lib.hid hc3
      clear hc1 hc2 hc3 hrow HR
      generalize wr.setCells g (K.length * 3) (Builtin.zeroCells #[.string ⟨#[]⟩, .slice none 0 0, .string ⟨#[]⟩] (ns.length - K.length)).toList = wf at *
      have i0 : (0 : Int) ≤ K.length := by omega
      have i1 : (K.length : Int) ≤ ns.length := by omega
      have i2 : (K.length : Int) ≤ cap := by omega
      rw [hpn]
      go_wp2_with fail
      go_ret
      refine ⟨_, rfl, ?_, grown_trans HG.out HC3.out, rfl⟩
      have hKK : K = ns.filter fun x => !inB x name ys := by rw [HK.out, HPN.out]
      rw [← hKK]
      refine NOwn.head (n := ns.length) (ns := ns) HC1.out rfl ?_ (by omega) ?_ (HLS.out _ (grown_trans HG.out HC3.out)) HAP.out
      · have hh := HC2.out
        rw [nodeVs_append, List.take_left' (nodeVs_len K)] at hh
        exact hh.symm
      · rw [hKK]; exact List.filter_sublist
    | cons x r =>
      have hml : (K ++ G).length = P.length := by simp; omega
      have hlt : P.length < ns.length := by rw [HP.out]; simp
      have hxm : x ∈ ns := by rw [HP.out]; simp
      have hox := HLS.out _ HG.out x hxm
      have hat : x.At wr := hox.1.at_
      have hb1 : Below wr.heap.size wr (wr.alloc (.cells x.cells 50)) := Joins.below_alloc1 wr _
      have HG1 : Hid (w.grownBy (wr.alloc (.cells x.cells 50)) (some g)) := grown_trans HG.out (grown_below hb1 _)
      have HC := Lib.hid (killClo_any x B bn bs name v2 ys (wr.alloc (.cells x.cells 50)) (hat.on hb1) (HOK.out _ hxm) (HEV.out _ HG1.out) hl2)
      have HCX := Lib.hid (CellsAt.new wr x.cells 50)
      have HR1 := Lib.hid (HR.out.on hb1)
      obtain ⟨a0, a1, a2, _, _, _⟩ := NodesIn.get HR.out hml
      have HIN : Hid (∃ y G', G = y :: G') := by
        cases G with
        | nil => simp at hG
        | cons y G' => exact ⟨y, G', rfl⟩
      have HXI : Hid (∀ P' R', P' = P ++ [x] → R' = r → ns = P' ++ R') := fun P' R' h1 h2 => by subst h1 h2; rw [HP.out]; simp
      obtain ⟨R0, hR0⟩ : ∃ R0, inB x name ys = R0 := ⟨_, rfl⟩
      rw [hR0] at HC
      have HKX : Hid ((P ++ [x]).filter (fun x => !inB x name ys) = K ++ (if R0 = true then [] else [x])) := by
        show _ = _
        rw [List.filter_append, ← HK.out]
        cases R0 <;> simp [hR0]
      clear hR0 HP HK hml hxm hox hb1 HR HG
      obtain ⟨nm, sv, xs, value⟩ := x
      obtain ⟨Ax, cx, hsx, _, _⟩ := id hat.1
      replace hsx : sv = .slice Ax xs.length cx := hsx
      subst hsx
      simp only [NodeV.cells] at *
      clear hat
      have i0 : (0 : Int) ≤ P.length := by omega
      have i1 : (P.length : Int) < ns.length := by omega
      have k0 : (0 : Int) ≤ K.length := by omega
      have k1 : (K.length : Int) < ns.length := by omega
      go_wp2_with fail
      refine HC.out.mono ?_
      rintro e w5 ⟨rfl, b5⟩
      have HG5 : Hid (w.grownBy w5 (some g)) := grown_trans HG1.out (grown_below b5 _)
      have HR5 := Lib.hid (HR1.out.on b5)
      have HCX5 := Lib.hid (HCX.out.below b5)
      clear HC HG1 HR1 HCX b5 a0 a1 a2
      have c0 : w5.cell? ⟨wr.heap.size, 0, none⟩ = some (.string nm) := HCX5.out.2 0 _ rfl
      have c1 : w5.cell? ⟨wr.heap.size, 1, none⟩ = some (.slice Ax xs.length cx) := HCX5.out.2 1 _ rfl
      have c2 : w5.cell? ⟨wr.heap.size, 2, none⟩ = some (.string value) := HCX5.out.2 2 _ rfl
      obtain ⟨y, G', hGG⟩ := HIN.out
      subst hGG
      cases R0
      · have hrow := HR5.out
        rw [List.append_assoc, List.cons_append] at hrow
        obtain ⟨b0, b1, b2, f0, f1, f2⟩ := NodesIn.get hrow rfl
        have HP5 := Lib.hid (NodesIn.put (x := ⟨nm, .slice Ax xs.length cx, xs, value⟩) hrow rfl)
        simp only at HP5
        clear hrow
        go_wp2_with fail
        refine ⟨⟨P ++ [⟨nm, .slice Ax xs.length cx, xs, value⟩], K ++ [⟨nm, .slice Ax xs.length cx, xs, value⟩], G' ++ [⟨nm, .slice Ax xs.length cx, xs, value⟩], r, HXI.out _ _ rfl rfl, ?_, by simp, by simp, ?_, by simp, by simp; omega, ?_, ?_⟩, by simp [intOf]; omega⟩
        · show _ = _; rw [HKX.out]; rfl
        · simp at hGK ⊢; omega
        · show NodesIn _ _ _ _ _ _
          have := HP5.out.1
          simp only [List.append_assoc, List.cons_append, List.nil_append, List.singleton_append] at this ⊢
          exact this
        · exact grown_trans HG5.out HP5.out.2
      · go_wp2_with fail
        refine ⟨⟨P ++ [⟨nm, .slice Ax xs.length cx, xs, value⟩], K, y :: G' ++ [⟨nm, .slice Ax xs.length cx, xs, value⟩], r, HXI.out _ _ rfl rfl, ?_, by simp, rfl, ?_, by simp, by simp; omega, ?_, HG5⟩, by simp [intOf]; omega⟩
        · show _ = _; rw [HKX.out]; simp
        · simp at hGK ⊢; omega
        · show NodesIn _ _ _ _ _ _
          have := HR5.out
          simp only [List.append_assoc, List.cons_append, List.nil_append, List.singleton_append] at this ⊢
          exact this

end Go.Proofs.YtllamjgloilioaaGreatDoor
