/- QueryOf: both sides. -/
import Derived.Test.YtjedmpkjopgklaaGreatDoorNamesA
import Derived.Test.YtjedmpkjopgklaaGreatDoorAppendAny
import Derived.Test.YtjedmpkjopgklaaGreatDoorSubsBefore
import Derived.Test.YtjedmpkjopgklaaGreatDoorLoc
namespace Go.Proofs.YtjedmpkjopgklaaGreatDoor
open Go.RowKit Go.ChangeShapes Go.WideShapes Go.ChangeAt Go.Deep
set_option linter.unusedVariables false

theorem Clone_own (v : Value) (xs : List ByteArray) (w : World) (base : Nat) (h : Strs w base v xs) (hl : xs.length ≤ 1048576) :
    Calls Tryz.prog 48 #[v] w fun e w' => ∃ v', e = .returned v' ∧ Strs w' w.heap.size v' xs ∧ Below w.heap.size w w' := by
  rcases ownsRow_formsS h with ⟨rfl, hn⟩ | ⟨g, cap, rfl⟩
  · have hx : xs = [] := List.eq_nil_of_length_eq_zero hn
    subst hx
    exact (Tryz.slices_Clone_string_nil 0 0 w).mono fun e w' ⟨he, hw⟩ => ⟨_, he, World.ownsRow_nil _ _ _ _, by rw [hw]; exact below_refl _⟩
  · by_cases h0 : xs.length = 0
    · have hx : xs = [] := List.eq_nil_of_length_eq_zero h0
      subst hx
      exact (Tryz.slices_Clone_string_zero ⟨g, 0, none⟩ cap w).mono fun e w' ⟨v', he, h1, _, h2⟩ => ⟨v', he, h1, h2⟩
    · refine (Tryz.slices_Clone_string g 0 xs.length cap xs w (Nat.le_refl _) (by omega) (fun i hi => ?_)).mono fun e w' ⟨v', he, h1, _, h2⟩ => ⟨v', he, by rw [List.take_length] at h1; exact h1, h2⟩
      rw [Nat.zero_add, World.ownsRow.cellAt h i (by omega)]
      simp [strVs, List.getD, List.getElem?_eq_getElem hi]

theorem NodesOwn.getK {w : World} {g n : Nat} {xs : List NodeV} (h : NodesOwn w g n xs) {k : Nat} (hk : k < xs.length) : w.cell? ⟨g, k * 3, none⟩ = some (.string xs[k].name) ∧ w.cell? ⟨g, k * 3 + 1, none⟩ = some xs[k].subsv ∧ w.cell? ⟨g, k * 3 + 2, none⟩ = some (.string xs[k].value) := by
  obtain ⟨cur, hh, hz, hl, hq⟩ := h
  have h1 := (hq k hk).1
  exact ⟨by rw [Lib.cell_of_heap hh]; exact h1 0 _ rfl, by rw [Lib.cell_of_heap hh]; exact h1 1 _ rfl, by rw [Lib.cell_of_heap hh]; exact h1 2 _ rfl⟩

theorem sSubsBefore_on (v v2 : Value) (xs ys : List ByteArray) (w : World) (h : StrsAt w w.heap.size v xs) (h2 : StrsAt w w.heap.size v2 ys) (hl : xs.length ≤ 1048576) (hl2 : ys.length ≤ 1048576) (hz : ∀ x ∈ xs, x.size ≤ 1048576) (hz2 : ∀ x ∈ ys, x.size ≤ 1048576) :
    Calls Tryz.prog 42 #[v, v2] w fun e w' => e = .returned (.bool (sbef xs ys)) ∧ Below w.heap.size w w' := by
  have HQ := Lib.hid (l02SubsBefore_any v v2 xs ys w h h2 hl hl2 hz hz2)
  clear hz hz2
  go_enter Tryz.func42, Tryz.ntmps42
  go_wp2_with fail
  refine HQ.out.mono ?_
  rintro e w' ⟨rfl, b⟩
  have HB := Lib.hid b; clear b
  go_wp2_with fail
  go_ret
  exact ⟨rfl, HB.out⟩

def qryGo (name : ByteArray) (ys : List ByteArray) : List NodeV → Option (List ByteArray)
  | [] => none
  | x :: r => if x.name = name ∧ sbef ys x.subs = true then some x.subs else qryGo name ys r

/-- What QueryOf answers. -/
def qryA (ns : List NodeV) (name : ByteArray) (ys : List ByteArray) : Option (List ByteArray) := if (treeOkB ns && locOk name ys) = true then qryGo name ys ns else none

theorem qryGo_dat (name : ByteArray) (ys : List ByteArray) : ∀ (a b : List NodeV), a.map NodeV.dat = b.map NodeV.dat → qryGo name ys a = qryGo name ys b
  | [], [], _ => rfl
  | [], _ :: _, h => by simp at h
  | _ :: _, [], h => by simp at h
  | x :: a, y :: b, h => by
    rw [List.map_cons, List.map_cons, List.cons.injEq] at h
    obtain ⟨h1, h2, h3⟩ := NodeV.dat_eq h.1
    rw [qryGo, qryGo, qryGo_dat name ys a b h.2, h1, h2]

theorem qryA_dat {a b : List NodeV} (h : a.map NodeV.dat = b.map NodeV.dat) (name : ByteArray) (ys : List ByteArray) : qryA a name ys = qryA b name ys := by
  unfold qryA; rw [treeOkB_dat h, qryGo_dat name ys a b h]

theorem qryGo_len (name : ByteArray) (ys : List ByteArray) (M : Nat) : ∀ (ns : List NodeV), (∀ x ∈ ns, x.Ok M) → ((qryGo name ys ns).getD []).length ≤ M
  | [], _ => by simp [qryGo]
  | x :: r, h => by
    rw [qryGo]
    split
    · exact (h x List.mem_cons_self).2.1.1
    · exact qryGo_len name ys M r fun y hy => h y (List.mem_cons_of_mem _ hy)

theorem qryA_len {ns : List NodeV} {name : ByteArray} {ys : List ByteArray} {M : Nat} (h : ∀ x ∈ ns, x.Ok M) : ((qryA ns name ys).getD []).length ≤ M := by
  unfold qryA
  split
  · exact qryGo_len name ys M ns h
  · simp

def GotQry (o : Option (List ByteArray)) (base : Nat) (e : Ending) (w' : World) : Prop := ∃ v, e = .returned (.tuple #[v, .bool o.isSome]) ∧ Strs w' base v (o.getD [])

theorem gotQry_none {o : Option (List ByteArray)} (base : Nat) (w' : World) (h : o = none) : GotQry o base (.returned (.tuple #[.slice none 0 0, .bool false])) w' := by
  subst h; exact ⟨_, rfl, World.ownsRow_nil _ _ _ _⟩

theorem gotQry_some {o : Option (List ByteArray)} {base : Nat} {w' : World} {xs : List ByteArray} {v : Value} (h : o = some xs) (hs : Strs w' base v xs) : GotQry o base (.returned (.tuple #[v, .bool true])) w' := by
  subst h; exact ⟨_, rfl, hs⟩

set_option maxHeartbeats 1000000 in
set_option maxRecDepth 8000 in
theorem QueryOf_any (g c : Nat) (ns : List NodeV) (name : ByteArray) (v2 : Value) (ys : List ByteArray) (w : World) (hT : T10 w) (h : NodesOwn w g ns.length ns) (hc : ns.length ≤ c) (hl : ns.length ≤ 1048576) (hok : ∀ x ∈ ns, x.Ok 1048576) (hn : name.size ≤ 1048576) (h2 : StrsAt w w.heap.size v2 ys) (hl2 : ys.length ≤ 1048576) (hz2 : ∀ x ∈ ys, x.size ≤ 1048576) :
    Calls Tryz.prog 19 #[.agg #[.slice (some ⟨g, 0, none⟩) ns.length c], .string name, v2] w fun e w' => GotQry (qryA ns name ys) w.heap.size e w' ∧ Below w.heap.size w w' := by
  have hba : Below w.heap.size w (w.alloc (.cells #[.slice (some ⟨g, 0, none⟩) ns.length c] 42)) := Joins.below_alloc1 w _
  have HN := Lib.hid (h.on hba)
  have H2 := Lib.hid (h2.on hba)
  have HT := Lib.hid (hT.below hba)
  have HTR := Lib.hid (TreeOk_any _ ns _ HT.out (HN.out.at_ rfl hc) hl hok)
  have HCX := Lib.hid (CellsAt.new w #[.slice (some ⟨g, 0, none⟩) ns.length c] 42)
  have HOK := Lib.hid hok; have HZ2 := Lib.hid hz2
  have HV : Hid (qryA ns name ys = if (treeOkB ns && locOk name ys) = true then qryGo name ys ns else none) := rfl
  have HLO := Lib.hid (fun W hb => locationOk_any name v2 ys W _ hn ((H2.out.on hb : StrsAt W W.heap.size v2 ys)) hl2 HZ2.out)
  generalize qryA ns name ys = Q at *
  generalize treeOkB ns = R at *
  generalize locOk name ys = L at *
  obtain ⟨A2, c2, rfl, _, _⟩ := h2
  clear hT hok h hz2 hn
  go_enter Tryz.func19, Tryz.ntmps19
  go_wp2_with fail
  refine HTR.out.mono ?_
  rintro e w2 ⟨rfl, b2⟩
  have B2 := Lib.hid b2
  have c0 : w2.cell? ⟨w.heap.size, 0, none⟩ = some (.slice (some ⟨g, 0, none⟩) ns.length c) := (HCX.out.below b2).2 0 _ rfl
  clear HTR b2
  cases R
  · go_wp2_with fail
    go_ret2
    exact ⟨gotQry_none _ _ (by rw [HV.out]; rfl), below_trans hba B2.out⟩
  go_wp2_with fail
  refine (HLO.out _ B2.out).mono ?_
  rintro e w3 ⟨rfl, rfl⟩
  cases L
  · go_wp2_with fail
    go_ret2
    exact ⟨gotQry_none _ _ (by rw [HV.out]; rfl), below_trans hba B2.out⟩
  have HQ0 : Hid (Q = qryGo name ys ns) := HV.out
  clear HV HLO
  go_wp2_with fail
  go_loopw [9, 22] (fun _ i wr => ∃ k : Nat, k ≤ ns.length ∧ i = .int .i64 k ∧ Hid (Q = qryGo name ys (ns.drop k)) ∧ Hid (Below (w.alloc (.cells #[.slice (some ⟨g, 0, none⟩) ns.length c] 42)).heap.size (w.alloc (.cells #[.slice (some ⟨g, 0, none⟩) ns.length c] 42)) wr)) (fun _ i _ => ns.length - (intOf i).toNat)
  case atStart => exact ⟨0, Nat.zero_le _, rfl, by rw [List.drop_zero]; exact HQ0.out, B2.out⟩
  case round =>
    clear HQ0 B2 c0
    obtain ⟨k, hk, rfl, HI, HB⟩ := hrel
    by_cases hlt : k < ns.length
    · obtain ⟨adq, qa, qb, hat, qc, qd, qe⟩ := ((HN.out.on HB.out).at_ rfl hc).get hlt
      clear qa qb qc qd qe adq
      obtain ⟨a0, a1, a2⟩ := (HN.out.on HB.out).getK hlt
      have HD : Hid (Q = if ns[k].name = name ∧ sbef ys ns[k].subs = true then some ns[k].subs else qryGo name ys (ns.drop (k + 1))) := by
        show _ = _
        rw [HI.out, List.drop_eq_getElem_cons hlt]; rfl
      have HX := Lib.hid (HOK.out _ (List.getElem_mem hlt))
      have HOX : Hid (∀ W, Below (w.alloc (.cells #[.slice (some ⟨g, 0, none⟩) ns.length c] 42)).heap.size (w.alloc (.cells #[.slice (some ⟨g, 0, none⟩) ns.length c] 42)) W → Strs W (g + 1) ns[k].subsv ns[k].subs) := fun W hW => by
        obtain ⟨_, _, _, _, hq⟩ := HN.out.on hW
        exact (hq k hlt).2.1
      have hb1 : Below wr.heap.size wr (wr.alloc (.cells ns[k].cells 66)) := Joins.below_alloc1 wr _
      have HB1 := Lib.hid (below_trans HB.out hb1)
      have HCX1 := Lib.hid (CellsAt.new wr ns[k].cells 66)
      have HSB := Lib.hid (SubsBefore_any (.slice A2 ys.length c2) ns[k].subsv ys ns[k].subs (wr.alloc (.cells ns[k].cells 66)) (HT.out.below HB1.out) (H2.out.on HB1.out) (hat.on hb1).1 hl2 HX.out.2.1.1 HZ2.out HX.out.2.1.2)
      clear HI hb1
      generalize ns[k] = x at *
      obtain ⟨nm, sv, xs, value⟩ := x
      obtain ⟨Ax, cx, hsx, _, _⟩ := id hat.1
      replace hsx : sv = .slice Ax xs.length cx := hsx
      subst hsx
      simp only [NodeV.cells] at *
      clear hat
      rcases strEqForms2 nm name with ⟨e1, e2⟩ | ⟨e1, e2⟩
      rotate_left
      · have HI2 : Hid (Q = qryGo name ys (ns.drop (k + 1))) := by show _ = _; rw [HD.out, if_neg (fun h => e2.out h.1)]
        clear HSB HD HX HOX HCX1
        go_wp2_with fail
        exact ⟨⟨k + 1, by omega, by go_num, HI2, HB1.out⟩, by simp [intOf]; omega⟩
      obtain ⟨S, hS⟩ : ∃ S, sbef ys xs = S := ⟨_, rfl⟩
      rw [hS] at HSB
      have HS := Lib.hid hS; clear hS
      go_wp2_with fail
      refine HSB.out.mono ?_
      rintro e w5 ⟨rfl, b5⟩
      have HB5 := Lib.hid (below_trans HB1.out b5)
      have c91 : w5.cell? ⟨wr.heap.size, 1, none⟩ = some (.slice Ax xs.length cx) := (HCX1.out.below b5).2 1 _ rfl
      clear HSB b5 HCX1
      cases S
      · have HI2 : Hid (Q = qryGo name ys (ns.drop (k + 1))) := by show _ = _; rw [HD.out, if_neg (fun h => by have := HS.out; rw [h.2] at this; cases this)]
        clear HD HX HOX
        go_wp2_with fail
        exact ⟨⟨k + 1, by omega, by go_num, HI2, HB5.out⟩, by simp [intOf]; omega⟩
      · have HI2 : Hid (Q = some xs) := by show _ = _; rw [HD.out, if_pos ⟨e2.out, HS.out⟩]
        have HCL := Lib.hid (Clone_own _ xs w5 (g + 1) (HOX.out _ HB5.out) HX.out.2.1.1)
        clear HD HX HOX
        go_wp2_with fail
        refine HCL.out.mono ?_
        rintro e w6 ⟨v', rfl, hs6, b6⟩
        have HS6 := Lib.hid hs6
        have HB6 := Lib.hid (below_trans hba (below_trans HB5.out b6))
        have hz6 : w.heap.size ≤ w5.heap.size := (below_trans hba HB5.out).size
        clear hs6 b6 HCL
        go_wp2_with fail
        go_ret2
        exact ⟨gotQry_some HI2.out (Joins.ownsRow_le HS6.out hz6), HB6.out⟩
    · have HF : Hid (Q = none) := by show _ = _; rw [HI.out, List.drop_eq_nil_of_le (by omega)]; rfl
      have HB6 := Lib.hid (below_trans hba HB.out)
      go_wp2_with fail
      go_ret2
      exact ⟨gotQry_none _ _ HF.out, HB6.out⟩

set_option maxHeartbeats 1000000 in
set_option maxRecDepth 8000 in
theorem sQueryOf_any (v : Value) (ns : List NodeV) (name : ByteArray) (v2 : Value) (ys : List ByteArray) (w : World) (h : NodesAt w v ns) (hl : ns.length ≤ 1048576) (hok : ∀ x ∈ ns, x.Ok 1048576) (hn : name.size ≤ 1048576) (h2 : StrsAt w w.heap.size v2 ys) (hl2 : ys.length ≤ 1048576) (hz2 : ∀ x ∈ ys, x.size ≤ 1048576) :
    Calls Tryz.prog 16 #[.agg #[v], .string name, v2] w fun e w' => GotQry (qryA ns name ys) w.heap.size e w' ∧ Below w.heap.size w w' := by
  have hba : Below w.heap.size w (w.alloc (.cells #[v] 42)) := Joins.below_alloc1 w _
  have HN := Lib.hid (h.on hba)
  have H2 := Lib.hid (h2.on hba)
  have HTR := Lib.hid (sTreeOk_any v ns _ HN.out hl hok)
  have HCX := Lib.hid (CellsAt.new w #[v] 42)
  have HOK := Lib.hid hok; have HZ2 := Lib.hid hz2
  have HV : Hid (qryA ns name ys = if (treeOkB ns && locOk name ys) = true then qryGo name ys ns else none) := rfl
  have HLO := Lib.hid (fun W hb => l03Place_any name v2 ys W _ hn ((H2.out.on hb : StrsAt W W.heap.size v2 ys)) hl2 HZ2.out)
  generalize qryA ns name ys = Q at *
  generalize treeOkB ns = R at *
  generalize locOk name ys = L at *
  obtain ⟨A2, c2, rfl, _, _⟩ := h2
  obtain ⟨A, c, rfl, _, _⟩ := h
  clear hok hz2 hn
  go_enter Tryz.func16, Tryz.ntmps16
  go_wp2_with fail
  refine HTR.out.mono ?_
  rintro e w2 ⟨rfl, b2⟩
  have B2 := Lib.hid b2
  have c0 : w2.cell? ⟨w.heap.size, 0, none⟩ = some (.slice A ns.length c) := (HCX.out.below b2).2 0 _ rfl
  clear HTR b2
  cases R
  · go_wp2_with fail
    go_ret2
    exact ⟨gotQry_none _ _ (by rw [HV.out]; rfl), below_trans hba B2.out⟩
  go_wp2_with fail
  refine (HLO.out _ B2.out).mono ?_
  rintro e w3 ⟨rfl, rfl⟩
  cases L
  · go_wp2_with fail
    go_ret2
    exact ⟨gotQry_none _ _ (by rw [HV.out]; rfl), below_trans hba B2.out⟩
  have HQ0 : Hid (Q = qryGo name ys ns) := HV.out
  clear HV HLO
  go_wp2_with fail
  go_loopw [8] (fun i wr => ∃ k : Nat, k ≤ ns.length ∧ i = .int .i64 k ∧ Hid (Q = qryGo name ys (ns.drop k)) ∧ Hid (Below (w.alloc (.cells #[.slice A ns.length c] 42)).heap.size (w.alloc (.cells #[.slice A ns.length c] 42)) wr)) (fun i _ => ns.length - (intOf i).toNat)
  case atStart => exact ⟨0, Nat.zero_le _, rfl, by rw [List.drop_zero]; exact HQ0.out, B2.out⟩
  case round =>
    clear HQ0 B2 c0
    obtain ⟨k, hk, rfl, HI, HB⟩ := hrel
    have c0 : wr.cell? ⟨w.heap.size, 0, none⟩ = some (.slice A ns.length c) := (HCX.out.below HB.out).2 0 _ rfl
    by_cases hlt : k < ns.length
    · obtain ⟨ad, rfl, hbl, hat, a0, a1, a2⟩ := (HN.out.on HB.out).get hlt
      have HD : Hid (Q = if ns[k].name = name ∧ sbef ys ns[k].subs = true then some ns[k].subs else qryGo name ys (ns.drop (k + 1))) := by
        show _ = _
        rw [HI.out, List.drop_eq_getElem_cons hlt]; rfl
      have HX := Lib.hid (HOK.out _ (List.getElem_mem hlt))
      have HG : Hid (∀ W, Below (w.alloc (.cells #[.slice (some ad) ns.length c] 42)).heap.size (w.alloc (.cells #[.slice (some ad) ns.length c] 42)) W → W.cell? ⟨(ad.add (k * 3)).block, (ad.add (k * 3)).off + 1, none⟩ = some ns[k].subsv ∧ W.cell? ⟨w.heap.size, 0, none⟩ = some (.slice (some ad) ns.length c) ∧ StrsAt W W.heap.size ns[k].subsv ns[k].subs) := fun W hW => by
        obtain ⟨ad', qa, _, qh, _, q1, _⟩ := (HN.out.on hW).get hlt
        injection qa with qa
        subst qa
        exact ⟨q1, (HCX.out.below hW).2 0 _ rfl, qh.1⟩
      have HSB := Lib.hid (sSubsBefore_on (.slice A2 ys.length c2) ns[k].subsv ys ns[k].subs wr (H2.out.on HB.out) hat.1 hl2 HX.out.2.1.1 HZ2.out HX.out.2.1.2)
      clear HI
      generalize ns[k] = x at *
      obtain ⟨nm, sv, xs, value⟩ := x
      obtain ⟨Ax, cx, hsx, _, _⟩ := id hat.1
      replace hsx : sv = .slice Ax xs.length cx := hsx
      subst hsx
      simp only at *
      clear hat
      rcases strEqForms2 nm name with ⟨e1, e2⟩ | ⟨e1, e2⟩
      rotate_left
      · have HI2 : Hid (Q = qryGo name ys (ns.drop (k + 1))) := by show _ = _; rw [HD.out, if_neg (fun h => e2.out h.1)]
        clear HSB HD HX HG
        go_wp2_with fail
        exact ⟨⟨k + 1, by omega, by go_num, HI2, HB⟩, by simp [intOf]; omega⟩
      obtain ⟨S, hS⟩ : ∃ S, sbef ys xs = S := ⟨_, rfl⟩
      rw [hS] at HSB
      have HS := Lib.hid hS; clear hS
      go_wp2_with fail
      refine HSB.out.mono ?_
      rintro e w5 ⟨rfl, b5⟩
      have HB5 := Lib.hid (below_trans HB.out b5)
      obtain ⟨d1, d2, d3⟩ := HG.out _ HB5.out
      have D3 := Lib.hid d3
      clear HSB b5 d3 HG
      cases S
      · have HI2 : Hid (Q = qryGo name ys (ns.drop (k + 1))) := by show _ = _; rw [HD.out, if_neg (fun h => by have := HS.out; rw [h.2] at this; cases this)]
        clear HD HX
        go_wp2_with fail
        exact ⟨⟨k + 1, by omega, by go_num, HI2, HB5⟩, by simp [intOf]; omega⟩
      · have HI2 : Hid (Q = some xs) := by show _ = _; rw [HD.out, if_pos ⟨e2.out, HS.out⟩]
        have HCL := Lib.hid (l03Subs_any _ xs w5 D3.out HX.out.2.1.1)
        clear HD HX
        go_wp2_with fail
        refine HCL.out.mono ?_
        rintro e w6 ⟨v', rfl, hs6, b6⟩
        have HS6 := Lib.hid hs6
        have HB6 := Lib.hid (below_trans hba (below_trans HB5.out b6))
        have hz6 : w.heap.size ≤ w5.heap.size := (below_trans hba HB5.out).size
        clear hs6 b6 HCL
        go_wp2_with fail
        go_ret2
        exact ⟨gotQry_some HI2.out (Joins.ownsRow_le HS6.out hz6), HB6.out⟩
    · have HF : Hid (Q = none) := by show _ = _; rw [HI.out, List.drop_eq_nil_of_le (by omega)]; rfl
      have HB6 := Lib.hid (below_trans hba HB.out)
      go_wp2_with fail
      go_ret2
      exact ⟨gotQry_none _ _ HF.out, HB6.out⟩

end Go.Proofs.YtjedmpkjopgklaaGreatDoor
