/- NamesOf: both sides. -/
import Derived.Test.YtjedmpkjopgklaaGreatDoorMarkN3
import Derived.Test.YtjedmpkjopgklaaGreatDoorSzSum
import Derived.Test.YtjedmpkjopgklaaGreatDoorTreeLaw
import Derived.Test.YtjedmpkjopgklaaGreatDoorParse
import Derived.Test.YtjedmpkjopgklaaGreatDoorAppendStr
import Derived.Test.YtjedmpkjopgklaaGreatDoorShelf
namespace Go.Proofs.YtjedmpkjopgklaaGreatDoor
open Go.RowKit Go.ChangeShapes Go.WideShapes Go.ChangeAt Go.Deep
set_option linter.unusedVariables false

section
variable {w : World} {base : Nat} {e : TypeId} {g n cap : Nat} {xs : List Value}

theorem stored_all : ∀ (vs : List Value) (o : Nat) (w : World) (xs : List Value), w.ownsRow base e 1 (.slice (some ⟨g, 0, none⟩) n cap) n xs → o + vs.length ≤ n →
    (w.setCells g o vs).ownsRow base e 1 (.slice (some ⟨g, 0, none⟩) n cap) n (xs.take o ++ vs ++ xs.drop (o + vs.length)) ∧ w.grownBy (w.setCells g o vs) (some g)
  | [], o, w, xs, h, _ => by
    rw [List.append_nil, List.length_nil, Nat.add_zero, List.take_append_drop]
    exact ⟨h, grown_refl _ _⟩
  | v :: vs, o, w, xs, h, hl => by
    rw [List.length_cons] at hl
    obtain ⟨h1, h2⟩ := h.stored o v
    obtain ⟨h3, h4⟩ := stored_all vs (o + 1) _ _ h1 (by omega)
    have hxl : xs.length = n := by have := h.1; omega
    have e1 : (xs.set o v).take (o + 1) ++ vs ++ (xs.set o v).drop (o + 1 + vs.length) = xs.take o ++ (v :: vs) ++ xs.drop (o + (v :: vs).length) := by
      rw [List.drop_set_of_lt (by omega), List.take_set, List.take_succ_eq_append_getElem (by omega), List.set_append_right _ _ (by simp; omega)]
      simp only [List.length_take, Nat.min_eq_left (show o ≤ xs.length by omega), Nat.sub_self, List.set_cons_zero, List.append_assoc, List.cons_append, List.nil_append, List.length_cons]
      rw [show o + 1 + vs.length = o + (vs.length + 1) by omega]
    rw [e1] at h3
    exact ⟨h3, grown_trans h2 h4⟩

theorem own_less {m : Nat} (h : w.ownsRow base e 1 (.slice (some ⟨g, 0, none⟩) n cap) n xs) (hm : m ≤ n) : w.ownsRow base e 1 (.slice (some ⟨g, 0, none⟩) m cap) m (xs.take m) := by
  obtain ⟨h1, h2⟩ := h
  rcases h2 with ⟨h', _⟩ | ⟨g', cap', cur, h', hb, hg, hnc, hcm, hcs, htake⟩
  · simp at h'
  · simp only [Value.slice.injEq, Option.some.injEq, Addr.mk.injEq, and_true, true_and] at h'
    obtain ⟨rfl, rfl⟩ := h'
    refine ⟨by rw [List.length_take, h1]; omega, .inr ⟨g, cap, cur, rfl, hb, hg, by omega, hcm, hcs, ?_⟩⟩
    rw [← htake, List.take_take, Nat.mul_one, Nat.mul_one, Nat.min_eq_left hm]
end

def bytesOf (xs : List ByteArray) : List (List UInt8) := xs.map fun x => x.data.toList

theorem bytesOf_inj {xs ys : List ByteArray} (h : bytesOf xs = bytesOf ys) : xs = ys :=
  List.map_inj_right (fun a b e => ba_ext e) |>.1 h

theorem strsOf_get (xs : List ByteArray) : Lib.strsOf (fun i => xs.getD i ⟨#[]⟩) xs.length = bytesOf xs := by
  unfold Lib.strsOf bytesOf
  apply List.ext_getElem
  · simp
  · intro i h1 h2
    simp at h1
    simp [List.getD, List.getElem?_eq_getElem h1]

set_option maxRecDepth 8000 in
theorem Compact_own (v : Value) (xs : List ByteArray) (w : World) (base : Nat) (h : Strs w base v xs) (hl : xs.length ≤ 1048576) (hb : base ≤ w.heap.size) :
    Calls Tryz.prog 52 #[v] w fun e w' => ∃ v' ys, e = .returned v' ∧ Hid (bytesOf ys = Lib.compact (bytesOf xs)) ∧ Strs w' base v' ys ∧ Below base w w' := by
  rcases ownsRow_formsS h with ⟨rfl, hn⟩ | ⟨g, cap, rfl⟩
  · have hx : xs = [] := List.eq_nil_of_length_eq_zero hn
    subst hx
    exact (Tryz.slices_Compact_string_empty none 0 w).mono fun e w' ⟨he, hw⟩ => ⟨_, [], he, rfl, by rw [hw]; exact h, by rw [hw]; exact Below.refl _ _⟩
  · by_cases h0 : xs.length = 0
    · have hx : xs = [] := List.eq_nil_of_length_eq_zero h0
      subst hx
      exact (Tryz.slices_Compact_string_empty (some ⟨g, 0, none⟩) cap w).mono fun e w' ⟨he, hw⟩ => ⟨_, [], he, rfl, by rw [hw]; exact h, by rw [hw]; exact Below.refl _ _⟩
    · have hgb := (World.ownsRow.lt h g rfl).1
      have hcap : xs.length ≤ cap := by
        rcases h.2 with ⟨h', _⟩ | ⟨g', cap', cur, h', _, _, hnc, _⟩
        · simp at h'
        · injection h' with _ _ e3; omega
      have hc : ∀ i, i < xs.length → w.cell? ⟨g, 0 + i, none⟩ = some (.string (xs.getD i ⟨#[]⟩)) := fun i hi => by
        rw [Nat.zero_add, World.ownsRow.cellAt h i (by omega)]
        simp [strVs, List.getD, List.getElem?_eq_getElem hi]
      have hf : ∀ j, j < xs.length → w.frozen? ⟨g, 0 + j, none⟩ = false := fun j hj => World.ownsRow.frozenAt h (0 + j)
      refine (Tryz.slices_Compact_string_cells g 0 xs.length cap (fun i => xs.getD i ⟨#[]⟩) w (by omega) hcap hc hf).mono fun e w' ⟨he, q, hw⟩ => ?_
      rw [strsOf_get] at he hw
      have hlen : (Lib.compact (bytesOf xs)).length ≤ xs.length := by have := Lib.compact_length_le (bytesOf xs); simpa [bytesOf] using this
      have hall : (Lib.compact (bytesOf xs) ++ List.replicate (xs.length - (Lib.compact (bytesOf xs)).length) []).length = xs.length := by simp; omega
      have hst := stored_all ((Lib.compact (bytesOf xs) ++ List.replicate (xs.length - (Lib.compact (bytesOf xs)).length) []).map (fun l : List UInt8 => Value.string ⟨l.toArray⟩)) 0 (w.drewN q) (strVs xs) h (by rw [List.length_map]; omega)
      rw [← hw] at hst
      obtain ⟨h1, h2⟩ := hst
      have h3 := own_less h1 (m := (Lib.compact (bytesOf xs)).length) (by omega)
      have hy : ((strVs xs).take 0 ++ (Lib.compact (bytesOf xs) ++ List.replicate (xs.length - (Lib.compact (bytesOf xs)).length) []).map (fun l : List UInt8 => Value.string ⟨l.toArray⟩) ++ (strVs xs).drop (0 + ((Lib.compact (bytesOf xs) ++ List.replicate (xs.length - (Lib.compact (bytesOf xs)).length) []).map (fun l : List UInt8 => Value.string ⟨l.toArray⟩)).length)).take (Lib.compact (bytesOf xs)).length = strVs ((Lib.compact (bytesOf xs)).map ofL) := by
        rw [List.take_zero, List.nil_append, List.map_append, List.append_assoc, List.take_append_of_le_length (by simp), List.take_of_length_le (by simp)]
        unfold strVs
        rw [List.map_map]; rfl
      rw [hy] at h3
      refine ⟨_, (Lib.compact (bytesOf xs)).map ofL, he, ?_, ?_, ?_⟩
      · show _ = _
        unfold bytesOf
        rw [List.map_map]
        conv => rhs; rw [← List.map_id (Lib.compact _)]
        exact List.map_congr_left fun l _ => ofL_list l
      · show World.ownsRow _ _ _ _ _ _ _
        rw [List.length_map]; exact h3
      · have hb1 : Below base w (w.drewN q) := (below_drewN w q).mono hb
        exact hb1.trans ((Below.refl base (w.drewN q)).grown h2 (by show base ≤ (w.drewN q).heap.size; exact hb) (fun k hk => by injection hk with hk; omega))

def nmB (ns : List NodeV) : List ByteArray := ns.map NodeV.name

/-- What NamesOf returns. -/
def namesL (ns : List NodeV) : List (List UInt8) := if treeOkB ns = true then Lib.compact (bytesOf (nmB ns)) else []

theorem nmB_take (ns : List NodeV) (k : Nat) (h : k < ns.length) : nmB (ns.take (k + 1)) = nmB (ns.take k) ++ [ns[k].name] := by
  unfold nmB; rw [List.take_succ_eq_append_getElem h, List.map_append]; rfl

theorem nmB_dat {a b : List NodeV} (h : a.map NodeV.dat = b.map NodeV.dat) : nmB a = nmB b := by
  have : ∀ l : List NodeV, nmB l = (l.map NodeV.dat).map Prod.fst := fun l => by unfold nmB; rw [List.map_map]; rfl
  rw [this, this, h]

theorem namesL_dat {a b : List NodeV} (h : a.map NodeV.dat = b.map NodeV.dat) : namesL a = namesL b := by
  unfold namesL; rw [treeOkB_dat h, nmB_dat h]

def GotStrs (L : List (List UInt8)) (base : Nat) (e : Ending) (w' : World) : Prop := ∃ v ys, e = .returned v ∧ Hid (bytesOf ys = L) ∧ Strs w' base v ys

set_option maxHeartbeats 1000000 in
set_option maxRecDepth 8000 in
theorem NamesOf_any (v : Value) (ns : List NodeV) (w : World) (hT : T10 w) (h : NodesAt w v ns) (hl : ns.length ≤ 1048576) (hok : ∀ x ∈ ns, x.Ok 1048576) :
    Calls Tryz.prog 26 #[.agg #[v]] w fun e w' => GotStrs (namesL ns) w.heap.size e w' ∧ Below w.heap.size w w' := by
  have hba : Below w.heap.size w (w.alloc (.cells #[v] 42)) := Joins.below_alloc1 w _
  have HN := Lib.hid (h.on hba)
  have HTR := Lib.hid (TreeOk_any v ns _ (hT.below hba) HN.out hl hok)
  have HCX := Lib.hid (CellsAt.new w #[v] 42)
  have HV : Hid (namesL ns = if treeOkB ns = true then Lib.compact (bytesOf (nmB ns)) else []) := rfl
  generalize namesL ns = L at *
  generalize treeOkB ns = R at *
  obtain ⟨A, c, rfl, hc, _⟩ := h
  clear hT hok
  go_enter Tryz.func26, Tryz.ntmps26
  go_wp2_with fail
  refine HTR.out.mono ?_
  rintro e w2 ⟨rfl, b2⟩
  have HB2 := Lib.hid (below_trans hba b2)
  have HN2 := Lib.hid (HN.out.on b2)
  have c0 : w2.cell? ⟨w.heap.size, 0, none⟩ = some (.slice A ns.length c) := (HCX.out.below b2).2 0 _ rfl
  clear HTR HN HCX hba
  cases R
  · go_wp2_with fail
    go_ret
    exact ⟨⟨_, [], rfl, by rw [HV.out]; rfl, World.ownsRow_nil _ _ _ _⟩, HB2.out⟩
  have HV2 : Hid (L = Lib.compact (bytesOf (nmB ns))) := HV.out
  clear HV
  have hbz : w.heap.size < w2.heap.size := by have := b2.size; simp at this; omega
  have HO0 : Hid (Strs (w2.alloc (.cells #[] 9)) w2.heap.size (.slice (some ⟨w2.heap.size, 0, none⟩) 0 0) []) := by
    have := World.ownsRow_lit (base := w2.heap.size) (e := 9) (size := 1) w2 #[] 0 (Nat.le_refl _) (by unfold maxLen; omega) (by simp)
    exact this
  have HBS : Hid (Below w2.heap.size w2 (w2.alloc (.cells #[] 9))) := Joins.below_alloc1 w2 _
  go_wp2_with fail
  go_loopw [3, 5, 13] (fun v _ i wr => ∃ (k : Nat), k ≤ ns.length ∧ i = .int .i64 k ∧ Hid (Strs wr w2.heap.size v (nmB (ns.take k))) ∧ Hid (Below w2.heap.size w2 wr)) (fun _ _ i _ => ns.length - (intOf i).toNat)
  case atStart => exact ⟨0, Nat.zero_le _, rfl, HO0.out, HBS.out⟩
  case round =>
    obtain ⟨k, hk, rfl, HO, HBW⟩ := hrel
    by_cases hlt : k < ns.length
    · obtain ⟨ad, rfl, hbl, hat, a0, a1, a2⟩ := (HN2.out.on HBW.out).get hlt
      have HT := Lib.hid (nmB_take ns k hlt)
      generalize ns[k] = x at *
      obtain ⟨nm, sv, xs, value⟩ := x
      simp only at a0 a1 a2
      obtain ⟨Ax, cx, hsx, _, _⟩ := id hat.1
      replace hsx : sv = .slice Ax xs.length cx := hsx
      subst hsx
      have hb1 : Below wr.heap.size wr (wr.alloc (.cells #[.string nm, .slice Ax xs.length cx, .string value] 66)) := Joins.below_alloc1 wr _
      have HO1 := Lib.hid (Strs.below HO.out hb1)
      have HB1 := Lib.hid (below_trans HBW.out hb1)
      have hl1 : (nmB (ns.take k)).length < 4398046511104 := by simp [nmB]; omega
      have hs1 : w2.heap.size ≤ (wr.alloc (.cells #[.string nm, .slice Ax xs.length cx, .string value] 66)).heap.size := by have := HB1.out.size; simp at this ⊢; omega
      have HSZ : Hid ((wr.alloc (.cells #[.string nm, .slice Ax xs.length cx, .string value] 66)).heap.size = wr.heap.size + 1) := by show _ = _; simp
      have HL1 := Lib.hid hl1; have HS1 := Lib.hid hs1
      clear HO hb1 HBW hat hl1 hs1
      go_wp2_with (at_builtin; refine wpList_append_str (wr.alloc (.cells #[.string nm, .slice Ax xs.length cx, .string value] 66)) rfl _ _ rfl w2.heap.size _ (nmB (ns.take k)) nm HO1.out rfl (by rw [HSZ.out]; rfl) HL1.out HS1.out ?_; intro v' w4 hb4 hg4 hbl4 _hv)
      refine ⟨⟨k + 1, by omega, by go_num, by show Strs _ _ _ _; rw [HT.out]; exact hb4, ?_⟩, by simp [intOf]; omega⟩
      exact HB1.out.trans hbl4
    · obtain rfl : k = ns.length := by omega
      rw [List.take_length] at HO
      have hbs := HBW.out.size
      have HCO := Lib.hid (Compact_own _ (nmB ns) wr w2.heap.size HO.out (by simpa [nmB] using hl) hbs)
      go_wp2_with fail
      refine HCO.out.mono ?_
      rintro e w4 ⟨v', ys, rfl, hy, hs4, b4⟩
      have HS4 := Lib.hid (Joins.ownsRow_le hs4 (Nat.le_of_lt hbz))
      have HB4 : Hid (Below w.heap.size w w4) := below_trans HB2.out (HBW.out.trans b4)
      clear hs4 b4 HBW
      go_wp2_with fail
      go_ret
      exact ⟨⟨_, ys, rfl, by show _ = _; rw [HV2.out]; exact hy.out, HS4.out⟩, HB4.out⟩

theorem below_drewN_any (B : Nat) (w : World) (n : Nat) : Below B w (w.drewN n) := ⟨rfl, rfl, rfl, Nat.le_refl _, fun _ _ => rfl⟩

theorem strEqForms2 (x y : ByteArray) : ((x.toList == y.toList) = true ∧ Hid (x = y)) ∨ ((x.toList == y.toList) = false ∧ Hid (¬ x = y)) := by
  by_cases h : x = y
  · subst h; exact .inl ⟨by simp, rfl⟩
  · right
    refine ⟨?_, h⟩
    rw [ba_toList, ba_toList]; exact beq_eq_false_iff_ne.2 (fun e => h (ba_ext e))

theorem upTo_pos {d : Array (List UInt8)} {k : Nat} {ys : List ByteArray} {x : ByteArray} (h : bytesOf ys = Lib.compactUpTo d k) (hk : Lib.keeps d k = true) (hx : d[k]! = x.data.toList) : bytesOf (ys ++ [x]) = Lib.compactUpTo d (k + 1) := by
  rw [Lib.compactUpTo_succ, hk, if_pos rfl, hx, ← h]; simp [bytesOf]

theorem upTo_neg {d : Array (List UInt8)} {k : Nat} {ys : List ByteArray} (h : bytesOf ys = Lib.compactUpTo d k) (hk : Lib.keeps d k = false) : bytesOf ys = Lib.compactUpTo d (k + 1) := by
  rw [Lib.compactUpTo_succ, hk, if_neg (by simp), List.append_nil, h]

theorem nmB_get (ns : List NodeV) (k : Nat) (h : k < ns.length) : (bytesOf (nmB ns)).toArray[k]! = ns[k].name.data.toList := by
  rw [getElem!_pos _ _ (by simp [bytesOf, nmB]; exact h)]; simp [bytesOf, nmB]

set_option maxHeartbeats 1000000 in
set_option maxRecDepth 8000 in
theorem sNamesOf_any (v : Value) (ns : List NodeV) (w : World) (h : NodesAt w v ns) (hl : ns.length ≤ 1048576) (hok : ∀ x ∈ ns, x.Ok 1048576) :
    Calls Tryz.prog 25 #[.agg #[v]] w fun e w' => GotStrs (namesL ns) w.heap.size e w' ∧ Below w.heap.size w w' := by
  have hba : Below w.heap.size w (w.alloc (.cells #[v] 42)) := Joins.below_alloc1 w _
  have HN := Lib.hid (h.on hba)
  have HCX := Lib.hid (CellsAt.new w #[v] 42)
  obtain ⟨w1, hw1⟩ : ∃ w1, w.alloc (.cells #[v] 42) = w1 := ⟨_, rfl⟩
  rw [hw1] at HN HCX hba
  have hsz : w1.heap.size = w.heap.size + 1 := by rw [← hw1]; simp
  have hbe : Below w1.heap.size w1 (w1.alloc (.cells #[] 9)) := Joins.below_alloc1 w1 _
  have HTR := Lib.hid (sTreeOk_any v ns (w1.alloc (.cells #[] 9)) (HN.out.on hbe) hl hok)
  have HV : Hid (namesL ns = if treeOkB ns = true then Lib.compact (bytesOf (nmB ns)) else []) := rfl
  generalize namesL ns = L at *
  generalize treeOkB ns = R at *
  obtain ⟨A, c, rfl, hc, _⟩ := h
  have HO0 : Hid (Strs (w1.alloc (.cells #[] 9)) w1.heap.size (.slice (some ⟨w1.heap.size, 0, none⟩) 0 0) []) := by
    have := World.ownsRow_lit (base := w1.heap.size) (e := 9) (size := 1) w1 #[] 0 (Nat.le_refl _) (by unfold maxLen; omega) (by simp)
    exact this
  rw [← hw1] at HO0 HTR hbe
  have HBE := Lib.hid hbe
  have HW1 := Lib.hid hw1
  have HSZ := Lib.hid hsz
  clear hok hbe hw1 hsz
  go_enter Tryz.func25, Tryz.ntmps25
  go_wp2_with fail
  refine HTR.out.mono ?_
  rintro e w2 ⟨rfl, b2⟩
  rw [HW1.out] at b2 HO0 HBE
  have HO2 := Lib.hid (Strs.below HO0.out b2)
  have HB2 : Hid (Below w1.heap.size w1 w2) := below_trans HBE.out b2
  have c0 : w2.cell? ⟨w.heap.size, 0, none⟩ = some (.slice A ns.length c) := (HCX.out.below HB2.out).2 0 _ rfl
  rw [HSZ.out] at HO2
  have hbz : w.heap.size < w2.heap.size := by have := HB2.out.size; have := HSZ.out; omega
  clear HTR HO0 HBE b2
  cases R
  · go_wp2_with fail
    go_ret
    exact ⟨⟨_, [], rfl, by rw [HV.out]; rfl, Joins.ownsRow_le HO2.out (by omega)⟩, below_trans hba HB2.out⟩
  have HV2 : Hid (L = Lib.compact (bytesOf (nmB ns))) := HV.out
  clear HV
  go_wp2_with fail
  have HL0 : Hid (L = Lib.compactUpTo (bytesOf (nmB ns)).toArray ns.length) := by
    show _ = _
    rw [HV2.out]; unfold Lib.compact; rw [show (bytesOf (nmB ns)).length = ns.length by simp [bytesOf, nmB]]
  clear HV2
  go_loopw [3, 4] (fun v i wr => ∃ (k : Nat) (ys : List ByteArray), k ≤ ns.length ∧ i = .int .i64 k ∧ ys.length ≤ k ∧ Hid (bytesOf ys = Lib.compactUpTo (bytesOf (nmB ns)).toArray k) ∧ Hid (Strs wr (w.heap.size + 1) v ys) ∧ Hid (Below w1.heap.size w1 wr)) (fun _ i _ => ns.length - (intOf i).toNat)
  case atStart => exact ⟨0, [], Nat.zero_le _, rfl, by simp, rfl, HO2.out, HB2.out⟩
  case round =>
    clear HO2 HB2 c0
    obtain ⟨k, ys, hk, rfl, hyl, HY, HO, HB⟩ := hrel
    have c0 : wr.cell? ⟨w.heap.size, 0, none⟩ = some (.slice A ns.length c) := (HCX.out.below HB.out).2 0 _ rfl
    have hs1 : w.heap.size + 1 ≤ wr.heap.size := by have := HB.out.size; have := HSZ.out; omega
    by_cases hlt : k < ns.length
    · obtain ⟨ad, rfl, hbl, hat, a0, a1, a2⟩ := (HN.out.on HB.out).get hlt
      have HG := Lib.hid (nmB_get ns k hlt)
      by_cases hk0 : k = 0
      · subst hk0
        have HKP := Lib.hid (Lib.keeps_lt_one (bytesOf (nmB ns)).toArray 0 (by omega))
        have HYN := Lib.hid (upTo_pos HY.out HKP.out HG.out)
        generalize ns[0] = x at *
        obtain ⟨nm, sv, xs, value⟩ := x
        simp only at a0 a1 a2 HYN
        have a00 : wr.cell? ad = some (.string nm) := by rw [show ad.add (0 * 3) = ad by simp [Addr.add]] at a0; exact a0
        clear HG HKP HY
        go_wp2_with fail
        go_quiet (fail)
        go_wp2_with (at_builtin; refine wpList_append_str _ rfl _ _ rfl (w.heap.size + 1) _ ys nm (Strs.below HO.out (below_drewN _ _)) rfl rfl (by omega) hs1 ?_; intro v' w4 hb4 hg4 hbl4 _hv)
        exact ⟨⟨0 + 1, ys ++ [nm], by omega, by go_num, by rw [List.length_append, List.length_singleton]; omega, HYN.out, hb4, HB.out.trans ((below_drewN_any _ _ _).trans (hbl4.mono (by have := HSZ.out; omega)))⟩, by simp [intOf]; omega⟩
      · obtain ⟨j, rfl⟩ : ∃ j, k = j + 1 := ⟨k - 1, by omega⟩
        have hltj : j < ns.length := by omega
        obtain ⟨ad2, q, _, _, b0, b1, b2⟩ := (HN.out.on HB.out).get hltj
        injection q with q
        subst q
        have HGJ := Lib.hid (nmB_get ns j hltj)
        have w2f : IntKind.i64.wrap ((j : Int) + 1 - 1) = j := by rw [Int.add_sub_cancel]; exact IntWalk.i64_in _ (by omega)
        have j0 : (0 : Int) ≤ j := by omega
        have j1 : (j : Int) < ns.length := by omega
        have j2 : (j : Int) + 1 < ns.length := by omega
        have j3 : (0 : Int) ≤ (j : Int) + 1 := by omega
        have j4 : (((j : Int) + 1) == 0) = false := by simp; omega
        have hKP : ¬ ns[j + 1].name = ns[j].name → Lib.keeps (bytesOf (nmB ns)).toArray (j + 1) = true := fun hne => Lib.keeps_pos (by rw [Nat.add_sub_cancel, HG.out, HGJ.out]; exact fun e => hne (ba_ext e))
        have hKN : ns[j + 1].name = ns[j].name → Lib.keeps (bytesOf (nmB ns)).toArray (j + 1) = false := fun he => Lib.keeps_neg (by omega) (by rw [Nat.add_sub_cancel, HG.out, HGJ.out, he])
        have HKP := Lib.hid (fun h => upTo_pos HY.out (hKP h) HG.out)
        have HKN := Lib.hid (fun h => upTo_neg HY.out (hKN h))
        clear hKP hKN HG HGJ HY
        generalize ns[j + 1] = x at *
        generalize ns[j] = y at *
        obtain ⟨nm, sv, xs, value⟩ := x
        obtain ⟨nm2, sv2, xs2, value2⟩ := y
        simp only at a0 a1 a2 b0 b1 b2 HKP HKN
        rcases strEqForms2 nm2 nm with ⟨e1, e2⟩ | ⟨e1, e2⟩
        · have HYN := Lib.hid (HKN.out e2.out.symm)
          clear HKP HKN
          go_wp2_with fail
          go_quiet (fail)
          go_wp2_with fail
          exact ⟨⟨j + 1 + 1, ys, by omega, by go_num, by omega, HYN.out, Strs.below HO.out (below_drewN _ _), HB.out.trans (below_drewN_any _ _ _)⟩, by simp [intOf]; omega⟩
        · have HYN := Lib.hid (HKP.out (fun e => e2.out e.symm))
          clear HKP HKN
          go_wp2_with fail
          go_quiet (fail)
          go_wp2_with (at_builtin; refine wpList_append_str _ rfl _ _ rfl (w.heap.size + 1) _ ys nm (Strs.below HO.out (below_drewN _ _)) rfl rfl (by omega) hs1 ?_; intro v' w4 hb4 hg4 hbl4 _hv)
          exact ⟨⟨j + 1 + 1, ys ++ [nm], by omega, by go_num, by simp; omega, HYN.out, hb4, HB.out.trans ((below_drewN_any _ _ _).trans (hbl4.mono (by have := HSZ.out; omega)))⟩, by simp [intOf]; omega⟩
    · obtain rfl : k = ns.length := by omega
      have HB4 := Lib.hid (below_trans hba HB.out)
      go_wp2_with fail
      go_ret
      exact ⟨⟨_, ys, rfl, by show _ = _; rw [HL0.out]; exact HY.out, Joins.ownsRow_le HO.out (by omega)⟩, HB4.out⟩

end Go.Proofs.YtjedmpkjopgklaaGreatDoor
