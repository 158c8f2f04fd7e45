/- RefText: both sides and the walk. -/
import Derived.Test.YtmgailihgeelmaaDoorKeyOf
import Derived.Test.YtmgailihgeelmaaDoorAppendStr
import Derived.Test.YtmgailihgeelmaaDoorExtract
import Derived.Lib.Join
namespace Go.Proofs.YtmgailihgeelmaaDoor
open Go.RowKit
set_option linter.unusedVariables false

/-- A subscript as it is written. -/
def subT (s : ByteArray) : List UInt8 := if canon s then s.data.toList else quote s.data.toList

def headT (g : Bool) (name : ByteArray) : List UInt8 := (if g then [94] else []) ++ name.data.toList

def refT (g : Bool) (name : ByteArray) (xs : List ByteArray) : List UInt8 := if locOk name xs then headT g name ++ (if xs = [] then [] else 40 :: (Lib.join (xs.map subT) [44] ++ [41])) else []

theorem subT_len (s : ByteArray) : (subT s).length ≤ s.size * 3 + 2 := by
  unfold subT
  split
  · rw [← ba_size]; omega
  · have := quote_length s.data.toList; rw [← ba_size] at this; omega

theorem joinTail_len' (sep : List UInt8) (M : Nat) : ∀ r : List (List UInt8), (∀ x ∈ r, x.length ≤ M) → (Lib.joinTail sep r).length ≤ r.length * (sep.length + M)
  | [], _ => by simp [Lib.joinTail]
  | x :: r, h => by
    have ih := joinTail_len' sep M r (fun y hy => h y (List.mem_cons_of_mem _ hy))
    have hx := h x (List.mem_cons_self)
    unfold Lib.joinTail at ih ⊢
    rw [List.map_cons, List.flatten_cons, List.length_append, List.length_append, List.length_cons, Nat.succ_mul]
    omega

theorem join_len' (sep : List UInt8) (M : Nat) (r : List (List UInt8)) (h : ∀ x ∈ r, x.length ≤ M) : (Lib.join r sep).length ≤ r.length * (sep.length + M) := by
  cases r with
  | nil => simp [Lib.join_nil]
  | cons x r =>
    have := joinTail_len' sep M r (fun y hy => h y (List.mem_cons_of_mem _ hy))
    have hx := h x (List.mem_cons_self)
    rw [Lib.join_cons, List.length_append, List.length_cons, Nat.succ_mul]
    omega

theorem join_snoc' (sep x : List UInt8) (l : List (List UInt8)) : Lib.join (l ++ [x]) sep = if l = [] then x else Lib.join l sep ++ sep ++ x := by
  cases l with
  | nil => rw [if_pos rfl, List.nil_append, Lib.join_one]
  | cons y r => rw [if_neg (by simp), List.cons_append, Lib.join_cons, Lib.join_cons]; simp [Lib.joinTail]

/-- What the first k subscripts write. -/
def partT (xs : List ByteArray) (k : Nat) : List UInt8 := if k = 0 then [] else 40 :: Lib.join ((xs.take k).map subT) [44]

theorem partT_zero (xs : List ByteArray) : partT xs 0 = [] := rfl

theorem partT_succ {xs : List ByteArray} {k : Nat} (h : k < xs.length) : partT xs (k + 1) = partT xs k ++ (if k = 0 then 40 else 44) :: subT xs[k] := by
  unfold partT
  rw [if_neg (by omega), List.take_succ_eq_append_getElem h, List.map_append, List.map_cons, List.map_nil, join_snoc']
  by_cases hk : k = 0
  · subst hk; simp
  · rw [if_neg (by intro e; have := congrArg List.length e; rw [List.length_map, List.length_take, List.length_nil] at this; omega), if_neg hk, if_neg hk]
    simp

theorem partT_len (xs : List ByteArray) (h : ∀ x ∈ xs, x.size ≤ 24) (k : Nat) (hk : k ≤ 4) : (partT xs k).length ≤ 400 := by
  unfold partT
  split
  · simp
  · have := join_len' [44] 74 ((xs.take k).map subT) (fun y hy => by
      obtain ⟨x, hx, rfl⟩ := List.mem_map.1 hy
      have := subT_len x
      have := h x (List.mem_of_mem_take hx)
      omega)
    rw [List.length_map, List.length_take] at this
    rw [List.length_cons]
    have h2 : min k xs.length * ([44].length + 74) ≤ 4 * 75 := Nat.mul_le_mul (by omega) (by simp)
    omega

/-- The parts that impl gathers. -/
def IsParts (ps xs : List ByteArray) : Prop := ps.map (·.data.toList) = xs.map subT

set_option maxHeartbeats 1000000 in
set_option maxRecDepth 8000 in
theorem RefText_any (g : Bool) (name : ByteArray) (v : Value) (xs : List ByteArray) (w : World) (hT : T10 w) (hml : ML w) (hn : name.size ≤ 1048576) (h : StrsAt w w.heap.size v xs) (hl : xs.length ≤ 1048576) (hz : ∀ x ∈ xs, x.size ≤ 1048576) :
    Calls Tryd.prog 31 #[.bool g, .string name, v] w fun e w' => ∃ r : ByteArray, e = .returned (.string r) ∧ Hid (r.data.toList = refT g name xs) ∧ Below w.heap.size w w' := by
  have HT := Lib.hid hT; have HM := Lib.hid hml; clear hT hml
  have HZ := Lib.hid hz; clear hz
  cases hok : locOk name xs
  · have HV : Hid (refT g name xs = []) := by show _ = _; unfold refT; rw [hok]; rfl
    go_enter Tryd.func31, Tryd.ntmps31
    go_wp2_with fail
    refine (locationOk_any name v xs _ _ hn h hl HZ.out).mono ?_
    rintro e w' ⟨rfl, rfl⟩
    rw [hok]
    go_wp2_with fail
    go_ret
    exact ⟨_, rfl, HV.out.symm, below_refl _⟩
  · obtain ⟨n8, sok⟩ := locOk_parts hok
    obtain ⟨h4, h24⟩ := subsOk_len sok
    have H24 := Lib.hid h24
    have HV : Hid (refT g name xs = headT g name ++ if xs = [] then [] else 40 :: (Lib.join (xs.map subT) [44] ++ [41])) := by show _ = _; unfold refT; rw [hok]; rfl
    clear h24 sok
    go_enter Tryd.func31, Tryd.ntmps31
    go_wp2_with fail
    refine (locationOk_any name v xs _ _ hn h hl HZ.out).mono ?_
    rintro e w' ⟨rfl, rfl⟩
    rw [hok]
    obtain ⟨A, c, rfl, hc, hr⟩ := h
    obtain ⟨hd, hhd, hhs⟩ : ∃ hd : ByteArray, hd.data.toList = headT g name ∧ hd.size ≤ 9 := ⟨⟨(headT g name).toArray⟩, by simp, by rw [ba_size]; unfold headT; cases g <;> simp <;> omega⟩
    have hE : Strs (w.alloc (.cells #[] 9)) w.heap.size (.slice (some ⟨w.heap.size, 0, none⟩) 0 0) [] := World.ownsRow_lit w #[] 0 (Nat.le_refl _) (by unfold maxLen; omega) rfl
    have HH := Lib.hid hhd; clear hhd
    have HE := Lib.hid hE; clear hE
    cases g
    · obtain rfl : hd = name := ba_ext (by rw [HH.out]; rfl)
      go_wp2_with fail
      go_loopw [8, 10, 22] (fun v _ i wr => ∃ (k : Nat) (ps : List ByteArray), k ≤ xs.length ∧ i = .int .i64 k ∧ ps.length = k ∧ Strs wr w.heap.size v ps ∧ Hid (IsParts ps (xs.take k)) ∧ Below w.heap.size w wr) (fun _ _ i _ => xs.length - (intOf i).toNat)
      case atStart => exact ⟨0, [], Nat.zero_le _, rfl, rfl, HE.out, by show _ = _; rfl, Joins.below_alloc1 w _⟩
      case round =>
        obtain ⟨k, ps, hk, rfl, hpl, hown, HI, hbel⟩ := hrel
        have hbs := hbel.size
        by_cases hlt : k < xs.length
        · obtain ⟨ad, rfl, _, hcell⟩ := (hr.below hbel).strAt hlt
          have hzx := H24.out _ (List.getElem_mem hlt)
          have HD := Lib.hid (List.take_succ_eq_append_getElem hlt)
          generalize xs[k] = x at *
          cases hcx : canon x
          · go_wp2_with fail
            refine (IsCanon_any x _ (HT.out.below hbel) (by omega)).mono ?_
            rintro e w2 ⟨rfl, hb2⟩
            rw [hcx]
            have hbel2 := below_trans hbel hb2
            have hs2 := hbel2.size
            go_wp2_with fail
            refine (QuoteText_any x _ (HM.out.below hbel2) (by omega)).mono ?_
            rintro e w3 ⟨⟨q, rfl, hq⟩, hb3⟩
            have HQ := Lib.hid hq; clear hq
            have hbel3 := below_trans hbel2 hb3
            have hs3 := hbel3.size
            have hown3 := (hown.below hb2).below hb3
            go_wp2_with (at_builtin; refine wpList_append_str w3 rfl _ _ rfl w.heap.size _ ps q hown3 rfl rfl (by omega) hs3 ?_; intro v' w4 hb4 hg4 hbl4 _hv)
            refine ⟨⟨k + 1, ps ++ [q], by omega, by go_num, by simp; omega, hb4, ?_, hbel3.trans hbl4⟩, by simp [intOf]; omega⟩
            show IsParts _ _
            unfold IsParts
            rw [HD.out, List.map_append, List.map_append, HI.out, List.map_cons, List.map_nil, List.map_cons, List.map_nil, HQ.out]
            unfold subT
            rw [hcx]
            rfl
          · go_wp2_with fail
            refine (IsCanon_any x _ (HT.out.below hbel) (by omega)).mono ?_
            rintro e w2 ⟨rfl, hb2⟩
            rw [hcx]
            have hbel2 := below_trans hbel hb2
            have hs2 := hbel2.size
            have hown2 := hown.below hb2
            go_wp2_with (at_builtin; refine wpList_append_str w2 rfl _ _ rfl w.heap.size _ ps x hown2 rfl rfl (by omega) hs2 ?_; intro v' w4 hb4 hg4 hbl4 _hv)
            refine ⟨⟨k + 1, ps ++ [x], by omega, by go_num, by simp; omega, hb4, ?_, hbel2.trans hbl4⟩, by simp [intOf]; omega⟩
            show IsParts _ _
            unfold IsParts
            rw [HD.out, List.map_append, List.map_append, HI.out, List.map_cons, List.map_nil, List.map_cons, List.map_nil]
            unfold subT
            rw [hcx]
            rfl
        · obtain rfl : k = xs.length := by omega
          rw [List.take_length] at HI
          obtain ⟨h1, h2⟩ := id hown
          rcases h2 with ⟨rfl, hn0⟩ | ⟨gb, cap, cur, rfl, hg, hh, hrr⟩
          · have hx0 : xs = [] := List.eq_nil_of_length_eq_zero (by omega)
            subst hx0
            go_wp2_with fail
            go_ret
            exact ⟨_, rfl, by show _ = _; rw [HV.out, HH.out]; simp, hbel⟩
          · have hcap : ps.length ≤ cap := hrr.1
            by_cases hx0 : xs = []
            · subst hx0
              rw [hpl] at *
              go_wp2_with fail
              go_ret
              exact ⟨_, rfl, by show _ = _; rw [HV.out, HH.out]; simp, hbel⟩
            · have hxp : 0 < xs.length := List.length_pos_iff.mpr hx0
              have HV2 : Hid (refT false hd xs = headT false hd ++ (40 :: (Lib.join (xs.map subT) [44] ++ [41]))) := by show _ = _; rw [HV.out, if_neg hx0]
              have hjl := join_len' [44] 74 (xs.map subT) (fun y hy => by
                obtain ⟨x, hx, rfl⟩ := List.mem_map.1 hy
                have := subT_len x
                have := H24.out x hx
                omega)
              rw [List.length_map] at hjl
              have hjl2 : xs.length * ([44].length + 74) ≤ 4 * 75 := Nat.mul_le_mul (by omega) (by simp)
              have HIo : ps.map (·.data.toList) = xs.map subT := HI.out
              have HJ := Tryd.strings_Join gb 0 cap ps ⟨#[44]⟩ wr (by
                intro j x hj
                have hcl := World.ownsRow.cells hown rfl j (.string x) (by rw [strVs, List.getElem?_map, hj]; rfl)
                rw [← hcl]
                unfold Addr.add
                split
                · rename_i h0; rw [h0]
                · simp) (lt_of_blk hh) (by omega) hcap (by
                rw [HIo]; have e : (⟨#[44]⟩ : ByteArray).data.toList = [44] := rfl
                rw [e]; omega)
              rw [HIo] at HJ
              rw [hpl] at HJ
              have HJJ := Lib.hid HJ; clear HJ HIo
              have hJsz : (⟨(Lib.join (xs.map subT) (⟨#[44]⟩ : ByteArray).data.toList).toArray⟩ : ByteArray).size ≤ 300 := by
                rw [ba_size]
                show (Lib.join (xs.map subT) [44]).length ≤ 300
                omega
              clear hjl hjl2
              go_wp2_with fail
              refine HJJ.out.mono ?_
              rintro e w2 ⟨rfl, hb2⟩
              obtain ⟨J, hJ, hJs⟩ : ∃ J : ByteArray, J = ⟨(Lib.join (xs.map subT) (⟨#[44]⟩ : ByteArray).data.toList).toArray⟩ ∧ J.size ≤ 300 := ⟨_, rfl, hJsz⟩
              rw [← hJ]
              have HJJ2 : Hid (J.data.toList = Lib.join (xs.map subT) [44]) := by show _ = _; rw [hJ]
              clear hJ HJJ
              go_wp2_with fail
              go_ret
              exact ⟨_, rfl, by show _ = _; rw [HV2.out, ba_app, ba_app, ba_app, HH.out, HJJ2.out]; simp, below_trans hbel hb2⟩
    · obtain rfl : hd = ⟨#[94]⟩ ++ name := ba_ext (by rw [HH.out, ba_app]; rfl)
      go_wp2_with fail
      generalize (⟨#[94]⟩ ++ name : ByteArray) = hd at *
      go_loopw [8, 10, 22] (fun v _ i wr => ∃ (k : Nat) (ps : List ByteArray), k ≤ xs.length ∧ i = .int .i64 k ∧ ps.length = k ∧ Strs wr w.heap.size v ps ∧ Hid (IsParts ps (xs.take k)) ∧ Below w.heap.size w wr) (fun _ _ i _ => xs.length - (intOf i).toNat)
      case atStart => exact ⟨0, [], Nat.zero_le _, rfl, rfl, HE.out, by show _ = _; rfl, Joins.below_alloc1 w _⟩
      case round =>
        obtain ⟨k, ps, hk, rfl, hpl, hown, HI, hbel⟩ := hrel
        have hbs := hbel.size
        by_cases hlt : k < xs.length
        · obtain ⟨ad, rfl, _, hcell⟩ := (hr.below hbel).strAt hlt
          have hzx := H24.out _ (List.getElem_mem hlt)
          have HD := Lib.hid (List.take_succ_eq_append_getElem hlt)
          generalize xs[k] = x at *
          cases hcx : canon x
          · go_wp2_with fail
            refine (IsCanon_any x _ (HT.out.below hbel) (by omega)).mono ?_
            rintro e w2 ⟨rfl, hb2⟩
            rw [hcx]
            have hbel2 := below_trans hbel hb2
            have hs2 := hbel2.size
            go_wp2_with fail
            refine (QuoteText_any x _ (HM.out.below hbel2) (by omega)).mono ?_
            rintro e w3 ⟨⟨q, rfl, hq⟩, hb3⟩
            have HQ := Lib.hid hq; clear hq
            have hbel3 := below_trans hbel2 hb3
            have hs3 := hbel3.size
            have hown3 := (hown.below hb2).below hb3
            go_wp2_with (at_builtin; refine wpList_append_str w3 rfl _ _ rfl w.heap.size _ ps q hown3 rfl rfl (by omega) hs3 ?_; intro v' w4 hb4 hg4 hbl4 _hv)
            refine ⟨⟨k + 1, ps ++ [q], by omega, by go_num, by simp; omega, hb4, ?_, hbel3.trans hbl4⟩, by simp [intOf]; omega⟩
            show IsParts _ _
            unfold IsParts
            rw [HD.out, List.map_append, List.map_append, HI.out, List.map_cons, List.map_nil, List.map_cons, List.map_nil, HQ.out]
            unfold subT
            rw [hcx]
            rfl
          · go_wp2_with fail
            refine (IsCanon_any x _ (HT.out.below hbel) (by omega)).mono ?_
            rintro e w2 ⟨rfl, hb2⟩
            rw [hcx]
            have hbel2 := below_trans hbel hb2
            have hs2 := hbel2.size
            have hown2 := hown.below hb2
            go_wp2_with (at_builtin; refine wpList_append_str w2 rfl _ _ rfl w.heap.size _ ps x hown2 rfl rfl (by omega) hs2 ?_; intro v' w4 hb4 hg4 hbl4 _hv)
            refine ⟨⟨k + 1, ps ++ [x], by omega, by go_num, by simp; omega, hb4, ?_, hbel2.trans hbl4⟩, by simp [intOf]; omega⟩
            show IsParts _ _
            unfold IsParts
            rw [HD.out, List.map_append, List.map_append, HI.out, List.map_cons, List.map_nil, List.map_cons, List.map_nil]
            unfold subT
            rw [hcx]
            rfl
        · obtain rfl : k = xs.length := by omega
          rw [List.take_length] at HI
          obtain ⟨h1, h2⟩ := id hown
          rcases h2 with ⟨rfl, hn0⟩ | ⟨gb, cap, cur, rfl, hg, hh, hrr⟩
          · have hx0 : xs = [] := List.eq_nil_of_length_eq_zero (by omega)
            subst hx0
            go_wp2_with fail
            go_ret
            exact ⟨_, rfl, by show _ = _; rw [HV.out, HH.out]; simp, hbel⟩
          · have hcap : ps.length ≤ cap := hrr.1
            by_cases hx0 : xs = []
            · subst hx0
              rw [hpl] at *
              go_wp2_with fail
              go_ret
              exact ⟨_, rfl, by show _ = _; rw [HV.out, HH.out]; simp, hbel⟩
            · have hxp : 0 < xs.length := List.length_pos_iff.mpr hx0
              have HV2 : Hid (refT true name xs = headT true name ++ (40 :: (Lib.join (xs.map subT) [44] ++ [41]))) := by show _ = _; rw [HV.out, if_neg hx0]
              have hjl := join_len' [44] 74 (xs.map subT) (fun y hy => by
                obtain ⟨x, hx, rfl⟩ := List.mem_map.1 hy
                have := subT_len x
                have := H24.out x hx
                omega)
              rw [List.length_map] at hjl
              have hjl2 : xs.length * ([44].length + 74) ≤ 4 * 75 := Nat.mul_le_mul (by omega) (by simp)
              have HIo : ps.map (·.data.toList) = xs.map subT := HI.out
              have HJ := Tryd.strings_Join gb 0 cap ps ⟨#[44]⟩ wr (by
                intro j x hj
                have hcl := World.ownsRow.cells hown rfl j (.string x) (by rw [strVs, List.getElem?_map, hj]; rfl)
                rw [← hcl]
                unfold Addr.add
                split
                · rename_i h0; rw [h0]
                · simp) (lt_of_blk hh) (by omega) hcap (by
                rw [HIo]; have e : (⟨#[44]⟩ : ByteArray).data.toList = [44] := rfl
                rw [e]; omega)
              rw [HIo] at HJ
              rw [hpl] at HJ
              have HJJ := Lib.hid HJ; clear HJ HIo
              have hJsz : (⟨(Lib.join (xs.map subT) (⟨#[44]⟩ : ByteArray).data.toList).toArray⟩ : ByteArray).size ≤ 300 := by
                rw [ba_size]
                show (Lib.join (xs.map subT) [44]).length ≤ 300
                omega
              clear hjl hjl2
              go_wp2_with fail
              refine HJJ.out.mono ?_
              rintro e w2 ⟨rfl, hb2⟩
              obtain ⟨J, hJ, hJs⟩ : ∃ J : ByteArray, J = ⟨(Lib.join (xs.map subT) (⟨#[44]⟩ : ByteArray).data.toList).toArray⟩ ∧ J.size ≤ 300 := ⟨_, rfl, hJsz⟩
              rw [← hJ]
              have HJJ2 : Hid (J.data.toList = Lib.join (xs.map subT) [44]) := by show _ = _; rw [hJ]
              clear hJ HJJ
              go_wp2_with fail
              go_ret
              exact ⟨_, rfl, by show _ = _; rw [HV2.out, ba_app, ba_app, ba_app, HH.out, HJJ2.out]; simp, below_trans hbel hb2⟩

set_option maxHeartbeats 1000000 in
set_option maxRecDepth 8000 in
theorem l06RefText_any (g : Bool) (name : ByteArray) (v : Value) (xs : List ByteArray) (w : World) (n8 : name.size ≤ 8) (h : StrsAt w w.heap.size v xs) (h4 : xs.length ≤ 4) (h24 : ∀ x ∈ xs, x.size ≤ 24) :
    Calls Tryd.prog 60 #[.bool g, .string name, v] w fun e w' => ∃ r : ByteArray, e = .returned (.string r) ∧ Hid (r.data.toList = headT g name ++ if xs = [] then [] else 40 :: (Lib.join (xs.map subT) [44] ++ [41])) ∧ Below w.heap.size w w' := by
  have H24 := Lib.hid h24; clear h24
  have HP : Hid ((headT g name ++ if xs = [] then [] else 40 :: (Lib.join (xs.map subT) [44] ++ [41])) = headT g name ++ partT xs xs.length ++ if xs = [] then [] else [41]) := by
    show _ = _
    unfold partT
    by_cases hx : xs = []
    · subst hx; simp
    · rw [if_neg hx, if_neg hx, if_neg (by intro e; exact hx (List.eq_nil_of_length_eq_zero e)), List.take_length]; simp
  generalize (headT g name ++ if xs = [] then [] else 40 :: (Lib.join (xs.map subT) [44] ++ [41])) = G at *
  have e40 : (⟨#[40]⟩ : ByteArray).size = 1 := rfl
  have e44 : (⟨#[44]⟩ : ByteArray).size = 1 := rfl
  obtain ⟨A, c, rfl, hc, hr⟩ := h
  go_enter Tryd.func60, Tryd.ntmps60
  obtain ⟨hd, hhd, hhs⟩ : ∃ hd : ByteArray, hd.data.toList = headT g name ∧ hd.size ≤ 9 := ⟨⟨(headT g name).toArray⟩, by simp, by rw [ba_size]; unfold headT; cases g <;> simp <;> omega⟩
  have HH := Lib.hid hhd; clear hhd
  cases g
  · obtain rfl : hd = name := ba_ext (by rw [HH.out]; rfl)
    go_wp2_with fail
    go_loopw [7, 8] (fun t i wr => ∃ (k : Nat) (T : ByteArray), k ≤ xs.length ∧ i = .int .i64 k ∧ t = .string T ∧ T.size ≤ 9 + 80 * k ∧ Hid (T.data.toList = headT false hd ++ partT xs k) ∧ Below w.heap.size w wr) (fun _ i _ => xs.length - (intOf i).toNat)
    case atStart => exact ⟨0, hd, Nat.zero_le _, rfl, rfl, by omega, by show _ = _; rw [HH.out, partT_zero, List.append_nil], below_refl _⟩
    case round =>
      obtain ⟨k, T, hk, rfl, rfl, hT, HI, hbel⟩ := hrel
      have hbs := hbel.size
      by_cases hlt : k < xs.length
      · have hbel2 : Below w.heap.size w (wr.alloc (.cells #[.string ⟨#[40]⟩, .string ⟨#[44]⟩] 9)) := hbel.alloc hbs _
        obtain ⟨ad, rfl, _, hcell⟩ := (hr.below hbel2).strAt hlt
        have hzx := H24.out _ (List.getElem_mem hlt)
        have HD := Lib.hid (partT_succ hlt)
        have HR := Lib.hid hr
        have hlen := subT_len xs[k]
        have hxk : ∀ w', Below w.heap.size w w' → w'.cell? (ad.add k) = some (.string xs[k]) := fun w' hb' => by
          obtain ⟨ad', e, _, hc'⟩ := (HR.out.below hb').strAt hlt
          injection e with e; subst e; exact hc'
        have HX := Lib.hid hxk; clear hxk
        generalize xs[k] = x at *
        have HB2 := Lib.hid hbel2
        by_cases hk0 : k = 0
        · subst hk0
          have e0 : ad.add 0 = ad := by simp [Addr.add]
          rw [e0] at hcell HX
          go_wp2_with (go_at_call 76; refine (l00Min_any _ _ 0 (by omega) _).mono ?_; rintro e w' ⟨rfl, rfl⟩)
          refine (l01Canon_any x _ (by omega)).mono ?_
          rintro e w2 ⟨rfl, hb2⟩
          have hbel3 := below_trans HB2.out hb2
          have hcx2 := HX.out _ hbel3
          cases hcx : canon x
          · have HS : Hid (subT x = quote x.data.toList) := by show _ = _; unfold subT; rw [hcx]; rfl
            go_wp2_with fail
            refine (l04Quote_any x _ (by omega)).mono ?_
            rintro e w3 ⟨⟨q, rfl, hq⟩, hb3⟩
            have hqs : q.size ≤ 74 := by rw [ba_size, hq, ← HS.out]; omega
            have HQ := Lib.hid hq; clear hq
            go_wp2_with fail
            refine ⟨⟨0 + 1, _, by omega, by go_num, rfl, by rw [ByteArray.size_append, ByteArray.size_append]; omega, ?_, below_trans hbel3 hb3⟩, by simp [intOf]; omega⟩
            show _ = _
            rw [ba_app, ba_app, HI.out, HD.out, HQ.out, HS.out]
            simp
          · have HS : Hid (subT x = x.data.toList) := by show _ = _; unfold subT; rw [hcx]; rfl
            go_wp2_with fail
            refine ⟨⟨0 + 1, _, by omega, by go_num, rfl, by rw [ByteArray.size_append, ByteArray.size_append]; omega, ?_, hbel3⟩, by simp [intOf]; omega⟩
            show _ = _
            rw [ba_app, ba_app, HI.out, HD.out, HS.out]
            simp
        · go_wp2_with (go_at_call 76; refine (l00Min_any _ _ 1 (by omega) _).mono ?_; rintro e w' ⟨rfl, rfl⟩)
          refine (l01Canon_any x _ (by omega)).mono ?_
          rintro e w2 ⟨rfl, hb2⟩
          have hbel3 := below_trans HB2.out hb2
          have hcx2 := HX.out _ hbel3
          cases hcx : canon x
          · have HS : Hid (subT x = quote x.data.toList) := by show _ = _; unfold subT; rw [hcx]; rfl
            go_wp2_with fail
            refine (l04Quote_any x _ (by omega)).mono ?_
            rintro e w3 ⟨⟨q, rfl, hq⟩, hb3⟩
            have hqs : q.size ≤ 74 := by rw [ba_size, hq, ← HS.out]; omega
            have HQ := Lib.hid hq; clear hq
            go_wp2_with fail
            refine ⟨⟨k + 1, _, by omega, by go_num, rfl, by rw [ByteArray.size_append, ByteArray.size_append]; omega, ?_, below_trans hbel3 hb3⟩, by simp [intOf]; omega⟩
            show _ = _
            rw [ba_app, ba_app, HI.out, HD.out, HQ.out, HS.out]
            rw [if_neg hk0]; simp
          · have HS : Hid (subT x = x.data.toList) := by show _ = _; unfold subT; rw [hcx]; rfl
            go_wp2_with fail
            refine ⟨⟨k + 1, _, by omega, by go_num, rfl, by rw [ByteArray.size_append, ByteArray.size_append]; omega, ?_, hbel3⟩, by simp [intOf]; omega⟩
            show _ = _
            rw [ba_app, ba_app, HI.out, HD.out, HS.out]
            rw [if_neg hk0]; simp
      · obtain rfl : k = xs.length := by omega
        by_cases hx0 : xs = []
        · have hz0 : xs.length = 0 := by rw [hx0]; rfl
          go_wp2_with fail
          go_ret
          exact ⟨_, rfl, by show _ = _; rw [HP.out, HI.out, if_pos hx0, List.append_nil], hbel⟩
        · have hxp : 0 < xs.length := List.length_pos_iff.mpr hx0
          go_wp2_with fail
          go_ret
          exact ⟨_, rfl, by show _ = _; rw [HP.out, ba_app, HI.out, if_neg hx0], hbel⟩
  · obtain rfl : hd = ⟨#[94]⟩ ++ name := ba_ext (by rw [HH.out, ba_app]; rfl)
    go_wp2_with fail
    generalize (⟨#[94]⟩ ++ name : ByteArray) = hd at *
    go_loopw [7, 8] (fun t i wr => ∃ (k : Nat) (T : ByteArray), k ≤ xs.length ∧ i = .int .i64 k ∧ t = .string T ∧ T.size ≤ 9 + 80 * k ∧ Hid (T.data.toList = headT true name ++ partT xs k) ∧ Below w.heap.size w wr) (fun _ i _ => xs.length - (intOf i).toNat)
    case atStart => exact ⟨0, hd, Nat.zero_le _, rfl, rfl, by omega, by show _ = _; rw [HH.out, partT_zero, List.append_nil], below_refl _⟩
    case round =>
      obtain ⟨k, T, hk, rfl, rfl, hT, HI, hbel⟩ := hrel
      have hbs := hbel.size
      by_cases hlt : k < xs.length
      · have hbel2 : Below w.heap.size w (wr.alloc (.cells #[.string ⟨#[40]⟩, .string ⟨#[44]⟩] 9)) := hbel.alloc hbs _
        obtain ⟨ad, rfl, _, hcell⟩ := (hr.below hbel2).strAt hlt
        have hzx := H24.out _ (List.getElem_mem hlt)
        have HD := Lib.hid (partT_succ hlt)
        have HR := Lib.hid hr
        have hlen := subT_len xs[k]
        have hxk : ∀ w', Below w.heap.size w w' → w'.cell? (ad.add k) = some (.string xs[k]) := fun w' hb' => by
          obtain ⟨ad', e, _, hc'⟩ := (HR.out.below hb').strAt hlt
          injection e with e; subst e; exact hc'
        have HX := Lib.hid hxk; clear hxk
        generalize xs[k] = x at *
        have HB2 := Lib.hid hbel2
        by_cases hk0 : k = 0
        · subst hk0
          have e0 : ad.add 0 = ad := by simp [Addr.add]
          rw [e0] at hcell HX
          go_wp2_with (go_at_call 76; refine (l00Min_any _ _ 0 (by omega) _).mono ?_; rintro e w' ⟨rfl, rfl⟩)
          refine (l01Canon_any x _ (by omega)).mono ?_
          rintro e w2 ⟨rfl, hb2⟩
          have hbel3 := below_trans HB2.out hb2
          have hcx2 := HX.out _ hbel3
          cases hcx : canon x
          · have HS : Hid (subT x = quote x.data.toList) := by show _ = _; unfold subT; rw [hcx]; rfl
            go_wp2_with fail
            refine (l04Quote_any x _ (by omega)).mono ?_
            rintro e w3 ⟨⟨q, rfl, hq⟩, hb3⟩
            have hqs : q.size ≤ 74 := by rw [ba_size, hq, ← HS.out]; omega
            have HQ := Lib.hid hq; clear hq
            go_wp2_with fail
            refine ⟨⟨0 + 1, _, by omega, by go_num, rfl, by rw [ByteArray.size_append, ByteArray.size_append]; omega, ?_, below_trans hbel3 hb3⟩, by simp [intOf]; omega⟩
            show _ = _
            rw [ba_app, ba_app, HI.out, HD.out, HQ.out, HS.out]
            simp
          · have HS : Hid (subT x = x.data.toList) := by show _ = _; unfold subT; rw [hcx]; rfl
            go_wp2_with fail
            refine ⟨⟨0 + 1, _, by omega, by go_num, rfl, by rw [ByteArray.size_append, ByteArray.size_append]; omega, ?_, hbel3⟩, by simp [intOf]; omega⟩
            show _ = _
            rw [ba_app, ba_app, HI.out, HD.out, HS.out]
            simp
        · go_wp2_with (go_at_call 76; refine (l00Min_any _ _ 1 (by omega) _).mono ?_; rintro e w' ⟨rfl, rfl⟩)
          refine (l01Canon_any x _ (by omega)).mono ?_
          rintro e w2 ⟨rfl, hb2⟩
          have hbel3 := below_trans HB2.out hb2
          have hcx2 := HX.out _ hbel3
          cases hcx : canon x
          · have HS : Hid (subT x = quote x.data.toList) := by show _ = _; unfold subT; rw [hcx]; rfl
            go_wp2_with fail
            refine (l04Quote_any x _ (by omega)).mono ?_
            rintro e w3 ⟨⟨q, rfl, hq⟩, hb3⟩
            have hqs : q.size ≤ 74 := by rw [ba_size, hq, ← HS.out]; omega
            have HQ := Lib.hid hq; clear hq
            go_wp2_with fail
            refine ⟨⟨k + 1, _, by omega, by go_num, rfl, by rw [ByteArray.size_append, ByteArray.size_append]; omega, ?_, below_trans hbel3 hb3⟩, by simp [intOf]; omega⟩
            show _ = _
            rw [ba_app, ba_app, HI.out, HD.out, HQ.out, HS.out]
            rw [if_neg hk0]; simp
          · have HS : Hid (subT x = x.data.toList) := by show _ = _; unfold subT; rw [hcx]; rfl
            go_wp2_with fail
            refine ⟨⟨k + 1, _, by omega, by go_num, rfl, by rw [ByteArray.size_append, ByteArray.size_append]; omega, ?_, hbel3⟩, by simp [intOf]; omega⟩
            show _ = _
            rw [ba_app, ba_app, HI.out, HD.out, HS.out]
            rw [if_neg hk0]; simp
      · obtain rfl : k = xs.length := by omega
        by_cases hx0 : xs = []
        · have hz0 : xs.length = 0 := by rw [hx0]; rfl
          go_wp2_with fail
          go_ret
          exact ⟨_, rfl, by show _ = _; rw [HP.out, HI.out, if_pos hx0, List.append_nil], hbel⟩
        · have hxp : 0 < xs.length := List.length_pos_iff.mpr hx0
          go_wp2_with fail
          go_ret
          exact ⟨_, rfl, by show _ = _; rw [HP.out, ba_app, HI.out, if_neg hx0], hbel⟩

set_option maxRecDepth 8000 in
theorem sRefText_any (g : Bool) (name : ByteArray) (v : Value) (xs : List ByteArray) (w : World) (hn : name.size ≤ 1048576) (h : StrsAt w w.heap.size v xs) (hl : xs.length ≤ 1048576) (hz : ∀ x ∈ xs, x.size ≤ 1048576) :
    Calls Tryd.prog 30 #[.bool g, .string name, v] w fun e w' => ∃ r : ByteArray, e = .returned (.string r) ∧ Hid (r.data.toList = refT g name xs) ∧ Below w.heap.size w w' := by
  have HZ := Lib.hid hz; clear hz
  cases h1 : nameOk name
  · have HV : Hid (refT g name xs = []) := by show _ = _; unfold refT locOk; rw [h1]; rfl
    go_enter Tryd.func30, Tryd.ntmps30
    go_wp2_with fail
    refine (l02Name_any name _ hn).mono ?_
    rintro e w' ⟨rfl, rfl⟩
    rw [h1]
    go_wp2_with fail
    go_ret
    exact ⟨_, rfl, HV.out.symm, below_refl _⟩
  · cases h2 : subsOkB xs
    · have HV : Hid (refT g name xs = []) := by show _ = _; unfold refT locOk; rw [h1, h2]; rfl
      go_enter Tryd.func30, Tryd.ntmps30
      go_wp2_with fail
      refine (l02Name_any name _ hn).mono ?_
      rintro e w' ⟨rfl, rfl⟩
      rw [h1]
      go_wp2_with fail
      refine (l02Subs_any v xs _ _ h hl HZ.out).mono ?_
      rintro e w' ⟨rfl, rfl⟩
      rw [h2]
      go_wp2_with fail
      go_ret
      exact ⟨_, rfl, HV.out.symm, below_refl _⟩
    · have hok : locOk name xs = true := by unfold locOk; rw [h1, h2]; rfl
      obtain ⟨n8, sok⟩ := locOk_parts hok
      obtain ⟨h4, h24⟩ := subsOk_len sok
      have H24 := Lib.hid h24
      have HV : Hid (refT g name xs = headT g name ++ if xs = [] then [] else 40 :: (Lib.join (xs.map subT) [44] ++ [41])) := by show _ = _; unfold refT; rw [hok]; rfl
      clear h24 sok hok
      go_enter Tryd.func30, Tryd.ntmps30
      go_wp2_with fail
      refine (l02Name_any name _ hn).mono ?_
      rintro e w' ⟨rfl, rfl⟩
      rw [h1]
      go_wp2_with fail
      refine (l02Subs_any v xs _ _ h hl HZ.out).mono ?_
      rintro e w' ⟨rfl, rfl⟩
      rw [h2]
      go_wp2_with fail
      refine (l06RefText_any g name v xs _ n8 h h4 H24.out).mono ?_
      rintro e w' ⟨r, rfl, HR, hb⟩
      go_wp2_with fail
      go_ret
      exact ⟨_, rfl, by show _ = _; rw [HR.out, HV.out], hb⟩

set_option maxRecDepth 8000 in
theorem RefText_walk (g : Bool) (name : ByteArray) (hn : name.size ≤ maxLen) (v0 : Value) (xs0 : List ByteArray) (w : World) (h0 : StrsAt w w.heap.size v0 xs0) (l0 : xs0.length ≤ maxLen) (z0 : ∀ x ∈ xs0, x.size ≤ maxLen) (hL : laidMetH Tryd.prog Rows.fnExactSubsBeforeRow.laid w) (hsh : w.ShapedOpen Tryd.prog) :
    Calls Tryd.prog 9 #[.bool g, .string name, v0] w fun e w' => e = .returned (.bool true) ∧ Below w.heap.size w w' := by
  have HT := Lib.hid (T10.of_laid hL); have HM := Lib.hid (ML.of_shaped hsh); clear hL hsh
  have Z0 := Lib.hid z0; clear z0
  unfold maxLen at hn
  by_cases hn1 : name.size ≤ 1048576
  rotate_left
  · go_enter Tryd.func9, Tryd.ntmps9
    go_wp2_with fail
    go_ret
    exact ⟨rfl, below_refl _⟩
  go_enter Tryd.func9, Tryd.ntmps9
  go_wp2_with fail
  refine (szStringS_ex v0 xs0 1048576 _ _ h0 (by omega) (by omega) l0 Z0.out).mono ?_
  rintro e w' ⟨q, rfl, rfl, q1, q2, hq⟩
  have Q := Lib.hid hq; clear hq
  by_cases q0 : q < 0
  · go_wp2_with fail
    go_ret
    exact ⟨rfl, below_refl _⟩
  have s0 : xs0.length ≤ 1048576 := by have := Q.out (by omega); omega
  have ZZ0 : Hid (∀ x ∈ xs0, x.size ≤ 1048576) := fun x hx => by have := Q.out (by omega); have := size_le_total hx; omega
  clear Z0 Q
  go_wp2_with fail
  refine (toStringS_any v0 xs0 _ _ h0 (Nat.le_refl _) s0).mono ?_
  rintro e wa ⟨va, rfl, ha, ba⟩
  have hA := ha.at_; clear ha
  go_wp2_with fail
  refine (sRefText_any g name va xs0 _ hn1 hA s0 ZZ0.out).mono ?_
  rintro e wb ⟨r1, rfl, H1, bb⟩
  clear hA
  have B1 := below_trans ba bb
  have h0c := h0.on B1
  go_wp2_with fail
  refine (toStringS_any v0 xs0 _ _ h0c (Nat.le_refl _) s0).mono ?_
  rintro e wc ⟨x0, rfl, hx0, bc⟩
  have X0 := hx0.at_; clear hx0
  have B2 := below_trans B1 bc
  go_wp2_with fail
  refine (RefText_any g name x0 xs0 _ (HT.out.below B2) (HM.out.below B2) hn1 X0 s0 ZZ0.out).mono ?_
  rintro e wd ⟨r2, rfl, H2, bd⟩
  obtain rfl : r1 = r2 := ba_ext (H1.out.trans H2.out.symm)
  clear H2
  have B3 := below_trans B2 bd
  have X0d := X0.on bd
  have h0e := h0.on B3
  clear h0c X0
  go_wp2_with fail
  refine (toStringS_any v0 xs0 _ _ h0e (Nat.le_refl _) s0).mono ?_
  rintro e we ⟨y0, rfl, hy0, be⟩
  have Y0 := hy0.at_; clear hy0
  have X0f := X0d.on be
  go_wp2_with fail
  refine (eqStringS_any x0 y0 xs0 xs0 _ _ X0f Y0 s0).mono ?_
  rintro e w' ⟨rfl, k, rfl⟩
  go_wp2_with fail
  go_ret
  exact ⟨rfl, below_trans B3 (below_trans be (below_drewN _ _))⟩

end Go.Proofs.YtmgailihgeelmaaDoor
