/- KeyPlace: both sides. -/
import Derived.Test.YtjedmpkjopgklaaGreatDoorGetB
import Derived.Test.YtjedmpkjopgklaaGreatDoorLoc
import Derived.Test.YtjedmpkjopgklaaGreatDoorShelf
import Derived.Test.YtjedmpkjopgklaaGreatDoorAppendAny
import Derived.Lib.IndexMore
import Derived.Lib.IndexLaws
namespace Go.Proofs.YtjedmpkjopgklaaGreatDoor
open Go.RowKit
set_option linter.unusedVariables false

/-- The place that a key names, if the mark stands at i. -/
def placeAt (l : List UInt8) (i : Nat) : Option (List UInt8 × List ByteArray) := match getB (l.drop (i + 1)) with | none => none | some xs => if nameOk (ofL (l.take i)) = true then some (l.take i, xs) else none

def keyP (l : List UInt8) : Option (List UInt8 × List ByteArray) := if 0 ≤ Lib.indexByte l 1 then placeAt l (Lib.indexByte l 1).toNat else none

theorem placeAt_name {l : List UInt8} {i : Nat} (h : nameOk (ofL (l.take i)) = false) : placeAt l i = none := by
  unfold placeAt
  split
  · rfl
  · rw [h]; rfl

theorem nameOk_long {s : ByteArray} (h : ¬ s.size ≤ 8) : nameOk s = false := by
  unfold nameOk; rw [decide_eq_false (fun k => h k.2), Bool.and_false]

theorem nameOk_empty {s : ByteArray} (h : s.size = 0) : nameOk s = false := by
  unfold nameOk; rw [decide_eq_false (fun k => by omega), Bool.and_false]

theorem nameOk_one {s : ByteArray} {r : List UInt8} (h : s.data.toList = 1 :: r) : nameOk s = false := by
  unfold nameOk
  rw [sfx_zero, h, nameGo_cons]
  have : (isLet (1 : UInt8).toNat || (true && ((1 : UInt8).toNat : Int) == 37) || (!true && isDig (1 : UInt8).toNat)) = false := by decide
  rw [this]; rfl

theorem ofL_size (l : List UInt8) : (ofL l).size = l.length := by rw [ba_size, ofL_list]

/-- The first mark behind the first byte. -/
theorem keyP_hit {l : List UInt8} {i : Nat} (h1 : 1 ≤ i) (hi : l[i]? = some 1) (hf : ∀ j, 1 ≤ j → j < i → l[j]? ≠ some 1) : keyP l = placeAt l i := by
  unfold keyP
  have hge := Lib.indexByte_ge l 1
  by_cases hn : Lib.indexByte l 1 = -1
  · exact absurd hi (Lib.indexByte_none hn i)
  · obtain ⟨o, ho⟩ : ∃ o : Nat, Lib.indexByte l 1 = o := ⟨(Lib.indexByte l 1).toNat, by omega⟩
    obtain ⟨h2, h3⟩ := Lib.indexByte_some ho
    rw [ho, if_pos (by omega), Int.toNat_natCast]
    by_cases h0 : o = 0
    · subst h0
      match l, h2 with
      | c :: r, h2 =>
        simp at h2
        subst h2
        rw [placeAt_name (nameOk_empty (by rw [ofL_size]; simp)), placeAt_name (nameOk_one (r := r.take (i - 1)) (by
          rw [ofL_list]; obtain ⟨k, rfl⟩ : ∃ k, i = k + 1 := ⟨i - 1, by omega⟩; simp))]
    · have : o = i := by
        rcases Nat.lt_trichotomy o i with h | h | h
        · exact absurd h2 (hf o (by omega) h)
        · exact h
        · exact absurd hi (h3 i h)
      rw [this]

theorem keyP_miss {l : List UInt8} (hf : ∀ j, 1 ≤ j → j < l.length → j ≤ 8 → l[j]? ≠ some 1) : keyP l = none := by
  unfold keyP
  have hge := Lib.indexByte_ge l 1
  by_cases hn : Lib.indexByte l 1 = -1
  · rw [if_neg (by omega)]
  · obtain ⟨o, ho⟩ : ∃ o : Nat, Lib.indexByte l 1 = o := ⟨(Lib.indexByte l 1).toNat, by omega⟩
    obtain ⟨h2, h3⟩ := Lib.indexByte_some ho
    rw [ho, if_pos (by omega), Int.toNat_natCast]
    have hlt : o < l.length := by
      rcases Nat.lt_or_ge o l.length with h | h
      · exact h
      · rw [List.getElem?_eq_none h] at h2; cases h2
    by_cases h0 : o = 0
    · subst h0; exact placeAt_name (nameOk_empty (by rw [ofL_size]; simp))
    · by_cases h8 : o ≤ 8
      · exact absurd h2 (hf o (by omega) hlt h8)
      · exact placeAt_name (nameOk_long (by rw [ofL_size, List.length_take]; omega))

/-- What KeyPlace hands back. -/
def GotKey (l : List UInt8) (base : Nat) (e : Ending) (w' : World) : Prop := ∃ n v, e = .returned (.tuple #[.string n, v, .bool (keyP l).isSome]) ∧ n.data.toList = ((keyP l).getD ([], [])).1 ∧ Strs w' base v ((keyP l).getD ([], [])).2

theorem gotKey_none {l : List UInt8} {base : Nat} {w' : World} {v : Value} (h : keyP l = none) (hv : Strs w' base v []) : GotKey l base (.returned (.tuple #[.string ⟨#[]⟩, v, .bool false])) w' :=
  ⟨⟨#[]⟩, v, by rw [h]; rfl, by rw [h]; rfl, by rw [h]; exact hv⟩

theorem gotKey_some {l : List UInt8} {base : Nat} {w' : World} {v : Value} {n : ByteArray} {a : List ByteArray} (h : keyP l = some (n.data.toList, a)) (hv : Strs w' base v a) : GotKey l base (.returned (.tuple #[.string n, v, .bool true])) w' :=
  ⟨n, v, by rw [h]; rfl, by rw [h]; rfl, by rw [h]; exact hv⟩

theorem cut_some {l : List UInt8} {o : Nat} (h : Lib.indexByte l 1 = o) : Lib.cut l [1] = (l.take o, l.drop (o + 1), true) := by
  unfold Lib.cut; rw [Lib.index_one, h, if_pos (by omega), Int.toNat_natCast]; rfl

theorem cut_none {l : List UInt8} (h : Lib.indexByte l 1 = -1) : Lib.cut l [1] = (l, [], false) := by
  unfold Lib.cut; rw [Lib.index_one, h, if_neg (by omega)]

theorem keyP_at {l : List UInt8} {o : Nat} (h : Lib.indexByte l 1 = o) : keyP l = placeAt l o := by
  unfold keyP; rw [h, if_pos (by omega), Int.toNat_natCast]

theorem placeAt_get {l : List UInt8} {i : Nat} (h : getB (l.drop (i + 1)) = none) : placeAt l i = none := by unfold placeAt; rw [h]

theorem placeAt_some {l : List UInt8} {i : Nat} {xs : List ByteArray} (h : getB (l.drop (i + 1)) = some xs) (hn : nameOk (ofL (l.take i)) = true) : placeAt l i = some (l.take i, xs) := by
  unfold placeAt; rw [h]; simp only; rw [if_pos hn]

set_option maxHeartbeats 1000000 in
set_option maxRecDepth 8000 in
theorem KeyPlace_any (s : ByteArray) (w : World) (hT : T10 w) (hml : ML w) (hs : s.size ≤ 1048576) :
    Calls Tryz.prog 154 #[.string s] w fun e w' => GotKey s.data.toList w.heap.size e w' ∧ Below w.heap.size w w' := by
  have HT := Lib.hid hT; have HM := Lib.hid hml
  obtain ⟨mm, hm⟩ := hml
  have HC := Lib.hid (Tryz.strings_Cut s ⟨#[1]⟩ mm w (by omega) hm)
  clear hT hm
  rw [show (⟨#[1]⟩ : ByteArray).data.toList = [1] from rfl] at HC
  have hge := Lib.indexByte_ge s.data.toList 1
  have HLS : Hid (s.data.toList.length = s.size) := (ba_size s).symm
  by_cases hn : Lib.indexByte s.data.toList 1 = -1
  · rw [cut_none hn] at HC
    have HN : Hid (keyP s.data.toList = none) := by show _ = _; unfold keyP; rw [if_neg (by omega)]
    clear hn hge
    go_enter Tryz.func154, Tryz.ntmps154
    go_wp2_with fail
    refine HC.out.mono ?_
    rintro e w1 ⟨rfl, n1, rfl⟩
    go_wp2_with fail
    refine (GetSubs_any ⟨#[]⟩ (w.drewN n1) HT.out HM.out (by decide)).mono ?_
    rintro e w2 ⟨⟨v2, rfl, h2⟩, b2⟩
    have HB2 : Hid (Below w.heap.size w w2) := ⟨b2.os, b2.tape, b2.output, b2.size, b2.block⟩
    clear b2 h2
    go_wp2_with fail
    go_ret3
    exact ⟨gotKey_none HN.out (Strs.nil _ _), HB2.out⟩
  · obtain ⟨o, ho⟩ : ∃ o : Nat, Lib.indexByte s.data.toList 1 = o := ⟨(Lib.indexByte s.data.toList 1).toNat, by omega⟩
    rw [cut_some ho] at HC
    have HK := Lib.hid (keyP_at ho)
    clear hn hge ho
    have hla : (ofL (s.data.toList.take o)).size ≤ 1048576 := by rw [ofL_size, List.length_take, HLS.out]; omega
    have hlb : (ofL (s.data.toList.drop (o + 1))).size ≤ 1048576 := by rw [ofL_size, List.length_drop, HLS.out]; omega
    have HLA := Lib.hid (ofL_list (s.data.toList.take o))
    have HLB := Lib.hid (ofL_list (s.data.toList.drop (o + 1)))
    have HC2 : Hid (Calls Tryz.prog 182 #[.string s, .string ⟨#[1]⟩] w fun e w' => e = .returned (.tuple #[.string (ofL (s.data.toList.take o)), .string (ofL (s.data.toList.drop (o + 1))), .bool true]) ∧ ∃ n, w' = w.drewN n) := HC.out
    have HPN : Hid (nameOk (ofL (s.data.toList.take o)) = false → keyP s.data.toList = none) := fun h => HK.out.trans (placeAt_name h)
    have HPG : Hid (getB (s.data.toList.drop (o + 1)) = none → keyP s.data.toList = none) := fun h => HK.out.trans (placeAt_get h)
    have HPS : Hid (∀ xs, getB (s.data.toList.drop (o + 1)) = some xs → nameOk (ofL (s.data.toList.take o)) = true → keyP s.data.toList = some (s.data.toList.take o, xs)) := fun xs h1 h2 => HK.out.trans (placeAt_some h1 h2)
    clear HC HK
    generalize ofL (s.data.toList.take o) = A at *
    generalize ofL (s.data.toList.drop (o + 1)) = B at *
    rw [← HLB.out] at HPG HPS
    rw [← HLA.out] at HPS
    clear HLA HLB
    have HNM := Lib.hid (fun W => NameOk_any A W hla)
    obtain ⟨N, hN⟩ : ∃ N : Bool, nameOk A = N := ⟨_, rfl⟩
    rw [hN] at HNM HPN HPS
    clear hN
    obtain ⟨G, hG⟩ : ∃ G : Option (List ByteArray), getB B.data.toList = G := ⟨_, rfl⟩
    rw [hG] at HPG HPS
    have HG := Lib.hid hG; clear hG
    go_enter Tryz.func154, Tryz.ntmps154
    go_wp2_with fail
    refine HC2.out.mono ?_
    rintro e w1 ⟨rfl, n1, rfl⟩
    go_wp2_with fail
    refine (GetSubs_any B (w.drewN n1) HT.out HM.out hlb).mono ?_
    rintro e w2 ⟨⟨v2, rfl, h2⟩, b2⟩
    rw [HG.out] at h2 ⊢
    have HB2 : Hid (Below w.heap.size w w2) := ⟨b2.os, b2.tape, b2.output, b2.size, b2.block⟩
    have H2 : Hid (Strs w2 w.heap.size v2 (G.getD [])) := h2
    clear b2 h2
    cases G with
    | none =>
      simp only [Option.isSome_none]
      go_wp2_with fail
      go_ret3
      exact ⟨gotKey_none (HPG.out (by trivial)) (Strs.nil _ _), HB2.out⟩
    | some xs =>
      simp only [Option.isSome_some]
      go_wp2_with fail
      refine (HNM.out _).mono ?_
      rintro e w3 ⟨rfl, rfl⟩
      cases N
      · go_wp2_with fail
        go_ret3
        exact ⟨gotKey_none (HPN.out (by trivial)) (Strs.nil _ _), HB2.out⟩
      · go_wp2_with fail
        go_ret3
        exact ⟨gotKey_some (HPS.out xs (by trivial) (by trivial)) H2.out, HB2.out⟩

theorem isKey_any (s : ByteArray) (w : World) (hT : T10 w) (hml : ML w) (hs : s.size ≤ 1048576) :
    Calls Tryz.prog 107 #[.string s] w fun e w' => e = .returned (.bool (keyP s.data.toList).isSome) ∧ Below w.heap.size w w' := by
  have HK := Lib.hid (KeyPlace_any s w hT hml hs)
  clear hT hml
  obtain ⟨K, hK⟩ : ∃ K : Bool, (keyP s.data.toList).isSome = K := ⟨_, rfl⟩
  rw [hK]
  have HKK := Lib.hid hK; clear hK
  go_enter Tryz.func107, Tryz.ntmps107
  go_wp2_with fail
  refine HK.out.mono ?_
  rintro e w1 ⟨⟨n, v, rfl, _, _⟩, b1⟩
  rw [HKK.out]
  go_wp2_with fail
  go_ret
  exact ⟨rfl, b1⟩

set_option maxHeartbeats 1000000 in
set_option maxRecDepth 8000 in
theorem sKeyPlace_any (s : ByteArray) (w : World) (hs : s.size ≤ 1048576) :
    Calls Tryz.prog 106 #[.string s] w fun e w' => GotKey s.data.toList w.heap.size e w' ∧ Below w.heap.size w w' := by
  have HLS : Hid (s.data.toList.length = s.size) := (ba_size s).symm
  go_enter Tryz.func106, Tryz.ntmps106
  go_wp2_with fail
  go_loopw [5] (fun i wr => ∃ k : Nat, 1 ≤ k ∧ k ≤ 9 ∧ i = .int .i64 k ∧ Gr w wr ∧ Hid (∀ j, 1 ≤ j → j < k → s.data.toList[j]? ≠ some 1)) (fun i _ => 9 - (intOf i).toNat)
  case atStart => exact ⟨1, by omega, by omega, rfl, below_refl _, fun j h1 h2 => by omega⟩
  case round =>
    obtain ⟨k, hk1, hk9, rfl, hgr, HI⟩ := hrel
    by_cases hgo : k < s.size ∧ k ≤ 8
    · obtain ⟨hlt, hk8⟩ := hgo
      have hk0 : (0 : Int) ≤ k := by omega
      have hki : (k : Int) < s.size := by omega
      have h01 : (0 : Nat) < (⟨#[1]⟩ : ByteArray).size := by decide
      have HG0 : Hid (s.data.toList[k]? = some s[k]) := by
        show _ = _
        rw [List.getElem?_eq_getElem (by rw [HLS.out]; exact hlt)]; rfl
      rcases eqForms (s[k].toNat : Int) 1 with ⟨e1, e2, e3⟩ | ⟨e1, e2, e3⟩
      · have e5 : ((s[k].toNat : Int) != (((⟨#[1]⟩ : ByteArray)[0]'h01).toNat : Int)) = false := e2
        have HC : Hid (s[k] = 1) := by show s[k] = 1; exact UInt8.toNat_inj.1 (by have := e3.out; have e : (1 : UInt8).toNat = 1 := rfl; omega)
        have HK : Hid (keyP s.data.toList = placeAt s.data.toList k) := keyP_hit hk1 (by rw [HG0.out, HC.out]) HI.out
        have HTk : Hid ((s.extract 0 k).data.toList = s.data.toList.take k) := by
          show _ = _
          simp only [ByteArray.data_extract, Array.toList_extract, List.extract_eq_take_drop]; simp
        have HDk : Hid ((s.extract (k + 1) s.size).data.toList = s.data.toList.drop (k + 1)) := by
          show _ = _
          simp only [ByteArray.data_extract, Array.toList_extract, List.extract_eq_take_drop]
          exact List.take_of_length_le (by rw [List.length_drop, HLS.out]; omega)
        have hla : (s.extract 0 k).size ≤ 1048576 := by rw [ByteArray.size_extract]; omega
        have hlb : (s.extract (k + 1) s.size).size ≤ 1048576 := by rw [ByteArray.size_extract]; omega
        have HOF : Hid (ofL (s.data.toList.take k) = s.extract 0 k) := by show _ = _; rw [← HTk.out, ofL_of]
        have k1s : (k : Int) + 1 ≤ s.size := by omega
        have wk : IntKind.i64.wrap ((k : Int) + 1) = k + 1 := IntWalk.i64_in _ (by omega)
        have HPG : Hid (getB (s.extract (k + 1) s.size).data.toList = none → keyP s.data.toList = none) := fun h => HK.out.trans (placeAt_get (by rw [← HDk.out]; exact h))
        have HPN : Hid (nameOk (s.extract 0 k) = false → keyP s.data.toList = none) := fun h => HK.out.trans (placeAt_name (by rw [HOF.out]; exact h))
        have HPS : Hid (∀ xs, getB (s.extract (k + 1) s.size).data.toList = some xs → nameOk (s.extract 0 k) = true → keyP s.data.toList = some ((s.extract 0 k).data.toList, xs)) := fun xs h1 h2 => by
          rw [HK.out, placeAt_some (xs := xs) (by rw [← HDk.out]; exact h1) (by rw [HOF.out]; exact h2), HTk.out]
        obtain ⟨G, hG⟩ : ∃ G : Option (List ByteArray), getB (s.extract (k + 1) s.size).data.toList = G := ⟨_, rfl⟩
        obtain ⟨N, hN⟩ : ∃ N : Bool, nameOk (s.extract 0 k) = N := ⟨_, rfl⟩
        rw [hG] at HPG HPS
        rw [hN] at HPN HPS
        have HG := Lib.hid hG; have HN := Lib.hid hN; clear hG hN
        clear HTk HDk HOF HK HI HG0 HC
        go_wp2_with fail
        go_quiet (fail)
        have hG1 := hgr.step (below_drewN _ nq)
        generalize wr.drewN nq = w1 at *
        go_wp2_with fail
        refine (sGetSubs_any (s.extract (k + 1) s.size) w1 hlb).mono ?_
        rintro e w2 ⟨⟨v2, rfl, h2⟩, b2⟩
        rw [HG.out] at h2 ⊢
        have hG2 := hG1.step b2
        have H2 := Lib.hid h2; clear h2 b2
        cases G with
        | none =>
          simp only [Option.isSome_none]
          go_wp2_with fail
          go_ret3
          exact ⟨gotKey_none (HPG.out (by trivial)) (Strs.nil _ _), hG2.out⟩
        | some xs =>
          simp only [Option.isSome_some, Option.getD_some] at *
          have hxo := getB_ok HG.out
          obtain ⟨hx4, hx24⟩ := subsOk_len hxo
          have HPL := Lib.hid (l03Place_any (s.extract 0 k) v2 xs w2 _ hla H2.out.at_ (by omega) (fun x hx => by have := hx24 x hx; omega))
          unfold locOk at HPL
          rw [HN.out, hxo, Bool.and_true] at HPL
          clear hx24 hxo
          cases N
          · go_wp2_with fail
            refine HPL.out.mono ?_
            rintro e w3 ⟨rfl, rfl⟩
            go_wp2_with fail
            go_ret3
            exact ⟨gotKey_none (HPN.out (by trivial)) (Strs.nil _ _), hG2.out⟩
          · have HSU := Lib.hid (l03Subs_any v2 xs w2.drew H2.out.at_ (by omega))
            have wk0 : IntKind.i64.wrap (k : Int) = k := IntWalk.i64_in _ (by omega)
            go_wp2_with fail
            refine HPL.out.mono ?_
            rintro e w3 ⟨rfl, rfl⟩
            go_wp2_with fail
            go_region_with (first | (go_at_call 43; refine HSU.out.mono ?_; rintro e w4 ⟨v4, rfl, h4, b4⟩))
            all_goals
              go_wp2_with fail
              go_ret3
              have hle : w.heap.size ≤ w2.drew.heap.size := hG2.out.size
              exact ⟨gotKey_some (HPS.out xs (by trivial) (by trivial)) (Joins.ownsRow_le h4 hle), hG2.step (show Below w2.heap.size w2 w4 from ⟨b4.os, b4.tape, b4.output, b4.size, b4.block⟩)⟩
      · have e5 : ((s[k].toNat : Int) != (((⟨#[1]⟩ : ByteArray)[0]'h01).toNat : Int)) = true := e2
        have HC : Hid (¬ s[k] = 1) := fun h => e3.out (by rw [h]; rfl)
        have HI2 : Hid (∀ j, 1 ≤ j → j < k + 1 → s.data.toList[j]? ≠ some 1) := fun j h1 h2 => by
          by_cases hj : j = k
          · subst hj; rw [HG0.out]; intro h; injection h with h; exact HC.out h
          · exact HI.out j h1 (by omega)
        clear HI HC HG0
        go_wp2_with fail
        go_quiet (fail)
        have hG1 := hgr.step (below_drewN _ nq)
        go_wp2_with fail
        exact ⟨⟨k + 1, by omega, by omega, by go_num, hG1, HI2⟩, by simp [intOf]; omega⟩
    · have HN : Hid (keyP s.data.toList = none) := keyP_miss (fun j h1 h2 h3 => HI.out j h1 (by rw [HLS.out] at h2; omega))
      by_cases hlt : k < s.size
      · go_wp2_with fail
        go_ret3
        exact ⟨gotKey_none HN.out (Strs.nil _ _), hgr.out⟩
      · go_wp2_with fail
        go_ret3
        exact ⟨gotKey_none HN.out (Strs.nil _ _), hgr.out⟩

end Go.Proofs.YtjedmpkjopgklaaGreatDoor
