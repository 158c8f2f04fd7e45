/- The law of KeyPlace. -/
import Derived.Test.YtjfdlbbfodomeaaGreatDoorKeyPl
import Derived.Test.YtjfdlbbfodomeaaGreatDoorMarks1
namespace Go.Proofs.YtjfdlbbfodomeaaGreatDoor
open Go.RowKit
set_option linter.unusedVariables false

theorem keyP_len {l : List UInt8} : ((keyP l).getD ([], [])).2.length ≤ 4 := by
  unfold keyP
  split
  · unfold placeAt
    split
    · simp
    · rename_i xs hx
      split
      · exact (subsOk_len (getB_ok hx)).1
      · simp
  · simp

set_option maxHeartbeats 1000000 in
set_option maxRecDepth 8000 in
theorem KeyPlace_walk (s : ByteArray) (hs : s.size ≤ maxLen) (w : World) (hL : laidMetH Tryz.prog Rows.fnExactTreeOkRow.laid w) (hsh : w.ShapedOpen Tryz.prog) :
    Calls Tryz.prog 9 #[.string s] w fun e w' => e = .returned (.bool true) ∧ Below w.heap.size w w' := by
  have HT := Lib.hid (T10.of_laid hL); have HM := Lib.hid (ML.of_shaped hsh); clear hL hsh
  unfold maxLen at hs
  by_cases hs1 : s.size ≤ 1048576
  rotate_left
  · go_enter Tryz.func9, Tryz.ntmps9
    go_wp2_with fail
    go_ret
    exact ⟨rfl, below_refl _⟩
  have hlen := keyP_len (l := s.data.toList)
  obtain ⟨nl, hnl⟩ : ∃ nl, ((keyP s.data.toList).getD ([], [])).1 = nl := ⟨_, rfl⟩
  obtain ⟨xs, hxs⟩ : ∃ xs, ((keyP s.data.toList).getD ([], [])).2 = xs := ⟨_, rfl⟩
  obtain ⟨o, ho⟩ : ∃ o, (keyP s.data.toList).isSome = o := ⟨_, rfl⟩
  have HX := Lib.hid hxs; have HO := Lib.hid ho; have HNL := Lib.hid hnl
  rw [hxs] at hlen
  clear hxs ho hnl
  go_enter Tryz.func9, Tryz.ntmps9
  go_wp2_with fail
  refine (sKeyPlace_any s _ hs1).mono ?_
  rintro e w1 ⟨⟨n1, v1, rfl, hn1, h1⟩, b1⟩
  rw [HX.out] at h1; rw [HNL.out] at hn1; rw [HO.out]
  have HN1 := Lib.hid hn1; clear hn1
  have H1 := Lib.hid h1.at_; clear h1
  go_wp2_with fail
  refine (KeyPlace_any s _ (HT.out.below b1) (HM.out.below b1) hs1).mono ?_
  rintro e w2 ⟨⟨n2, v2, rfl, hn2, h2⟩, b2⟩
  rw [HX.out] at h2; rw [HNL.out] at hn2; rw [HO.out]
  obtain rfl : n1 = n2 := ba_ext (HN1.out.trans hn2.symm)
  clear hn2
  have H12 := Lib.hid (H1.out.on b2)
  have HB2 := Lib.hid (below_trans b1 b2)
  have hle2 := b1.size
  have HH2 := Lib.hid h2
  have HB12 := Lib.hid b2
  have HV2 := Lib.hid (H1.out.below b2)
  clear h2 b2
  have HE := Lib.hid (eqStringS_any v2 v1 xs xs _ _ HH2.out.at_ H12.out (by omega))
  rw [show decide (xs = xs) = true from decide_eq_true rfl] at HE
  have q1 := str_eq n1
  cases o
  all_goals
    go_wp2_with fail
    refine HE.out.mono ?_
    rintro e w3 ⟨rfl, n3, rfl⟩
    go_wp2_with fail
    refine (mark1 v2 xs (w2.drewN n3) w1.heap.size HH2.out (by omega) HB12.out.size).mono ?_
    rintro e w4 ⟨rfl, hm, b4⟩
    have HMK := Lib.hid hm; clear hm
    replace b4 : Below w1.heap.size w2 w4 := ⟨b4.os, b4.tape, b4.output, b4.size, b4.block⟩
    have HV4 := Lib.hid (HV2.out.below b4)
    have HB4 := Lib.hid (HB2.out.trans (b4.mono hle2))
    have HS4 : Hid (w1.heap.size ≤ w4.heap.size) := Nat.le_trans HB12.out.size b4.size
    clear b4
    have hM0 : (0 : Int) ≤ 1 + xs.length := by omega
    have HLN := Lib.hid hlen
    generalize hMM : (1 + (xs.length : Int)) = M at *
    have HMM := Lib.hid hMM; clear hMM
    go_wp2_with fail
    refine (held1 v2 xs.length _ _ HMK.out (by omega)).mono ?_
    rintro e w5 ⟨rfl, b5⟩
    rw [HMM.out]
    have HMK5 := Lib.hid (HMK.out.below b5)
    have HV5 := Lib.hid (HV4.out.below (b5.mono HS4.out))
    have HB5 := Lib.hid (HB4.out.trans (b5.mono HB4.out.size))
    have HS5 : Hid (w1.heap.size ≤ w5.heap.size) := Nat.le_trans HS4.out b5.size
    clear b5 HMK HV4 HS4 HB4
    go_wp2_with fail
    refine (KeyPlace_any s _ (HT.out.below HB5.out) (HM.out.below HB5.out) hs1).mono ?_
    rintro e w6 ⟨⟨n6, v6, rfl, hn6, h6⟩, b6⟩
    rw [HX.out] at h6; rw [HNL.out] at hn6; rw [HO.out]
    obtain rfl : n1 = n6 := ba_ext (HN1.out.trans hn6.symm)
    clear hn6
    have HMK6 := Lib.hid (HMK5.out.below b6)
    have HV6 := Lib.hid ((HV5.out.below (b6.mono HS5.out)).more (Nat.le_trans HS5.out b6.size))
    have HB6 := Lib.hid (HB5.out.trans (b6.mono HB5.out.size))
    have HE6 := Lib.hid (eqStringS_any v6 v1 xs xs _ _ h6.at_ HV6.out (by omega))
    rw [show decide (xs = xs) = true from decide_eq_true rfl] at HE6
    clear b6 h6 HMK5 HV5 HS5 HB5
    go_wp2_with fail
    refine HE6.out.mono ?_
    rintro e w7 ⟨rfl, n7, rfl⟩
    go_wp2_with fail
    refine (held1 v2 xs.length (w6.drewN n7) _ HMK6.out (by omega)).mono ?_
    rintro e w8 ⟨rfl, b8⟩
    rw [HMM.out]
    replace b8 : Below w6.heap.size w6 w8 := ⟨b8.os, b8.tape, b8.output, b8.size, b8.block⟩
    have HB8 := Lib.hid (HB6.out.trans (b8.mono HB6.out.size))
    clear b8
    go_wp2_with fail
    go_ret
    exact ⟨rfl, HB8.out⟩

end Go.Proofs.YtjfdlbbfodomeaaGreatDoor
