/- The law of Tokens. -/
import Derived.Test.YtkoagpeeohmokaaDoorTok6
namespace Go.Proofs.YtkoagpeeohmokaaDoor
open Go.RowKit
set_option linter.unusedVariables false

set_option maxHeartbeats 1000000 in
set_option maxRecDepth 20000 in
theorem Tokens_walk (s : ByteArray) (hs : s.size ≤ maxLen) (w : World) (hsh : w.ShapedOpen Tryd.prog) : Calls Tryd.prog 3 #[.string s] w fun e w' => e = .returned (.bool true) ∧ Below w.heap.size w w' := by
  unfold maxLen at hs
  by_cases h1 : s.size ≤ 1048576
  rotate_left
  · go_enter Tryd.func3, Tryd.ntmps3
    go_wp2_with fail
    go_ret
    exact ⟨rfl, below_refl _⟩
  clear hsh
  go_enter Tryd.func3, Tryd.ntmps3
  go_wp2_with fail
  refine (sTokens_any s _ h1).mono ?_
  rintro e w1 ⟨⟨vs, L, rfl, hT, hl, hr⟩, b1⟩
  have HT := Lib.hid hT
  have HR := Lib.hid hr
  have B1 := Lib.hid b1
  clear hT hr b1
  obtain ⟨E, hE⟩ : ∃ E, (tokRes s).2 = E := ⟨_, rfl⟩
  rw [hE]
  have HE := Lib.hid hE; clear hE
  go_wp2_with fail
  refine (Tokens_any s _ h1).mono ?_
  rintro e w2 ⟨⟨vx, L2, rfl, hX, hl2, hr2⟩, b2⟩
  obtain rfl : L2 = L := raws_inj (hr2.out.trans HR.out.symm)
  rw [HE.out]
  have HX := Lib.hid hX
  have B2 := Lib.hid b2
  clear hX hr2 b2 hl2
  go_wp2_with fail
  refine (eqTokenS_any vx vs L2 _ _ _ HX.out (HT.out.kept B2.out) hl).mono ?_
  rintro e w3 ⟨rfl, b3⟩
  have HX3 := Lib.hid (HX.out.kept b3)
  have B3 := Lib.hid (below_trans B2.out b3)
  clear HX B2 b3
  go_wp2_with fail
  refine (markTokenS_any vx L2 1 (by omega) (by omega) _ _ HX3.out hl B3.out.size).mono ?_
  rintro e w4 ⟨rfl, hM, b4⟩
  have HM := Lib.hid hM
  have B4 := Lib.hid (B3.out.trans b4)
  clear HX3 B3 hM b4
  obtain ⟨q, hq⟩ : ∃ q, 1 + 3 * L2.length = q := ⟨_, rfl⟩
  rw [hq]
  have hq1 : 1 ≤ q := by omega
  have HQ := Lib.hid hq; clear hq
  go_wp2_with fail
  refine (heldTokenS_any vx L2.length 1 (by omega) (by omega) _ _ HM.out hl).mono ?_
  rintro e w5 ⟨rfl, b5⟩
  rw [HQ.out]
  have HM5 := Lib.hid (HM.out.kept b5)
  have B5 := Lib.hid (below_trans B4.out b5)
  clear HM B4 b5
  have q0 : ¬ (q : Int) < 0 := by omega
  go_wp2_with fail
  refine (Tokens_any s _ h1).mono ?_
  rintro e w6 ⟨⟨vy, L3, rfl, hY, hl3, hr3⟩, b6⟩
  obtain rfl : L3 = L2 := raws_inj (hr3.out.trans HR.out.symm)
  rw [HE.out]
  have HY := Lib.hid hY
  have HM6 := Lib.hid (HM5.out.kept b6)
  have B6 := Lib.hid (below_trans B5.out b6)
  clear HM5 B5 hY hr3 b6 hl3
  go_wp2_with fail
  refine (eqTokenS_any vy vs L3 _ _ _ HY.out (HT.out.kept B6.out) hl).mono ?_
  rintro e w7 ⟨rfl, b7⟩
  have HM7 := Lib.hid (HM6.out.kept b7)
  have B7 := Lib.hid (below_trans B6.out b7)
  clear HM6 B6 b7 HY
  go_wp2_with fail
  refine (heldTokenS_any vx L3.length 1 (by omega) (by omega) _ _ HM7.out hl).mono ?_
  rintro e w8 ⟨rfl, b8⟩
  rw [HQ.out]
  have B8 := Lib.hid (below_trans B7.out b8)
  clear HM7 B7 b8
  go_wp2_with fail
  go_ret
  exact ⟨rfl, below_trans B1.out B8.out⟩

end Go.Proofs.YtkoagpeeohmokaaDoor
