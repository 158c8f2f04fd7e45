/- The law of SameMachine. -/
import Derived.Test.YtllamjgloilioaaSmTwo
namespace Go.Proofs.Ytllamjgloilioaa
open Go.RowKit Go.ChangeShapes Go.WideShapes Go.ChangeAt Go.Deep
set_option linter.unusedVariables false
set_option linter.unusedSimpArgs false

set_option maxHeartbeats 8000000 in
set_option maxRecDepth 8000 in
theorem SameMachine_walk (v0 : Value) (x0 : List Value × DV) (v1 : Value) (x1 : List Value × DV) (w : World) (e0 : v0 = .agg x0.1.toArray) (h0 : At w tyMachine x0.1 x0.2) (k0 : Fits maxLen x0.2) (e1 : v1 = .agg x1.1.toArray) (h1 : At w tyMachine x1.1 x1.2) (k1 : Fits maxLen x1.2) :
    Calls Try.prog 3 #[v0, v1] w fun e w' => e = .returned (.bool true) ∧ Below w.heap.size w w' := by
  obtain ⟨cs, d⟩ := x0
  obtain ⟨cs2, d2⟩ := x1
  simp only at *
  subst e0 e1
  have OA := Lib.hid k0; have OB := Lib.hid k1
  have Z1 := Lib.hid (infoL_of h0)
  have Z2 := Lib.hid (infoL_of h1)
  have T0 := Lib.hid (SM.start w cs cs2 d d2 h0 h1)
  have HZ1 := Lib.hid (szMachine_dv cs d 1048576 _ T0.out.a1 OA.out (by omega) (by omega))
  clear k0 k1 h0 h1
  obtain ⟨c, hc⟩ : ∃ c, cs.toArray = c := ⟨_, rfl⟩
  obtain ⟨c2, hc2⟩ : ∃ c, cs2.toArray = c := ⟨_, rfl⟩
  have HC := Lib.hid hc
  have HC2 := Lib.hid hc2
  rw [hc] at T0 HZ1 Z1
  rw [hc2] at T0 HZ1 Z2
  rw [hc, hc2]
  clear hc hc2 OA
  go_enter Try.func3, Try.ntmps3
  go_wp2_with (first | (refine wpList_load_row rfl 35 _ rfl w.heap.size rfl 35 c (0, 0) _ T0.out.m1 Try.underlying35 rfl Z1.out ?_))
  refine HZ1.out.mono ?_
  rintro e w1 ⟨⟨q, rfl, q1, q2, HQ⟩, b1⟩
  have T1 := Lib.hid (T0.out.on b1)
  clear T0 b1 HZ1
  by_cases q0 : q < 0
  · go_wp2_with fail
    go_ret
    exact ⟨rfl, T1.out.bel⟩
  have KA := Lib.hid (HQ.out (by omega))
  have HZ2 := Lib.hid (szMachine_dv cs2 d2 q w1 T1.out.a2 OB.out (by omega) (by omega))
  rw [HC2.out] at HZ2
  clear HQ OB
  go_wp2_with (first | (refine wpList_load_row rfl 35 _ rfl (w.heap.size + 1) rfl 35 c2 (0, 0) _ T1.out.m2 Try.underlying35 rfl Z2.out ?_))
  refine HZ2.out.mono ?_
  rintro e w2 ⟨⟨p, rfl, p1, p2, HP⟩, b2⟩
  have T2 := Lib.hid (T1.out.on b2)
  clear T1 b2 HZ2
  by_cases p0 : p < 0
  · go_wp2_with fail
    go_ret
    exact ⟨rfl, T2.out.bel⟩
  have KB := Lib.hid (HP.out (by omega))
  clear HP
  go_wp2_with fail
  have T3 := Lib.hid (T2.out.on ((below_refl w2).drew)); clear T2
  have HT4 := Lib.hid (toMachine_dv cs d _ T3.out.a1 KA.out)
  rw [HC.out] at HT4
  refine wp_region_held_drew (S := (fun W => MIn W w.heap.size c 35 ∧ MIn W (w.heap.size + 1) c2 35)) (by kernel_rfl) ⟨T3.out.m1, T3.out.m2⟩ (fun hHeld => ?_)
  refine wpAnyH_take (i := 0) (v := .agg c) rfl (by kernel_rfl) (by kernel_rfl) (by kernel_rfl) (fun _ _ _ h => h) (Or.inl ⟨by rfl, yields_row 35 _ rfl w.heap.size rfl c 35 _ (fun W hW => hW.1) Try.underlying35 Z1.out⟩) hHeld ?_
  try simp only [Act.put, List.getElem_toArray, List.getElem_cons_zero, List.setIfInBounds_toArray, List.set_cons_zero, List.set_cons_succ]
  refine wpAnyH_take (i := 2) (v := .agg c2) rfl (by kernel_rfl) (by kernel_rfl) (by kernel_rfl) (fun _ _ _ h => h) (Or.inl ⟨by rfl, yields_row 35 _ rfl (w.heap.size + 1) rfl c2 35 _ (fun W hW => hW.2) Try.underlying35 Z2.out⟩) hHeld ?_
  try simp only [Act.put, List.getElem_toArray, List.getElem_cons_succ, List.getElem_cons_zero, List.setIfInBounds_toArray, List.set_cons_zero, List.set_cons_succ]
  refine wpAnyH_ready (rs := [1]) (by kernel_rfl) (by simp) ?_
  refine AllReadyH.cons rfl (fun K hK => ?_) AllReadyH.nil
  go_simp
  refine HT4.out.mono ?_
  rintro e w4 ⟨ys, rfl, R4, b4⟩
  have T4 := Lib.hid (T3.out.on b4)
  have A4 := Lib.hid (R4.at_ (Nat.le_refl _))
  have HT5 := Lib.hid (toMachine_dv cs2 d2 w4 T4.out.a2 KB.out)
  rw [HC2.out] at HT5
  clear R4 b4 T3 HT4 hHeld
  obtain ⟨y, hy⟩ : ∃ y, ys.toArray = y := ⟨_, rfl⟩
  have HY := Lib.hid hy
  rw [hy]
  clear hy
  try go_wp2_with fail
  refine hK.out _ _ ⟨T4.out.m1, T4.out.m2⟩ (fun hHeld => ?_)
  clear hK K
  try simp only [Act.put, List.getElem_toArray, List.getElem_cons_succ, List.getElem_cons_zero, List.setIfInBounds_toArray, List.set_cons_zero, List.set_cons_succ]
  refine wpAnyH_ready (rs := [3]) (by kernel_rfl) (by simp) ?_
  refine AllReadyH.cons rfl (fun K hK => ?_) AllReadyH.nil
  go_simp
  refine HT5.out.mono ?_
  rintro e w5 ⟨zs, rfl, R5, b5⟩
  have T5 := Lib.hid (T4.out.on b5)
  have A4b := Lib.hid (A4.out.on b5)
  have A5 := Lib.hid (R5.at_ (Nat.le_refl _))
  have HS6 := Lib.hid (sSameMachine_dv ys zs d d2 w5 A4b.out A5.out KA.out)
  clear R5 b5 T4 HT5 hHeld
  obtain ⟨z, hq⟩ : ∃ q, zs.toArray = q := ⟨_, rfl⟩
  have HZ := Lib.hid hq
  rw [hq]
  clear hq
  rw [HY.out, HZ.out] at HS6
  try go_wp2_with fail
  refine hK.out _ _ ⟨T5.out.m1, T5.out.m2⟩ (fun hHeld => ?_)
  clear hK K
  try simp only [Act.put, List.getElem_toArray, List.getElem_cons_succ, List.getElem_cons_zero, List.setIfInBounds_toArray, List.set_cons_zero, List.set_cons_succ]
  refine wpAnyH_ready (rs := [4]) (by kernel_rfl) (by simp) ?_
  refine AllReadyH.cons rfl (fun K hK => ?_) AllReadyH.nil
  go_simp
  refine HS6.out.mono ?_
  rintro e w6 ⟨⟨R, rfl, HE⟩, b6⟩
  have T6 := Lib.hid (T5.out.on b6)
  have HEE := Lib.hid HE
  clear HE b6 T5 HS6 hHeld A4 A4b A5 HY HZ
  try go_wp2_with fail
  refine hK.out _ _ ⟨T6.out.m1, T6.out.m2⟩ (fun hHeld => ?_)
  clear hK K
  try simp only [Act.put, List.getElem_toArray, List.getElem_cons_succ, List.getElem_cons_zero, List.setIfInBounds_toArray, List.set_cons_zero, List.set_cons_succ]
  refine wpAnyH_ready (rs := [5]) (by kernel_rfl) (by simp) ?_
  refine AllReadyH.cons rfl (fun K hK => ?_) AllReadyH.nil
  go_simp
  try go_wp2_with fail
  refine hK.out _ _ ⟨T6.out.m1, T6.out.m2⟩ (fun hHeld => ?_)
  clear hK K
  try simp only [Act.put, List.getElem_toArray, List.getElem_cons_succ, List.getElem_cons_zero, List.setIfInBounds_toArray, List.set_cons_zero, List.set_cons_succ]
  refine wpAnyH_done (by kernel_rfl) ?_ _
  clear hHeld
  have HT7 := Lib.hid (toMachine_dv cs d w6 T6.out.a1 KA.out)
  rw [HC.out] at HT7
  go_wp2_with (first | (refine wpList_load_row rfl 35 _ rfl w.heap.size rfl 35 c (0, 0) _ T6.out.m1 Try.underlying35 rfl Z1.out ?_))
  refine HT7.out.mono ?_
  rintro e w7 ⟨us, rfl, R7, b7⟩
  have ZU := Lib.hid (infoI_of R7)
  have SU := Lib.hid (size_of R7)
  have U1 := Lib.hid (Rd.all1 R7)
  have A7 := Lib.hid (R7.at_ (Nat.le_refl _))
  have T7a := Lib.hid (T6.out.on b7)
  obtain ⟨u, hq⟩ : ∃ q, us.toArray = q := ⟨_, rfl⟩
  have HU := Lib.hid hq
  rw [hq] at ZU SU U1 ⊢
  clear hq
  have T7 : Hid (∀ Z : Array Value, SM w ((w7.alloc (.cells Z 49)).setRow w7.heap.size u) c c2 cs cs2 d d2) := fun Z => T7a.out.on (below_made w7 u Z 49)
  have MU7 : Hid (∀ Z : Array Value, MI ((w7.alloc (.cells Z 49)).setRow w7.heap.size u) w7.heap.size u us d) := fun Z => ⟨MIn.row w7 u Z 49, A7.out.on (below_made w7 u Z 49)⟩
  have HT8 : Hid (∀ Z : Array Value, Calls Try.prog 6 #[.agg c2] ((w7.alloc (.cells Z 49)).setRow w7.heap.size u) _) := fun Z => by
    have := toMachine_dv cs2 d2 _ (T7.out Z).a2 KB.out
    rw [HC2.out] at this
    exact this
  clear R7 b7 T6 HT7 A7 T7a
  go_wp2_with (first | (refine wpList_store_row rfl 49 _ _ rfl w7.heap.size u rfl rfl 49 _ (heap_alloc_new w7 _) ZU.out SU.out U1.out ?_) | (refine wpList_load_row rfl 35 _ rfl (w.heap.size + 1) rfl 35 c2 (0, 0) _ (T7.out _).m2 Try.underlying35 rfl Z2.out ?_))
  refine (HT8.out _).mono ?_
  rintro e w8 ⟨xs, rfl, R8, b8⟩
  have ZX := Lib.hid (infoI_of R8)
  have SX := Lib.hid (size_of R8)
  have X1 := Lib.hid (Rd.all1 R8)
  have A8 := Lib.hid (R8.at_ (Nat.le_refl _))
  have T8a := Lib.hid ((T7.out _).on b8)
  have U8a := Lib.hid ((MU7.out _).on b8)
  obtain ⟨x, hq⟩ : ∃ q, xs.toArray = q := ⟨_, rfl⟩
  have HX := Lib.hid hq
  rw [hq] at ZX SX X1 ⊢
  clear hq
  have T8 : Hid (∀ Z : Array Value, SM w ((w8.alloc (.cells Z 49)).setRow w8.heap.size x) c c2 cs cs2 d d2) := fun Z => T8a.out.on (below_made w8 x Z 49)
  have MU8 : Hid (∀ Z : Array Value, MI ((w8.alloc (.cells Z 49)).setRow w8.heap.size x) w7.heap.size u us d) := fun Z => U8a.out.on (below_made w8 x Z 49)
  have MX8 : Hid (∀ Z : Array Value, MI ((w8.alloc (.cells Z 49)).setRow w8.heap.size x) w8.heap.size x xs d2) := fun Z => ⟨MIn.row w8 x Z 49, A8.out.on (below_made w8 x Z 49)⟩
  have HI9 : Hid (∀ Z : Array Value, Calls Try.prog 7 #[.agg u, .agg x] ((w8.alloc (.cells Z 49)).setRow w8.heap.size x) _) := fun Z => by
    have := iSameMachine_dv us xs d d2 _ (MU8.out Z).a (MX8.out Z).a KA.out
    rw [HU.out, HX.out] at this
    exact this
  clear R8 b8 T7 MU7 HT8 A8 T8a U8a
  go_wp2_with (first | (refine wpList_store_row rfl 49 _ _ rfl w8.heap.size x rfl rfl 49 _ (heap_alloc_new w8 _) ZX.out SX.out X1.out ?_) | (refine wpList_load_row rfl 49 _ rfl w7.heap.size rfl 49 u (0, 0) _ (MU8.out _).m Try.underlying49 rfl ZU.out ?_) | (refine wpList_load_row rfl 49 _ rfl w8.heap.size rfl 49 x (0, 0) _ (MX8.out _).m Try.underlying49 rfl ZX.out ?_))
  refine (HI9.out _).mono ?_
  rintro e w9 ⟨⟨R2, rfl, HE2⟩, b9⟩
  obtain rfl : R = R2 := by
    have h1 := HEE.out
    unfold EqB at h1 HE2
    cases R <;> cases R2
    · rfl
    · exact absurd (h1.2 (HE2.1 rfl)) (by decide)
    · exact absurd (HE2.2 (h1.1 rfl)) (by decide)
    · rfl
  have T9 := Lib.hid ((T8.out _).on b9)
  have U9 := Lib.hid ((MU8.out _).on b9)
  have X9 := Lib.hid ((MX8.out _).on b9)
  clear HE2 b9 T8 MU8 MX8 HI9 HEE
  go_wp2_with fail
  have T10 := Lib.hid (T9.out.on ((below_refl w9).drew))
  have P10 := Lib.hid (U9.out.on ((below_refl w9).drew))
  have Q10 := Lib.hid (X9.out.on ((below_refl w9).drew))
  have HTo := Lib.hid (toMachine_dv cs d _ T10.out.a1 KA.out)
  rw [HC.out] at HTo
  refine wp_region_held_drew (S := (fun W => MIn W w7.heap.size u 49 ∧ MIn W w.heap.size c 35)) (by kernel_rfl) ⟨P10.out.m, T10.out.m1⟩ (fun hHeld => ?_)
  refine wpAnyH_take (i := 0) (v := .agg u) rfl (by kernel_rfl) (by kernel_rfl) (by kernel_rfl) (fun _ _ _ h => h) (Or.inl ⟨by rfl, yields_row 49 _ rfl w7.heap.size rfl u 49 _ (fun W hW => hW.1) Try.underlying49 ZU.out⟩) hHeld ?_
  try simp only [Act.put, List.getElem_toArray, List.getElem_cons_zero, List.setIfInBounds_toArray, List.set_cons_zero, List.set_cons_succ]
  refine wpAnyH_take (i := 1) (v := .agg c) rfl (by kernel_rfl) (by kernel_rfl) (by kernel_rfl) (fun _ _ _ h => h) (Or.inl ⟨by rfl, yields_row 35 _ rfl w.heap.size rfl c 35 _ (fun W hW => hW.2) Try.underlying35 Z1.out⟩) hHeld ?_
  try simp only [Act.put, List.getElem_toArray, List.getElem_cons_succ, List.getElem_cons_zero, List.setIfInBounds_toArray, List.set_cons_zero, List.set_cons_succ]
  refine wpAnyH_ready (rs := [2]) (by kernel_rfl) (by simp) ?_
  refine AllReadyH.cons rfl (fun K hK => ?_) AllReadyH.nil
  go_simp
  refine HTo.out.mono ?_
  rintro e wa ⟨ts, rfl, Ra, ba⟩
  have Ta := Lib.hid (T10.out.on ba)
  have Pa := Lib.hid (P10.out.on ba)
  have Qa := Lib.hid (Q10.out.on ba)
  have Aa := Lib.hid (Ra.at_ (Nat.le_refl _))
  have HEq := Lib.hid (eqMachine_dv us ts d d wa Pa.out.a Aa.out KA.out)
  clear Ra ba T10 P10 Q10 HTo hHeld
  obtain ⟨s, hq⟩ : ∃ q, ts.toArray = q := ⟨_, rfl⟩
  have HS := Lib.hid hq
  rw [hq]
  clear hq
  rw [HU.out, HS.out] at HEq
  try go_wp2_with fail
  refine hK.out _ _ ⟨Pa.out.m, Ta.out.m1⟩ (fun hHeld => ?_)
  clear hK K
  try simp only [Act.put, List.getElem_toArray, List.getElem_cons_succ, List.getElem_cons_zero, List.setIfInBounds_toArray, List.set_cons_zero, List.set_cons_succ]
  refine wpAnyH_ready (rs := [3]) (by kernel_rfl) (by simp) ?_
  refine AllReadyH.cons rfl (fun K hK => ?_) AllReadyH.nil
  go_simp
  refine HEq.out.mono ?_
  rintro e wb ⟨⟨r, rfl, HE⟩, bb⟩
  obtain rfl : r = true := HE.2 rfl
  have Tb := Lib.hid (Ta.out.on bb)
  have Pb := Lib.hid (Pa.out.on bb)
  have Qb := Lib.hid (Qa.out.on bb)
  clear HE bb Ta Pa Qa Aa HEq HS hHeld
  try go_wp2_with fail
  refine hK.out _ _ ⟨Pb.out.m, Tb.out.m1⟩ (fun hHeld => ?_)
  clear hK K
  try simp only [Act.put, List.getElem_toArray, List.getElem_cons_succ, List.getElem_cons_zero, List.setIfInBounds_toArray, List.set_cons_zero, List.set_cons_succ]
  refine wpAnyH_ready (rs := [4]) (by kernel_rfl) (by simp) ?_
  refine AllReadyH.cons rfl (fun K hK => ?_) AllReadyH.nil
  go_simp
  try go_wp2_with fail
  refine hK.out _ _ ⟨Pb.out.m, Tb.out.m1⟩ (fun hHeld => ?_)
  clear hK K
  try simp only [Act.put, List.getElem_toArray, List.getElem_cons_succ, List.getElem_cons_zero, List.setIfInBounds_toArray, List.set_cons_zero, List.set_cons_succ]
  refine wpAnyH_done (by kernel_rfl) ?_ _
  clear hHeld
  obtain ⟨wx, hwx⟩ : ∃ wx, wb = wx := ⟨_, rfl⟩
  rw [hwx] at Tb Pb Qb ⊢
  clear hwx
  have T10 := Lib.hid Tb.out
  have U10 := Lib.hid Pb.out
  have X10 := Lib.hid Qb.out
  clear Tb Pb Qb
  go_wp2_with fail
  have T11 := Lib.hid (T10.out.on ((below_refl wx).drew))
  have P11 := Lib.hid (U10.out.on ((below_refl wx).drew))
  have Q11 := Lib.hid (X10.out.on ((below_refl wx).drew))
  have HTo := Lib.hid (toMachine_dv cs2 d2 _ T11.out.a2 KB.out)
  rw [HC2.out] at HTo
  refine wp_region_held_drew (S := (fun W => MIn W w8.heap.size x 49 ∧ MIn W (w.heap.size + 1) c2 35)) (by kernel_rfl) ⟨Q11.out.m, T11.out.m2⟩ (fun hHeld => ?_)
  refine wpAnyH_take (i := 0) (v := .agg x) rfl (by kernel_rfl) (by kernel_rfl) (by kernel_rfl) (fun _ _ _ h => h) (Or.inl ⟨by rfl, yields_row 49 _ rfl w8.heap.size rfl x 49 _ (fun W hW => hW.1) Try.underlying49 ZX.out⟩) hHeld ?_
  try simp only [Act.put, List.getElem_toArray, List.getElem_cons_zero, List.setIfInBounds_toArray, List.set_cons_zero, List.set_cons_succ]
  refine wpAnyH_take (i := 1) (v := .agg c2) rfl (by kernel_rfl) (by kernel_rfl) (by kernel_rfl) (fun _ _ _ h => h) (Or.inl ⟨by rfl, yields_row 35 _ rfl (w.heap.size + 1) rfl c2 35 _ (fun W hW => hW.2) Try.underlying35 Z2.out⟩) hHeld ?_
  try simp only [Act.put, List.getElem_toArray, List.getElem_cons_succ, List.getElem_cons_zero, List.setIfInBounds_toArray, List.set_cons_zero, List.set_cons_succ]
  refine wpAnyH_ready (rs := [2]) (by kernel_rfl) (by simp) ?_
  refine AllReadyH.cons rfl (fun K hK => ?_) AllReadyH.nil
  go_simp
  refine HTo.out.mono ?_
  rintro e wa ⟨ts, rfl, Ra, ba⟩
  have Ta := Lib.hid (T11.out.on ba)
  have Pa := Lib.hid (P11.out.on ba)
  have Qa := Lib.hid (Q11.out.on ba)
  have Aa := Lib.hid (Ra.at_ (Nat.le_refl _))
  have HEq := Lib.hid (eqMachine_dv xs ts d2 d2 wa Qa.out.a Aa.out KB.out)
  clear Ra ba T11 P11 Q11 HTo hHeld
  obtain ⟨s, hq⟩ : ∃ q, ts.toArray = q := ⟨_, rfl⟩
  have HS := Lib.hid hq
  rw [hq]
  clear hq
  rw [HX.out, HS.out] at HEq
  try go_wp2_with fail
  refine hK.out _ _ ⟨Qa.out.m, Ta.out.m2⟩ (fun hHeld => ?_)
  clear hK K
  try simp only [Act.put, List.getElem_toArray, List.getElem_cons_succ, List.getElem_cons_zero, List.setIfInBounds_toArray, List.set_cons_zero, List.set_cons_succ]
  refine wpAnyH_ready (rs := [3]) (by kernel_rfl) (by simp) ?_
  refine AllReadyH.cons rfl (fun K hK => ?_) AllReadyH.nil
  go_simp
  refine HEq.out.mono ?_
  rintro e wb ⟨⟨r, rfl, HE⟩, bb⟩
  obtain rfl : r = true := HE.2 rfl
  have Tb := Lib.hid (Ta.out.on bb)
  have Pb := Lib.hid (Pa.out.on bb)
  have Qb := Lib.hid (Qa.out.on bb)
  clear HE bb Ta Pa Qa Aa HEq HS hHeld
  try go_wp2_with fail
  refine hK.out _ _ ⟨Qb.out.m, Tb.out.m2⟩ (fun hHeld => ?_)
  clear hK K
  try simp only [Act.put, List.getElem_toArray, List.getElem_cons_succ, List.getElem_cons_zero, List.setIfInBounds_toArray, List.set_cons_zero, List.set_cons_succ]
  refine wpAnyH_ready (rs := [4]) (by kernel_rfl) (by simp) ?_
  refine AllReadyH.cons rfl (fun K hK => ?_) AllReadyH.nil
  go_simp
  try go_wp2_with fail
  refine hK.out _ _ ⟨Qb.out.m, Tb.out.m2⟩ (fun hHeld => ?_)
  clear hK K
  try simp only [Act.put, List.getElem_toArray, List.getElem_cons_succ, List.getElem_cons_zero, List.setIfInBounds_toArray, List.set_cons_zero, List.set_cons_succ]
  refine wpAnyH_done (by kernel_rfl) ?_ _
  clear hHeld
  obtain ⟨wy, hwx⟩ : ∃ wx, wb = wx := ⟨_, rfl⟩
  rw [hwx] at Tb Pb Qb ⊢
  clear hwx
  have T11 := Lib.hid Tb.out
  have U11 := Lib.hid Pb.out
  have X11 := Lib.hid Qb.out
  clear Tb Pb Qb
  go_wp2_with fail
  go_ret
  exact ⟨rfl, T11.out.bel⟩

end Go.Proofs.Ytllamjgloilioaa
