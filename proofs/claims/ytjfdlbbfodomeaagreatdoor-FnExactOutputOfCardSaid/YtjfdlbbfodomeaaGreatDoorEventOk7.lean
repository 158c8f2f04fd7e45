/- EventOk: spec's walk, the other kinds. -/
import Derived.Test.YtjfdlbbfodomeaaGreatDoorEventOk6
namespace Go.Proofs.YtjfdlbbfodomeaaGreatDoor
open Go.RowKit Go.ChangeShapes Go.WideShapes Go.ChangeAt Go.Deep
set_option linter.unusedVariables false

set_option maxHeartbeats 4000000 in
set_option maxRecDepth 100000 in
theorem l11Right_n (x : EventV) (w : World) (h : x.At w) (hok : x.Ok 1048576) (hk5 : ¬ x.kind = 5) : Calls Tryz.prog 86 #[.agg x.cells] w fun e w' => e = .returned (.bool (evB x)) ∧ Below w.heap.size w w' := by
  have hba : Below w.heap.size w (w.alloc (.cells x.cells 53)) := Joins.below_alloc1 w _
  have HA := Lib.hid (h.on hba)
  have HCX := Lib.hid (CellsAt.new w x.cells 53)
  have HOK := Lib.hid hok
  have HEV : Hid (evB x = (inB3 x.kind 1 16 && (bareB x && (kntB x && ((!((x.kind != 6) && decide (64 < x.value.size))) && finB x))))) := (right_eq x).symm
  obtain ⟨E, hE⟩ : ∃ E : Bool, evB x = E := ⟨_, rfl⟩
  rw [hE] at HEV ⊢
  clear hE
  have HBR := Lib.hid (fun W (hW : x.At W) => l11Bare_any x W hW)
  have HKN := Lib.hid (fun W (hW : x.At W) => l11Count_any x W hW HOK.out)
  obtain ⟨BR, hBR⟩ : ∃ b : Bool, bareB x = b := ⟨_, rfl⟩
  obtain ⟨KN, hKN⟩ : ∃ b : Bool, kntB x = b := ⟨_, rfl⟩
  rw [hBR] at HBR HEV
  rw [hKN] at HKN HEV
  clear hBR hKN
  have HFI : Hid (finB x = if x.kind = 5 then nameOk x.name && ordSL x.subs else if x.kind = 9 ∧ empB x.name = true then x.subs.isEmpty && ((x.n == 0) && empB x.value) else if x.kind ≤ 6 ∨ x.kind = 9 then locOk x.name x.subs else true) := rfl
  obtain ⟨kind, name, sv, xs, value, n⟩ := x
  obtain ⟨hn, ⟨hl, hz⟩, hv, _⟩ := hok
  obtain ⟨hs, _⟩ := h
  have HZ := Lib.hid hz; clear hz
  obtain ⟨A, c, hsx, hcx, _⟩ := id hs
  replace hsx : sv = .slice A xs.length c := hsx
  subst hsx
  clear hs
  simp only at hk5
  simp only [EventV.cells] at HBR HKN HEV HFI hba ⊢
  generalize finB ⟨kind, name, .slice A xs.length c, xs, value, n⟩ = FB at *
  have HWI := Lib.hid (fun W => l00InB_any kind 1 16 W)
  generalize inB3 kind 1 16 = I at *
  have HNM := Lib.hid (fun W => l02Name_any name W hn)
  go_enter Tryz.func86, Tryz.ntmps86
  go_wp2_with fail
  refine (HWI.out _).mono ?_
  rintro e w1 ⟨rfl, rfl⟩
  cases I
  · go_wp2_with fail
    go_ret
    exact ⟨ret_bool (by rw [HEV.out]; rfl), hba⟩
  go_wp2_with fail
  refine (HBR.out _ HA.out).mono ?_
  rintro e w2 ⟨rfl, b2⟩
  have B2 := Lib.hid (below_trans hba b2)
  have C2 := Lib.hid (HCX.out.below b2)
  have A2 := Lib.hid (HA.out.on b2)
  clear b2 hba HA HCX
  cases BR
  · go_wp2_with fail
    go_ret
    exact ⟨ret_bool (by rw [HEV.out]; rfl), B2.out⟩
  obtain ⟨c0, c1, c2, c3, c4⟩ := EventV.five C2.out
  simp only at c0 c1 c2 c3 c4
  go_wp2_with fail
  refine (HKN.out _ A2.out).mono ?_
  rintro e w3 ⟨rfl, b3⟩
  have B3 := Lib.hid (below_trans B2.out b3)
  have C3 := Lib.hid (C2.out.below b3)
  have A3 := Lib.hid (A2.out.on b3)
  clear b3 B2 C2 A2 c0 c1 c2 c3 c4
  obtain ⟨c0, c1, c2, c3, c4⟩ := EventV.five C3.out
  simp only at c0 c1 c2 c3 c4
  have HS3 : Hid (StrsAt w3 w3.heap.size (.slice A xs.length c) xs) := A3.out.1
  cases KN
  · go_wp2_with fail
    go_ret
    exact ⟨ret_bool (by rw [HEV.out]; rfl), B3.out⟩
  have key : ((kind == 6) = true ∧ (kind != 6) = false ∧ Hid (kind = 6)) ∨ ((kind == 6) = false ∧ (kind != 6) = true ∧ Hid (¬ kind = 6)) := eqForms kind 6
  have HLL : Hid ((!((kind != 6) && decide (64 < value.size))) = true → E = FB) := fun h => by rw [HEV.out, h]; rfl
  have HLF : Hid ((!((kind != 6) && decide (64 < value.size))) = false → E = false) := fun h => by rw [HEV.out, h]; rfl
  clear HEV
  by_cases hbig : 64 < value.size ∧ ¬ kind = 6
  · obtain ⟨hb1, hb2⟩ := hbig
    rcases key with ⟨k1, k2, k3⟩ | ⟨k1, k2, k3⟩
    · exact absurd k3.out hb2
    have HV := Lib.hid (HLF.out (by rw [k2, decide_eq_true hb1]; rfl))
    clear hb2 HLL HLF
    go_wp2_with fail
    go_ret
    exact ⟨ret_bool HV.out.symm, B3.out⟩
  have HV : Hid (E = FB) := HLL.out (by
    rcases key with ⟨k1, k2, k3⟩ | ⟨k1, k2, k3⟩
    · rw [k2]; rfl
    · rw [k2, decide_eq_false (fun h => hbig ⟨h, k3.out⟩)]; rfl)
  clear HLL HLF
  have e1 : (kind == 5) = false := by simpa using hk5
  have e2 : (kind != 5) = true := by simpa using hk5
  have e3 : Hid (¬ kind = 5) := hk5
  clear hk5
  have HF5 : Hid (FB = if kind = 9 ∧ empB name = true then xs.isEmpty && ((n == 0) && empB value) else if kind ≤ 6 ∨ kind = 9 then locOk name xs else true) := by show _ = _; rw [HFI.out, if_neg e3.out]
  clear HFI
  have HSB := Lib.hid (l02Subs_any _ xs w3 _ HS3.out hl HZ.out)
  have HLO : Hid (locOk name xs = (nameOk name && subsOkB xs)) := rfl
  generalize locOk name xs = LO at *
  obtain ⟨N, hN⟩ : ∃ N : Bool, nameOk name = N := ⟨_, rfl⟩
  rw [hN] at HNM HLO
  clear hN
  generalize subsOkB xs = SO at *
  have hk6 : ((kind == 6) = true ∧ (kind != 6) = false) ∨ ((kind == 6) = false ∧ (kind != 6) = true ∧ value.size ≤ 64) := by
    rcases key with ⟨k1, k2, k3⟩ | ⟨k1, k2, k3⟩
    · exact .inl ⟨k1, k2⟩
    · refine .inr ⟨k1, k2, ?_⟩
      have := k3.out
      omega
  clear key hbig
  rcases eqForms kind 9 with ⟨f1, f2, f3⟩ | ⟨f1, f2, f3⟩
  · obtain rfl := f3.out
    rcases hk6 with ⟨k1, k2⟩ | ⟨k1, k2, k3⟩
    · cases k1
    rcases emptyForms name with ⟨m1, m2, m3, m4⟩ | ⟨m1, m2, m3, m4⟩
    · have HF : Hid (FB = (xs.isEmpty && ((n == 0) && empB value))) := by show _ = _; rw [HF5.out, if_pos ⟨rfl, m4.out⟩]
      clear HF5
      rcases lenForms xs with ⟨l1, l2, l3⟩ | ⟨l1, l2, l3⟩
      · rw [l3.out] at HF
        rcases eqForms n 0 with ⟨d1, d2, d3⟩ | ⟨d1, d2, d3⟩
        · rw [d1] at HF
          rcases emptyForms value with ⟨v1, v2, v3, v4⟩ | ⟨v1, v2, v3, v4⟩
          all_goals
            go_wp2_with fail
            go_ret
            exact ⟨ret_bool (by rw [HV.out, HF.out]; unfold empB; rw [v4.out]; rfl), B3.out⟩
        · rw [d1] at HF
          go_wp2_with fail
          go_ret
          exact ⟨ret_bool (by rw [HV.out, HF.out]; rfl), B3.out⟩
      · rw [l3.out] at HF
        go_wp2_with fail
        go_ret
        exact ⟨ret_bool (by rw [HV.out, HF.out]; rfl), B3.out⟩
    · have HF : Hid (FB = LO) := by show _ = _; rw [HF5.out, if_neg (fun h => by rw [show empB name = false from m4.out] at h; cases h.2), if_pos (.inr rfl)]
      clear HF5
      cases N
      · go_wp2_with fail
        refine (HNM.out _).mono ?_
        rintro e w4 ⟨rfl, rfl⟩
        go_wp2_with fail
        go_ret
        exact ⟨ret_bool (by rw [HV.out, HF.out, HLO.out]; rfl), B3.out⟩
      · go_wp2_with fail
        refine (HNM.out _).mono ?_
        rintro e w4 ⟨rfl, rfl⟩
        go_wp2_with fail
        refine HSB.out.mono ?_
        rintro e w4 ⟨rfl, rfl⟩
        go_wp2_with fail
        go_ret
        exact ⟨ret_bool (by rw [HV.out, HF.out, HLO.out]; rfl), B3.out⟩
  · by_cases h6 : kind ≤ 6
    · have HF : Hid (FB = LO) := by show _ = _; rw [HF5.out, if_neg (fun h => f3.out h.1), if_pos (.inl h6)]
      clear HF5
      rcases hk6 with ⟨k1, k2⟩ | ⟨k1, k2, k3⟩
      all_goals
        cases N
        · go_wp2_with fail
          all_goals
            refine (HNM.out _).mono ?_
            rintro e w4 ⟨rfl, rfl⟩
            go_wp2_with fail
            go_ret
            exact ⟨ret_bool (by rw [HV.out, HF.out, HLO.out]; rfl), B3.out⟩
        · go_wp2_with fail
          all_goals
            refine (HNM.out _).mono ?_
            rintro e w4 ⟨rfl, rfl⟩
            go_wp2_with fail
            refine HSB.out.mono ?_
            rintro e w4 ⟨rfl, rfl⟩
            go_wp2_with fail
            go_ret
            exact ⟨ret_bool (by rw [HV.out, HF.out, HLO.out]; rfl), B3.out⟩
    · have HF : Hid (FB = true) := by show _ = _; rw [HF5.out, if_neg (fun h => f3.out h.1), if_neg (fun h => by rcases h with h | h; exact h6 h; exact f3.out h)]
      clear HF5
      rcases hk6 with ⟨k1, k2⟩ | ⟨k1, k2, k3⟩
      · exact absurd (show kind = 6 by simpa using k1) (by omega)
      go_wp2_with fail
      go_ret
      exact ⟨ret_bool (by rw [HV.out, HF.out]), B3.out⟩

theorem l11Right_any (x : EventV) (w : World) (h : x.At w) (hok : x.Ok 1048576) : Calls Tryz.prog 86 #[.agg x.cells] w fun e w' => e = .returned (.bool (evB x)) ∧ Below w.heap.size w w' := by
  by_cases hk : x.kind = 5
  · exact l11Right_5 x w h hok hk
  · exact l11Right_n x w h hok hk

theorem sEventOk_any (x : EventV) (w : World) (h : x.At w) (hok : x.Ok 1048576) : Calls Tryz.prog 39 #[.agg x.cells] w fun e w' => e = .returned (.bool (evB x)) ∧ Below w.heap.size w w' := by
  have hba : Below w.heap.size w (w.alloc (.cells x.cells 53)) := Joins.below_alloc1 w _
  have HR := Lib.hid (l11Right_any x _ (h.on hba) hok)
  obtain ⟨E, hE⟩ : ∃ E : Bool, evB x = E := ⟨_, rfl⟩
  rw [hE] at HR ⊢
  clear hE
  obtain ⟨kind, name, sv, xs, value, n⟩ := x
  obtain ⟨hs, _⟩ := h
  obtain ⟨A, c, hsx, hcx, _⟩ := id hs
  replace hsx : sv = .slice A xs.length c := hsx
  subst hsx
  simp only [EventV.cells] at HR hba ⊢
  go_enter Tryz.func39, Tryz.ntmps39
  go_wp2_with fail
  refine HR.out.mono ?_
  rintro e w1 ⟨rfl, b1⟩
  go_wp2_with fail
  go_ret
  exact ⟨rfl, below_trans hba b1⟩

end Go.Proofs.YtjfdlbbfodomeaaGreatDoor
