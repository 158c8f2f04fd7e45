/- EventOk: spec's walk. -/
import Derived.Test.YtjfdlbbfodomeaaGreatDoorEventOk5
namespace Go.Proofs.YtjfdlbbfodomeaaGreatDoor
open Go.RowKit Go.ChangeShapes Go.WideShapes Go.ChangeAt Go.Deep
set_option linter.unusedVariables false

/-- The five cells of an event. -/
theorem EventV.five {x : EventV} {w : World} {g : Nat} (h : CellsAt w g x.cells.toList) : w.cell? ⟨g, 0, none⟩ = some (.int .i64 x.kind) ∧ w.cell? ⟨g, 1, none⟩ = some (.string x.name) ∧ w.cell? ⟨g, 2, none⟩ = some x.subsv ∧ w.cell? ⟨g, 3, none⟩ = some (.string x.value) ∧ w.cell? ⟨g, 4, none⟩ = some (.int .i64 x.n) :=
  ⟨h.2 0 _ rfl, h.2 1 _ rfl, h.2 2 _ rfl, h.2 3 _ rfl, h.2 4 _ rfl⟩

set_option maxHeartbeats 4000000 in
set_option maxRecDepth 100000 in
theorem l11Right_5 (x : EventV) (w : World) (h : x.At w) (hok : x.Ok 1048576) (hk5 : x.kind = 5) : Calls Tryz.prog 86 #[.agg x.cells] w fun e w' => e = .returned (.bool (evB x)) ∧ Below w.heap.size w w' := by
  have hba : Below w.heap.size w (w.alloc (.cells x.cells 53)) := Joins.below_alloc1 w _
  have HA := Lib.hid (h.on hba)
  have HCX := Lib.hid (CellsAt.new w x.cells 53)
  have HOK := Lib.hid hok
  have HEV : Hid (evB x = (inB3 x.kind 1 16 && (bareB x && (kntB x && ((!((x.kind != 6) && decide (64 < x.value.size))) && finB x))))) := (right_eq x).symm
  obtain ⟨E, hE⟩ : ∃ E : Bool, evB x = E := ⟨_, rfl⟩
  rw [hE] at HEV ⊢
  clear hE
  have HBR := Lib.hid (fun W (hW : x.At W) => l11Bare_any x W hW)
  have HKN := Lib.hid (fun W (hW : x.At W) => l11Count_any x W hW HOK.out)
  obtain ⟨BR, hBR⟩ : ∃ b : Bool, bareB x = b := ⟨_, rfl⟩
  obtain ⟨KN, hKN⟩ : ∃ b : Bool, kntB x = b := ⟨_, rfl⟩
  rw [hBR] at HBR HEV
  rw [hKN] at HKN HEV
  clear hBR hKN
  have HFI : Hid (finB x = if x.kind = 5 then nameOk x.name && ordSL x.subs else if x.kind = 9 ∧ empB x.name = true then x.subs.isEmpty && ((x.n == 0) && empB x.value) else if x.kind ≤ 6 ∨ x.kind = 9 then locOk x.name x.subs else true) := rfl
  obtain ⟨kind, name, sv, xs, value, n⟩ := x
  obtain ⟨hn, ⟨hl, hz⟩, hv, _⟩ := hok
  obtain ⟨hs, _⟩ := h
  have HZ := Lib.hid hz; clear hz
  obtain ⟨A, c, hsx, hcx, _⟩ := id hs
  replace hsx : sv = .slice A xs.length c := hsx
  subst hsx
  clear hs
  simp only at hk5
  subst hk5
  simp only [EventV.cells] at HBR HKN HEV HFI hba ⊢
  generalize finB ⟨5, name, .slice A xs.length c, xs, value, n⟩ = FB at *
  have HWI := Lib.hid (fun W => l00InB_any 5 1 16 W)
  generalize inB3 5 1 16 = I at *
  have HNM := Lib.hid (fun W => l02Name_any name W hn)
  go_enter Tryz.func86, Tryz.ntmps86
  go_wp2_with fail
  refine (HWI.out _).mono ?_
  rintro e w1 ⟨rfl, rfl⟩
  cases I
  · go_wp2_with fail
    go_ret
    exact ⟨ret_bool (by rw [HEV.out]; rfl), hba⟩
  go_wp2_with fail
  refine (HBR.out _ HA.out).mono ?_
  rintro e w2 ⟨rfl, b2⟩
  have B2 := Lib.hid (below_trans hba b2)
  have C2 := Lib.hid (HCX.out.below b2)
  have A2 := Lib.hid (HA.out.on b2)
  clear b2 hba HA HCX
  cases BR
  · go_wp2_with fail
    go_ret
    exact ⟨ret_bool (by rw [HEV.out]; rfl), B2.out⟩
  obtain ⟨c0, c1, c2, c3, c4⟩ := EventV.five C2.out
  simp only at c0 c1 c2 c3 c4
  go_wp2_with fail
  refine (HKN.out _ A2.out).mono ?_
  rintro e w3 ⟨rfl, b3⟩
  have B3 := Lib.hid (below_trans B2.out b3)
  have C3 := Lib.hid (C2.out.below b3)
  have A3 := Lib.hid (A2.out.on b3)
  clear b3 B2 C2 A2 c0 c1 c2 c3 c4
  obtain ⟨c0, c1, c2, c3, c4⟩ := EventV.five C3.out
  simp only at c0 c1 c2 c3 c4
  have HS3 : Hid (StrsAt w3 w3.heap.size (.slice A xs.length c) xs) := A3.out.1
  cases KN
  · go_wp2_with fail
    go_ret
    exact ⟨ret_bool (by rw [HEV.out]; rfl), B3.out⟩
  have key : (((5 : Int) == 6) = true ∧ ((5 : Int) != 6) = false ∧ Hid ((5 : Int) = 6)) ∨ (((5 : Int) == 6) = false ∧ ((5 : Int) != 6) = true ∧ Hid (¬ (5 : Int) = 6)) := eqForms 5 6
  have HLL : Hid ((!(((5 : Int) != 6) && decide (64 < value.size))) = true → E = FB) := fun h => by rw [HEV.out, h]; rfl
  have HLF : Hid ((!(((5 : Int) != 6) && decide (64 < value.size))) = false → E = false) := fun h => by rw [HEV.out, h]; rfl
  clear HEV
  by_cases hbig : 64 < value.size ∧ ¬ (5 : Int) = 6
  · obtain ⟨hb1, hb2⟩ := hbig
    rcases key with ⟨k1, k2, k3⟩ | ⟨k1, k2, k3⟩
    · exact absurd k3.out hb2
    have HV := Lib.hid (HLF.out (by rw [k2, decide_eq_true hb1]; rfl))
    clear hb2 HLL HLF
    go_wp2_with fail
    go_ret
    exact ⟨ret_bool HV.out.symm, B3.out⟩
  have HV : Hid (E = FB) := HLL.out (by
    rcases key with ⟨k1, k2, k3⟩ | ⟨k1, k2, k3⟩
    · rw [k2]; rfl
    · rw [k2, decide_eq_false (fun h => hbig ⟨h, k3.out⟩)]; rfl)
  clear HLL HLF
  have hv64 : value.size ≤ 64 := by omega
  have HF : Hid (FB = (nameOk name && ordSL xs)) := by show _ = _; rw [HFI.out]; simp
  clear key HFI hbig
  obtain ⟨N, hN⟩ : ∃ N : Bool, nameOk name = N := ⟨_, rfl⟩
  rw [hN] at HNM HF
  clear hN
  cases N
  · go_wp2_with fail
    refine (HNM.out _).mono ?_
    rintro e w4 ⟨rfl, rfl⟩
    go_wp2_with fail
    go_ret
    exact ⟨ret_bool (by rw [HV.out, HF.out]; rfl), B3.out⟩
  rcases List.eq_nil_or_concat xs with rfl | ⟨zs, l, rfl⟩
  · go_wp2_with fail
    refine (HNM.out _).mono ?_
    rintro e w4 ⟨rfl, rfl⟩
    go_wp2_with fail
    go_ret
    exact ⟨ret_bool (by rw [HV.out, HF.out]; rfl), B3.out⟩
  · rw [List.concat_eq_append] at *
    rw [ordSL_snoc] at HF
    have HT3 : Hid (StrsAt w3 w3.heap.size (.slice A zs.length c) zs) := by
      have := HS3.out.take (m := zs.length) (by simp)
      rwa [List.take_left] at this
    have hcA : ∃ ad, A = some ad ∧ w3.cell? (ad.add zs.length) = some (.string l) := by
      obtain ⟨A', c', e', _, hr'⟩ := HS3.out
      injection e' with q1 _ _
      subst q1
      obtain ⟨ad, ha, _, hcl⟩ := hr'.strAt (k := zs.length) (by simp)
      exact ⟨ad, ha, by rw [show (zs ++ [l])[zs.length]'(by simp) = l by simp] at hcl; exact hcl⟩
    obtain ⟨ad, rfl, hcell⟩ := hcA
    have hlz : zs.length ≤ 1048575 := by simp at hl; omega
    have HSB := Lib.hid (l02Subs_any _ zs w3 _ HT3.out (by omega) (fun x hx => HZ.out x (List.mem_append.2 (.inl hx))))
    have hls : l.size ≤ 1048576 := HZ.out l (by simp)
    obtain ⟨S, hS⟩ : ∃ S : Bool, subsOkB zs = S := ⟨_, rfl⟩
    rw [hS] at HSB HF
    clear hS HT3 HS3 C3 A3
    have hlen : (zs ++ [l]).length = zs.length + 1 := by simp
    rw [hlen] at c2 hl hcx ⊢
    clear hlen
    obtain ⟨m, hm⟩ : ∃ m, zs.length = m := ⟨_, rfl⟩
    rw [hm] at c2 hl hcx hcell hlz HSB HF ⊢
    clear hm
    have w1 : IntKind.i64.wrap ((m : Int) + 1 - 1) = m := by rw [Int.add_sub_cancel]; exact IntWalk.i64_in _ (by omega)
    have j0 : (0 : Int) ≤ m := by omega
    have j1 : (m : Int) < (m : Int) + 1 := by omega
    by_cases h4 : m + 1 ≤ 4
    rotate_left
    · rw [decide_eq_false h4] at HF
      go_wp2_with fail
      refine (HNM.out _).mono ?_
      rintro e w4 ⟨rfl, rfl⟩
      go_wp2_with fail
      go_ret
      exact ⟨ret_bool (by rw [HV.out, HF.out]; rfl), B3.out⟩
    rw [decide_eq_true h4] at HF
    cases S
    · go_wp2_with fail
      refine (HNM.out _).mono ?_
      rintro e w4 ⟨rfl, rfl⟩
      go_wp2_with fail
      refine HSB.out.mono ?_
      rintro e w4 ⟨rfl, rfl⟩
      go_wp2_with fail
      go_ret
      exact ⟨ret_bool (by rw [HV.out, HF.out]; rfl), B3.out⟩
    · go_wp2_with fail
      refine (HNM.out _).mono ?_
      rintro e w4 ⟨rfl, rfl⟩
      go_wp2_with fail
      refine HSB.out.mono ?_
      rintro e w4 ⟨rfl, rfl⟩
      go_wp2_with fail
      go_ret
      exact ⟨ret_bool (by rw [HV.out, HF.out]; simp; omega), B3.out⟩

end Go.Proofs.YtjfdlbbfodomeaaGreatDoor
