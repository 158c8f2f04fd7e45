/- PageOk: spec's side, the page itself. -/
import Derived.Test.YtjedmpkjopgklaaGreatDoorPage3
namespace Go.Proofs.YtjedmpkjopgklaaGreatDoor
open Go.RowKit Go.ChangeShapes Go.WideShapes Go.ChangeAt Go.Deep
set_option linter.unusedVariables false

theorem sl00In_any (n a b : Int) (w : World) : Calls Tryz.prog 61 #[.int .i64 n, .int .i64 a, .int .i64 b] w fun e w' => e = .returned (.bool (inB3 n a b)) ∧ w = w' := l00In_any n a b w

/-- What the loop over the values says: none of the first seven is too long. -/
theorem any_drop_nil {α : Type} (xs : List α) (p : α → Bool) (k : Nat) (h : xs.length ≤ k) : (xs.drop k).any p = false := by rw [List.drop_eq_nil_of_le h]; rfl

set_option maxHeartbeats 2000000 in
set_option maxRecDepth 20000 in
theorem sPageOk_leaf (kv : Value) (ks : List ByteArray) (vv : Value) (vs : List ByteArray) (iv : Value) (is : List Int) (w : World) (h : PageV.At ⟨true, kv, ks, vv, vs, iv, is⟩ w) (hok : PageV.Ok ⟨true, kv, ks, vv, vs, iv, is⟩ 1048576) :
    Calls Tryz.prog 32 #[.agg #[.bool true, kv, vv, iv]] w fun e w' => e = .returned (.bool (pgB ⟨true, kv, ks, vv, vs, iv, is⟩)) ∧ Below w.heap.size w w' := by
  have hba : Below w.heap.size w (w.alloc (.cells #[.bool true, kv, vv, iv] 29)) := Joins.below_alloc1 w _
  have hA := Lib.hid (h.on hba)
  have HCX := Lib.hid (CellsAt.new w #[.bool true, kv, vv, iv] 29)
  obtain ⟨⟨hkl, hkz⟩, ⟨hvl, hvz⟩, hil, _⟩ := hok
  obtain ⟨h1, h2, h3, _⟩ := h
  have HKZ := Lib.hid hkz; have HVZ := Lib.hid hvz; clear hkz hvz
  obtain ⟨Ak, ck, e1, _, _⟩ := id h1
  replace e1 : kv = .slice Ak ks.length ck := e1
  subst e1
  obtain ⟨Av, cv, e2, _, _⟩ := id h2
  replace e2 : vv = .slice Av vs.length cv := e2
  subst e2
  obtain ⟨Ai, ci, e3, _, _⟩ := id h3
  replace e3 : iv = .slice Ai is.length ci := e3
  subst e3
  clear h1 h2 h3
  have HK := Lib.hid (l15Keys_any _ ks _ hA.out.1 hkl HKZ.out)
  have HV : Hid (pgB ⟨true, .slice Ak ks.length ck, ks, .slice Av vs.length cv, vs, .slice Ai is.length ci, is⟩ = (keysGo none ks && (decide (ks.length ≤ 6) && (decide (vs.length = ks.length) && (!(vs.any long64) && decide (is.length = 0)))))) := rfl
  obtain ⟨P, hP⟩ : ∃ P : Bool, pgB ⟨true, .slice Ak ks.length ck, ks, .slice Av vs.length cv, vs, .slice Ai is.length ci, is⟩ = P := ⟨_, rfl⟩
  rw [hP] at HV ⊢
  clear hP
  obtain ⟨K, hK⟩ : ∃ K : Bool, (decide (ks.length ≤ 6) && keysGo none ks) = K := ⟨_, rfl⟩
  rw [hK] at HK
  have HV2 : Hid (P = (K && (decide (vs.length = ks.length) && (!(vs.any long64) && decide (is.length = 0))))) := by
    show _ = _
    rw [HV.out, ← hK]
    cases keysGo none ks <;> cases decide (ks.length ≤ 6) <;> rfl
  have HKD : Hid (K = true → ks.length ≤ 6) := fun h => by rw [← hK, Bool.and_eq_true] at h; exact of_decide_eq_true h.1
  clear hK HV
  go_enter Tryz.func32, Tryz.ntmps32
  go_wp2_with fail
  refine HK.out.mono ?_
  rintro e w2 ⟨rfl, b2⟩
  have B2 := Lib.hid (below_trans hba b2)
  have C2 := Lib.hid (HCX.out.below b2)
  have A2 := Lib.hid (hA.out.on b2)
  clear b2 hba hA HCX HK
  have c0 : w2.cell? ⟨w.heap.size, 0, none⟩ = some (.bool true) := C2.out.2 0 _ rfl
  have c1 : w2.cell? ⟨w.heap.size, 1, none⟩ = some (.slice Ak ks.length ck) := C2.out.2 1 _ rfl
  have c2 : w2.cell? ⟨w.heap.size, 2, none⟩ = some (.slice Av vs.length cv) := C2.out.2 2 _ rfl
  have c3 : w2.cell? ⟨w.heap.size, 3, none⟩ = some (.slice Ai is.length ci) := C2.out.2 3 _ rfl
  clear C2
  cases K
  · go_wp2_with fail
    go_ret
    exact ⟨ret_bool (by rw [HV2.out]; rfl), B2.out⟩
  have HK6 := Lib.hid (HKD.out rfl); clear HKD
  obtain ⟨_, _, q1, _, hr⟩ := id A2.out.2.1
  injection q1 with q1 _ _
  subst q1
  replace hr : Reads w2 w2.heap.size 1 Av vs.length (strVs vs) := hr
  have HR := Lib.hid hr; clear hr
  go_wp2_with fail
  go_loop [3] (fun i => ∃ k : Nat, k ≤ vs.length ∧ k ≤ 7 ∧ i = .int .i64 k ∧ Hid (vs.any long64 = (vs.drop k).any long64)) (fun i => vs.length - (intOf i).toNat)
  case atStart => exact ⟨0, Nat.zero_le _, by omega, rfl, rfl⟩
  case round =>
    obtain ⟨k, hk, hk7, rfl, HI⟩ := hrel
    by_cases hgo : k < vs.length ∧ k ≤ 6
    · obtain ⟨hlt, hk6⟩ := hgo
      obtain ⟨ad, rfl, _, hcell⟩ := HR.out.strAt hlt
      have HD := Lib.hid (List.drop_eq_getElem_cons hlt)
      have hzx := HVZ.out _ (List.getElem_mem hlt)
      generalize vs[k] = x at *
      by_cases hx : 64 < x.size
      · have HL : Hid (long64 x = true) := decide_eq_true hx
        go_wp2_with fail
        go_ret
        exact ⟨ret_bool (by rw [HV2.out, HI.out, HD.out, List.any_cons, HL.out]; simp), B2.out⟩
      · have HL : Hid (long64 x = false) := decide_eq_false hx
        go_wp2_with fail
        exact ⟨⟨k + 1, by omega, by omega, by go_num, by show _ = _; rw [HI.out, HD.out, List.any_cons, HL.out, Bool.false_or]⟩, by simp [intOf]; omega⟩
    · rcases natForms vs.length ks.length with ⟨a1, a2, a3, a4, a5⟩ | ⟨a1, a2, a3, a4, a5⟩
      rotate_left
      · by_cases hlt : k < vs.length
        · have hk6 : ¬ k ≤ 6 := by omega
          go_wp2_with fail
          go_ret
          exact ⟨ret_bool (by rw [HV2.out, a5.out]; simp), B2.out⟩
        · go_wp2_with fail
          go_ret
          exact ⟨ret_bool (by rw [HV2.out, a5.out]; simp), B2.out⟩
      · have hve := of_decide_eq_true a5.out
        have hkl : ¬ k < vs.length := by have := HK6.out; omega
        have HN : Hid (vs.any long64 = false) := by show _ = _; rw [HI.out]; exact any_drop_nil _ _ _ (by omega)
        clear hve
        rcases zeroForms is.length with ⟨b1, b2, b5⟩ | ⟨b1, b2, b5⟩
        all_goals
          go_wp2_with fail
          go_ret
          exact ⟨ret_bool (by rw [HV2.out, a5.out, HN.out, b5.out]; rfl), B2.out⟩

set_option maxHeartbeats 2000000 in
set_option maxRecDepth 20000 in
theorem sPageOk_inner (kv : Value) (ks : List ByteArray) (vv : Value) (vs : List ByteArray) (iv : Value) (is : List Int) (w : World) (h : PageV.At ⟨false, kv, ks, vv, vs, iv, is⟩ w) (hok : PageV.Ok ⟨false, kv, ks, vv, vs, iv, is⟩ 1048576) :
    Calls Tryz.prog 32 #[.agg #[.bool false, kv, vv, iv]] w fun e w' => e = .returned (.bool (pgB ⟨false, kv, ks, vv, vs, iv, is⟩)) ∧ Below w.heap.size w w' := by
  have hba : Below w.heap.size w (w.alloc (.cells #[.bool false, kv, vv, iv] 29)) := Joins.below_alloc1 w _
  have hA := Lib.hid (h.on hba)
  have HCX := Lib.hid (CellsAt.new w #[.bool false, kv, vv, iv] 29)
  obtain ⟨⟨hkl, hkz⟩, ⟨hvl, hvz⟩, hil, _⟩ := hok
  obtain ⟨h1, h2, h3, _⟩ := h
  have HKZ := Lib.hid hkz; clear hkz hvz
  obtain ⟨Ak, ck, e1, _, _⟩ := id h1
  replace e1 : kv = .slice Ak ks.length ck := e1
  subst e1
  obtain ⟨Av, cv, e2, _, _⟩ := id h2
  replace e2 : vv = .slice Av vs.length cv := e2
  subst e2
  obtain ⟨Ai, ci, e3, _, _⟩ := id h3
  replace e3 : iv = .slice Ai is.length ci := e3
  subst e3
  clear h1 h2 h3
  have HK := Lib.hid (l15Keys_any _ ks _ hA.out.1 hkl HKZ.out)
  have HV : Hid (pgB ⟨false, .slice Ak ks.length ck, ks, .slice Av vs.length cv, vs, .slice Ai is.length ci, is⟩ = (keysGo none ks && (inB3 is.length 2 6 && (decide (ks.length + 1 = is.length) && (decide (vs.length = 0) && !(is.any kidB)))))) := rfl
  obtain ⟨P, hP⟩ : ∃ P : Bool, pgB ⟨false, .slice Ak ks.length ck, ks, .slice Av vs.length cv, vs, .slice Ai is.length ci, is⟩ = P := ⟨_, rfl⟩
  rw [hP] at HV ⊢
  clear hP
  obtain ⟨K, hK⟩ : ∃ K : Bool, (decide (ks.length ≤ 6) && keysGo none ks) = K := ⟨_, rfl⟩
  rw [hK] at HK
  have HV2 : Hid (P = (K && (inB3 is.length 2 6 && (decide (ks.length + 1 = is.length) && (decide (vs.length = 0) && !(is.any kidB)))))) := by
    show _ = _
    rw [HV.out, ← hK]
    by_cases h6 : ks.length ≤ 6
    · rw [decide_eq_true h6, Bool.true_and]
    · have : (inB3 is.length 2 6 && (decide (ks.length + 1 = is.length) && (decide (vs.length = 0) && !(is.any kidB)))) = false := by
        rw [Bool.and_eq_false_iff, Bool.and_eq_false_iff]
        by_cases h7 : ks.length + 1 = is.length
        · left; exact decide_eq_false (by omega)
        · right; left; exact decide_eq_false h7
      rw [this, Bool.and_false, Bool.and_false]
  clear hK HV
  go_enter Tryz.func32, Tryz.ntmps32
  go_wp2_with fail
  refine HK.out.mono ?_
  rintro e w2 ⟨rfl, b2⟩
  have B2 := Lib.hid (below_trans hba b2)
  have C2 := Lib.hid (HCX.out.below b2)
  have A2 := Lib.hid (hA.out.on b2)
  clear b2 hba hA HCX HK
  have c0 : w2.cell? ⟨w.heap.size, 0, none⟩ = some (.bool false) := C2.out.2 0 _ rfl
  have c1 : w2.cell? ⟨w.heap.size, 1, none⟩ = some (.slice Ak ks.length ck) := C2.out.2 1 _ rfl
  have c2 : w2.cell? ⟨w.heap.size, 2, none⟩ = some (.slice Av vs.length cv) := C2.out.2 2 _ rfl
  have c3 : w2.cell? ⟨w.heap.size, 3, none⟩ = some (.slice Ai is.length ci) := C2.out.2 3 _ rfl
  clear C2
  cases K
  · go_wp2_with fail
    go_ret
    exact ⟨ret_bool (by rw [HV2.out]; rfl), B2.out⟩
  obtain ⟨_, _, q1, _, hr⟩ := id A2.out.2.2.1
  injection q1 with q1 _ _
  subst q1
  replace hr : Reads w2 w2.heap.size 1 Ai is.length (intVs is) := hr
  have HR := Lib.hid hr; clear hr
  go_wp2_with fail
  go_loop [4] (fun i => ∃ k : Nat, k ≤ is.length ∧ k ≤ 7 ∧ i = .int .i64 k ∧ Hid (is.any kidB = (is.drop k).any kidB)) (fun i => is.length - (intOf i).toNat)
  case atStart => exact ⟨0, Nat.zero_le _, by omega, rfl, rfl⟩
  case round =>
    obtain ⟨k, hk, hk7, rfl, HI⟩ := hrel
    by_cases hgo : k < is.length ∧ k ≤ 6
    · obtain ⟨hlt, hk6⟩ := hgo
      obtain ⟨ad, rfl, _, hcell⟩ := HR.out.intAt hlt
      have HD := Lib.hid (List.drop_eq_getElem_cons hlt)
      generalize is[k] = x at *
      have HIN := Lib.hid (fun W => sl00In_any x 1 64 W)
      obtain ⟨I, hI⟩ : ∃ I : Bool, inB3 x 1 64 = I := ⟨_, rfl⟩
      rw [hI] at HIN
      have HL : Hid (kidB x = !I) := by show _ = _; rw [← hI]; rfl
      clear hI
      cases I
      · go_wp2_with fail
        refine (HIN.out _).mono ?_
        rintro e w3 ⟨rfl, rfl⟩
        go_wp2_with fail
        go_ret
        exact ⟨ret_bool (by rw [HV2.out, HI.out, HD.out, List.any_cons, HL.out]; simp), B2.out⟩
      · go_wp2_with fail
        refine (HIN.out _).mono ?_
        rintro e w3 ⟨rfl, rfl⟩
        go_wp2_with fail
        exact ⟨⟨k + 1, by omega, by omega, by go_num, by show _ = _; rw [HI.out, HD.out, List.any_cons, HL.out]; rfl⟩, by simp [intOf]; omega⟩
    · have HIN := Lib.hid (fun W => sl00In_any (is.length : Int) 2 6 W)
      obtain ⟨I, hI⟩ : ∃ I : Bool, inB3 is.length 2 6 = I := ⟨_, rfl⟩
      have HI26 : Hid (I = true → 2 ≤ is.length ∧ is.length ≤ 6) := fun h => by rw [← hI] at h; have := of_decide_eq_true h; omega
      rw [hI] at HIN HV2
      clear hI
      have HXX : Hid (I = true → is.any kidB = false) := fun h => by rw [HI.out]; exact any_drop_nil _ _ _ (by have := HI26.out h; omega)
      cases I
      · by_cases hlt : k < is.length
        · have hk6 : ¬ k ≤ 6 := by omega
          go_wp2_with fail
          refine (HIN.out _).mono ?_
          rintro e w3 ⟨rfl, rfl⟩
          go_wp2_with fail
          go_ret
          exact ⟨ret_bool (by rw [HV2.out]; rfl), B2.out⟩
        · go_wp2_with fail
          refine (HIN.out _).mono ?_
          rintro e w3 ⟨rfl, rfl⟩
          go_wp2_with fail
          go_ret
          exact ⟨ret_bool (by rw [HV2.out]; rfl), B2.out⟩
      · have h26 := HI26.out rfl
        have hlt : ¬ k < is.length := by omega
        have HN := Lib.hid (HXX.out rfl)
        clear HI26 HXX
        obtain ⟨m, hm⟩ : ∃ m, is.length = m + 1 := ⟨is.length - 1, by omega⟩
        have HMM := Lib.hid hm
        have hmk : ((is.length : Int) - 1) = m := by omega
        have hm6 : (m : Int) ≤ 6 := by omega
        have HE : Hid (decide (ks.length + 1 = is.length) = decide (ks.length = m)) := by show _ = _; rw [decide_eq_decide]; omega
        clear hm
        rcases natForms ks.length m with ⟨a1, a2, a3, a4, a5⟩ | ⟨a1, a2, a3, a4, a5⟩
        rotate_left
        · go_wp2_with fail
          refine (HIN.out _).mono ?_
          rintro e w3 ⟨rfl, rfl⟩
          go_wp2_with fail
          go_ret
          exact ⟨ret_bool (by rw [HV2.out, HE.out, a5.out]; rfl), B2.out⟩
        · rcases zeroForms vs.length with ⟨b1, b2, b5⟩ | ⟨b1, b2, b5⟩
          all_goals
            go_wp2_with fail
            refine (HIN.out _).mono ?_
            rintro e w3 ⟨rfl, rfl⟩
            go_wp2_with fail
            go_ret
            exact ⟨ret_bool (by rw [HV2.out, HE.out, a5.out, b5.out, HN.out]; rfl), B2.out⟩

theorem sPageOk_any (x : PageV) (w : World) (h : x.At w) (hok : x.Ok 1048576) : Calls Tryz.prog 32 #[.agg x.cells] w fun e w' => e = .returned (.bool (pgB x)) ∧ Below w.heap.size w w' := by
  obtain ⟨lf, kv, ks, vv, vs, iv, is⟩ := x
  cases lf
  · exact sPageOk_inner kv ks vv vs iv is w h hok
  · exact sPageOk_leaf kv ks vv vs iv is w h hok

end Go.Proofs.YtjedmpkjopgklaaGreatDoor
