/- PageOk: impl's side. -/
import Derived.Test.YtjedmpkjopgklaaGreatDoorPage
import Derived.Test.YtjedmpkjopgklaaGreatDoorKeys
import Derived.Test.YtjedmpkjopgklaaGreatDoorUnOp
import Derived.Test.YtjedmpkjopgklaaGreatDoorEventOk
namespace Go.Proofs.YtjedmpkjopgklaaGreatDoor
open Go.RowKit Go.ChangeShapes Go.WideShapes Go.ChangeAt Go.Deep
set_option linter.unusedVariables false

def idxI (p : Int → Bool) : List Int → Int
  | [] => -1
  | x :: r => if p x = true then 0 else if idxI p r < 0 then -1 else idxI p r + 1

theorem idxI_ge (p : Int → Bool) : ∀ xs, -1 ≤ idxI p xs
  | [] => by simp [idxI]
  | x :: r => by
    have := idxI_ge p r
    unfold idxI
    split
    · omega
    · split <;> omega

theorem idxI_any (p : Int → Bool) : ∀ xs, decide (0 ≤ idxI p xs) = xs.any p
  | [] => rfl
  | x :: r => by
    have ih := idxI_any p r
    have hg := idxI_ge p r
    rw [List.any_cons, ← ih, show idxI p (x :: r) = if p x = true then 0 else if idxI p r < 0 then -1 else idxI p r + 1 from rfl]
    cases hp : p x
    · simp only [Bool.false_eq_true, if_false, Bool.false_or]
      rw [decide_eq_decide]
      split <;> omega
    · simp

def kidB (z : Int) : Bool := !(inB3 z 1 64)

theorem PageOk1_any (z : Int) (w : World) : Calls Tryz.prog 66 #[.int .i64 z] w fun e w' => e = .returned (.bool (kidB z)) ∧ w = w' := by
  have HV : Hid (kidB z = !(inB3 z 1 64)) := rfl
  have HW := Lib.hid (within_any z 1 64 w)
  generalize inB3 z 1 64 = I at *
  go_enter Tryz.func66, Tryz.ntmps66
  go_wp2_with fail
  refine HW.out.mono ?_
  rintro e w' ⟨rfl, rfl⟩
  cases I
  all_goals
    go_wp2_with fail
    go_ret
    exact ⟨ret_bool (by rw [HV.out]; rfl), rfl⟩

theorem IndexKids_any (v : Value) (xs : List Int) (w : World) (B : Nat) (h : IntsAt w B v xs) (hl : xs.length ≤ 1048576) :
    Calls Tryz.prog 108 #[v, .func (.func 66) #[] #[]] w fun e w' => e = .returned (.int .i64 (idxI kidB xs)) ∧ w = w' := by
  obtain ⟨A, c, rfl, hc, hr⟩ := h
  go_enter Tryz.func108, Tryz.ntmps108
  go_wp2
  go_loop [5, 8] (fun _ i => ∃ k : Nat, k ≤ xs.length ∧ i = .int .i64 k ∧ idxI kidB xs = if idxI kidB (xs.drop k) < 0 then -1 else idxI kidB (xs.drop k) + k) (fun _ i => xs.length - (intOf i).toNat)
  case atStart => exact ⟨0, Nat.zero_le _, rfl, by have := idxI_ge kidB xs; simp; omega⟩
  case round =>
    obtain ⟨k, hk, rfl, hinv⟩ := hrel
    have HI := Lib.hid hinv; clear hinv
    by_cases hlt : k < xs.length
    · obtain ⟨ad, rfl, _, hcell⟩ := hr.intAt hlt
      have HD := Lib.hid (List.drop_eq_getElem_cons hlt)
      generalize xs[k] = x at *
      go_wp2_with fail
      refine (PageOk1_any x _).mono ?_
      rintro e w' ⟨rfl, rfl⟩
      cases hb : kidB x
      · go_wp2_with fail
        refine ⟨⟨k + 1, by omega, by go_num, ?_⟩, by simp [intOf]; omega⟩
        rw [HI.out, HD.out]
        have := idxI_ge kidB (xs.drop (k + 1))
        simp only [idxI, hb, Bool.false_eq_true, if_false]
        generalize idxI kidB (xs.drop (k + 1)) = z at *
        by_cases hz : z < 0
        · rw [if_pos hz, if_pos hz, if_pos (by omega)]
        · rw [if_neg hz, if_neg hz, if_neg (by omega)]; omega
      · go_wp2_with fail
        go_ret
        exact ⟨ret_int (by rw [HI.out, HD.out]; simp [idxI, hb]), rfl⟩
    · go_wp2
      go_ret
      exact ⟨ret_int (by rw [HI.out, List.drop_eq_nil_of_le (by omega)]; rfl), rfl⟩

theorem ContainsKids_any (v : Value) (xs : List Int) (w : World) (B : Nat) (h : IntsAt w B v xs) (hl : xs.length ≤ 1048576) :
    Calls Tryz.prog 65 #[v, .func (.func 66) #[] #[]] w fun e w' => e = .returned (.bool (xs.any kidB)) ∧ w = w' := by
  have HI := Lib.hid (IndexKids_any v xs w B h hl)
  go_enter Tryz.func65, Tryz.ntmps65
  go_wp2_with fail
  refine HI.out.mono ?_
  rintro e w' ⟨rfl, rfl⟩
  go_wp2_with fail
  go_ret
  exact ⟨ret_bool (idxI_any kidB xs), rfl⟩

theorem count_any (A : Option Addr) (n c : Nat) (w : World) (hn : n ≤ 1048576) : Calls Tryz.prog 64 #[.slice A n c] w fun e w' => e = .returned (.int .i64 n) ∧ w = w' := by
  go_enter Tryz.func64, Tryz.ntmps64
  go_wp2
  go_ret
  exact ⟨rfl, rfl⟩

def leafB (x : PageV) : Bool := decide (x.keys.length ≤ 6) && (decide (x.vals.length = x.keys.length) && (!(x.vals.any long64) && decide (x.kids.length = 0)))

def innB (x : PageV) : Bool := inB3 x.kids.length 2 6 && (decide (x.keys.length + 1 = x.kids.length) && (decide (x.vals.length = 0) && !(x.kids.any kidB)))

def pgB (x : PageV) : Bool := keysGo none x.keys && (if x.leaf = true then leafB x else innB x)

theorem natForms (a b : Nat) : (((a : Int) == (b : Int)) = true ∧ (a == b) = true ∧ ((a : Int) != (b : Int)) = false ∧ (a != b) = false ∧ Hid (decide (a = b) = true)) ∨ (((a : Int) == (b : Int)) = false ∧ (a == b) = false ∧ ((a : Int) != (b : Int)) = true ∧ (a != b) = true ∧ Hid (decide (a = b) = false)) := by
  by_cases h : a = b
  · subst h; exact .inl ⟨by simp, by simp, by simp, by simp, decide_eq_true rfl⟩
  · have h2 : ¬ (a : Int) = b := by omega
    exact .inr ⟨by simp [h2], by simp [h], by simp [h2], by simp [h], decide_eq_false h⟩

theorem zeroForms (a : Nat) : (((a : Int) == 0) = true ∧ (a == 0) = true ∧ Hid (decide (a = 0) = true)) ∨ (((a : Int) == 0) = false ∧ (a == 0) = false ∧ Hid (decide (a = 0) = false)) := by
  by_cases h : a = 0
  · subst h; exact .inl ⟨rfl, rfl, rfl⟩
  · have h2 : ¬ (a : Int) = 0 := by omega
    exact .inr ⟨by simp [h], by simp [h], decide_eq_false h⟩

set_option maxHeartbeats 2000000 in
set_option maxRecDepth 20000 in
theorem PageOk_any (x : PageV) (w : World) (hT : T10 w) (hml : ML w) (h : x.At w) (hok : x.Ok 1048576) : Calls Tryz.prog 33 #[.agg x.cells] w fun e w' => e = .returned (.bool (pgB x)) ∧ Below w.heap.size w w' := by
  have hba : Below w.heap.size w (w.alloc (.cells x.cells 29)) := Joins.below_alloc1 w _
  have hA := Lib.hid (h.on hba)
  have HTA := Lib.hid (hT.below hba); have HMA := Lib.hid (hml.below hba); clear hT hml
  have HCX := Lib.hid (CellsAt.new w x.cells 29)
  obtain ⟨lf, kv, ks, vv, vs, iv, is⟩ := x
  obtain ⟨⟨hkl, hkz⟩, ⟨hvl, hvz⟩, hil, _⟩ := hok
  obtain ⟨h1, h2, h3, _⟩ := h
  have HKZ := Lib.hid hkz; have HVZ := Lib.hid hvz; clear hkz hvz
  obtain ⟨Ak, ck, e1, _, _⟩ := id h1
  replace e1 : kv = .slice Ak ks.length ck := e1
  subst e1
  obtain ⟨Av, cv, e2, _, _⟩ := id h2
  replace e2 : vv = .slice Av vs.length cv := e2
  subst e2
  obtain ⟨Ai, ci, e3, _, _⟩ := id h3
  replace e3 : iv = .slice Ai is.length ci := e3
  subst e3
  clear h1 h2 h3
  simp only [PageV.cells] at hba HCX ⊢
  have HK := Lib.hid (keysOk_any _ ks _ HTA.out HMA.out hA.out.1 hkl HKZ.out)
  obtain ⟨K, hK⟩ : ∃ K : Bool, keysGo none ks = K := ⟨_, rfl⟩
  have HV : Hid (pgB ⟨lf, .slice Ak ks.length ck, ks, .slice Av vs.length cv, vs, .slice Ai is.length ci, is⟩ = (keysGo none ks && (if lf = true then (decide (ks.length ≤ 6) && (decide (vs.length = ks.length) && (!(vs.any long64) && decide (is.length = 0)))) else (inB3 is.length 2 6 && (decide (ks.length + 1 = is.length) && (decide (vs.length = 0) && !(is.any kidB))))))) := rfl
  obtain ⟨P, hP⟩ : ∃ P : Bool, pgB ⟨lf, .slice Ak ks.length ck, ks, .slice Av vs.length cv, vs, .slice Ai is.length ci, is⟩ = P := ⟨_, rfl⟩
  rw [hP] at HV ⊢
  rw [hK] at HK HV
  clear hK hP
  go_enter Tryz.func33, Tryz.ntmps33
  go_wp2_with fail
  refine HK.out.mono ?_
  rintro e w2 ⟨rfl, b2⟩
  have B2 := Lib.hid (below_trans hba b2)
  have C2 := Lib.hid (HCX.out.below b2)
  have A2 := Lib.hid (hA.out.on b2)
  clear b2 hba hA HCX HK HTA HMA
  cases K
  · go_wp2_with fail
    go_ret
    exact ⟨ret_bool (by rw [HV.out]; rfl), B2.out⟩
  have c0 : w2.cell? ⟨w.heap.size, 0, none⟩ = some (.bool lf) := C2.out.2 0 _ rfl
  have c1 : w2.cell? ⟨w.heap.size, 1, none⟩ = some (.slice Ak ks.length ck) := C2.out.2 1 _ rfl
  have c2 : w2.cell? ⟨w.heap.size, 2, none⟩ = some (.slice Av vs.length cv) := C2.out.2 2 _ rfl
  have c3 : w2.cell? ⟨w.heap.size, 3, none⟩ = some (.slice Ai is.length ci) := C2.out.2 3 _ rfl
  clear C2
  cases lf
  · have HI : Hid (P = (inB3 is.length 2 6 && (decide (ks.length + 1 = is.length) && (decide (vs.length = 0) && !(is.any kidB))))) := HV.out
    clear HV
    have HW := Lib.hid (fun W => within_any (is.length : Int) 2 6 W)
    have HCN := Lib.hid (fun W => count_any Ai is.length ci W hil)
    obtain ⟨I, hI⟩ : ∃ I : Bool, inB3 is.length 2 6 = I := ⟨_, rfl⟩
    have HCK := Lib.hid (ContainsKids_any _ is w2 _ A2.out.2.2.1 hil)
    generalize is.any kidB = KB at *
    rw [hI] at HW HI
    cases I
    · clear hI
      go_wp2_with fail
      refine (HCN.out _).mono ?_
      rintro e w3 ⟨rfl, rfl⟩
      go_wp2_with fail
      refine (HW.out _).mono ?_
      rintro e w3 ⟨rfl, rfl⟩
      go_wp2_with fail
      go_ret
      exact ⟨ret_bool (by rw [HI.out]; rfl), B2.out⟩
    · have hi2 : 2 ≤ is.length := by unfold inB3 at hI; have := of_decide_eq_true hI; omega
      clear hI
      obtain ⟨m, hm⟩ : ∃ m, is.length = m + 1 := ⟨is.length - 1, by omega⟩
      rw [hm] at HI c3 HW HCN HCK hil hi2
      have HMM := Lib.hid hm; clear hm
      have wm : IntKind.i64.wrap (((m + 1 : Nat) : Int) - 1) = m := by rw [show ((m + 1 : Nat) : Int) - 1 = m by omega]; exact IntWalk.i64_in _ (by omega)
      have wm2 : IntKind.i64.wrap ((m : Int) + 1 - 1) = m := by rw [Int.add_sub_cancel]; exact IntWalk.i64_in _ (by omega)
      have HI2 : Hid (P = (decide (ks.length = m) && (decide (vs.length = 0) && !KB))) := by
        show _ = _
        rw [HI.out, show decide (ks.length + 1 = m + 1) = decide (ks.length = m) by rw [decide_eq_decide]; omega]; rfl
      clear HI
      have HCN2 : Hid (∀ W, Calls Tryz.prog 64 #[.slice Ai (m + 1) ci] W fun e w' => e = .returned (.int .i64 ((m : Int) + 1)) ∧ W = w') := fun W => by have := HCN.out W; simpa using this
      have HW2 : Hid (∀ W, Calls Tryz.prog 63 #[.int .i64 ((m : Int) + 1), .int .i64 2, .int .i64 6] W fun e w' => e = .returned (.bool true) ∧ W = w') := fun W => by have := HW.out W; simpa using this
      clear HCN HW
      rcases natForms ks.length m with ⟨a1, a2, a3, a4, a5⟩ | ⟨a1, a2, a3, a4, a5⟩
      rotate_left
      · rw [a5.out] at HI2
        go_wp2_with fail
        refine (HCN2.out _).mono ?_
        rintro e w3 ⟨rfl, rfl⟩
        go_wp2_with fail
        refine (HW2.out _).mono ?_
        rintro e w3 ⟨rfl, rfl⟩
        go_wp2_with fail
        go_ret
        exact ⟨ret_bool (by rw [HI2.out]; rfl), B2.out⟩
      rw [a5.out] at HI2
      rcases natForms vs.length 0 with ⟨b1, b2, b3, b4, b5⟩ | ⟨b1, b2, b3, b4, b5⟩
      rotate_left
      · rw [b5.out] at HI2
        go_wp2_with fail
        refine (HCN2.out _).mono ?_
        rintro e w3 ⟨rfl, rfl⟩
        go_wp2_with fail
        refine (HW2.out _).mono ?_
        rintro e w3 ⟨rfl, rfl⟩
        go_wp2_with fail
        go_ret
        exact ⟨ret_bool (by rw [HI2.out]; rfl), B2.out⟩
      rw [b5.out] at HI2
      go_wp2_with fail
      refine (HCN2.out _).mono ?_
      rintro e w3 ⟨rfl, rfl⟩
      go_wp2_with fail
      refine (HW2.out _).mono ?_
      rintro e w3 ⟨rfl, rfl⟩
      go_wp2_with fail
      refine HCK.out.mono ?_
      rintro e w3 ⟨rfl, rfl⟩
      cases KB
      all_goals
        go_wp2_with fail
        go_ret
        exact ⟨ret_bool (by rw [HI2.out]; rfl), B2.out⟩
  · have HI : Hid (P = (decide (ks.length ≤ 6) && (decide (vs.length = ks.length) && (!(vs.any long64) && decide (is.length = 0))))) := HV.out
    clear HV
    have HLG := Lib.hid (long_any _ vs w2 _ A2.out.2.1 hvl HVZ.out)
    generalize vs.any long64 = LG at *
    by_cases h6 : ks.length ≤ 6
    rotate_left
    · rw [decide_eq_false h6] at HI
      go_wp2_with fail
      go_ret
      exact ⟨ret_bool (by rw [HI.out]; rfl), B2.out⟩
    rw [decide_eq_true h6] at HI
    rcases natForms vs.length ks.length with ⟨a1, a2, a3, a4, a5⟩ | ⟨a1, a2, a3, a4, a5⟩
    rotate_left
    · rw [a5.out] at HI
      go_wp2_with fail
      go_ret
      exact ⟨ret_bool (by rw [HI.out]; rfl), B2.out⟩
    rw [a5.out] at HI
    cases LG
    rotate_left
    · go_wp2_with fail
      refine HLG.out.mono ?_
      rintro e w3 ⟨rfl, rfl⟩
      go_wp2_with fail
      go_ret
      exact ⟨ret_bool (by rw [HI.out]; rfl), B2.out⟩
    rcases zeroForms is.length with ⟨b1, b2, b5⟩ | ⟨b1, b2, b5⟩
    all_goals
      rw [b5.out] at HI
      go_wp2_with fail
      refine HLG.out.mono ?_
      rintro e w3 ⟨rfl, rfl⟩
      go_wp2_with fail
      go_ret
      exact ⟨ret_bool (by rw [HI.out]; rfl), B2.out⟩

end Go.Proofs.YtjedmpkjopgklaaGreatDoor
