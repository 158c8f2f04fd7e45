/- FindKey: both sides. -/
import Derived.Test.YtjedmpkjopgklaaGreatDoorFindKey
namespace Go.Proofs.YtjedmpkjopgklaaGreatDoor
open Go.RowKit Go.ChangeShapes Go.WideShapes Go.ChangeAt Go.Deep
set_option linter.unusedVariables false

def fkN (leaf : Bool) (xs : List ByteArray) (t : ByteArray) : Int := if leaf = false ∧ hasK xs t = true then (lowN xs t : Int) + 1 else lowN xs t

theorem lowN_le (xs : List ByteArray) (t : ByteArray) : lowN xs t ≤ xs.length := List.Sublist.length_le (List.takeWhile_sublist _)

theorem ret_ib {a b : Int} {p q : Bool} (h : a = b) (h2 : p = q) : Ending.returned (.tuple #[.int .i64 a, .bool p]) = .returned (.tuple #[.int .i64 b, .bool q]) := by rw [h, h2]

set_option maxHeartbeats 1000000 in
set_option maxRecDepth 8000 in
theorem find_any (leaf : Bool) (kv : Value) (ks : List ByteArray) (vv : Value) (vs : List ByteArray) (iv : Value) (is : List Int) (t : ByteArray) (w : World) (h : PageV.At ⟨leaf, kv, ks, vv, vs, iv, is⟩ w) (hl : ks.length ≤ 1048576) (hs : Sorted ks) :
    Calls Tryz.prog 37 #[.agg #[.bool leaf, kv, vv, iv], .string t] w fun e w' => e = .returned (.tuple #[.int .i64 (fkN leaf ks t), .bool (hasK ks t)]) ∧ Below w.heap.size w w' := by
  have hba : Below w.heap.size w (w.alloc (.cells #[.bool leaf, kv, vv, iv] 29)) := Joins.below_alloc1 w _
  have hA := Lib.hid (h.on hba)
  obtain ⟨h1, h2, h3, _⟩ := h
  obtain ⟨Ak, ck, e1, _, _⟩ := id h1
  replace e1 : kv = .slice Ak ks.length ck := e1
  subst e1
  obtain ⟨Av, cv, e2, _, _⟩ := id h2
  replace e2 : vv = .slice Av vs.length cv := e2
  subst e2
  obtain ⟨Ai, ci, e3, _, _⟩ := id h3
  replace e3 : iv = .slice Ai is.length ci := e3
  subst e3
  clear h1 h2 h3
  have HB := Lib.hid (BinarySearch_any _ ks t _ _ hA.out.1 hl hs)
  have hln := lowN_le ks t
  have HF : Hid (fkN leaf ks t = if leaf = false ∧ hasK ks t = true then (lowN ks t : Int) + 1 else lowN ks t) := rfl
  unfold GotSearch at HB
  generalize fkN leaf ks t = F at *
  generalize lowN ks t = n at *
  generalize hasK ks t = H at *
  have hn : (n : Int) ≤ 1048576 := by omega
  clear hs hA
  cases leaf <;> cases H
  all_goals
    go_enter Tryz.func37, Tryz.ntmps37
    go_wp2_with fail
    refine HB.out.mono ?_
    rintro e w' ⟨rfl, rfl⟩
    go_wp2_with fail
    go_ret2
    exact ⟨ret_ib (by rw [HF.out]; simp) rfl, hba⟩

set_option maxHeartbeats 2000000 in
set_option maxRecDepth 8000 in
theorem l15Find_any (leaf : Bool) (kv : Value) (ks : List ByteArray) (vv : Value) (vs : List ByteArray) (iv : Value) (is : List Int) (t : ByteArray) (w : World) (h : PageV.At ⟨leaf, kv, ks, vv, vs, iv, is⟩ w) (hl : ks.length ≤ 1048576) :
    Calls Tryz.prog 35 #[.agg #[.bool leaf, kv, vv, iv], .string t] w fun e w' => e = .returned (.tuple #[.int .i64 (fkN leaf ks t), .bool (hasK ks t)]) ∧ Below w.heap.size w w' := by
  have hba : Below w.heap.size w (w.alloc (.cells #[.bool leaf, kv, vv, iv] 29)) := Joins.below_alloc1 w _
  have hA := Lib.hid (h.on hba)
  have hC := CellsAt.new w #[.bool leaf, kv, vv, iv] 29
  obtain ⟨h1, h2, h3, _⟩ := h
  obtain ⟨Ak, ck, e1, _, _⟩ := id h1
  replace e1 : kv = .slice Ak ks.length ck := e1
  subst e1
  obtain ⟨Av, cv, e2, _, _⟩ := id h2
  replace e2 : vv = .slice Av vs.length cv := e2
  subst e2
  obtain ⟨Ai, ci, e3, _, _⟩ := id h3
  replace e3 : iv = .slice Ai is.length ci := e3
  subst e3
  clear h1 h2 h3 hC
  obtain ⟨_, _, q1, _, hr⟩ := id hA.out.1
  injection q1 with q1 _ q3
  subst q1 q3
  replace hr : Reads (w.alloc (.cells #[.bool leaf, .slice Ak ks.length ck, .slice Av vs.length cv, .slice Ai is.length ci] 29)) (w.alloc (.cells #[.bool leaf, .slice Ak ks.length ck, .slice Av vs.length cv, .slice Ai is.length ci] 29)).heap.size 1 Ak ks.length (strVs ks) := hr
  have HR := Lib.hid hr; clear hr hA
  have HF : Hid (fkN leaf ks t = if leaf = false ∧ hasK ks t = true then (lowN ks t : Int) + 1 else lowN ks t) := rfl
  go_enter Tryz.func35, Tryz.ntmps35
  go_wp2_with fail
  go_loop [6] (fun a => ∃ k : Nat, k ≤ ks.length ∧ a = .int .i64 k ∧ Hid (∀ j (h : j < ks.length), j < k → lt ks[j] t = true)) (fun a => ks.length - (intOf a).toNat)
  case atStart => exact ⟨0, Nat.zero_le _, rfl, fun j h hj => absurd hj (by omega)⟩
  case round =>
    obtain ⟨k, hk, rfl, HI⟩ := hrel
    by_cases hlt : k < ks.length
    · obtain ⟨ad, rfl, _, hcell⟩ := HR.out.strAt hlt
      have k2 : (0 : Int) ≤ k := by omega
      have k3 : (k : Int) < ks.length := by omega
      obtain ⟨L, hL⟩ : ∃ L, Op.bytesLess ks[k].toList t.toList = L := ⟨_, rfl⟩
      cases L
      · have HN : Hid (lowN ks t = k) := lowN_of ks t k hk HI.out (fun h => hL)
        have HK : Hid (hasK ks t = decide (ks[k] = t)) := by show _ = _; unfold hasK; rw [HN.out, List.getElem?_eq_getElem hlt]
        clear HI
        generalize ks[k] = x at *
        rcases strEqForms x t with ⟨e1, e2⟩ | ⟨e1, e2⟩
        · have HH : Hid (hasK ks t = true) := by show _ = _; rw [HK.out]; exact decide_eq_true e2.out
          cases leaf
          · go_wp2_with fail
            go_ret2
            exact ⟨ret_ib (by rw [HF.out, HH.out, HN.out]; simp) HH.out.symm, hba⟩
          · go_wp2_with fail
            go_ret2
            exact ⟨ret_ib (by rw [HF.out, HH.out, HN.out]; simp) HH.out.symm, hba⟩
        · have HH : Hid (hasK ks t = false) := by show _ = _; rw [HK.out]; exact decide_eq_false e2.out
          go_wp2_with fail
          go_ret2
          exact ⟨ret_ib (by rw [HF.out, HH.out, HN.out]; simp) HH.out.symm, hba⟩
      · have HI2 : Hid (∀ j (h : j < ks.length), j < k + 1 → lt ks[j] t = true) := fun j h hj => by
          rcases Nat.lt_or_ge j k with h1 | h1
          · exact HI.out j h h1
          · obtain rfl : j = k := by omega
            exact hL
        clear HI
        generalize ks[k] = x at *
        go_wp2_with fail
        exact ⟨⟨k + 1, by omega, by go_num, HI2⟩, by simp [intOf]; omega⟩
    · obtain rfl : k = ks.length := by omega
      have HN : Hid (lowN ks t = ks.length) := lowN_of ks t _ hk HI.out (fun h => absurd h (by omega))
      have HH : Hid (hasK ks t = false) := by show _ = _; unfold hasK; rw [HN.out, List.getElem?_eq_none (by omega)]
      clear HI
      go_wp2_with fail
      go_ret2
      exact ⟨ret_ib (by rw [HF.out, HH.out, HN.out]; simp) HH.out.symm, hba⟩

theorem Pm_any (x : PageV) (w : World) (hT : T10 w) (hml : ML w) (h : x.At w) (hok : x.Ok 1048576) : Calls Tryz.prog 33 #[.agg x.cells] w fun e w' => e = .returned (.bool (pgB x)) ∧ Below w.heap.size w w' := PageOk_any x w hT hml h hok

theorem Ps_any (x : PageV) (w : World) (hT : T10 w) (hml : ML w) (h : x.At w) (hok : x.Ok 1048576) : Calls Tryz.prog 32 #[.agg x.cells] w fun e w' => e = .returned (.bool (pgB x)) ∧ Below w.heap.size w w' := sPageOk_any x w h hok

theorem Fm_any (leaf : Bool) (kv : Value) (ks : List ByteArray) (vv : Value) (vs : List ByteArray) (iv : Value) (is : List Int) (t : ByteArray) (w : World) (h : PageV.At ⟨leaf, kv, ks, vv, vs, iv, is⟩ w) (hl : ks.length ≤ 1048576) (hs : Sorted ks) :
    Calls Tryz.prog 37 #[.agg #[.bool leaf, kv, vv, iv], .string t] w fun e w' => e = .returned (.tuple #[.int .i64 (fkN leaf ks t), .bool (hasK ks t)]) ∧ Below w.heap.size w w' := find_any leaf kv ks vv vs iv is t w h hl hs

theorem Fs_any (leaf : Bool) (kv : Value) (ks : List ByteArray) (vv : Value) (vs : List ByteArray) (iv : Value) (is : List Int) (t : ByteArray) (w : World) (h : PageV.At ⟨leaf, kv, ks, vv, vs, iv, is⟩ w) (hl : ks.length ≤ 1048576) (hs : Sorted ks) :
    Calls Tryz.prog 35 #[.agg #[.bool leaf, kv, vv, iv], .string t] w fun e w' => e = .returned (.tuple #[.int .i64 (fkN leaf ks t), .bool (hasK ks t)]) ∧ Below w.heap.size w w' := l15Find_any leaf kv ks vv vs iv is t w h hl

/-- What FindKey answers. -/
def fkB (x : PageV) (t : ByteArray) : Int × Bool := if pgB x = true then (fkN x.leaf x.keys t, hasK x.keys t) else (0, false)

theorem pgB_sorted {x : PageV} (h : pgB x = true) : Sorted x.keys := by
  unfold pgB at h
  rw [Bool.and_eq_true] at h
  exact (keysGo_sorted _ _ h.1).1

set_option maxHeartbeats 1000000 in
set_option maxRecDepth 8000 in
theorem FindKey_any (x : PageV) (t : ByteArray) (w : World) (hT : T10 w) (hml : ML w) (h : x.At w) (hok : x.Ok 1048576) : Calls Tryz.prog 12 #[.agg x.cells, .string t] w fun e w' => e = .returned (.tuple #[.int .i64 (fkB x t).1, .bool (fkB x t).2]) ∧ Below w.heap.size w w' := by
  have hba : Below w.heap.size w (w.alloc (.cells x.cells 29)) := Joins.below_alloc1 w _
  have hA := Lib.hid (h.on hba)
  have HTA := Lib.hid (hT.below hba); have HMA := Lib.hid (hml.below hba); clear hT hml
  have HCX := Lib.hid (CellsAt.new w x.cells 29)
  have HPG := Lib.hid (Pm_any x _ HTA.out HMA.out hA.out hok)
  obtain ⟨P, hP⟩ : ∃ P, pgB x = P := ⟨_, rfl⟩
  rw [hP] at HPG
  have HSO : Hid (P = true → Sorted x.keys) := fun h => pgB_sorted (hP.trans h)
  have HV : Hid (fkB x t = if P = true then (fkN x.leaf x.keys t, hasK x.keys t) else (0, false)) := by show fkB x t = _; unfold fkB; rw [hP]
  generalize fkB x t = V at *
  clear hP
  obtain ⟨lf, kv, ks, vv, vs, iv, is⟩ := x
  obtain ⟨⟨hkl, hkz⟩, ⟨hvl, hvz⟩, hil, _⟩ := hok
  obtain ⟨h1, h2, h3, _⟩ := h
  clear hkz hvz
  obtain ⟨Ak, ck, e1, _, _⟩ := id h1
  replace e1 : kv = .slice Ak ks.length ck := e1
  subst e1
  obtain ⟨Av, cv, e2, _, _⟩ := id h2
  replace e2 : vv = .slice Av vs.length cv := e2
  subst e2
  obtain ⟨Ai, ci, e3, _, _⟩ := id h3
  replace e3 : iv = .slice Ai is.length ci := e3
  subst e3
  clear h1 h2 h3
  simp only [PageV.cells] at hba HCX HPG hA ⊢
  go_enter Tryz.func12, Tryz.ntmps12
  go_wp2_with fail
  refine HPG.out.mono ?_
  rintro e w2 ⟨rfl, b2⟩
  have B2 := Lib.hid (below_trans hba b2)
  have C2 := Lib.hid (HCX.out.below b2)
  have A2 := Lib.hid (hA.out.on b2)
  clear b2 hba hA HCX HPG
  have c0 : w2.cell? ⟨w.heap.size, 0, none⟩ = some (.bool lf) := C2.out.2 0 _ rfl
  have c1 : w2.cell? ⟨w.heap.size, 1, none⟩ = some (.slice Ak ks.length ck) := C2.out.2 1 _ rfl
  have c2 : w2.cell? ⟨w.heap.size, 2, none⟩ = some (.slice Av vs.length cv) := C2.out.2 2 _ rfl
  have c3 : w2.cell? ⟨w.heap.size, 3, none⟩ = some (.slice Ai is.length ci) := C2.out.2 3 _ rfl
  clear C2
  cases P
  · go_wp2_with fail
    go_ret2
    exact ⟨ret_ib (by rw [HV.out]; rfl) (by rw [HV.out]; rfl), B2.out⟩
  have HFD := Lib.hid (Fm_any lf _ ks _ vs _ is t _ A2.out hkl (HSO.out rfl))
  go_wp2_with fail
  refine HFD.out.mono ?_
  rintro e w3 ⟨rfl, b3⟩
  have B3 := Lib.hid (below_trans B2.out b3); clear b3 HFD
  go_wp2_with fail
  go_ret2
  exact ⟨ret_ib (by rw [HV.out]; rfl) (by rw [HV.out]; rfl), B3.out⟩

set_option maxHeartbeats 1000000 in
set_option maxRecDepth 8000 in
theorem sFindKey_any (x : PageV) (t : ByteArray) (w : World) (hT : T10 w) (hml : ML w) (h : x.At w) (hok : x.Ok 1048576) : Calls Tryz.prog 10 #[.agg x.cells, .string t] w fun e w' => e = .returned (.tuple #[.int .i64 (fkB x t).1, .bool (fkB x t).2]) ∧ Below w.heap.size w w' := by
  have hba : Below w.heap.size w (w.alloc (.cells x.cells 29)) := Joins.below_alloc1 w _
  have hA := Lib.hid (h.on hba)
  have HTA := Lib.hid (hT.below hba); have HMA := Lib.hid (hml.below hba); clear hT hml
  have HCX := Lib.hid (CellsAt.new w x.cells 29)
  have HPG := Lib.hid (Ps_any x _ HTA.out HMA.out hA.out hok)
  obtain ⟨P, hP⟩ : ∃ P, pgB x = P := ⟨_, rfl⟩
  rw [hP] at HPG
  have HSO : Hid (P = true → Sorted x.keys) := fun h => pgB_sorted (hP.trans h)
  have HV : Hid (fkB x t = if P = true then (fkN x.leaf x.keys t, hasK x.keys t) else (0, false)) := by show fkB x t = _; unfold fkB; rw [hP]
  generalize fkB x t = V at *
  clear hP
  obtain ⟨lf, kv, ks, vv, vs, iv, is⟩ := x
  obtain ⟨⟨hkl, hkz⟩, ⟨hvl, hvz⟩, hil, _⟩ := hok
  obtain ⟨h1, h2, h3, _⟩ := h
  clear hkz hvz
  obtain ⟨Ak, ck, e1, _, _⟩ := id h1
  replace e1 : kv = .slice Ak ks.length ck := e1
  subst e1
  obtain ⟨Av, cv, e2, _, _⟩ := id h2
  replace e2 : vv = .slice Av vs.length cv := e2
  subst e2
  obtain ⟨Ai, ci, e3, _, _⟩ := id h3
  replace e3 : iv = .slice Ai is.length ci := e3
  subst e3
  clear h1 h2 h3
  simp only [PageV.cells] at hba HCX HPG hA ⊢
  go_enter Tryz.func10, Tryz.ntmps10
  go_wp2_with fail
  refine HPG.out.mono ?_
  rintro e w2 ⟨rfl, b2⟩
  have B2 := Lib.hid (below_trans hba b2)
  have C2 := Lib.hid (HCX.out.below b2)
  have A2 := Lib.hid (hA.out.on b2)
  clear b2 hba hA HCX HPG
  have c0 : w2.cell? ⟨w.heap.size, 0, none⟩ = some (.bool lf) := C2.out.2 0 _ rfl
  have c1 : w2.cell? ⟨w.heap.size, 1, none⟩ = some (.slice Ak ks.length ck) := C2.out.2 1 _ rfl
  have c2 : w2.cell? ⟨w.heap.size, 2, none⟩ = some (.slice Av vs.length cv) := C2.out.2 2 _ rfl
  have c3 : w2.cell? ⟨w.heap.size, 3, none⟩ = some (.slice Ai is.length ci) := C2.out.2 3 _ rfl
  clear C2
  cases P
  · go_wp2_with fail
    go_ret2
    exact ⟨ret_ib (by rw [HV.out]; rfl) (by rw [HV.out]; rfl), B2.out⟩
  have HFD := Lib.hid (Fs_any lf _ ks _ vs _ is t _ A2.out hkl (HSO.out rfl))
  go_wp2_with fail
  refine HFD.out.mono ?_
  rintro e w3 ⟨rfl, b3⟩
  have B3 := Lib.hid (below_trans B2.out b3); clear b3 HFD
  go_wp2_with fail
  go_ret2
  exact ⟨ret_ib (by rw [HV.out]; rfl) (by rw [HV.out]; rfl), B3.out⟩

end Go.Proofs.YtjedmpkjopgklaaGreatDoor
