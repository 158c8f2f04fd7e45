/- PutSubs and KeyOf: spec's side, and the walks of the two laws. -/
import Derived.Test.YtmgailihgeelmaaDoorPutSubs
import Derived.Test.YtmgailihgeelmaaDoorNames
namespace Go.Proofs.YtmgailihgeelmaaDoor
open Go.RowKit
set_option linter.unusedVariables false

set_option maxRecDepth 8000 in
theorem l02Put_any (v : Value) (xs : List ByteArray) (w : World) (h : StrsAt w w.heap.size v xs) (h4 : xs.length ≤ 4) (h24 : ∀ x ∈ xs, x.size ≤ 24) :
    Calls Tryd.prog 53 #[v] w fun e w' => ∃ r : ByteArray, e = .returned (.string r) ∧ Hid (r.data.toList = putB xs) ∧ Below w.heap.size w w' := by
  have H24 := Lib.hid h24; clear h24
  obtain ⟨A, c, rfl, hc, hr⟩ := h
  go_enter Tryd.func53, Tryd.ntmps53
  go_wp2_with fail
  go_loopw [3, 4] (fun t i wr => ∃ (k : Nat) (T : ByteArray), k ≤ xs.length ∧ i = .int .i64 k ∧ t = .string T ∧ T.size ≤ 84 * k ∧ Hid (T.data.toList = putB (xs.take k)) ∧ Below w.heap.size w wr) (fun _ i _ => xs.length - (intOf i).toNat)
  case atStart => exact ⟨0, ⟨#[]⟩, Nat.zero_le _, rfl, rfl, by decide, by show _ = _; rfl, below_refl _⟩
  case round =>
    obtain ⟨k, T, hk, rfl, rfl, hT, HI, hbel⟩ := hrel
    have hbs := hbel.size
    by_cases hlt : k < xs.length
    · obtain ⟨ad, rfl, _, hcell⟩ := (hr.below hbel).strAt hlt
      have hzx := H24.out _ (List.getElem_mem hlt)
      have HD : Hid (putB (xs.take (k + 1)) = putB (xs.take k) ++ keyB xs[k]) := by
        show putB _ = _
        unfold putB
        rw [List.take_succ_eq_append_getElem hlt, List.flatMap_append, List.flatMap_cons, List.flatMap_nil, List.append_nil]
      have hkl := keyB_len xs[k]
      generalize xs[k] = x at *
      go_wp2_with fail
      refine (l02Key_any x _ (by omega)).mono ?_
      rintro e w2 ⟨r, rfl, HR, hb2⟩
      have hrs : r.size ≤ 84 := by rw [ba_size, HR.out]; omega
      go_wp2_with fail
      refine ⟨⟨k + 1, _, by omega, by go_num, rfl, by simp; omega, ?_, below_trans hbel hb2⟩, by simp [intOf]; omega⟩
      show _ = _
      rw [ba_app, HI.out, HR.out, HD.out]
    · obtain rfl : k = xs.length := by omega
      rw [List.take_length] at HI
      go_wp2_with fail
      go_ret
      exact ⟨_, rfl, HI, hbel⟩

theorem sPutSubs_any (v : Value) (xs : List ByteArray) (w : World) (h : StrsAt w w.heap.size v xs) (hl : xs.length ≤ 1048576) (hz : ∀ x ∈ xs, x.size ≤ 1048576) :
    Calls Tryd.prog 26 #[v] w fun e w' => ∃ r : ByteArray, e = .returned (.string r) ∧ Hid (r.data.toList = putSubsB xs) ∧ Below w.heap.size w w' := by
  have HZ := Lib.hid hz; clear hz
  cases hok : subsOkB xs
  · have HV : Hid (putSubsB xs = []) := by show _ = _; unfold putSubsB; rw [hok]; rfl
    go_enter Tryd.func26, Tryd.ntmps26
    go_wp2_with fail
    refine (l02Subs_any v xs _ _ h hl HZ.out).mono ?_
    rintro e w' ⟨rfl, rfl⟩
    rw [hok]
    go_wp2_with fail
    go_ret
    exact ⟨_, rfl, HV.out.symm, below_refl _⟩
  · have HV : Hid (putSubsB xs = putB xs) := by show _ = _; unfold putSubsB; rw [hok]; rfl
    obtain ⟨h4, h24⟩ := subsOk_len hok
    have H24 := Lib.hid h24; clear h24
    go_enter Tryd.func26, Tryd.ntmps26
    go_wp2_with fail
    refine (l02Subs_any v xs _ _ h hl HZ.out).mono ?_
    rintro e w' ⟨rfl, rfl⟩
    rw [hok]
    go_wp2_with fail
    refine (l02Put_any v xs _ h h4 H24.out).mono ?_
    rintro e w' ⟨r, rfl, HR, hb⟩
    go_wp2_with fail
    go_ret
    exact ⟨_, rfl, by show _ = _; rw [HR.out, HV.out], hb⟩

set_option maxRecDepth 8000 in
theorem PutSubs_walk (v0 : Value) (xs0 : List ByteArray) (w : World) (h0 : StrsAt w w.heap.size v0 xs0) (l0 : xs0.length ≤ maxLen) (z0 : ∀ x ∈ xs0, x.size ≤ maxLen) (hL : laidMetH Tryd.prog Rows.fnExactSubsBeforeRow.laid w) (hsh : w.ShapedOpen Tryd.prog) :
    Calls Tryd.prog 7 #[v0] w fun e w' => e = .returned (.bool true) ∧ Below w.heap.size w w' := by
  have HT := Lib.hid (T10.of_laid hL); have HM := Lib.hid (ML.of_shaped hsh); clear hL hsh
  have Z0 := Lib.hid z0; clear z0
  go_enter Tryd.func7, Tryd.ntmps7
  go_wp2_with fail
  refine (szStringS_ex v0 xs0 1048576 _ _ h0 (by omega) (by omega) l0 Z0.out).mono ?_
  rintro e w' ⟨q, rfl, rfl, q1, q2, hq⟩
  have Q := Lib.hid hq; clear hq
  by_cases q0 : q < 0
  · go_wp2_with fail
    go_ret
    exact ⟨rfl, below_refl _⟩
  have s0 : xs0.length ≤ 1048576 := by have := Q.out (by omega); omega
  have ZZ0 : Hid (∀ x ∈ xs0, x.size ≤ 1048576) := fun x hx => by have := Q.out (by omega); have := size_le_total hx; omega
  clear Z0 Q
  go_wp2_with fail
  refine (toStringS_any v0 xs0 _ _ h0 (Nat.le_refl _) s0).mono ?_
  rintro e wa ⟨va, rfl, ha, ba⟩
  have hA := ha.at_; clear ha
  go_wp2_with fail
  refine (sPutSubs_any va xs0 _ hA s0 ZZ0.out).mono ?_
  rintro e wb ⟨r1, rfl, H1, bb⟩
  clear hA
  have B1 := below_trans ba bb
  have h0c := h0.on B1
  go_wp2_with fail
  refine (toStringS_any v0 xs0 _ _ h0c (Nat.le_refl _) s0).mono ?_
  rintro e wc ⟨x0, rfl, hx0, bc⟩
  have X0 := hx0.at_; clear hx0
  have B2 := below_trans B1 bc
  go_wp2_with fail
  refine (PutSubs_any x0 xs0 _ (HT.out.below B2) (HM.out.below B2) X0 s0 ZZ0.out).mono ?_
  rintro e wd ⟨r2, rfl, H2, bd⟩
  obtain rfl : r1 = r2 := ba_ext (H1.out.trans H2.out.symm)
  clear H2
  have B3 := below_trans B2 bd
  have X0d := X0.on bd
  have h0e := h0.on B3
  clear h0c X0
  go_wp2_with fail
  refine (toStringS_any v0 xs0 _ _ h0e (Nat.le_refl _) s0).mono ?_
  rintro e we ⟨y0, rfl, hy0, be⟩
  have Y0 := hy0.at_; clear hy0
  have X0f := X0d.on be
  go_wp2_with fail
  refine (eqStringS_any x0 y0 xs0 xs0 _ _ X0f Y0 s0).mono ?_
  rintro e w' ⟨rfl, k, rfl⟩
  go_wp2_with fail
  go_ret
  exact ⟨rfl, below_trans B3 (below_trans be (below_drewN _ _))⟩

def locOk (name : ByteArray) (xs : List ByteArray) : Bool := nameOk name && subsOkB xs

def keyOfB (name : ByteArray) (xs : List ByteArray) : List UInt8 := if locOk name xs then name.data.toList ++ 1 :: putB xs else []

theorem locationOk_any (name : ByteArray) (v : Value) (xs : List ByteArray) (w : World) (B : Nat) (hn : name.size ≤ 1048576) (h : StrsAt w B v xs) (hl : xs.length ≤ 1048576) (hz : ∀ x ∈ xs, x.size ≤ 1048576) :
    Calls Tryd.prog 58 #[.string name, v] w fun e w' => e = .returned (.bool (locOk name xs)) ∧ w = w' := by
  have HZ := Lib.hid hz; clear hz
  cases hok : nameOk name
  · have HV : Hid (locOk name xs = false) := by show _ = _; unfold locOk; rw [hok]; rfl
    go_enter Tryd.func58, Tryd.ntmps58
    go_wp2_with fail
    refine (NameOk_any name _ hn).mono ?_
    rintro e w' ⟨rfl, rfl⟩
    rw [hok]
    go_wp2_with fail
    go_ret
    exact ⟨ret_bool HV.out.symm, rfl⟩
  · have HV : Hid (locOk name xs = subsOkB xs) := by show _ = _; unfold locOk; rw [hok]; rfl
    go_enter Tryd.func58, Tryd.ntmps58
    go_wp2_with fail
    refine (NameOk_any name _ hn).mono ?_
    rintro e w' ⟨rfl, rfl⟩
    rw [hok]
    go_wp2_with fail
    refine (SubsOk_any v xs _ _ h hl HZ.out).mono ?_
    rintro e w' ⟨rfl, rfl⟩
    go_wp2_with fail
    go_ret
    exact ⟨ret_bool HV.out.symm, rfl⟩

theorem l03Place_any (name : ByteArray) (v : Value) (xs : List ByteArray) (w : World) (B : Nat) (hn : name.size ≤ 1048576) (h : StrsAt w B v xs) (hl : xs.length ≤ 1048576) (hz : ∀ x ∈ xs, x.size ≤ 1048576) :
    Calls Tryd.prog 57 #[.string name, v] w fun e w' => e = .returned (.bool (locOk name xs)) ∧ w = w' := by
  have HZ := Lib.hid hz; clear hz
  cases hok : nameOk name
  · have HV : Hid (locOk name xs = false) := by show _ = _; unfold locOk; rw [hok]; rfl
    go_enter Tryd.func57, Tryd.ntmps57
    go_wp2_with (go_at_call 103; go_in)
    refine (l02Name_any name _ hn).mono ?_
    rintro e w' ⟨rfl, rfl⟩
    rw [hok]
    go_wp2_with fail
    go_ret
    exact ⟨ret_bool HV.out.symm, rfl⟩
  · have HV : Hid (locOk name xs = subsOkB xs) := by show _ = _; unfold locOk; rw [hok]; rfl
    go_enter Tryd.func57, Tryd.ntmps57
    go_wp2_with (go_at_call 103; go_in)
    refine (l02Name_any name _ hn).mono ?_
    rintro e w' ⟨rfl, rfl⟩
    rw [hok]
    go_wp2_with (go_at_call 104; go_in)
    refine (l02Subs_any v xs _ _ h hl HZ.out).mono ?_
    rintro e w' ⟨rfl, rfl⟩
    go_wp2_with fail
    go_ret
    exact ⟨ret_bool HV.out.symm, rfl⟩

theorem locOk_parts {name : ByteArray} {xs : List ByteArray} (h : locOk name xs = true) : name.size ≤ 8 ∧ subsOkB xs = true := by
  unfold locOk at h
  rw [Bool.and_eq_true] at h
  refine ⟨?_, h.2⟩
  have h1 := h.1
  unfold nameOk at h1
  rw [Bool.and_eq_true] at h1
  exact (of_decide_eq_true h1.2).2

set_option maxRecDepth 8000 in
theorem KeyOf_any (name : ByteArray) (v : Value) (xs : List ByteArray) (w : World) (hT : T10 w) (hml : ML w) (hn : name.size ≤ 1048576) (h : StrsAt w w.heap.size v xs) (hl : xs.length ≤ 1048576) (hz : ∀ x ∈ xs, x.size ≤ 1048576) :
    Calls Tryd.prog 29 #[.string name, v] w fun e w' => ∃ r : ByteArray, e = .returned (.string r) ∧ Hid (r.data.toList = keyOfB name xs) ∧ Below w.heap.size w w' := by
  have HT := Lib.hid hT; have HM := Lib.hid hml; clear hT hml
  have HZ := Lib.hid hz; clear hz
  cases hok : locOk name xs
  · have HV : Hid (keyOfB name xs = []) := by show _ = _; unfold keyOfB; rw [hok]; rfl
    go_enter Tryd.func29, Tryd.ntmps29
    go_wp2_with fail
    refine (locationOk_any name v xs _ _ hn h hl HZ.out).mono ?_
    rintro e w' ⟨rfl, rfl⟩
    rw [hok]
    go_wp2_with fail
    go_ret
    exact ⟨_, rfl, HV.out.symm, below_refl _⟩
  · obtain ⟨n8, sok⟩ := locOk_parts hok
    obtain ⟨h4, h24⟩ := subsOk_len sok
    have hpl := putB_len xs h24
    have HV : Hid (keyOfB name xs = name.data.toList ++ 1 :: putSubsB xs) := by show _ = _; unfold keyOfB putSubsB; rw [hok, sok]; rfl
    have HP : Hid (putSubsB xs = putB xs) := by show _ = _; unfold putSubsB; rw [sok]; rfl
    clear h24 sok
    go_enter Tryd.func29, Tryd.ntmps29
    go_wp2_with fail
    refine (locationOk_any name v xs _ _ hn h hl HZ.out).mono ?_
    rintro e w' ⟨rfl, rfl⟩
    rw [hok]
    go_wp2_with fail
    refine (PutSubs_any v xs _ HT.out HM.out h hl HZ.out).mono ?_
    rintro e w1 ⟨r, rfl, HR, hb1⟩
    have hrs : r.size ≤ 336 := by rw [ba_size, HR.out, HP.out]; omega
    go_wp2_with fail
    go_ret
    exact ⟨_, rfl, by show _ = _; rw [HV.out, ba_app, ba_app, HR.out]; simp, hb1⟩

set_option maxRecDepth 8000 in
theorem sKeyOf_any (name : ByteArray) (v : Value) (xs : List ByteArray) (w : World) (hn : name.size ≤ 1048576) (h : StrsAt w w.heap.size v xs) (hl : xs.length ≤ 1048576) (hz : ∀ x ∈ xs, x.size ≤ 1048576) :
    Calls Tryd.prog 28 #[.string name, v] w fun e w' => ∃ r : ByteArray, e = .returned (.string r) ∧ Hid (r.data.toList = keyOfB name xs) ∧ Below w.heap.size w w' := by
  have HZ := Lib.hid hz; clear hz
  cases hok : locOk name xs
  · have HV : Hid (keyOfB name xs = []) := by show _ = _; unfold keyOfB; rw [hok]; rfl
    go_enter Tryd.func28, Tryd.ntmps28
    go_wp2_with fail
    refine (l03Place_any name v xs _ _ hn h hl HZ.out).mono ?_
    rintro e w' ⟨rfl, rfl⟩
    rw [hok]
    go_wp2_with fail
    go_ret
    exact ⟨_, rfl, HV.out.symm, below_refl _⟩
  · obtain ⟨n8, sok⟩ := locOk_parts hok
    obtain ⟨h4, h24⟩ := subsOk_len sok
    have hpl := putB_len xs h24
    have HV : Hid (keyOfB name xs = name.data.toList ++ 1 :: putSubsB xs) := by show _ = _; unfold keyOfB putSubsB; rw [hok, sok]; rfl
    have HP : Hid (putSubsB xs = putB xs) := by show _ = _; unfold putSubsB; rw [sok]; rfl
    clear h24 sok
    go_enter Tryd.func28, Tryd.ntmps28
    go_wp2_with fail
    refine (l03Place_any name v xs _ _ hn h hl HZ.out).mono ?_
    rintro e w' ⟨rfl, rfl⟩
    rw [hok]
    go_wp2_with fail
    refine (sPutSubs_any v xs _ h hl HZ.out).mono ?_
    rintro e w1 ⟨r, rfl, HR, hb1⟩
    have hrs : r.size ≤ 336 := by rw [ba_size, HR.out, HP.out]; omega
    go_wp2_with fail
    go_ret
    exact ⟨_, rfl, by show _ = _; rw [HV.out, ba_app, ba_app, HR.out]; simp, hb1⟩

set_option maxRecDepth 8000 in
theorem KeyOf_walk (name : ByteArray) (hn : name.size ≤ maxLen) (v0 : Value) (xs0 : List ByteArray) (w : World) (h0 : StrsAt w w.heap.size v0 xs0) (l0 : xs0.length ≤ maxLen) (z0 : ∀ x ∈ xs0, x.size ≤ maxLen) (hL : laidMetH Tryd.prog Rows.fnExactSubsBeforeRow.laid w) (hsh : w.ShapedOpen Tryd.prog) :
    Calls Tryd.prog 8 #[.string name, v0] w fun e w' => e = .returned (.bool true) ∧ Below w.heap.size w w' := by
  have HT := Lib.hid (T10.of_laid hL); have HM := Lib.hid (ML.of_shaped hsh); clear hL hsh
  have Z0 := Lib.hid z0; clear z0
  unfold maxLen at hn
  by_cases hn1 : name.size ≤ 1048576
  rotate_left
  · go_enter Tryd.func8, Tryd.ntmps8
    go_wp2_with fail
    go_ret
    exact ⟨rfl, below_refl _⟩
  go_enter Tryd.func8, Tryd.ntmps8
  go_wp2_with fail
  refine (szStringS_ex v0 xs0 1048576 _ _ h0 (by omega) (by omega) l0 Z0.out).mono ?_
  rintro e w' ⟨q, rfl, rfl, q1, q2, hq⟩
  have Q := Lib.hid hq; clear hq
  by_cases q0 : q < 0
  · go_wp2_with fail
    go_ret
    exact ⟨rfl, below_refl _⟩
  have s0 : xs0.length ≤ 1048576 := by have := Q.out (by omega); omega
  have ZZ0 : Hid (∀ x ∈ xs0, x.size ≤ 1048576) := fun x hx => by have := Q.out (by omega); have := size_le_total hx; omega
  clear Z0 Q
  go_wp2_with fail
  refine (toStringS_any v0 xs0 _ _ h0 (Nat.le_refl _) s0).mono ?_
  rintro e wa ⟨va, rfl, ha, ba⟩
  have hA := ha.at_; clear ha
  go_wp2_with fail
  refine (sKeyOf_any name va xs0 _ hn1 hA s0 ZZ0.out).mono ?_
  rintro e wb ⟨r1, rfl, H1, bb⟩
  clear hA
  have B1 := below_trans ba bb
  have h0c := h0.on B1
  go_wp2_with fail
  refine (toStringS_any v0 xs0 _ _ h0c (Nat.le_refl _) s0).mono ?_
  rintro e wc ⟨x0, rfl, hx0, bc⟩
  have X0 := hx0.at_; clear hx0
  have B2 := below_trans B1 bc
  go_wp2_with fail
  refine (KeyOf_any name x0 xs0 _ (HT.out.below B2) (HM.out.below B2) hn1 X0 s0 ZZ0.out).mono ?_
  rintro e wd ⟨r2, rfl, H2, bd⟩
  obtain rfl : r1 = r2 := ba_ext (H1.out.trans H2.out.symm)
  clear H2
  have B3 := below_trans B2 bd
  have X0d := X0.on bd
  have h0e := h0.on B3
  clear h0c X0
  go_wp2_with fail
  refine (toStringS_any v0 xs0 _ _ h0e (Nat.le_refl _) s0).mono ?_
  rintro e we ⟨y0, rfl, hy0, be⟩
  have Y0 := hy0.at_; clear hy0
  have X0f := X0d.on be
  go_wp2_with fail
  refine (eqStringS_any x0 y0 xs0 xs0 _ _ X0f Y0 s0).mono ?_
  rintro e w' ⟨rfl, k, rfl⟩
  go_wp2_with fail
  go_ret
  exact ⟨rfl, below_trans B3 (below_trans be (below_drewN _ _))⟩

end Go.Proofs.YtmgailihgeelmaaDoor
