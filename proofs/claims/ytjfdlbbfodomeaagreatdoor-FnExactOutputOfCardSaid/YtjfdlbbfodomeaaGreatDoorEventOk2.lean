/- EventOk: impl's side, whole. -/
import Derived.Test.YtjfdlbbfodomeaaGreatDoorEventOk
namespace Go.Proofs.YtjfdlbbfodomeaaGreatDoor
open Go.RowKit Go.ChangeShapes Go.WideShapes Go.ChangeAt Go.Deep
set_option linter.unusedVariables false

def lckB (x : EventV) : Bool := if empB x.name = true then noFB x && (x.n == 0) else locOk x.name x.subs && (inB3 x.n (-1) 1 && (empB x.value || (decide (0 ≤ x.n) && whB x.value)))

set_option maxHeartbeats 1000000 in
set_option maxRecDepth 8000 in
theorem lockOk_any (x : EventV) (w : World) (hT : T10 w) (h : x.At w) (hok : x.Ok 1048576) : Calls Tryz.prog 89 #[.agg x.cells] w fun e w' => e = .returned (.bool (lckB x)) ∧ Below w.heap.size w w' := by
  have hba : Below w.heap.size w (w.alloc (.cells x.cells 53)) := Joins.below_alloc1 w _
  have hA := h.on hba
  have HTA := Lib.hid (hT.below hba); clear hT
  have HCX := Lib.hid (CellsAt.new w x.cells 53)
  have HNF := Lib.hid (noFields_any x _ hA)
  obtain ⟨F, hF⟩ : ∃ F : Bool, noFB x = F := ⟨_, rfl⟩
  rw [hF] at HNF
  have HF := Lib.hid hF; clear hF
  obtain ⟨kind, name, sv, xs, value, n⟩ := x
  obtain ⟨hn, ⟨hl, hz⟩, hv, _⟩ := hok
  obtain ⟨hs, _⟩ := h
  obtain ⟨hAs, _⟩ := hA
  simp only [EventV.cells] at *
  have HP := Lib.hid (locationOk_any name _ xs _ _ hn hAs hl hz)
  clear hAs hz
  obtain ⟨A, c, rfl, _, _⟩ := id hs
  clear hs
  rcases emptyForms name with ⟨m1, m2, m3, m4⟩ | ⟨m1, m2, m3, m4⟩
  · have HV : Hid (lckB ⟨kind, name, .slice A xs.length c, xs, value, n⟩ = (F && (n == 0))) := by
      show _ = _
      unfold lckB; rw [if_pos (show empB name = true from m4.out), HF.out]
    go_enter Tryz.func89, Tryz.ntmps89
    go_wp2_with fail
    refine HNF.out.mono ?_
    rintro e w2 ⟨rfl, b2⟩
    have B2 := Lib.hid (below_trans hba b2)
    have c4 : w2.cell? ⟨w.heap.size, 4, none⟩ = some (.int .i64 n) := (HCX.out.below b2).2 4 _ rfl
    clear b2 HCX
    cases F
    · go_wp2_with fail
      go_ret
      exact ⟨ret_bool (by rw [HV.out]; rfl), B2.out⟩
    · go_wp2_with fail
      go_ret
      exact ⟨ret_bool (by rw [HV.out]; simp), B2.out⟩
  · obtain ⟨L, hL⟩ : ∃ L : Bool, locOk name xs = L := ⟨_, rfl⟩
    rw [hL] at HP
    have HV : Hid (lckB ⟨kind, name, .slice A xs.length c, xs, value, n⟩ = (L && (inB3 n (-1) 1 && (empB value || (decide (0 ≤ n) && whB value))))) := by
      show _ = _
      unfold lckB; rw [if_neg (by rw [show empB name = false from m4.out]; decide), hL]
    clear hL HF HNF
    have HWI := Lib.hid (fun W => within_any n (-1) 1 W)
    obtain ⟨I, hI⟩ : ∃ I : Bool, inB3 n (-1) 1 = I := ⟨_, rfl⟩
    rw [hI] at HWI HV
    clear hI
    cases L
    · go_enter Tryz.func89, Tryz.ntmps89
      go_wp2_with fail
      refine HP.out.mono ?_
      rintro e w1 ⟨rfl, rfl⟩
      go_wp2_with fail
      go_ret
      exact ⟨ret_bool (by rw [HV.out]; rfl), hba⟩
    · cases I
      · go_enter Tryz.func89, Tryz.ntmps89
        go_wp2_with fail
        refine HP.out.mono ?_
        rintro e w1 ⟨rfl, rfl⟩
        go_wp2_with fail
        refine (HWI.out _).mono ?_
        rintro e w1 ⟨rfl, rfl⟩
        go_wp2_with fail
        go_ret
        exact ⟨ret_bool (by rw [HV.out]; rfl), hba⟩
      · rcases emptyForms value with ⟨v1, v2, v3, v4⟩ | ⟨v1, v2, v3, v4⟩
        · go_enter Tryz.func89, Tryz.ntmps89
          go_wp2_with fail
          refine HP.out.mono ?_
          rintro e w1 ⟨rfl, rfl⟩
          go_wp2_with fail
          refine (HWI.out _).mono ?_
          rintro e w1 ⟨rfl, rfl⟩
          go_wp2_with fail
          go_ret
          exact ⟨ret_bool (by rw [HV.out, show empB value = true from v4.out]; rfl), hba⟩
        · by_cases h0 : 0 ≤ n
          · have HH : Hid (decide (0 ≤ n) = true) := decide_eq_true h0
            go_enter Tryz.func89, Tryz.ntmps89
            go_wp2_with fail
            refine HP.out.mono ?_
            rintro e w1 ⟨rfl, rfl⟩
            go_wp2_with fail
            refine (HWI.out _).mono ?_
            rintro e w1 ⟨rfl, rfl⟩
            go_wp2_with fail
            refine (wholeText_any value _ HTA.out hv).mono ?_
            rintro e w2 ⟨rfl, b2⟩
            go_wp2_with fail
            go_ret
            exact ⟨ret_bool (by rw [HV.out, show empB value = false from v4.out, HH.out]; simp), below_trans hba b2⟩
          · have HH : Hid (decide (0 ≤ n) = false) := decide_eq_false h0
            go_enter Tryz.func89, Tryz.ntmps89
            go_wp2_with fail
            refine HP.out.mono ?_
            rintro e w1 ⟨rfl, rfl⟩
            go_wp2_with fail
            refine (HWI.out _).mono ?_
            rintro e w1 ⟨rfl, rfl⟩
            go_wp2_with fail
            go_ret
            exact ⟨ret_bool (by rw [HV.out, show empB value = false from v4.out, HH.out]; rfl), hba⟩

/-- What a list that is to be ordered must be. -/
def ordL (xs : List ByteArray) : Bool := match xs.getLast? with | none => false | some l => ordI xs.dropLast l

theorem orderableL_any (v : Value) (xs : List ByteArray) (w : World) (B : Nat) (h : StrsAt w B v xs) (hl : xs.length ≤ 1048576) (hz : ∀ x ∈ xs, x.size ≤ 1048576) : Calls Tryz.prog 70 #[v] w fun e w' => e = .returned (.bool (ordL xs)) ∧ w = w' := by
  rcases List.eq_nil_or_concat xs with rfl | ⟨zs, l, rfl⟩
  · obtain ⟨A, c, rfl, _, _⟩ := h
    exact orderable_nil A c w
  · rw [List.concat_eq_append] at *
    have := orderable_any v zs l w B h (by simp at hl; omega) hz
    unfold ordL
    rw [List.getLast?_concat, List.dropLast_concat]
    exact this

/-- The test by kind: L a place, C a count, Z nought, V no value, O a level, N1 a direction, Q a query, S neither name nor subscripts, K a lock, F no fields, P and R ranges. -/
def evK (k : Int) (L C Z V O N1 Q S K F P R : Bool) : Bool :=
  if k = 1 then L && C else if k = 2 then L && Z else if k = 3 then L && (V && Z) else if k = 4 then L && (V && C) else if k = 5 then O && N1 else if k = 6 then Q
  else if k = 7 then S && Z else if k = 8 then S && Z else if k = 9 then K else if k = 10 then F && Z else if k = 11 then F && Z else if k = 12 then F && Z else if k = 13 then F && P
  else if k = 14 then F && Z else if k = 15 then F && R else if k = 16 then F && Z else false

def evB (x : EventV) : Bool := if (decide (64 < x.value.size) && (x.kind != 6)) = true then false else
  evK x.kind (locOk x.name x.subs) (cntB x.n) (x.n == 0) (empB x.value) (nameOk x.name && (decide (x.subs.length ≤ 4) && ordL x.subs)) ((x.n == 1) || (x.n == -1)) (qryB x) (empB x.name && x.subs.isEmpty) (lckB x) (noFB x) (inB3 x.n 0 999999999999) (inB3 x.n 1 17)

set_option maxHeartbeats 2000000 in
set_option maxRecDepth 100000 in
theorem EventOk_1 (x : EventV) (w : World) (hT : T10 w) (hml : ML w) (h : x.At w) (hok : x.Ok 1048576) (hk : x.kind = 1) (hbig : x.value.size ≤ 64) : Calls Tryz.prog 41 #[.agg x.cells] w fun e w' => e = .returned (.bool (evB x)) ∧ Below w.heap.size w w' := by
  have hba : Below w.heap.size w (w.alloc (.cells x.cells 53)) := Joins.below_alloc1 w _
  have hA := h.on hba
  have HTA := Lib.hid (hT.below hba); have HMA := Lib.hid (hml.below hba); clear hT hml
  have HCX := Lib.hid (CellsAt.new w x.cells 53)
  have HAA := Lib.hid hA
  have HOK := Lib.hid hok
  have HEV : Hid (evB x = (locOk x.name x.subs && cntB x.n)) := by
    show _ = _
    unfold evB; rw [if_neg (by rw [show decide (64 < x.value.size) = false from decide_eq_false (by omega)]; simp), hk]; rfl
  obtain ⟨kind, name, sv, xs, value, n⟩ := x
  obtain ⟨hn, ⟨hl, hz⟩, hv, _⟩ := hok
  obtain ⟨hs, _⟩ := h
  obtain ⟨hAs, _⟩ := hA
  simp only [EventV.cells] at *
  have HAS := Lib.hid hAs; have HZ := Lib.hid hz; clear hAs hz
  have HP := Lib.hid (locationOk_any name _ xs _ _ hn HAS.out hl HZ.out)
  obtain ⟨A, c, rfl, _, _⟩ := id hs
  clear hs
  subst hk
  obtain ⟨L, hL⟩ : ∃ L : Bool, locOk name xs = L := ⟨_, rfl⟩
  rw [hL] at HP HEV
  clear hL
  cases L
  · go_enter Tryz.func41, Tryz.ntmps41
    go_wp2_with fail
    refine HP.out.mono ?_
    rintro e w1 ⟨rfl, rfl⟩
    go_wp2_with fail
    go_ret
    exact ⟨ret_bool (by rw [HEV.out]; rfl), hba⟩
  · go_enter Tryz.func41, Tryz.ntmps41
    go_wp2_with fail
    refine HP.out.mono ?_
    rintro e w1 ⟨rfl, rfl⟩
    go_wp2_with fail
    refine (countOk_any n _).mono ?_
    rintro e w1 ⟨rfl, rfl⟩
    go_wp2_with fail
    go_ret
    exact ⟨ret_bool (by rw [HEV.out]; rfl), hba⟩

set_option maxHeartbeats 2000000 in
set_option maxRecDepth 100000 in
theorem EventOk_2 (x : EventV) (w : World) (hT : T10 w) (hml : ML w) (h : x.At w) (hok : x.Ok 1048576) (hk : x.kind = 2) (hbig : x.value.size ≤ 64) : Calls Tryz.prog 41 #[.agg x.cells] w fun e w' => e = .returned (.bool (evB x)) ∧ Below w.heap.size w w' := by
  have hba : Below w.heap.size w (w.alloc (.cells x.cells 53)) := Joins.below_alloc1 w _
  have hA := h.on hba
  have HTA := Lib.hid (hT.below hba); have HMA := Lib.hid (hml.below hba); clear hT hml
  have HCX := Lib.hid (CellsAt.new w x.cells 53)
  have HAA := Lib.hid hA
  have HOK := Lib.hid hok
  have HEV : Hid (evB x = (locOk x.name x.subs && (x.n == 0))) := by
    show _ = _
    unfold evB; rw [if_neg (by rw [show decide (64 < x.value.size) = false from decide_eq_false (by omega)]; simp), hk]; rfl
  obtain ⟨kind, name, sv, xs, value, n⟩ := x
  obtain ⟨hn, ⟨hl, hz⟩, hv, _⟩ := hok
  obtain ⟨hs, _⟩ := h
  obtain ⟨hAs, _⟩ := hA
  simp only [EventV.cells] at *
  have HAS := Lib.hid hAs; have HZ := Lib.hid hz; clear hAs hz
  have HP := Lib.hid (locationOk_any name _ xs _ _ hn HAS.out hl HZ.out)
  obtain ⟨A, c, rfl, _, _⟩ := id hs
  clear hs
  subst hk
  obtain ⟨L, hL⟩ : ∃ L : Bool, locOk name xs = L := ⟨_, rfl⟩
  rw [hL] at HP HEV
  clear hL
  cases L
  · go_enter Tryz.func41, Tryz.ntmps41
    go_wp2_with fail
    refine HP.out.mono ?_
    rintro e w1 ⟨rfl, rfl⟩
    go_wp2_with fail
    go_ret
    exact ⟨ret_bool (by rw [HEV.out]; rfl), hba⟩
  · go_enter Tryz.func41, Tryz.ntmps41
    go_wp2_with fail
    refine HP.out.mono ?_
    rintro e w1 ⟨rfl, rfl⟩
    go_wp2_with fail
    go_ret
    exact ⟨ret_bool (by rw [HEV.out]; simp), hba⟩

set_option maxHeartbeats 2000000 in
set_option maxRecDepth 100000 in
theorem EventOk_3 (x : EventV) (w : World) (hT : T10 w) (hml : ML w) (h : x.At w) (hok : x.Ok 1048576) (hk : x.kind = 3) (hbig : x.value.size ≤ 64) : Calls Tryz.prog 41 #[.agg x.cells] w fun e w' => e = .returned (.bool (evB x)) ∧ Below w.heap.size w w' := by
  have hba : Below w.heap.size w (w.alloc (.cells x.cells 53)) := Joins.below_alloc1 w _
  have hA := h.on hba
  have HTA := Lib.hid (hT.below hba); have HMA := Lib.hid (hml.below hba); clear hT hml
  have HCX := Lib.hid (CellsAt.new w x.cells 53)
  have HAA := Lib.hid hA
  have HOK := Lib.hid hok
  have HEV : Hid (evB x = (locOk x.name x.subs && (empB x.value && (x.n == 0)))) := by
    show _ = _
    unfold evB; rw [if_neg (by rw [show decide (64 < x.value.size) = false from decide_eq_false (by omega)]; simp), hk]; rfl
  obtain ⟨kind, name, sv, xs, value, n⟩ := x
  obtain ⟨hn, ⟨hl, hz⟩, hv, _⟩ := hok
  obtain ⟨hs, _⟩ := h
  obtain ⟨hAs, _⟩ := hA
  simp only [EventV.cells] at *
  have HAS := Lib.hid hAs; have HZ := Lib.hid hz; clear hAs hz
  have HP := Lib.hid (locationOk_any name _ xs _ _ hn HAS.out hl HZ.out)
  obtain ⟨A, c, rfl, _, _⟩ := id hs
  clear hs
  subst hk
  obtain ⟨L, hL⟩ : ∃ L : Bool, locOk name xs = L := ⟨_, rfl⟩
  rw [hL] at HP HEV
  clear hL
  cases L
  · go_enter Tryz.func41, Tryz.ntmps41
    go_wp2_with fail
    refine HP.out.mono ?_
    rintro e w1 ⟨rfl, rfl⟩
    go_wp2_with fail
    go_ret
    exact ⟨ret_bool (by rw [HEV.out]; rfl), hba⟩
  · rcases emptyForms value with ⟨v1, v2, v3, v4⟩ | ⟨v1, v2, v3, v4⟩
    · rw [show empB value = true from v4.out] at HEV
      go_enter Tryz.func41, Tryz.ntmps41
      go_wp2_with fail
      refine HP.out.mono ?_
      rintro e w1 ⟨rfl, rfl⟩
      go_wp2_with fail
      go_ret
      exact ⟨ret_bool (by rw [HEV.out]; simp), hba⟩
    · rw [show empB value = false from v4.out] at HEV
      go_enter Tryz.func41, Tryz.ntmps41
      go_wp2_with fail
      refine HP.out.mono ?_
      rintro e w1 ⟨rfl, rfl⟩
      go_wp2_with fail
      go_ret
      exact ⟨ret_bool (by rw [HEV.out]; rfl), hba⟩

set_option maxHeartbeats 2000000 in
set_option maxRecDepth 100000 in
theorem EventOk_4 (x : EventV) (w : World) (hT : T10 w) (hml : ML w) (h : x.At w) (hok : x.Ok 1048576) (hk : x.kind = 4) (hbig : x.value.size ≤ 64) : Calls Tryz.prog 41 #[.agg x.cells] w fun e w' => e = .returned (.bool (evB x)) ∧ Below w.heap.size w w' := by
  have hba : Below w.heap.size w (w.alloc (.cells x.cells 53)) := Joins.below_alloc1 w _
  have hA := h.on hba
  have HTA := Lib.hid (hT.below hba); have HMA := Lib.hid (hml.below hba); clear hT hml
  have HCX := Lib.hid (CellsAt.new w x.cells 53)
  have HAA := Lib.hid hA
  have HOK := Lib.hid hok
  have HEV : Hid (evB x = (locOk x.name x.subs && (empB x.value && cntB x.n))) := by
    show _ = _
    unfold evB; rw [if_neg (by rw [show decide (64 < x.value.size) = false from decide_eq_false (by omega)]; simp), hk]; rfl
  obtain ⟨kind, name, sv, xs, value, n⟩ := x
  obtain ⟨hn, ⟨hl, hz⟩, hv, _⟩ := hok
  obtain ⟨hs, _⟩ := h
  obtain ⟨hAs, _⟩ := hA
  simp only [EventV.cells] at *
  have HAS := Lib.hid hAs; have HZ := Lib.hid hz; clear hAs hz
  have HP := Lib.hid (locationOk_any name _ xs _ _ hn HAS.out hl HZ.out)
  obtain ⟨A, c, rfl, _, _⟩ := id hs
  clear hs
  subst hk
  obtain ⟨L, hL⟩ : ∃ L : Bool, locOk name xs = L := ⟨_, rfl⟩
  rw [hL] at HP HEV
  clear hL
  cases L
  · go_enter Tryz.func41, Tryz.ntmps41
    go_wp2_with fail
    refine HP.out.mono ?_
    rintro e w1 ⟨rfl, rfl⟩
    go_wp2_with fail
    go_ret
    exact ⟨ret_bool (by rw [HEV.out]; rfl), hba⟩
  · rcases emptyForms value with ⟨v1, v2, v3, v4⟩ | ⟨v1, v2, v3, v4⟩
    · rw [show empB value = true from v4.out] at HEV
      go_enter Tryz.func41, Tryz.ntmps41
      go_wp2_with fail
      refine HP.out.mono ?_
      rintro e w1 ⟨rfl, rfl⟩
      go_wp2_with fail
      refine (countOk_any n _).mono ?_
      rintro e w1 ⟨rfl, rfl⟩
      go_wp2_with fail
      go_ret
      exact ⟨ret_bool (by rw [HEV.out]; rfl), hba⟩
    · rw [show empB value = false from v4.out] at HEV
      go_enter Tryz.func41, Tryz.ntmps41
      go_wp2_with fail
      refine HP.out.mono ?_
      rintro e w1 ⟨rfl, rfl⟩
      go_wp2_with fail
      go_ret
      exact ⟨ret_bool (by rw [HEV.out]; rfl), hba⟩

set_option maxHeartbeats 2000000 in
set_option maxRecDepth 100000 in
theorem EventOk_5 (x : EventV) (w : World) (hT : T10 w) (hml : ML w) (h : x.At w) (hok : x.Ok 1048576) (hk : x.kind = 5) (hbig : x.value.size ≤ 64) : Calls Tryz.prog 41 #[.agg x.cells] w fun e w' => e = .returned (.bool (evB x)) ∧ Below w.heap.size w w' := by
  have hba : Below w.heap.size w (w.alloc (.cells x.cells 53)) := Joins.below_alloc1 w _
  have hA := h.on hba
  have HTA := Lib.hid (hT.below hba); have HMA := Lib.hid (hml.below hba); clear hT hml
  have HCX := Lib.hid (CellsAt.new w x.cells 53)
  have HAA := Lib.hid hA
  have HOK := Lib.hid hok
  have HEV : Hid (evB x = ((nameOk x.name && (decide (x.subs.length ≤ 4) && ordL x.subs)) && ((x.n == 1) || (x.n == -1)))) := by
    show _ = _
    unfold evB; rw [if_neg (by rw [show decide (64 < x.value.size) = false from decide_eq_false (by omega)]; simp), hk]; rfl
  obtain ⟨kind, name, sv, xs, value, n⟩ := x
  obtain ⟨hn, ⟨hl, hz⟩, hv, _⟩ := hok
  obtain ⟨hs, _⟩ := h
  obtain ⟨hAs, _⟩ := hA
  simp only [EventV.cells] at *
  have HAS := Lib.hid hAs; have HZ := Lib.hid hz; clear hAs hz
  have HP := Lib.hid (locationOk_any name _ xs _ _ hn HAS.out hl HZ.out)
  obtain ⟨A, c, rfl, _, _⟩ := id hs
  clear hs
  subst hk
  obtain ⟨L, hL⟩ : ∃ L : Bool, locOk name xs = L := ⟨_, rfl⟩
  rw [hL] at HP
  clear hL
  have HNM := Lib.hid (fun W => NameOk_any name W hn)
  have HOR := Lib.hid (orderableL_any _ xs _ _ HAS.out hl HZ.out)
  obtain ⟨N, hN⟩ : ∃ N : Bool, nameOk name = N := ⟨_, rfl⟩
  obtain ⟨O, hO⟩ : ∃ O : Bool, ordL xs = O := ⟨_, rfl⟩
  rw [hN] at HNM HEV
  rw [hO] at HOR HEV
  clear hN hO
  cases N
  · go_enter Tryz.func41, Tryz.ntmps41
    go_wp2_with fail
    refine HP.out.mono ?_
    rintro e w1 ⟨rfl, rfl⟩
    go_wp2_with fail
    refine (HNM.out _).mono ?_
    rintro e w1 ⟨rfl, rfl⟩
    go_wp2_with fail
    go_ret
    exact ⟨ret_bool (by rw [HEV.out]; rfl), hba⟩
  · by_cases h4 : xs.length ≤ 4
    rotate_left
    · rw [decide_eq_false h4] at HEV
      go_enter Tryz.func41, Tryz.ntmps41
      go_wp2_with fail
      refine HP.out.mono ?_
      rintro e w1 ⟨rfl, rfl⟩
      go_wp2_with fail
      refine (HNM.out _).mono ?_
      rintro e w1 ⟨rfl, rfl⟩
      go_wp2_with fail
      go_ret
      exact ⟨ret_bool (by rw [HEV.out]; rfl), hba⟩
    · rw [decide_eq_true h4] at HEV
      cases O
      · go_enter Tryz.func41, Tryz.ntmps41
        go_wp2_with fail
        refine HP.out.mono ?_
        rintro e w1 ⟨rfl, rfl⟩
        go_wp2_with fail
        refine (HNM.out _).mono ?_
        rintro e w1 ⟨rfl, rfl⟩
        go_wp2_with fail
        refine HOR.out.mono ?_
        rintro e w1 ⟨rfl, rfl⟩
        go_wp2_with fail
        go_ret
        exact ⟨ret_bool (by rw [HEV.out]; rfl), hba⟩
      · rcases eqForms n 1 with ⟨a1, a2, a3⟩ | ⟨a1, a2, a3⟩
        all_goals
          rw [a1] at HEV
          go_enter Tryz.func41, Tryz.ntmps41
          go_wp2_with fail
          refine HP.out.mono ?_
          rintro e w1 ⟨rfl, rfl⟩
          go_wp2_with fail
          refine (HNM.out _).mono ?_
          rintro e w1 ⟨rfl, rfl⟩
          go_wp2_with fail
          refine HOR.out.mono ?_
          rintro e w1 ⟨rfl, rfl⟩
          go_wp2_with fail
          go_ret
          exact ⟨ret_bool (by rw [HEV.out]; simp), hba⟩

set_option maxHeartbeats 2000000 in
set_option maxRecDepth 100000 in
theorem EventOk_6 (x : EventV) (w : World) (hT : T10 w) (hml : ML w) (h : x.At w) (hok : x.Ok 1048576) (hk : x.kind = 6) (hbig : True) : Calls Tryz.prog 41 #[.agg x.cells] w fun e w' => e = .returned (.bool (evB x)) ∧ Below w.heap.size w w' := by
  have hba : Below w.heap.size w (w.alloc (.cells x.cells 53)) := Joins.below_alloc1 w _
  have hA := h.on hba
  have HTA := Lib.hid (hT.below hba); have HMA := Lib.hid (hml.below hba); clear hT hml
  have HCX := Lib.hid (CellsAt.new w x.cells 53)
  have HAA := Lib.hid hA
  have HOK := Lib.hid hok
  have HEV : Hid (evB x = qryB x) := by
    show _ = _
    unfold evB; rw [if_neg (by rw [hk]; simp), hk]; rfl
  obtain ⟨kind, name, sv, xs, value, n⟩ := x
  obtain ⟨hn, ⟨hl, hz⟩, hv, _⟩ := hok
  obtain ⟨hs, _⟩ := h
  obtain ⟨hAs, _⟩ := hA
  simp only [EventV.cells] at *
  have HAS := Lib.hid hAs; have HZ := Lib.hid hz; clear hAs hz
  have HP := Lib.hid (locationOk_any name _ xs _ _ hn HAS.out hl HZ.out)
  obtain ⟨A, c, rfl, _, _⟩ := id hs
  clear hs
  subst hk
  obtain ⟨L, hL⟩ : ∃ L : Bool, locOk name xs = L := ⟨_, rfl⟩
  rw [hL] at HP
  clear hL
  have HQ := Lib.hid (queryOk_any _ _ HTA.out HMA.out HAA.out HOK.out)
  generalize qryB ⟨6, name, .slice A xs.length c, xs, value, n⟩ = Q at *
  simp only [EventV.cells] at HQ
  by_cases h64 : value.size ≤ 64
  all_goals
    cases L
    all_goals
      go_enter Tryz.func41, Tryz.ntmps41
      go_wp2_with fail
      refine HP.out.mono ?_
      rintro e w1 ⟨rfl, rfl⟩
      go_wp2_with fail
      refine HQ.out.mono ?_
      rintro e w2 ⟨rfl, b2⟩
      go_wp2_with fail
      go_ret
      exact ⟨ret_bool HEV.out.symm, below_trans hba b2⟩

set_option maxHeartbeats 2000000 in
set_option maxRecDepth 100000 in
theorem EventOk_7 (x : EventV) (w : World) (hT : T10 w) (hml : ML w) (h : x.At w) (hok : x.Ok 1048576) (hk : x.kind = 7) (hbig : x.value.size ≤ 64) : Calls Tryz.prog 41 #[.agg x.cells] w fun e w' => e = .returned (.bool (evB x)) ∧ Below w.heap.size w w' := by
  have hba : Below w.heap.size w (w.alloc (.cells x.cells 53)) := Joins.below_alloc1 w _
  have hA := h.on hba
  have HTA := Lib.hid (hT.below hba); have HMA := Lib.hid (hml.below hba); clear hT hml
  have HCX := Lib.hid (CellsAt.new w x.cells 53)
  have HAA := Lib.hid hA
  have HOK := Lib.hid hok
  have HEV : Hid (evB x = ((empB x.name && x.subs.isEmpty) && (x.n == 0))) := by
    show _ = _
    unfold evB; rw [if_neg (by rw [show decide (64 < x.value.size) = false from decide_eq_false (by omega)]; simp), hk]; rfl
  obtain ⟨kind, name, sv, xs, value, n⟩ := x
  obtain ⟨hn, ⟨hl, hz⟩, hv, _⟩ := hok
  obtain ⟨hs, _⟩ := h
  obtain ⟨hAs, _⟩ := hA
  simp only [EventV.cells] at *
  have HAS := Lib.hid hAs; have HZ := Lib.hid hz; clear hAs hz
  have HP := Lib.hid (locationOk_any name _ xs _ _ hn HAS.out hl HZ.out)
  obtain ⟨A, c, rfl, _, _⟩ := id hs
  clear hs
  subst hk
  obtain ⟨L, hL⟩ : ∃ L : Bool, locOk name xs = L := ⟨_, rfl⟩
  rw [hL] at HP
  clear hL
  have H0 : Hid (evB ⟨7, name, .slice A xs.length c, xs, value, n⟩ = ((empB name && xs.isEmpty) && (n == 0))) := HEV
  clear HEV
  have HEV := H0
  clear H0
  rcases emptyForms name with ⟨m1, m2, m3, m4⟩ | ⟨m1, m2, m3, m4⟩
  rotate_left
  · rw [show empB name = false from m4.out] at HEV
    cases L
    all_goals
      go_enter Tryz.func41, Tryz.ntmps41
      go_wp2_with fail
      refine HP.out.mono ?_
      rintro e w1 ⟨rfl, rfl⟩
      go_wp2_with fail
      go_ret
      exact ⟨ret_bool (by rw [HEV.out]; rfl), hba⟩
  rw [show empB name = true from m4.out] at HEV
  rcases lenForms xs with ⟨b1, b2, b3⟩ | ⟨b1, b2, b3⟩
  all_goals
    rw [b3.out] at HEV
    cases L
    all_goals
      go_enter Tryz.func41, Tryz.ntmps41
      go_wp2_with fail
      refine HP.out.mono ?_
      rintro e w1 ⟨rfl, rfl⟩
      go_wp2_with fail
      go_ret
      exact ⟨ret_bool (by rw [HEV.out]; simp), hba⟩

set_option maxHeartbeats 2000000 in
set_option maxRecDepth 100000 in
theorem EventOk_8 (x : EventV) (w : World) (hT : T10 w) (hml : ML w) (h : x.At w) (hok : x.Ok 1048576) (hk : x.kind = 8) (hbig : x.value.size ≤ 64) : Calls Tryz.prog 41 #[.agg x.cells] w fun e w' => e = .returned (.bool (evB x)) ∧ Below w.heap.size w w' := by
  have hba : Below w.heap.size w (w.alloc (.cells x.cells 53)) := Joins.below_alloc1 w _
  have hA := h.on hba
  have HTA := Lib.hid (hT.below hba); have HMA := Lib.hid (hml.below hba); clear hT hml
  have HCX := Lib.hid (CellsAt.new w x.cells 53)
  have HAA := Lib.hid hA
  have HOK := Lib.hid hok
  have HEV : Hid (evB x = ((empB x.name && x.subs.isEmpty) && (x.n == 0))) := by
    show _ = _
    unfold evB; rw [if_neg (by rw [show decide (64 < x.value.size) = false from decide_eq_false (by omega)]; simp), hk]; rfl
  obtain ⟨kind, name, sv, xs, value, n⟩ := x
  obtain ⟨hn, ⟨hl, hz⟩, hv, _⟩ := hok
  obtain ⟨hs, _⟩ := h
  obtain ⟨hAs, _⟩ := hA
  simp only [EventV.cells] at *
  have HAS := Lib.hid hAs; have HZ := Lib.hid hz; clear hAs hz
  have HP := Lib.hid (locationOk_any name _ xs _ _ hn HAS.out hl HZ.out)
  obtain ⟨A, c, rfl, _, _⟩ := id hs
  clear hs
  subst hk
  obtain ⟨L, hL⟩ : ∃ L : Bool, locOk name xs = L := ⟨_, rfl⟩
  rw [hL] at HP
  clear hL
  have H0 : Hid (evB ⟨8, name, .slice A xs.length c, xs, value, n⟩ = ((empB name && xs.isEmpty) && (n == 0))) := HEV
  clear HEV
  have HEV := H0
  clear H0
  rcases emptyForms name with ⟨m1, m2, m3, m4⟩ | ⟨m1, m2, m3, m4⟩
  rotate_left
  · rw [show empB name = false from m4.out] at HEV
    cases L
    all_goals
      go_enter Tryz.func41, Tryz.ntmps41
      go_wp2_with fail
      refine HP.out.mono ?_
      rintro e w1 ⟨rfl, rfl⟩
      go_wp2_with fail
      go_ret
      exact ⟨ret_bool (by rw [HEV.out]; rfl), hba⟩
  rw [show empB name = true from m4.out] at HEV
  rcases lenForms xs with ⟨b1, b2, b3⟩ | ⟨b1, b2, b3⟩
  all_goals
    rw [b3.out] at HEV
    cases L
    all_goals
      go_enter Tryz.func41, Tryz.ntmps41
      go_wp2_with fail
      refine HP.out.mono ?_
      rintro e w1 ⟨rfl, rfl⟩
      go_wp2_with fail
      go_ret
      exact ⟨ret_bool (by rw [HEV.out]; simp), hba⟩

set_option maxHeartbeats 2000000 in
set_option maxRecDepth 100000 in
theorem EventOk_9 (x : EventV) (w : World) (hT : T10 w) (hml : ML w) (h : x.At w) (hok : x.Ok 1048576) (hk : x.kind = 9) (hbig : x.value.size ≤ 64) : Calls Tryz.prog 41 #[.agg x.cells] w fun e w' => e = .returned (.bool (evB x)) ∧ Below w.heap.size w w' := by
  have hba : Below w.heap.size w (w.alloc (.cells x.cells 53)) := Joins.below_alloc1 w _
  have hA := h.on hba
  have HTA := Lib.hid (hT.below hba); have HMA := Lib.hid (hml.below hba); clear hT hml
  have HCX := Lib.hid (CellsAt.new w x.cells 53)
  have HAA := Lib.hid hA
  have HOK := Lib.hid hok
  have HEV : Hid (evB x = lckB x) := by
    show _ = _
    unfold evB; rw [if_neg (by rw [show decide (64 < x.value.size) = false from decide_eq_false (by omega)]; simp), hk]; rfl
  obtain ⟨kind, name, sv, xs, value, n⟩ := x
  obtain ⟨hn, ⟨hl, hz⟩, hv, _⟩ := hok
  obtain ⟨hs, _⟩ := h
  obtain ⟨hAs, _⟩ := hA
  simp only [EventV.cells] at *
  have HAS := Lib.hid hAs; have HZ := Lib.hid hz; clear hAs hz
  have HP := Lib.hid (locationOk_any name _ xs _ _ hn HAS.out hl HZ.out)
  obtain ⟨A, c, rfl, _, _⟩ := id hs
  clear hs
  subst hk
  obtain ⟨L, hL⟩ : ∃ L : Bool, locOk name xs = L := ⟨_, rfl⟩
  rw [hL] at HP
  clear hL
  have HQ := Lib.hid (lockOk_any _ _ HTA.out HAA.out HOK.out)
  generalize lckB ⟨9, name, .slice A xs.length c, xs, value, n⟩ = Q at *
  simp only [EventV.cells] at HQ
  cases L
  all_goals
    go_enter Tryz.func41, Tryz.ntmps41
    go_wp2_with fail
    refine HP.out.mono ?_
    rintro e w1 ⟨rfl, rfl⟩
    go_wp2_with fail
    refine HQ.out.mono ?_
    rintro e w2 ⟨rfl, b2⟩
    go_wp2_with fail
    go_ret
    exact ⟨ret_bool HEV.out.symm, below_trans hba b2⟩

set_option maxHeartbeats 2000000 in
set_option maxRecDepth 100000 in
theorem EventOk_10 (x : EventV) (w : World) (hT : T10 w) (hml : ML w) (h : x.At w) (hok : x.Ok 1048576) (hk : x.kind = 10) (hbig : x.value.size ≤ 64) : Calls Tryz.prog 41 #[.agg x.cells] w fun e w' => e = .returned (.bool (evB x)) ∧ Below w.heap.size w w' := by
  have hba : Below w.heap.size w (w.alloc (.cells x.cells 53)) := Joins.below_alloc1 w _
  have hA := h.on hba
  have HTA := Lib.hid (hT.below hba); have HMA := Lib.hid (hml.below hba); clear hT hml
  have HCX := Lib.hid (CellsAt.new w x.cells 53)
  have HAA := Lib.hid hA
  have HOK := Lib.hid hok
  have HEV : Hid (evB x = (noFB x && (x.n == 0))) := by
    show _ = _
    unfold evB; rw [if_neg (by rw [show decide (64 < x.value.size) = false from decide_eq_false (by omega)]; simp), hk]; rfl
  obtain ⟨kind, name, sv, xs, value, n⟩ := x
  obtain ⟨hn, ⟨hl, hz⟩, hv, _⟩ := hok
  obtain ⟨hs, _⟩ := h
  obtain ⟨hAs, _⟩ := hA
  simp only [EventV.cells] at *
  have HAS := Lib.hid hAs; have HZ := Lib.hid hz; clear hAs hz
  have HP := Lib.hid (locationOk_any name _ xs _ _ hn HAS.out hl HZ.out)
  obtain ⟨A, c, rfl, _, _⟩ := id hs
  clear hs
  subst hk
  obtain ⟨L, hL⟩ : ∃ L : Bool, locOk name xs = L := ⟨_, rfl⟩
  rw [hL] at HP
  clear hL
  have HQ := Lib.hid (noFields_any _ _ HAA.out)
  simp only [EventV.cells] at HQ HEV
  generalize noFB ⟨10, name, .slice A xs.length c, xs, value, n⟩ = F at *
  cases F
  · cases L
    all_goals
      go_enter Tryz.func41, Tryz.ntmps41
      go_wp2_with fail
      refine HP.out.mono ?_
      rintro e w1 ⟨rfl, rfl⟩
      go_wp2_with fail
      refine HQ.out.mono ?_
      rintro e w2 ⟨rfl, b2⟩
      have B2 := Lib.hid (below_trans hba b2)
      have c4 : w2.cell? ⟨w.heap.size, 4, none⟩ = some (.int .i64 n) := (HCX.out.below b2).2 4 _ rfl
      clear b2
      go_wp2_with fail
      go_ret
      exact ⟨ret_bool (by rw [HEV.out]; rfl), B2.out⟩
  · cases L
    all_goals
      go_enter Tryz.func41, Tryz.ntmps41
      go_wp2_with fail
      refine HP.out.mono ?_
      rintro e w1 ⟨rfl, rfl⟩
      go_wp2_with fail
      refine HQ.out.mono ?_
      rintro e w2 ⟨rfl, b2⟩
      have B2 := Lib.hid (below_trans hba b2)
      have c4 : w2.cell? ⟨w.heap.size, 4, none⟩ = some (.int .i64 n) := (HCX.out.below b2).2 4 _ rfl
      clear b2
      go_wp2_with fail
      go_ret
      exact ⟨ret_bool (by rw [HEV.out]; simp), B2.out⟩

set_option maxHeartbeats 2000000 in
set_option maxRecDepth 100000 in
theorem EventOk_11 (x : EventV) (w : World) (hT : T10 w) (hml : ML w) (h : x.At w) (hok : x.Ok 1048576) (hk : x.kind = 11) (hbig : x.value.size ≤ 64) : Calls Tryz.prog 41 #[.agg x.cells] w fun e w' => e = .returned (.bool (evB x)) ∧ Below w.heap.size w w' := by
  have hba : Below w.heap.size w (w.alloc (.cells x.cells 53)) := Joins.below_alloc1 w _
  have hA := h.on hba
  have HTA := Lib.hid (hT.below hba); have HMA := Lib.hid (hml.below hba); clear hT hml
  have HCX := Lib.hid (CellsAt.new w x.cells 53)
  have HAA := Lib.hid hA
  have HOK := Lib.hid hok
  have HEV : Hid (evB x = (noFB x && (x.n == 0))) := by
    show _ = _
    unfold evB; rw [if_neg (by rw [show decide (64 < x.value.size) = false from decide_eq_false (by omega)]; simp), hk]; rfl
  obtain ⟨kind, name, sv, xs, value, n⟩ := x
  obtain ⟨hn, ⟨hl, hz⟩, hv, _⟩ := hok
  obtain ⟨hs, _⟩ := h
  obtain ⟨hAs, _⟩ := hA
  simp only [EventV.cells] at *
  have HAS := Lib.hid hAs; have HZ := Lib.hid hz; clear hAs hz
  have HP := Lib.hid (locationOk_any name _ xs _ _ hn HAS.out hl HZ.out)
  obtain ⟨A, c, rfl, _, _⟩ := id hs
  clear hs
  subst hk
  obtain ⟨L, hL⟩ : ∃ L : Bool, locOk name xs = L := ⟨_, rfl⟩
  rw [hL] at HP
  clear hL
  have HQ := Lib.hid (noFields_any _ _ HAA.out)
  simp only [EventV.cells] at HQ HEV
  generalize noFB ⟨11, name, .slice A xs.length c, xs, value, n⟩ = F at *
  cases F
  · cases L
    all_goals
      go_enter Tryz.func41, Tryz.ntmps41
      go_wp2_with fail
      refine HP.out.mono ?_
      rintro e w1 ⟨rfl, rfl⟩
      go_wp2_with fail
      refine HQ.out.mono ?_
      rintro e w2 ⟨rfl, b2⟩
      have B2 := Lib.hid (below_trans hba b2)
      have c4 : w2.cell? ⟨w.heap.size, 4, none⟩ = some (.int .i64 n) := (HCX.out.below b2).2 4 _ rfl
      clear b2
      go_wp2_with fail
      go_ret
      exact ⟨ret_bool (by rw [HEV.out]; rfl), B2.out⟩
  · cases L
    all_goals
      go_enter Tryz.func41, Tryz.ntmps41
      go_wp2_with fail
      refine HP.out.mono ?_
      rintro e w1 ⟨rfl, rfl⟩
      go_wp2_with fail
      refine HQ.out.mono ?_
      rintro e w2 ⟨rfl, b2⟩
      have B2 := Lib.hid (below_trans hba b2)
      have c4 : w2.cell? ⟨w.heap.size, 4, none⟩ = some (.int .i64 n) := (HCX.out.below b2).2 4 _ rfl
      clear b2
      go_wp2_with fail
      go_ret
      exact ⟨ret_bool (by rw [HEV.out]; simp), B2.out⟩

set_option maxHeartbeats 2000000 in
set_option maxRecDepth 100000 in
theorem EventOk_12 (x : EventV) (w : World) (hT : T10 w) (hml : ML w) (h : x.At w) (hok : x.Ok 1048576) (hk : x.kind = 12) (hbig : x.value.size ≤ 64) : Calls Tryz.prog 41 #[.agg x.cells] w fun e w' => e = .returned (.bool (evB x)) ∧ Below w.heap.size w w' := by
  have hba : Below w.heap.size w (w.alloc (.cells x.cells 53)) := Joins.below_alloc1 w _
  have hA := h.on hba
  have HTA := Lib.hid (hT.below hba); have HMA := Lib.hid (hml.below hba); clear hT hml
  have HCX := Lib.hid (CellsAt.new w x.cells 53)
  have HAA := Lib.hid hA
  have HOK := Lib.hid hok
  have HEV : Hid (evB x = (noFB x && (x.n == 0))) := by
    show _ = _
    unfold evB; rw [if_neg (by rw [show decide (64 < x.value.size) = false from decide_eq_false (by omega)]; simp), hk]; rfl
  obtain ⟨kind, name, sv, xs, value, n⟩ := x
  obtain ⟨hn, ⟨hl, hz⟩, hv, _⟩ := hok
  obtain ⟨hs, _⟩ := h
  obtain ⟨hAs, _⟩ := hA
  simp only [EventV.cells] at *
  have HAS := Lib.hid hAs; have HZ := Lib.hid hz; clear hAs hz
  have HP := Lib.hid (locationOk_any name _ xs _ _ hn HAS.out hl HZ.out)
  obtain ⟨A, c, rfl, _, _⟩ := id hs
  clear hs
  subst hk
  obtain ⟨L, hL⟩ : ∃ L : Bool, locOk name xs = L := ⟨_, rfl⟩
  rw [hL] at HP
  clear hL
  have HQ := Lib.hid (noFields_any _ _ HAA.out)
  simp only [EventV.cells] at HQ HEV
  generalize noFB ⟨12, name, .slice A xs.length c, xs, value, n⟩ = F at *
  cases F
  · cases L
    all_goals
      go_enter Tryz.func41, Tryz.ntmps41
      go_wp2_with fail
      refine HP.out.mono ?_
      rintro e w1 ⟨rfl, rfl⟩
      go_wp2_with fail
      refine HQ.out.mono ?_
      rintro e w2 ⟨rfl, b2⟩
      have B2 := Lib.hid (below_trans hba b2)
      have c4 : w2.cell? ⟨w.heap.size, 4, none⟩ = some (.int .i64 n) := (HCX.out.below b2).2 4 _ rfl
      clear b2
      go_wp2_with fail
      go_ret
      exact ⟨ret_bool (by rw [HEV.out]; rfl), B2.out⟩
  · cases L
    all_goals
      go_enter Tryz.func41, Tryz.ntmps41
      go_wp2_with fail
      refine HP.out.mono ?_
      rintro e w1 ⟨rfl, rfl⟩
      go_wp2_with fail
      refine HQ.out.mono ?_
      rintro e w2 ⟨rfl, b2⟩
      have B2 := Lib.hid (below_trans hba b2)
      have c4 : w2.cell? ⟨w.heap.size, 4, none⟩ = some (.int .i64 n) := (HCX.out.below b2).2 4 _ rfl
      clear b2
      go_wp2_with fail
      go_ret
      exact ⟨ret_bool (by rw [HEV.out]; simp), B2.out⟩

set_option maxHeartbeats 2000000 in
set_option maxRecDepth 100000 in
theorem EventOk_13 (x : EventV) (w : World) (hT : T10 w) (hml : ML w) (h : x.At w) (hok : x.Ok 1048576) (hk : x.kind = 13) (hbig : x.value.size ≤ 64) : Calls Tryz.prog 41 #[.agg x.cells] w fun e w' => e = .returned (.bool (evB x)) ∧ Below w.heap.size w w' := by
  have hba : Below w.heap.size w (w.alloc (.cells x.cells 53)) := Joins.below_alloc1 w _
  have hA := h.on hba
  have HTA := Lib.hid (hT.below hba); have HMA := Lib.hid (hml.below hba); clear hT hml
  have HCX := Lib.hid (CellsAt.new w x.cells 53)
  have HAA := Lib.hid hA
  have HOK := Lib.hid hok
  have HEV : Hid (evB x = (noFB x && inB3 x.n 0 999999999999)) := by
    show _ = _
    unfold evB; rw [if_neg (by rw [show decide (64 < x.value.size) = false from decide_eq_false (by omega)]; simp), hk]; rfl
  obtain ⟨kind, name, sv, xs, value, n⟩ := x
  obtain ⟨hn, ⟨hl, hz⟩, hv, _⟩ := hok
  obtain ⟨hs, _⟩ := h
  obtain ⟨hAs, _⟩ := hA
  simp only [EventV.cells] at *
  have HAS := Lib.hid hAs; have HZ := Lib.hid hz; clear hAs hz
  have HP := Lib.hid (locationOk_any name _ xs _ _ hn HAS.out hl HZ.out)
  obtain ⟨A, c, rfl, _, _⟩ := id hs
  clear hs
  subst hk
  obtain ⟨L, hL⟩ : ∃ L : Bool, locOk name xs = L := ⟨_, rfl⟩
  rw [hL] at HP
  clear hL
  have HQ := Lib.hid (noFields_any _ _ HAA.out)
  simp only [EventV.cells] at HQ HEV
  generalize noFB ⟨13, name, .slice A xs.length c, xs, value, n⟩ = F at *
  cases F
  · cases L
    all_goals
      go_enter Tryz.func41, Tryz.ntmps41
      go_wp2_with fail
      refine HP.out.mono ?_
      rintro e w1 ⟨rfl, rfl⟩
      go_wp2_with fail
      refine HQ.out.mono ?_
      rintro e w2 ⟨rfl, b2⟩
      have B2 := Lib.hid (below_trans hba b2)
      have c4 : w2.cell? ⟨w.heap.size, 4, none⟩ = some (.int .i64 n) := (HCX.out.below b2).2 4 _ rfl
      clear b2
      go_wp2_with fail
      go_ret
      exact ⟨ret_bool (by rw [HEV.out]; rfl), B2.out⟩
  · cases L
    all_goals
      go_enter Tryz.func41, Tryz.ntmps41
      go_wp2_with fail
      refine HP.out.mono ?_
      rintro e w1 ⟨rfl, rfl⟩
      go_wp2_with fail
      refine HQ.out.mono ?_
      rintro e w2 ⟨rfl, b2⟩
      have B2 := Lib.hid (below_trans hba b2)
      have c4 : w2.cell? ⟨w.heap.size, 4, none⟩ = some (.int .i64 n) := (HCX.out.below b2).2 4 _ rfl
      clear b2
      go_wp2_with fail
      refine (within_any n _ _ _).mono ?_
      rintro e w3 ⟨rfl, rfl⟩
      go_wp2_with fail
      go_ret
      exact ⟨ret_bool (by rw [HEV.out]; rfl), B2.out⟩

set_option maxHeartbeats 2000000 in
set_option maxRecDepth 100000 in
theorem EventOk_14 (x : EventV) (w : World) (hT : T10 w) (hml : ML w) (h : x.At w) (hok : x.Ok 1048576) (hk : x.kind = 14) (hbig : x.value.size ≤ 64) : Calls Tryz.prog 41 #[.agg x.cells] w fun e w' => e = .returned (.bool (evB x)) ∧ Below w.heap.size w w' := by
  have hba : Below w.heap.size w (w.alloc (.cells x.cells 53)) := Joins.below_alloc1 w _
  have hA := h.on hba
  have HTA := Lib.hid (hT.below hba); have HMA := Lib.hid (hml.below hba); clear hT hml
  have HCX := Lib.hid (CellsAt.new w x.cells 53)
  have HAA := Lib.hid hA
  have HOK := Lib.hid hok
  have HEV : Hid (evB x = (noFB x && (x.n == 0))) := by
    show _ = _
    unfold evB; rw [if_neg (by rw [show decide (64 < x.value.size) = false from decide_eq_false (by omega)]; simp), hk]; rfl
  obtain ⟨kind, name, sv, xs, value, n⟩ := x
  obtain ⟨hn, ⟨hl, hz⟩, hv, _⟩ := hok
  obtain ⟨hs, _⟩ := h
  obtain ⟨hAs, _⟩ := hA
  simp only [EventV.cells] at *
  have HAS := Lib.hid hAs; have HZ := Lib.hid hz; clear hAs hz
  have HP := Lib.hid (locationOk_any name _ xs _ _ hn HAS.out hl HZ.out)
  obtain ⟨A, c, rfl, _, _⟩ := id hs
  clear hs
  subst hk
  obtain ⟨L, hL⟩ : ∃ L : Bool, locOk name xs = L := ⟨_, rfl⟩
  rw [hL] at HP
  clear hL
  have HQ := Lib.hid (noFields_any _ _ HAA.out)
  simp only [EventV.cells] at HQ HEV
  generalize noFB ⟨14, name, .slice A xs.length c, xs, value, n⟩ = F at *
  cases F
  · cases L
    all_goals
      go_enter Tryz.func41, Tryz.ntmps41
      go_wp2_with fail
      refine HP.out.mono ?_
      rintro e w1 ⟨rfl, rfl⟩
      go_wp2_with fail
      refine HQ.out.mono ?_
      rintro e w2 ⟨rfl, b2⟩
      have B2 := Lib.hid (below_trans hba b2)
      have c4 : w2.cell? ⟨w.heap.size, 4, none⟩ = some (.int .i64 n) := (HCX.out.below b2).2 4 _ rfl
      clear b2
      go_wp2_with fail
      go_ret
      exact ⟨ret_bool (by rw [HEV.out]; rfl), B2.out⟩
  · cases L
    all_goals
      go_enter Tryz.func41, Tryz.ntmps41
      go_wp2_with fail
      refine HP.out.mono ?_
      rintro e w1 ⟨rfl, rfl⟩
      go_wp2_with fail
      refine HQ.out.mono ?_
      rintro e w2 ⟨rfl, b2⟩
      have B2 := Lib.hid (below_trans hba b2)
      have c4 : w2.cell? ⟨w.heap.size, 4, none⟩ = some (.int .i64 n) := (HCX.out.below b2).2 4 _ rfl
      clear b2
      go_wp2_with fail
      go_ret
      exact ⟨ret_bool (by rw [HEV.out]; simp), B2.out⟩

set_option maxHeartbeats 2000000 in
set_option maxRecDepth 100000 in
theorem EventOk_15 (x : EventV) (w : World) (hT : T10 w) (hml : ML w) (h : x.At w) (hok : x.Ok 1048576) (hk : x.kind = 15) (hbig : x.value.size ≤ 64) : Calls Tryz.prog 41 #[.agg x.cells] w fun e w' => e = .returned (.bool (evB x)) ∧ Below w.heap.size w w' := by
  have hba : Below w.heap.size w (w.alloc (.cells x.cells 53)) := Joins.below_alloc1 w _
  have hA := h.on hba
  have HTA := Lib.hid (hT.below hba); have HMA := Lib.hid (hml.below hba); clear hT hml
  have HCX := Lib.hid (CellsAt.new w x.cells 53)
  have HAA := Lib.hid hA
  have HOK := Lib.hid hok
  have HEV : Hid (evB x = (noFB x && inB3 x.n 1 17)) := by
    show _ = _
    unfold evB; rw [if_neg (by rw [show decide (64 < x.value.size) = false from decide_eq_false (by omega)]; simp), hk]; rfl
  obtain ⟨kind, name, sv, xs, value, n⟩ := x
  obtain ⟨hn, ⟨hl, hz⟩, hv, _⟩ := hok
  obtain ⟨hs, _⟩ := h
  obtain ⟨hAs, _⟩ := hA
  simp only [EventV.cells] at *
  have HAS := Lib.hid hAs; have HZ := Lib.hid hz; clear hAs hz
  have HP := Lib.hid (locationOk_any name _ xs _ _ hn HAS.out hl HZ.out)
  obtain ⟨A, c, rfl, _, _⟩ := id hs
  clear hs
  subst hk
  obtain ⟨L, hL⟩ : ∃ L : Bool, locOk name xs = L := ⟨_, rfl⟩
  rw [hL] at HP
  clear hL
  have HQ := Lib.hid (noFields_any _ _ HAA.out)
  simp only [EventV.cells] at HQ HEV
  generalize noFB ⟨15, name, .slice A xs.length c, xs, value, n⟩ = F at *
  cases F
  · cases L
    all_goals
      go_enter Tryz.func41, Tryz.ntmps41
      go_wp2_with fail
      refine HP.out.mono ?_
      rintro e w1 ⟨rfl, rfl⟩
      go_wp2_with fail
      refine HQ.out.mono ?_
      rintro e w2 ⟨rfl, b2⟩
      have B2 := Lib.hid (below_trans hba b2)
      have c4 : w2.cell? ⟨w.heap.size, 4, none⟩ = some (.int .i64 n) := (HCX.out.below b2).2 4 _ rfl
      clear b2
      go_wp2_with fail
      go_ret
      exact ⟨ret_bool (by rw [HEV.out]; rfl), B2.out⟩
  · cases L
    all_goals
      go_enter Tryz.func41, Tryz.ntmps41
      go_wp2_with fail
      refine HP.out.mono ?_
      rintro e w1 ⟨rfl, rfl⟩
      go_wp2_with fail
      refine HQ.out.mono ?_
      rintro e w2 ⟨rfl, b2⟩
      have B2 := Lib.hid (below_trans hba b2)
      have c4 : w2.cell? ⟨w.heap.size, 4, none⟩ = some (.int .i64 n) := (HCX.out.below b2).2 4 _ rfl
      clear b2
      go_wp2_with fail
      refine (within_any n _ _ _).mono ?_
      rintro e w3 ⟨rfl, rfl⟩
      go_wp2_with fail
      go_ret
      exact ⟨ret_bool (by rw [HEV.out]; rfl), B2.out⟩

set_option maxHeartbeats 2000000 in
set_option maxRecDepth 100000 in
theorem EventOk_16 (x : EventV) (w : World) (hT : T10 w) (hml : ML w) (h : x.At w) (hok : x.Ok 1048576) (hk : x.kind = 16) (hbig : x.value.size ≤ 64) : Calls Tryz.prog 41 #[.agg x.cells] w fun e w' => e = .returned (.bool (evB x)) ∧ Below w.heap.size w w' := by
  have hba : Below w.heap.size w (w.alloc (.cells x.cells 53)) := Joins.below_alloc1 w _
  have hA := h.on hba
  have HTA := Lib.hid (hT.below hba); have HMA := Lib.hid (hml.below hba); clear hT hml
  have HCX := Lib.hid (CellsAt.new w x.cells 53)
  have HAA := Lib.hid hA
  have HOK := Lib.hid hok
  have HEV : Hid (evB x = (noFB x && (x.n == 0))) := by
    show _ = _
    unfold evB; rw [if_neg (by rw [show decide (64 < x.value.size) = false from decide_eq_false (by omega)]; simp), hk]; rfl
  obtain ⟨kind, name, sv, xs, value, n⟩ := x
  obtain ⟨hn, ⟨hl, hz⟩, hv, _⟩ := hok
  obtain ⟨hs, _⟩ := h
  obtain ⟨hAs, _⟩ := hA
  simp only [EventV.cells] at *
  have HAS := Lib.hid hAs; have HZ := Lib.hid hz; clear hAs hz
  have HP := Lib.hid (locationOk_any name _ xs _ _ hn HAS.out hl HZ.out)
  obtain ⟨A, c, rfl, _, _⟩ := id hs
  clear hs
  subst hk
  obtain ⟨L, hL⟩ : ∃ L : Bool, locOk name xs = L := ⟨_, rfl⟩
  rw [hL] at HP
  clear hL
  have HQ := Lib.hid (noFields_any _ _ HAA.out)
  simp only [EventV.cells] at HQ HEV
  generalize noFB ⟨16, name, .slice A xs.length c, xs, value, n⟩ = F at *
  cases F
  · cases L
    all_goals
      go_enter Tryz.func41, Tryz.ntmps41
      go_wp2_with fail
      refine HP.out.mono ?_
      rintro e w1 ⟨rfl, rfl⟩
      go_wp2_with fail
      refine HQ.out.mono ?_
      rintro e w2 ⟨rfl, b2⟩
      have B2 := Lib.hid (below_trans hba b2)
      have c4 : w2.cell? ⟨w.heap.size, 4, none⟩ = some (.int .i64 n) := (HCX.out.below b2).2 4 _ rfl
      clear b2
      go_wp2_with fail
      go_ret
      exact ⟨ret_bool (by rw [HEV.out]; rfl), B2.out⟩
  · cases L
    all_goals
      go_enter Tryz.func41, Tryz.ntmps41
      go_wp2_with fail
      refine HP.out.mono ?_
      rintro e w1 ⟨rfl, rfl⟩
      go_wp2_with fail
      refine HQ.out.mono ?_
      rintro e w2 ⟨rfl, b2⟩
      have B2 := Lib.hid (below_trans hba b2)
      have c4 : w2.cell? ⟨w.heap.size, 4, none⟩ = some (.int .i64 n) := (HCX.out.below b2).2 4 _ rfl
      clear b2
      go_wp2_with fail
      go_ret
      exact ⟨ret_bool (by rw [HEV.out]; simp), B2.out⟩

end Go.Proofs.YtjfdlbbfodomeaaGreatDoor
