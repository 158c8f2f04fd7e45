/- DataOf: both sides. -/
import Derived.Test.YtjfdlbbfodomeaaGreatDoorTreeLaw
import Derived.Test.YtjfdlbbfodomeaaGreatDoorOrdb
namespace Go.Proofs.YtjfdlbbfodomeaaGreatDoor
open Go.RowKit Go.ChangeShapes Go.WideShapes Go.ChangeAt Go.Deep
set_option linter.unusedVariables false

def begB (xs ys : List ByteArray) : Bool := decide (ys.length ≤ xs.length) && decide (xs.take ys.length = ys)

theorem begins_any (v v2 : Value) (xs ys : List ByteArray) (w : World) (B : Nat) (h : StrsAt w B v xs) (h2 : StrsAt w B v2 ys) (hl : xs.length ≤ 1048576) (hl2 : ys.length ≤ 1048576) :
    Calls Tryz.prog 150 #[v, v2] w fun e w' => e = .returned (.bool (begB xs ys)) ∧ ∃ n, w' = w.drewN n := by
  have HH := Lib.hid h; have HH2 := Lib.hid h2
  obtain ⟨A, c, rfl, hc, _⟩ := h
  obtain ⟨A2, c2, rfl, hc2, _⟩ := h2
  by_cases hle : ys.length ≤ xs.length
  · have HT := Lib.hid (slicesEqual_any _ _ _ ys w B (HH.out.take hle) HH2.out (by simp; omega))
    obtain ⟨R, hR⟩ : ∃ R : Bool, decide (xs.take ys.length = ys) = R := ⟨_, rfl⟩
    rw [hR] at HT
    have HR := Lib.hid hR; clear hR
    go_enter Tryz.func150, Tryz.ntmps150
    go_wp2_with fail
    refine HT.out.mono ?_
    rintro e w1 ⟨rfl, n, rfl⟩
    go_wp2_with fail
    go_ret
    exact ⟨ret_bool (by unfold begB; rw [decide_eq_true hle, HR.out]; rfl), n, rfl⟩
  · go_enter Tryz.func150, Tryz.ntmps150
    go_wp2_with fail
    go_ret
    exact ⟨ret_bool (by unfold begB; rw [decide_eq_false hle]; rfl), 0, rfl⟩

theorem l03Begins_any (v v2 : Value) (xs ys : List ByteArray) (w : World) (B : Nat) (h : StrsAt w B v xs) (h2 : StrsAt w B v2 ys) (hl : xs.length ≤ 1048576) (hl2 : ys.length ≤ 1048576) :
    Calls Tryz.prog 118 #[v, v2] w fun e w' => e = .returned (.bool (begB xs ys)) ∧ ∃ n, w' = w.drewN n := by
  have HH := Lib.hid h; have HH2 := Lib.hid h2
  obtain ⟨A, c, rfl, hc, _⟩ := h
  obtain ⟨A2, c2, rfl, hc2, _⟩ := h2
  by_cases hle : ys.length ≤ xs.length
  · have HT := Lib.hid (sSameSubs_any _ _ _ ys w B (HH.out.take hle) HH2.out (by simp; omega))
    obtain ⟨R, hR⟩ : ∃ R : Bool, decide (xs.take ys.length = ys) = R := ⟨_, rfl⟩
    rw [hR] at HT
    have HR := Lib.hid hR; clear hR
    go_enter Tryz.func118, Tryz.ntmps118
    go_wp2_with fail
    refine HT.out.mono ?_
    rintro e w1 ⟨rfl, n, rfl⟩
    go_wp2_with fail
    go_ret
    exact ⟨ret_bool (by unfold begB; rw [decide_eq_true hle, HR.out]; rfl), n, rfl⟩
  · go_enter Tryz.func118, Tryz.ntmps118
    go_wp2_with fail
    go_ret
    exact ⟨ret_bool (by unfold begB; rw [decide_eq_false hle]; rfl), 0, rfl⟩

def inB (x : NodeV) (name : ByteArray) (ys : List ByteArray) : Bool := decide (x.name = name) && begB x.subs ys

set_option maxRecDepth 8000 in
theorem atOrBelow_any (x : NodeV) (name : ByteArray) (v2 : Value) (ys : List ByteArray) (w : World) (h : x.At w) (hok : x.Ok 1048576) (h2 : StrsAt w w.heap.size v2 ys) (hl2 : ys.length ≤ 1048576) :
    Calls Tryz.prog 115 #[.agg x.cells, .string name, v2] w fun e w' => e = .returned (.bool (inB x name ys)) ∧ Below w.heap.size w w' := by
  have hba : Below w.heap.size w (w.alloc (.cells x.cells 79)) := Joins.below_alloc1 w _
  have hA := h.on hba
  have h2A := h2.on hba
  obtain ⟨nm, sv, xs, value⟩ := x
  obtain ⟨hn, ⟨hl, hz⟩, hv, _⟩ := hok
  clear hz
  obtain ⟨hs, _⟩ := h
  obtain ⟨hAs, _⟩ := hA
  simp only [NodeV.cells, inB] at *
  have HB := Lib.hid (begins_any sv v2 xs ys _ _ hAs h2A hl hl2)
  clear hAs h2A
  obtain ⟨A, c, rfl, _, _⟩ := id hs
  obtain ⟨A2, c2, rfl, _, _⟩ := id h2
  obtain ⟨R, hR⟩ : ∃ R : Bool, begB xs ys = R := ⟨_, rfl⟩
  rw [hR] at HB
  have HR := Lib.hid hR; clear hR
  by_cases hnm : nm = name
  · subst hnm
    have he : (nm.toList == nm.toList) = true := by simp
    go_enter Tryz.func115, Tryz.ntmps115
    go_wp2_with fail
    refine HB.out.mono ?_
    rintro e w1 ⟨rfl, n, rfl⟩
    go_wp2_with fail
    go_ret
    exact ⟨ret_bool (by rw [HR.out]; simp), below_trans hba (below_drewN _ n)⟩
  · have he : (nm.toList == name.toList) = false := by
      rw [ba_toList, ba_toList]; exact beq_eq_false_iff_ne.2 (fun h => hnm (ba_ext h))
    have HN := Lib.hid hnm; clear hnm
    go_enter Tryz.func115, Tryz.ntmps115
    go_wp2_with fail
    go_ret
    exact ⟨ret_bool (by simp [HN.out]), hba⟩

set_option maxRecDepth 8000 in
theorem l03In_any (x : NodeV) (name : ByteArray) (v2 : Value) (ys : List ByteArray) (w : World) (h : x.At w) (hok : x.Ok 1048576) (h2 : StrsAt w w.heap.size v2 ys) (hl2 : ys.length ≤ 1048576) :
    Calls Tryz.prog 113 #[.agg x.cells, .string name, v2] w fun e w' => e = .returned (.bool (inB x name ys)) ∧ Below w.heap.size w w' := by
  have hba : Below w.heap.size w (w.alloc (.cells x.cells 79)) := Joins.below_alloc1 w _
  have hA := h.on hba
  have h2A := h2.on hba
  obtain ⟨nm, sv, xs, value⟩ := x
  obtain ⟨hn, ⟨hl, hz⟩, hv, _⟩ := hok
  clear hz
  obtain ⟨hs, _⟩ := h
  obtain ⟨hAs, _⟩ := hA
  simp only [NodeV.cells, inB] at *
  have HB := Lib.hid (l03Begins_any sv v2 xs ys _ _ hAs h2A hl hl2)
  clear hAs h2A
  obtain ⟨A, c, rfl, _, _⟩ := id hs
  obtain ⟨A2, c2, rfl, _, _⟩ := id h2
  obtain ⟨R, hR⟩ : ∃ R : Bool, begB xs ys = R := ⟨_, rfl⟩
  rw [hR] at HB
  have HR := Lib.hid hR; clear hR
  by_cases hnm : nm = name
  · subst hnm
    have he : (nm.toList == nm.toList) = true := by simp
    go_enter Tryz.func113, Tryz.ntmps113
    go_wp2_with fail
    refine HB.out.mono ?_
    rintro e w1 ⟨rfl, n, rfl⟩
    go_wp2_with fail
    go_ret
    exact ⟨ret_bool (by rw [HR.out]; simp), below_trans hba (below_drewN _ n)⟩
  · have he : (nm.toList == name.toList) = false := by
      rw [ba_toList, ba_toList]; exact beq_eq_false_iff_ne.2 (fun h => hnm (ba_ext h))
    have HN := Lib.hid hnm; clear hnm
    go_enter Tryz.func113, Tryz.ntmps113
    go_wp2_with fail
    go_ret
    exact ⟨ret_bool (by simp [HN.out]), hba⟩

def dataStep (name : ByteArray) (ys : List ByteArray) (m : Int) (x : NodeV) : Int :=
  if inB x name ys = true then (if x.subs.length = ys.length then m + 1 else if m < 10 then m + 10 else m) else m

def dataGo (name : ByteArray) (ys : List ByteArray) : Int → List NodeV → Int
  | m, [] => m
  | m, x :: r => dataGo name ys (dataStep name ys m x) r

set_option maxHeartbeats 1000000 in
set_option maxRecDepth 8000 in
theorem data_any (v : Value) (ns : List NodeV) (name : ByteArray) (v2 : Value) (ys : List ByteArray) (w : World) (h : NodesAt w v ns) (hl : ns.length ≤ 1048576) (hok : ∀ x ∈ ns, x.Ok 1048576) (h2 : StrsAt w w.heap.size v2 ys) (hl2 : ys.length ≤ 1048576) :
    Calls Tryz.prog 65 #[.agg #[v], .string name, v2] w fun e w' => e = .returned (.int .i64 (dataGo name ys 0 ns)) ∧ Below w.heap.size w w' := by
  obtain ⟨R, hR⟩ : ∃ R : Int, dataGo name ys 0 ns = R := ⟨_, rfl⟩
  rw [hR]
  have HR := Lib.hid hR; clear hR
  have hba : Below w.heap.size w (w.alloc (.cells #[v] 29)) := Joins.below_alloc1 w _
  have H := Lib.hid (h.on hba)
  have H2 := Lib.hid (h2.on hba)
  have HOK := Lib.hid hok; clear hok
  obtain ⟨A, c, rfl, hc, _⟩ := h
  obtain ⟨A2, c2, rfl, _, _⟩ := h2
  have HC1 := Lib.hid (CellsAt.new w #[.slice A ns.length c] 29)
  go_enter Tryz.func65, Tryz.ntmps65
  go_wp2
  go_loopw [7, 13] (fun n i wr => ∃ (k : Nat) (m : Int), k ≤ ns.length ∧ i = .int .i64 k ∧ n = .int .i64 m ∧ 0 ≤ m ∧ m ≤ 11 * k ∧ Hid (R = dataGo name ys m (ns.drop k)) ∧ Below (w.alloc (.cells #[.slice A ns.length c] 29)).heap.size (w.alloc (.cells #[.slice A ns.length c] 29)) wr) (fun _ i _ => ns.length - (intOf i).toNat)
  case atStart => exact ⟨0, 0, Nat.zero_le _, rfl, rfl, by omega, by omega, HR.out.symm, below_refl _⟩
  case round =>
    clear HR
    obtain ⟨k, m, hk, rfl, rfl, m0, m1, HI, hbel⟩ := hrel
    by_cases hlt : k < ns.length
    · obtain ⟨ad, rfl, hbl, hat, a0, a1, a2⟩ := (H.out.on hbel).get hlt
      have HX := Lib.hid (HOK.out _ (List.getElem_mem hlt))
      have HD : Hid (R = dataGo name ys (dataStep name ys m ns[k]) (ns.drop (k + 1))) := by
        show _ = _
        rw [HI.out, List.drop_eq_getElem_cons hlt]; rfl
      have hb1 : Below wr.heap.size wr (wr.alloc (.cells ns[k].cells 79)) := Joins.below_alloc1 wr _
      have hbel1 := below_trans hbel hb1
      have HCX := Lib.hid (CellsAt.new wr ns[k].cells 79)
      have HQ := Lib.hid (atOrBelow_any ns[k] name _ ys _ (hat.on hb1) HX.out (H2.out.on hbel1) hl2)
      clear HI HX
      generalize ns[k] = x at *
      obtain ⟨nm, sv, xs, value⟩ := x
      obtain ⟨Ax, cx, hsx, hcx, _⟩ := id hat.1
      replace hsx : sv = .slice Ax xs.length cx := hsx
      subst hsx
      simp only [NodeV.cells] at *
      have HB1 := Lib.hid hbel1; clear hbel1 hb1 hat
      obtain ⟨N, hN⟩ : ∃ N : Bool, inB ⟨nm, .slice Ax xs.length cx, xs, value⟩ name ys = N := ⟨_, rfl⟩
      rw [hN] at HQ
      simp only [dataStep, hN] at HD
      clear hN
      go_wp2_with fail
      refine HQ.out.mono ?_
      rintro e w5 ⟨rfl, b5⟩
      have c91 : w5.cell? ⟨wr.heap.size, 1, none⟩ = some (.slice Ax xs.length cx) := (HCX.out.below b5).2 1 _ rfl
      have HB5 := Lib.hid (below_trans HB1.out b5)
      clear b5 HQ
      cases N
      · go_wp2_with fail
        refine ⟨⟨k + 1, m, by omega, by go_num, rfl, m0, by omega, ?_, HB5.out⟩, by simp [intOf]; omega⟩
        show _ = _
        rw [HD.out]; simp
      · by_cases hle : xs.length = ys.length
        · have e1 : ((xs.length : Int) == (ys.length : Int)) = true := by simp [hle]
          have e2 : (xs.length == ys.length) = true := by simp [hle]
          have HL := Lib.hid hle; clear hle
          go_wp2_with fail
          refine ⟨⟨k + 1, m + 1, by omega, by go_num, rfl, by omega, by omega, ?_, HB5.out⟩, by simp [intOf]; omega⟩
          show _ = _
          rw [HD.out]; simp [HL.out]
        · have e1 : ((xs.length : Int) == (ys.length : Int)) = false := by simpa using fun h => hle (by omega)
          have e2 : (xs.length == ys.length) = false := by simpa using hle
          have HL := Lib.hid hle; clear hle
          rcases ltForms m 10 with ⟨l1, l2⟩ | ⟨l1, l2⟩
          · go_wp2_with fail
            refine ⟨⟨k + 1, m + 10, by omega, by go_num, rfl, by omega, by omega, ?_, HB5.out⟩, by simp [intOf]; omega⟩
            show _ = _
            rw [HD.out]; simp [HL.out, l2]
          · go_wp2_with fail
            refine ⟨⟨k + 1, m, by omega, by go_num, rfl, by omega, by omega, ?_, HB5.out⟩, by simp [intOf]; omega⟩
            show _ = _
            rw [HD.out, if_pos trivial, if_neg HL.out, if_neg (by omega)]
    · go_wp2_with fail
      go_ret
      refine ⟨ret_int ?_, below_trans hba hbel⟩
      rw [HI.out, List.drop_eq_nil_of_le (by omega)]; rfl

set_option maxHeartbeats 1000000 in
set_option maxRecDepth 8000 in
theorem l03Data_any (v : Value) (ns : List NodeV) (name : ByteArray) (v2 : Value) (ys : List ByteArray) (w : World) (h : NodesAt w v ns) (hl : ns.length ≤ 1048576) (hok : ∀ x ∈ ns, x.Ok 1048576) (h2 : StrsAt w w.heap.size v2 ys) (hl2 : ys.length ≤ 1048576) :
    Calls Tryz.prog 63 #[.agg #[v], .string name, v2] w fun e w' => e = .returned (.int .i64 (dataGo name ys 0 ns)) ∧ Below w.heap.size w w' := by
  obtain ⟨R, hR⟩ : ∃ R : Int, dataGo name ys 0 ns = R := ⟨_, rfl⟩
  rw [hR]
  have HR := Lib.hid hR; clear hR
  have hba : Below w.heap.size w (w.alloc (.cells #[v] 29)) := Joins.below_alloc1 w _
  have H := Lib.hid (h.on hba)
  have H2 := Lib.hid (h2.on hba)
  have HOK := Lib.hid hok; clear hok
  obtain ⟨A, c, rfl, hc, _⟩ := h
  obtain ⟨A2, c2, rfl, _, _⟩ := h2
  have HC1 := Lib.hid (CellsAt.new w #[.slice A ns.length c] 29)
  go_enter Tryz.func63, Tryz.ntmps63
  go_wp2
  go_loopw [7, 8] (fun n i wr => ∃ (k : Nat) (m : Int), k ≤ ns.length ∧ i = .int .i64 k ∧ n = .int .i64 m ∧ 0 ≤ m ∧ m ≤ 11 * k ∧ Hid (R = dataGo name ys m (ns.drop k)) ∧ Below (w.alloc (.cells #[.slice A ns.length c] 29)).heap.size (w.alloc (.cells #[.slice A ns.length c] 29)) wr) (fun _ i _ => ns.length - (intOf i).toNat)
  case atStart => exact ⟨0, 0, Nat.zero_le _, rfl, rfl, by omega, by omega, HR.out.symm, below_refl _⟩
  case round =>
    clear HR
    obtain ⟨k, m, hk, rfl, rfl, m0, m1, HI, hbel⟩ := hrel
    by_cases hlt : k < ns.length
    · obtain ⟨ad, rfl, hbl, hat, a0, a1, a2⟩ := (H.out.on hbel).get hlt
      have HX := Lib.hid (HOK.out _ (List.getElem_mem hlt))
      have HD : Hid (R = dataGo name ys (dataStep name ys m ns[k]) (ns.drop (k + 1))) := by
        show _ = _
        rw [HI.out, List.drop_eq_getElem_cons hlt]; rfl
      have c1 : wr.cell? ⟨w.heap.size, 0, none⟩ = some (.slice (some ad) ns.length c) := (HC1.out.below hbel).2 0 _ rfl
      have HQ := Lib.hid (l03In_any ns[k] name _ ys _ hat HX.out (H2.out.on hbel) hl2)
      have HGET : Hid (∀ W, Below (w.alloc (.cells #[.slice (some ad) ns.length c] 29)).heap.size (w.alloc (.cells #[.slice (some ad) ns.length c] 29)) W → W.cell? ⟨(ad.add (k * 3)).block, (ad.add (k * 3)).off + 1, none⟩ = some ns[k].subsv) := fun W hW => by
        obtain ⟨ad', e, _, _, _, h3, _⟩ := (H.out.on hW).get hlt
        injection e with e; subst e
        exact h3
      clear HI HX
      generalize ns[k] = x at *
      obtain ⟨nm, sv, xs, value⟩ := x
      obtain ⟨Ax, cx, hsx, hcx, _⟩ := id hat.1
      replace hsx : sv = .slice Ax xs.length cx := hsx
      subst hsx
      simp only [NodeV.cells] at *
      have HB1 := Lib.hid hbel; clear hbel hat
      obtain ⟨N, hN⟩ : ∃ N : Bool, inB ⟨nm, .slice Ax xs.length cx, xs, value⟩ name ys = N := ⟨_, rfl⟩
      rw [hN] at HQ
      simp only [dataStep, hN] at HD
      clear hN
      go_wp2_with fail
      refine HQ.out.mono ?_
      rintro e w5 ⟨rfl, b5⟩
      have HB5 := Lib.hid (below_trans HB1.out b5)
      have c5 : w5.cell? ⟨w.heap.size, 0, none⟩ = some (.slice (some ad) ns.length c) := (HC1.out.below HB5.out).2 0 _ rfl
      have c91 : w5.cell? ⟨(ad.add (k * 3)).block, (ad.add (k * 3)).off + 1, none⟩ = some (.slice Ax xs.length cx) := HGET.out _ HB5.out
      clear b5 HQ
      cases N
      · go_wp2_with fail
        refine ⟨⟨k + 1, m, by omega, by go_num, rfl, m0, by omega, ?_, HB5.out⟩, by simp [intOf]; omega⟩
        show _ = _
        rw [HD.out]; simp
      · by_cases hle : xs.length = ys.length
        · have e1 : ((xs.length : Int) == (ys.length : Int)) = true := by simp [hle]
          have e2 : (xs.length == ys.length) = true := by simp [hle]
          have HL := Lib.hid hle; clear hle
          go_wp2_with fail
          refine ⟨⟨k + 1, m + 1, by omega, by go_num, rfl, by omega, by omega, ?_, HB5.out⟩, by simp [intOf]; omega⟩
          show _ = _
          rw [HD.out]; simp [HL.out]
        · have e1 : ((xs.length : Int) == (ys.length : Int)) = false := by simpa using fun h => hle (by omega)
          have e2 : (xs.length == ys.length) = false := by simpa using hle
          have HL := Lib.hid hle; clear hle
          rcases ltForms m 10 with ⟨l1, l2⟩ | ⟨l1, l2⟩
          · go_wp2_with fail
            refine ⟨⟨k + 1, m + 10, by omega, by go_num, rfl, by omega, by omega, ?_, HB5.out⟩, by simp [intOf]; omega⟩
            show _ = _
            rw [HD.out]; simp [HL.out, l2]
          · go_wp2_with fail
            refine ⟨⟨k + 1, m, by omega, by go_num, rfl, by omega, by omega, ?_, HB5.out⟩, by simp [intOf]; omega⟩
            show _ = _
            rw [HD.out, if_pos trivial, if_neg HL.out, if_neg (by omega)]
    · have c1 : wr.cell? ⟨w.heap.size, 0, none⟩ = some (.slice A ns.length c) := (HC1.out.below hbel).2 0 _ rfl
      go_wp2_with fail
      go_ret
      refine ⟨ret_int ?_, below_trans hba hbel⟩
      rw [HI.out, List.drop_eq_nil_of_le (by omega)]; rfl

theorem inB_dat {x y : NodeV} (h : x.dat = y.dat) (name : ByteArray) (ys : List ByteArray) : inB x name ys = inB y name ys := by
  obtain ⟨h1, h2, h3⟩ := NodeV.dat_eq h
  unfold inB; rw [h1, h2]

theorem dataGo_dat (name : ByteArray) (ys : List ByteArray) : ∀ (a b : List NodeV) (m : Int), a.map NodeV.dat = b.map NodeV.dat → dataGo name ys m a = dataGo name ys m b
  | [], [], _, _ => rfl
  | [], y :: b, _, h => by simp at h
  | x :: a, [], _, h => by simp at h
  | x :: a, y :: b, m, h => by
    simp only [List.map_cons, List.cons.injEq] at h
    have e : dataStep name ys m x = dataStep name ys m y := by
      unfold dataStep; rw [inB_dat h.1, (NodeV.dat_eq h.1).2.1]
    show dataGo name ys (dataStep name ys m x) a = dataGo name ys (dataStep name ys m y) b
    rw [e]
    exact dataGo_dat name ys a b _ h.2

def dataB (ns : List NodeV) (name : ByteArray) (ys : List ByteArray) : Int := if (treeOkB ns && locOk name ys) = true then dataGo name ys 0 ns else 0

theorem dataB_dat {a b : List NodeV} (h : a.map NodeV.dat = b.map NodeV.dat) (name : ByteArray) (ys : List ByteArray) : dataB a name ys = dataB b name ys := by
  unfold dataB; rw [treeOkB_dat h, dataGo_dat name ys a b 0 h]

set_option maxRecDepth 8000 in
theorem DataOf_any (v : Value) (ns : List NodeV) (name : ByteArray) (v2 : Value) (ys : List ByteArray) (w : World) (hT : T10 w) (h : NodesAt w v ns) (hl : ns.length ≤ 1048576) (hok : ∀ x ∈ ns, x.Ok 1048576) (hn : name.size ≤ 1048576) (h2 : StrsAt w w.heap.size v2 ys) (hl2 : ys.length ≤ 1048576) (hz2 : ∀ x ∈ ys, x.size ≤ 1048576) :
    Calls Tryz.prog 22 #[.agg #[v], .string name, v2] w fun e w' => e = .returned (.int .i64 (dataB ns name ys)) ∧ Below w.heap.size w w' := by
  have T0 := Lib.hid (T1.new 29 h)
  have HT := Lib.hid (hT.below (Joins.below_alloc1 w (.cells #[v] 29)))
  have H2 := Lib.hid (h2.on (Joins.below_alloc1 w (.cells #[v] 29)))
  have HOK := Lib.hid hok; have HZ := Lib.hid hz2; clear hok hz2 hT
  obtain ⟨A, c, rfl, _, _⟩ := h
  obtain ⟨A2, c2, rfl, _, _⟩ := h2
  have ca := T0.out.a
  obtain ⟨R, hR⟩ : ∃ R : Int, dataB ns name ys = R := ⟨_, rfl⟩
  rw [hR]
  have HR := Lib.hid hR; clear hR
  obtain ⟨T, hTr⟩ : ∃ T : Bool, treeOkB ns = T := ⟨_, rfl⟩
  obtain ⟨L, hLo⟩ : ∃ L : Bool, locOk name ys = L := ⟨_, rfl⟩
  have HO := Lib.hid (TreeOk_any _ ns _ HT.out T0.out.2.2 hl HOK.out)
  rw [hTr] at HO
  have HTr := Lib.hid hTr; have HLo := Lib.hid hLo; clear hTr hLo
  go_enter Tryz.func22, Tryz.ntmps22
  go_wp2_with fail
  refine HO.out.mono ?_
  rintro e w1 ⟨rfl, b1⟩
  have TT1 := Lib.hid (T0.out.on b1)
  have H21 := Lib.hid (H2.out.on b1)
  clear ca b1 T0 HO H2 HT
  have ca := TT1.out.a
  cases T
  · go_wp2_with fail
    go_ret
    exact ⟨ret_int (by rw [← HR.out]; unfold dataB; rw [HTr.out]; rfl), TT1.out.1⟩
  · have HP := Lib.hid (locationOk_any name _ ys _ _ hn H21.out hl2 HZ.out)
    rw [HLo.out] at HP
    go_wp2_with fail
    refine HP.out.mono ?_
    rintro e w2 ⟨rfl, rfl⟩
    cases L
    · go_wp2_with fail
      go_ret
      exact ⟨ret_int (by rw [← HR.out]; unfold dataB; rw [HTr.out, HLo.out]; rfl), TT1.out.1⟩
    · go_wp2_with fail
      refine (data_any _ ns name _ ys _ TT1.out.2.2 hl HOK.out H21.out hl2).mono ?_
      rintro e w3 ⟨rfl, b3⟩
      go_wp2_with fail
      go_ret
      exact ⟨ret_int (by rw [← HR.out]; unfold dataB; rw [HTr.out, HLo.out]; rfl), below_trans TT1.out.1 b3⟩

set_option maxRecDepth 8000 in
theorem sDataOf_any (v : Value) (ns : List NodeV) (name : ByteArray) (v2 : Value) (ys : List ByteArray) (w : World) (hT : T10 w) (h : NodesAt w v ns) (hl : ns.length ≤ 1048576) (hok : ∀ x ∈ ns, x.Ok 1048576) (hn : name.size ≤ 1048576) (h2 : StrsAt w w.heap.size v2 ys) (hl2 : ys.length ≤ 1048576) (hz2 : ∀ x ∈ ys, x.size ≤ 1048576) :
    Calls Tryz.prog 20 #[.agg #[v], .string name, v2] w fun e w' => e = .returned (.int .i64 (dataB ns name ys)) ∧ Below w.heap.size w w' := by
  have T0 := Lib.hid (T1.new 29 h)
  have HT := Lib.hid (hT.below (Joins.below_alloc1 w (.cells #[v] 29)))
  have H2 := Lib.hid (h2.on (Joins.below_alloc1 w (.cells #[v] 29)))
  have HOK := Lib.hid hok; have HZ := Lib.hid hz2; clear hok hz2 hT
  obtain ⟨A, c, rfl, _, _⟩ := h
  obtain ⟨A2, c2, rfl, _, _⟩ := h2
  have ca := T0.out.a
  obtain ⟨R, hR⟩ : ∃ R : Int, dataB ns name ys = R := ⟨_, rfl⟩
  rw [hR]
  have HR := Lib.hid hR; clear hR
  obtain ⟨T, hTr⟩ : ∃ T : Bool, treeOkB ns = T := ⟨_, rfl⟩
  obtain ⟨L, hLo⟩ : ∃ L : Bool, locOk name ys = L := ⟨_, rfl⟩
  have HO := Lib.hid (sTreeOk_any _ ns _ T0.out.2.2 hl HOK.out)
  rw [hTr] at HO
  have HTr := Lib.hid hTr; have HLo := Lib.hid hLo; clear hTr hLo
  go_enter Tryz.func20, Tryz.ntmps20
  go_wp2_with fail
  refine HO.out.mono ?_
  rintro e w1 ⟨rfl, b1⟩
  have TT1 := Lib.hid (T0.out.on b1)
  have H21 := Lib.hid (H2.out.on b1)
  clear ca b1 T0 HO H2 HT
  have ca := TT1.out.a
  cases T
  · go_wp2_with fail
    go_ret
    exact ⟨ret_int (by rw [← HR.out]; unfold dataB; rw [HTr.out]; rfl), TT1.out.1⟩
  · have HP := Lib.hid (l03Place_any name _ ys _ _ hn H21.out hl2 HZ.out)
    rw [HLo.out] at HP
    go_wp2_with fail
    refine HP.out.mono ?_
    rintro e w2 ⟨rfl, rfl⟩
    cases L
    · go_wp2_with fail
      go_ret
      exact ⟨ret_int (by rw [← HR.out]; unfold dataB; rw [HTr.out, HLo.out]; rfl), TT1.out.1⟩
    · go_wp2_with fail
      refine (l03Data_any _ ns name _ ys _ TT1.out.2.2 hl HOK.out H21.out hl2).mono ?_
      rintro e w3 ⟨rfl, b3⟩
      go_wp2_with fail
      go_ret
      exact ⟨ret_int (by rw [← HR.out]; unfold dataB; rw [HTr.out, HLo.out]; rfl), below_trans TT1.out.1 b3⟩

end Go.Proofs.YtjfdlbbfodomeaaGreatDoor
