/- A node at a place or below it: both sides. (the first part of Data) -/
import Derived.Test.YtllamjgloilioaaGreatDoorTreeLaw
import Derived.Test.YtllamjgloilioaaGreatDoorOrdb
namespace Go.Proofs.YtllamjgloilioaaGreatDoor
open Go.RowKit Go.ChangeShapes Go.WideShapes Go.ChangeAt Go.Deep
set_option linter.unusedVariables false

def begB (xs ys : List ByteArray) : Bool := decide (ys.length ≤ xs.length) && decide (xs.take ys.length = ys)

theorem begins_any (v v2 : Value) (xs ys : List ByteArray) (w : World) (B : Nat) (h : StrsAt w B v xs) (h2 : StrsAt w B v2 ys) (hl : xs.length ≤ 1048576) (hl2 : ys.length ≤ 1048576) :
    Calls Tryz.prog 61 #[v, v2] w fun e w' => e = .returned (.bool (begB xs ys)) ∧ ∃ n, w' = w.drewN n := by
  have HH := Lib.hid h; have HH2 := Lib.hid h2
  obtain ⟨A, c, rfl, hc, _⟩ := h
  obtain ⟨A2, c2, rfl, hc2, _⟩ := h2
  by_cases hle : ys.length ≤ xs.length
  · have HT := Lib.hid (slicesEqual_any _ _ _ ys w B (HH.out.take hle) HH2.out (by simp; omega))
    obtain ⟨R, hR⟩ : ∃ R : Bool, decide (xs.take ys.length = ys) = R := ⟨_, rfl⟩
    rw [hR] at HT
    have HR := Lib.hid hR; clear hR
    go_enter Tryz.func61, Tryz.ntmps61
    go_wp2_with fail
    refine HT.out.mono ?_
    rintro e w1 ⟨rfl, n, rfl⟩
    go_wp2_with fail
    go_ret
    exact ⟨ret_bool (by unfold begB; rw [decide_eq_true hle, HR.out]; rfl), n, rfl⟩
  · go_enter Tryz.func61, Tryz.ntmps61
    go_wp2_with fail
    go_ret
    exact ⟨ret_bool (by unfold begB; rw [decide_eq_false hle]; rfl), 0, rfl⟩

theorem l03Begins_any (v v2 : Value) (xs ys : List ByteArray) (w : World) (B : Nat) (h : StrsAt w B v xs) (h2 : StrsAt w B v2 ys) (hl : xs.length ≤ 1048576) (hl2 : ys.length ≤ 1048576) :
    Calls Tryz.prog 49 #[v, v2] w fun e w' => e = .returned (.bool (begB xs ys)) ∧ ∃ n, w' = w.drewN n := by
  have HH := Lib.hid h; have HH2 := Lib.hid h2
  obtain ⟨A, c, rfl, hc, _⟩ := h
  obtain ⟨A2, c2, rfl, hc2, _⟩ := h2
  by_cases hle : ys.length ≤ xs.length
  · have HT := Lib.hid (sSameSubs_any _ _ _ ys w B (HH.out.take hle) HH2.out (by simp; omega))
    obtain ⟨R, hR⟩ : ∃ R : Bool, decide (xs.take ys.length = ys) = R := ⟨_, rfl⟩
    rw [hR] at HT
    have HR := Lib.hid hR; clear hR
    go_enter Tryz.func49, Tryz.ntmps49
    go_wp2_with fail
    refine HT.out.mono ?_
    rintro e w1 ⟨rfl, n, rfl⟩
    go_wp2_with fail
    go_ret
    exact ⟨ret_bool (by unfold begB; rw [decide_eq_true hle, HR.out]; rfl), n, rfl⟩
  · go_enter Tryz.func49, Tryz.ntmps49
    go_wp2_with fail
    go_ret
    exact ⟨ret_bool (by unfold begB; rw [decide_eq_false hle]; rfl), 0, rfl⟩

def inB (x : NodeV) (name : ByteArray) (ys : List ByteArray) : Bool := decide (x.name = name) && begB x.subs ys

set_option maxRecDepth 8000 in
theorem atOrBelow_any (x : NodeV) (name : ByteArray) (v2 : Value) (ys : List ByteArray) (w : World) (h : x.At w) (hok : x.Ok 1048576) (h2 : StrsAt w w.heap.size v2 ys) (hl2 : ys.length ≤ 1048576) :
    Calls Tryz.prog 43 #[.agg x.cells, .string name, v2] w fun e w' => e = .returned (.bool (inB x name ys)) ∧ Below w.heap.size w w' := by
  have hba : Below w.heap.size w (w.alloc (.cells x.cells 50)) := Joins.below_alloc1 w _
  have hA := h.on hba
  have h2A := h2.on hba
  obtain ⟨nm, sv, xs, value⟩ := x
  obtain ⟨hn, ⟨hl, hz⟩, hv, _⟩ := hok
  clear hz
  obtain ⟨hs, _⟩ := h
  obtain ⟨hAs, _⟩ := hA
  simp only [NodeV.cells, inB] at *
  have HB := Lib.hid (begins_any sv v2 xs ys _ _ hAs h2A hl hl2)
  clear hAs h2A
  obtain ⟨A, c, rfl, _, _⟩ := id hs
  obtain ⟨A2, c2, rfl, _, _⟩ := id h2
  obtain ⟨R, hR⟩ : ∃ R : Bool, begB xs ys = R := ⟨_, rfl⟩
  rw [hR] at HB
  have HR := Lib.hid hR; clear hR
  by_cases hnm : nm = name
  · subst hnm
    have he : (nm.toList == nm.toList) = true := by simp
    go_enter Tryz.func43, Tryz.ntmps43
    go_wp2_with fail
    refine HB.out.mono ?_
    rintro e w1 ⟨rfl, n, rfl⟩
    go_wp2_with fail
    go_ret
    exact ⟨ret_bool (by rw [HR.out]; simp), below_trans hba (below_drewN _ n)⟩
  · have he : (nm.toList == name.toList) = false := by
      rw [ba_toList, ba_toList]; exact beq_eq_false_iff_ne.2 (fun h => hnm (ba_ext h))
    have HN := Lib.hid hnm; clear hnm
    go_enter Tryz.func43, Tryz.ntmps43
    go_wp2_with fail
    go_ret
    exact ⟨ret_bool (by simp [HN.out]), hba⟩

set_option maxRecDepth 8000 in
theorem l03In_any (x : NodeV) (name : ByteArray) (v2 : Value) (ys : List ByteArray) (w : World) (h : x.At w) (hok : x.Ok 1048576) (h2 : StrsAt w w.heap.size v2 ys) (hl2 : ys.length ≤ 1048576) :
    Calls Tryz.prog 33 #[.agg x.cells, .string name, v2] w fun e w' => e = .returned (.bool (inB x name ys)) ∧ Below w.heap.size w w' := by
  have hba : Below w.heap.size w (w.alloc (.cells x.cells 50)) := Joins.below_alloc1 w _
  have hA := h.on hba
  have h2A := h2.on hba
  obtain ⟨nm, sv, xs, value⟩ := x
  obtain ⟨hn, ⟨hl, hz⟩, hv, _⟩ := hok
  clear hz
  obtain ⟨hs, _⟩ := h
  obtain ⟨hAs, _⟩ := hA
  simp only [NodeV.cells, inB] at *
  have HB := Lib.hid (l03Begins_any sv v2 xs ys _ _ hAs h2A hl hl2)
  clear hAs h2A
  obtain ⟨A, c, rfl, _, _⟩ := id hs
  obtain ⟨A2, c2, rfl, _, _⟩ := id h2
  obtain ⟨R, hR⟩ : ∃ R : Bool, begB xs ys = R := ⟨_, rfl⟩
  rw [hR] at HB
  have HR := Lib.hid hR; clear hR
  by_cases hnm : nm = name
  · subst hnm
    have he : (nm.toList == nm.toList) = true := by simp
    go_enter Tryz.func33, Tryz.ntmps33
    go_wp2_with fail
    refine HB.out.mono ?_
    rintro e w1 ⟨rfl, n, rfl⟩
    go_wp2_with fail
    go_ret
    exact ⟨ret_bool (by rw [HR.out]; simp), below_trans hba (below_drewN _ n)⟩
  · have he : (nm.toList == name.toList) = false := by
      rw [ba_toList, ba_toList]; exact beq_eq_false_iff_ne.2 (fun h => hnm (ba_ext h))
    have HN := Lib.hid hnm; clear hnm
    go_enter Tryz.func33, Tryz.ntmps33
    go_wp2_with fail
    go_ret
    exact ⟨ret_bool (by simp [HN.out]), hba⟩

theorem inB_dat {x y : NodeV} (h : x.dat = y.dat) (name : ByteArray) (ys : List ByteArray) : inB x name ys = inB y name ys := by
  obtain ⟨h1, h2, h3⟩ := NodeV.dat_eq h
  unfold inB; rw [h1, h2]

end Go.Proofs.YtllamjgloilioaaGreatDoor
