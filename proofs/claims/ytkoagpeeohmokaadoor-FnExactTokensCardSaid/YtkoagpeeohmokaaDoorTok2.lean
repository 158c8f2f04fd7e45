/- Tokens: signs. -/
import Derived.Test.YtkoagpeeohmokaaDoorTok1
import Derived.StillTailTactics
import Derived.RegionTactic
namespace Go.Proofs.YtkoagpeeohmokaaDoor
open Go.RowKit
set_option linter.unusedVariables false

def twosB : List ByteArray := [⟨#[93, 93]⟩, ⟨#[39, 61]⟩, ⟨#[39, 60]⟩, ⟨#[39, 62]⟩, ⟨#[39, 91]⟩, ⟨#[39, 93]⟩, ⟨#[36, 36]⟩]

def onesB : ByteArray := ⟨#[40, 41, 44, 58, 43, 45, 42, 47, 92, 35, 95, 61, 60, 62, 91, 93, 38, 33, 39, 63, 64, 94, 36, 46]⟩

theorem two_hit {x : ByteArray} {l : List UInt8} (h : x ∈ twosB) (hp : (sfx x 0).isPrefixOf l = true) : isTwo l = true := by
  unfold isTwo
  rw [List.any_eq_true]
  have h2 : ∀ y ∈ twosB, sfx y 0 ∈ twos := by
    intro y hy
    simp only [twosB, List.mem_cons, List.not_mem_nil, or_false] at hy
    rcases hy with rfl | rfl | rfl | rfl | rfl | rfl | rfl <;> decide
  exact ⟨_, h2 x h, hp⟩

theorem two_miss {l : List UInt8} (h : ∀ x ∈ twosB, (sfx x 0).isPrefixOf l = false) : isTwo l = false := by
  simp only [twosB, List.forall_mem_cons] at h
  obtain ⟨h1, h2, h3, h4, h5, h6, h7, _⟩ := h
  have h1 : List.isPrefixOf [93, 93] l = false := h1
  have h2 : List.isPrefixOf [39, 61] l = false := h2
  have h3 : List.isPrefixOf [39, 60] l = false := h3
  have h4 : List.isPrefixOf [39, 62] l = false := h4
  have h5 : List.isPrefixOf [39, 91] l = false := h5
  have h6 : List.isPrefixOf [39, 93] l = false := h6
  have h7 : List.isPrefixOf [36, 36] l = false := h7
  simp [isTwo, twos, h1, h2, h3, h4, h5, h6, h7]

theorem idxB_mem : ∀ (l : List UInt8) (c : UInt8), (idxB l c < 0) = (l.contains c = false)
  | [], c => by simp [idxB_nil]
  | b :: l, c => by
    by_cases h : b = c
    · subst h; rw [idxB_hit]; simp
    · rw [idxB_miss h]
      have ih := idxB_mem l c
      have e : (b :: l).contains c = l.contains c := by simp [Ne.symm h]
      rw [e, ← ih]
      split
      · rename_i g; simp [g]
      · rename_i g; simp; omega

def twoW (w : World) : World := w.alloc (.cells #[.string ⟨#[93, 93]⟩, .string ⟨#[39, 61]⟩, .string ⟨#[39, 60]⟩, .string ⟨#[39, 62]⟩, .string ⟨#[39, 91]⟩, .string ⟨#[39, 93]⟩, .string ⟨#[36, 36]⟩] 9)

theorem twoW_below (w : World) : Below w.heap.size w (twoW w) := (below_refl w).alloc (Nat.le_refl _) _

theorem twos_cell {w W : World} (hb : Below (twoW w).heap.size (twoW w) W) {k : Nat} (hk : k < 7) :
    ∃ x, x ∈ twosB ∧ twosB[k]? = some x ∧ x.size = 2 ∧ W.cell? ⟨w.heap.size, k, none⟩ = some (.string x) := by
  have h1 := heap_alloc_new w (.cells #[.string ⟨#[93, 93]⟩, .string ⟨#[39, 61]⟩, .string ⟨#[39, 60]⟩, .string ⟨#[39, 62]⟩, .string ⟨#[39, 91]⟩, .string ⟨#[39, 93]⟩, .string ⟨#[36, 36]⟩] 9)
  have h2 := (hb.block w.heap.size (by simp [twoW])).trans h1
  have hx : ∃ x, twosB[k]? = some x ∧ x.size = 2 ∧ (#[Value.string ⟨#[93, 93]⟩, .string ⟨#[39, 61]⟩, .string ⟨#[39, 60]⟩, .string ⟨#[39, 62]⟩, .string ⟨#[39, 91]⟩, .string ⟨#[39, 93]⟩, .string ⟨#[36, 36]⟩] : Array Value)[k]? = some (.string x) := by
    match k, hk with
    | 0, _ => exact ⟨_, rfl, rfl, rfl⟩
    | 1, _ => exact ⟨_, rfl, rfl, rfl⟩
    | 2, _ => exact ⟨_, rfl, rfl, rfl⟩
    | 3, _ => exact ⟨_, rfl, rfl, rfl⟩
    | 4, _ => exact ⟨_, rfl, rfl, rfl⟩
    | 5, _ => exact ⟨_, rfl, rfl, rfl⟩
    | 6, _ => exact ⟨_, rfl, rfl, rfl⟩
    | k + 7, h => omega
  obtain ⟨x, a, b, c⟩ := hx
  refine ⟨x, List.mem_of_getElem? a, a, b, ?_⟩
  rw [Lib.cell_of_heap h2]
  exact c

set_option maxHeartbeats 1000000 in
set_option maxRecDepth 20000 in
theorem signLength_any (s : ByteArray) (w : World) (hs : s.size ≤ 1048576) (h1 : 1 ≤ s.size) : Calls Tryd.prog 46 #[.string s] w fun e w' => e = .returned (.int .i64 (signN (sfx s 0) : Int)) ∧ Below w.heap.size w w' := by
  go_enter Tryd.func46, Tryd.ntmps46
  go_wp2
  go_loopw [7] (fun i wr => ∃ k : Nat, k ≤ 7 ∧ i = .int .i64 k ∧ Hid (∀ j, j < k → ∀ x, twosB[j]? = some x → (sfx x 0).isPrefixOf (sfx s 0) = false) ∧ Below (twoW w).heap.size (twoW w) wr) (fun i _ => 7 - (intOf i).toNat)
  case atStart => exact ⟨0, by omega, rfl, fun j hj => absurd hj (by omega), below_refl _⟩
  case round =>
    obtain ⟨k, hk, rfl, HJ, hbel⟩ := hrel
    have HB := Lib.hid hbel; clear hbel
    by_cases hlt : k < 7
    · obtain ⟨x, hx, hxk, hx2, hcell⟩ := twos_cell HB.out hlt
      have HP := Lib.hid (HasPrefix_any s x wr hs (by omega))
      have HX := Lib.hid hx
      have HXK := Lib.hid hxk
      clear hx hxk hx2
      cases hQ : (sfx x 0).isPrefixOf (sfx s 0)
      · have HQ := Lib.hid hQ
        rw [hQ] at HP
        clear hQ
        go_wp2_with fail
        refine HP.out.mono ?_
        rintro e w1 ⟨rfl, rfl⟩
        go_wp2_with fail
        refine ⟨⟨k + 1, by omega, by go_num, ?_, HB.out⟩, by simp [intOf]; omega⟩
        intro j hj y hy
        rcases Nat.lt_or_ge j k with h | h
        · exact HJ.out j h y hy
        · obtain rfl : j = k := by omega
          rw [HXK.out] at hy
          injection hy with hy
          subst hy
          exact HQ.out
      · have HQ := Lib.hid hQ
        rw [hQ] at HP
        clear hQ
        go_wp2_with fail
        refine HP.out.mono ?_
        rintro e w1 ⟨rfl, rfl⟩
        go_wp2_with fail
        go_ret
        refine ⟨ret_int ?_, below_trans (twoW_below w) HB.out⟩
        unfold signN
        rw [if_pos (two_hit HX.out HQ.out)]; rfl
    · have HT := Lib.hid (two_miss (l := sfx s 0) (fun x hx => by
        obtain ⟨j, hj, rfl⟩ := List.getElem_of_mem hx
        exact HJ.out j (by have : twosB.length = 7 := rfl; omega) _ (List.getElem?_eq_getElem hj)))
      have HS := Lib.hid (sfx_lt (s := s) (k := 0) (by omega))
      have HI := Lib.hid (IndexByte_any onesB s[0] wr)
      have HM := Lib.hid (idxB_mem (sfx onesB 0) s[0])
      have HV : Hid (signN (sfx s 0) = if ones.contains s[0] then 1 else 0) := by
        show _ = _
        unfold signN
        rw [HT.out, HS.out]; rfl
      have HO : Hid (sfx onesB 0 = ones) := rfl
      rw [HO.out] at HM HI
      have HO : Hid (onesB = ⟨#[40, 41, 44, 58, 43, 45, 42, 47, 92, 35, 95, 61, 60, 62, 91, 93, 38, 33, 39, 63, 64, 94, 36, 46]⟩) := rfl
      rw [HO.out] at HI
      generalize hq : idxB ones s[0] = q at *
      clear hq
      rcases Classical.em (q < 0) with h | h
      · have HC := Lib.hid (HM.out.mp h)
        rw [HC.out] at HV
        have hq2 : ¬ 0 ≤ q := by omega
        clear HM HS HT HJ
        go_wp2_with fail
        refine HI.out.mono ?_
        rintro e w1 ⟨rfl, rfl⟩
        go_wp2_with fail
        go_ret
        exact ⟨ret_int (by rw [HV.out]; rfl), below_trans (twoW_below w) HB.out⟩
      · have HC : Hid (ones.contains s[0] = true) := by
          show _ = _
          cases hc : ones.contains s[0]
          · exact absurd (HM.out.mpr hc) h
          · rfl
        rw [HC.out] at HV
        have hq2 : 0 ≤ q := by omega
        clear HM HS HT HJ
        go_wp2_with fail
        refine HI.out.mono ?_
        rintro e w1 ⟨rfl, rfl⟩
        go_wp2_with fail
        go_ret
        exact ⟨ret_int (by rw [HV.out]; rfl), below_trans (twoW_below w) HB.out⟩

set_option maxHeartbeats 1000000 in
set_option maxRecDepth 20000 in
theorem l05Two_any (s : ByteArray) (p : Nat) (w : World) (hs : s.size ≤ 1048576) (hp : p ≤ s.size) : Calls Tryd.prog 39 #[.string s, .int .i64 (p : Int)] w fun e w' => e = .returned (.bool (isTwo (sfx s p))) ∧ Below w.heap.size w w' := by
  by_cases hl : s.size < p + 2
  · have HT : Hid (isTwo (sfx s p) = false) := by
      show _ = _
      cases h : isTwo (sfx s p)
      · rfl
      · have := isTwo_len h
        unfold sfx at this
        rw [List.length_drop, ← ba_size] at this
        omega
    go_enter Tryd.func39, Tryd.ntmps39
    go_wp2_with fail
    go_ret
    exact ⟨ret_bool HT.out.symm, below_refl _⟩
  go_enter Tryd.func39, Tryd.ntmps39
  go_wp2
  go_loopw [6] (fun i wr => ∃ k : Nat, k ≤ 7 ∧ i = .int .i64 k ∧ Hid (∀ j, j < k → ∀ x, twosB[j]? = some x → (sfx x 0).isPrefixOf (sfx s p) = false) ∧ Below (twoW w).heap.size (twoW w) wr) (fun i _ => 7 - (intOf i).toNat)
  case atStart => exact ⟨0, by omega, rfl, fun j hj => absurd hj (by omega), below_refl _⟩
  case round =>
    obtain ⟨k, hk, rfl, HJ, hbel⟩ := hrel
    have HB := Lib.hid hbel
    by_cases hlt : k < 7
    · obtain ⟨x, hx, hxk, hx2, hcell⟩ := twos_cell hbel hlt
      have HQ := Lib.hid (eq_piece s x p (by omega))
      rw [hx2] at HQ
      have HX := Lib.hid hx
      have HXK := Lib.hid hxk
      have HB2 := Lib.hid hbel.drew
      have hcell2 : World.cell? { heap := wr.heap, tape := wr.tape, drawn := wr.drawn + 1, os := wr.os, output := wr.output } ⟨w.heap.size, k, none⟩ = some (.string x) := hcell
      have i0 : (0 : Int) ≤ k := by omega
      have i1 : (k : Int) < 7 := by omega
      clear hx hxk hx2 hbel
      go_wp2_with fail
      go_region
      rw [HQ.out]
      cases hQ : (sfx x 0).isPrefixOf (sfx s p)
      · have HQ2 := Lib.hid hQ
        clear hQ
        go_wp2_with fail
        refine ⟨⟨k + 1, by omega, by go_num, ?_, HB2.out⟩, by simp [intOf]; omega⟩
        intro j hj y hy
        rcases Nat.lt_or_ge j k with h | h
        · exact HJ.out j h y hy
        · obtain rfl : j = k := by omega
          rw [HXK.out] at hy
          injection hy with hy
          subst hy
          exact HQ2.out
      · have HQ2 := Lib.hid hQ
        clear hQ
        go_wp2_with fail
        go_ret
        exact ⟨ret_bool (two_hit HX.out HQ2.out).symm, below_trans (twoW_below w) HB2.out⟩
    · have HT := Lib.hid (two_miss (l := sfx s p) (fun x hx => by
        obtain ⟨j, hj, rfl⟩ := List.getElem_of_mem hx
        exact HJ.out j (by have : twosB.length = 7 := rfl; omega) _ (List.getElem?_eq_getElem hj)))
      go_wp2_with fail
      go_ret
      exact ⟨ret_bool HT.out.symm, below_trans (twoW_below w) HB.out⟩

set_option maxRecDepth 20000 in
theorem l05Sign_any (c : UInt8) (w : World) : Calls Tryd.prog 40 #[.int .u8 (c.toNat : Int)] w fun e w' => e = .returned (.bool (ones.contains c)) ∧ w = w' := by
  have HO : Hid (sfx onesB 0 = ones) := rfl
  rw [← HO.out]
  obtain ⟨R, hR⟩ : ∃ R, (sfx onesB 0).contains c = R := ⟨_, rfl⟩
  rw [hR]
  have HR := Lib.hid hR; clear hR
  have hz : onesB.size = 24 := rfl
  clear HO
  go_enter Tryd.func40, Tryd.ntmps40
  go_wp2
  rw [show (⟨#[40, 41, 44, 58, 43, 45, 42, 47, 92, 35, 95, 61, 60, 62, 91, 93, 38, 33, 39, 63, 64, 94, 36, 46]⟩ : ByteArray) = onesB from rfl]
  generalize onesB = O at *
  go_loop [4] (fun i => ∃ k : Nat, k ≤ 24 ∧ i = .int .i64 k ∧ Hid (R = (sfx O k).contains c)) (fun i => 24 - (intOf i).toNat)
  case atStart => exact ⟨0, by omega, rfl, HR.out.symm⟩
  case round =>
    obtain ⟨k, hk, rfl, HI⟩ := hrel
    by_cases hlt : k < 24
    · have HS := Lib.hid (sfx_lt (s := O) (k := k) (by omega))
      rcases eqForms (O[k].toNat : Int) (c.toNat : Int) with ⟨e1, e2, e3⟩ | ⟨e1, e2, e3⟩
      · have hc : O[k] = c := UInt8.toNat_inj.1 (by have := e3.out; omega)
        have HC := Lib.hid hc
        clear hc
        go_wp2_with fail
        go_ret
        exact ⟨ret_bool (by rw [HI.out, HS.out, HC.out]; simp), rfl⟩
      · have hc : ¬ O[k] = c := fun h => by have := e3.out; rw [h] at this; exact this rfl
        have HC := Lib.hid hc
        clear hc
        go_wp2_with fail
        refine ⟨⟨k + 1, by omega, by go_num, ?_⟩, by simp [intOf]; omega⟩
        show _ = _
        rw [HI.out, HS.out]
        simp [Ne.symm HC.out]
    · go_wp2_with fail
      go_ret
      exact ⟨ret_bool (by rw [HI.out, sfx_ge (s := O) (k := k) (by omega)]; rfl), rfl⟩

end Go.Proofs.YtkoagpeeohmokaaDoor
