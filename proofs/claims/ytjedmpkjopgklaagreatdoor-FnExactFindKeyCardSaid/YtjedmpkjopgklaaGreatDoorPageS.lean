/- A struct in memory: its size, its copy, equality; printed by gen_struct.py. -/
import Derived.Test.YtjedmpkjopgklaaGreatDoorStructArgs
import Derived.Test.YtjedmpkjopgklaaGreatDoorStructTools
import Derived.Test.YtjedmpkjopgklaaGreatDoorInts
namespace Go.Proofs.YtjedmpkjopgklaaGreatDoor
open Go.RowKit Go.ChangeShapes Go.WideShapes Go.ChangeAt Go.Deep
set_option linter.unusedVariables false

structure PageV where
  leaf : Bool
  keysv : Value
  keys : List ByteArray
  valsv : Value
  vals : List ByteArray
  kidsv : Value
  kids : List Int

def PageV.cells (x : PageV) : Array Value := #[.bool x.leaf, x.keysv, x.valsv, x.kidsv]

def PageV.At (x : PageV) (w : World) : Prop := StrsAt w w.heap.size x.keysv x.keys ∧ StrsAt w w.heap.size x.valsv x.vals ∧ IntsAt w w.heap.size x.kidsv x.kids ∧ True

def PageV.Own (x : PageV) (w : World) (base : Nat) : Prop := Strs w base x.keysv x.keys ∧ Strs w base x.valsv x.vals ∧ Ints w base x.kidsv x.kids ∧ True

def PageV.Ok (x : PageV) (M : Nat) : Prop := (x.keys.length ≤ M ∧ ∀ s ∈ x.keys, s.size ≤ M) ∧ (x.vals.length ≤ M ∧ ∀ s ∈ x.vals, s.size ≤ M) ∧ x.kids.length ≤ M ∧ True

def PageV.dat (x : PageV) : Bool × List ByteArray × List ByteArray × List Int := (x.leaf, x.keys, x.vals, x.kids)

theorem PageV.At.on {x : PageV} {w w' : World} (h : x.At w) (hb : Below w.heap.size w w') : x.At w' := by
  obtain ⟨hkeys, hvals, hkids, _⟩ := h
  exact ⟨hkeys.on hb, hvals.on hb, hkids.on hb, trivial⟩

theorem PageV.Own.at_ {x : PageV} {w : World} {base : Nat} (h : x.Own w base) : x.At w := by
  obtain ⟨hkeys, hvals, hkids, _⟩ := h
  exact ⟨hkeys.at_, hvals.at_, hkids.at_, trivial⟩

set_option maxRecDepth 8000 in
theorem szPage_ex (x : PageV) (left : Int) (w : World) (h : x.At w) (h0 : 0 ≤ left) (h1 : left ≤ 1048576) (hok : x.Ok maxLen) :
    Calls Tryz.prog 9 #[.agg x.cells, .int .i64 left] w fun e w' => (∃ q : Int, e = .returned (.int .i64 q) ∧ -1 ≤ q ∧ q ≤ left ∧ (0 ≤ q → x.Ok 1048576)) ∧ Below w.heap.size w w' := by
  have hA := h.on (Joins.below_alloc1 w (.cells x.cells 25))
  have hba : Below w.heap.size w (w.alloc (.cells x.cells 25)) := Joins.below_alloc1 w _
  obtain ⟨leaf, keysv, keys, valsv, vals, kidsv, kids⟩ := x
  obtain ⟨⟨hlkeys, hzkeys⟩, ⟨hlvals, hzvals⟩, hlkids, _⟩ := hok
  obtain ⟨hkeys, hvals, hkids, _⟩ := h
  obtain ⟨hAkeys, hAvals, hAkids, _⟩ := hA
  simp only [PageV.cells] at *
  have HZkeys := Lib.hid hzkeys; clear hzkeys
  have HAkeys := Lib.hid hAkeys; clear hAkeys
  obtain ⟨Akeys, ckeys, rfl, _, _⟩ := id hkeys
  have HZvals := Lib.hid hzvals; clear hzvals
  have HAvals := Lib.hid hAvals; clear hAvals
  obtain ⟨Avals, cvals, rfl, _, _⟩ := id hvals
  have HAkids := Lib.hid hAkids; clear hAkids
  obtain ⟨Akids, ckids, rfl, _, _⟩ := id hkids
  unfold maxLen at hlkids
  go_enter Tryz.func9, Tryz.ntmps9
  go_wp2_with fail
  refine (szStringS_ex _ keys left _ _ HAkeys.out (by omega) (by omega) hlkeys HZkeys.out).mono ?_
  rintro e w' ⟨qkeys, rfl, rfl, qakeys, qbkeys, hq⟩
  have Qkeys := Lib.hid hq; clear hq
  by_cases c_keys : qkeys < 0
  · go_wp2_with fail
    go_ret
    exact ⟨⟨_, rfl, by omega, by omega, fun hq => by omega⟩, hba⟩
  go_wp2_with fail
  refine (szStringS_ex _ vals qkeys _ _ HAvals.out (by omega) (by omega) hlvals HZvals.out).mono ?_
  rintro e w' ⟨qvals, rfl, rfl, qavals, qbvals, hq⟩
  have Qvals := Lib.hid hq; clear hq
  by_cases c_vals : qvals < 0
  · go_wp2_with fail
    go_ret
    exact ⟨⟨_, rfl, by omega, by omega, fun hq => by omega⟩, hba⟩
  go_wp2_with fail
  refine (szInt64S_ex _ kids qvals _ _ HAkids.out (by omega) (by omega) (by omega)).mono ?_
  rintro e w' ⟨qkids, rfl, rfl, qakids, qbkids, hq⟩
  have Qkids := Lib.hid hq; clear hq
  by_cases c_kids : qkids < 0
  · go_wp2_with fail
    go_ret
    exact ⟨⟨_, rfl, by omega, by omega, fun hq => by omega⟩, hba⟩
  go_wp2_with fail
  go_ret
  have ekeys := Qkeys.out (by omega)
  have evals := Qvals.out (by omega)
  have ekids := Qkids.out (by omega)
  refine ⟨⟨_, rfl, by omega, by omega, fun _ => ⟨⟨show keys.length ≤ 1048576 by omega, fun s hs => by have := size_le_total (show s ∈ keys from hs); omega⟩, ⟨show vals.length ≤ 1048576 by omega, fun s hs => by have := size_le_total (show s ∈ vals from hs); omega⟩, show kids.length ≤ 1048576 by omega, trivial⟩⟩, hba⟩

set_option maxHeartbeats 1000000 in
set_option maxRecDepth 8000 in
theorem toPage_any (x : PageV) (w : World) (h : x.At w) (hok : x.Ok 1048576) :
    Calls Tryz.prog 11 #[.agg x.cells] w fun e w' => ∃ x' : PageV, e = .returned (.agg x'.cells) ∧ Hid (x'.dat = x.dat) ∧ x'.Own w' w.heap.size ∧ Below w.heap.size w w' := by
  obtain ⟨leaf, keysv, keys, valsv, vals, kidsv, kids⟩ := x
  obtain ⟨⟨hlkeys, hzkeys⟩, ⟨hlvals, hzvals⟩, hlkids, _⟩ := hok
  obtain ⟨hkeys, hvals, hkids, _⟩ := h
  simp only [PageV.cells, PageV.dat, PageV.Own] at *
  clear hzkeys
  have Hkeys := Lib.hid hkeys
  obtain ⟨Akeys, ckeys, rfl, _, _⟩ := id hkeys; clear hkeys
  clear hzvals
  have Hvals := Lib.hid hvals
  obtain ⟨Avals, cvals, rfl, _, _⟩ := id hvals; clear hvals
  have Hkids := Lib.hid hkids
  obtain ⟨Akids, ckids, rfl, _, _⟩ := id hkids; clear hkids
  have hba : Below w.heap.size w (((w.alloc (.cells #[.bool leaf, .slice Akeys keys.length ckeys, .slice Avals vals.length cvals, .slice Akids kids.length ckids] 25)).alloc (.cells #[.bool false, .slice none 0 0, .slice none 0 0, .slice none 0 0] 29)).alloc (.cells #[.bool leaf, .slice none 0 0, .slice none 0 0, .slice none 0 0] 29)) := Joins.below_alloc3 w _ _ _
  have C0 := Lib.hid (((CellsAt.new w #[.bool leaf, .slice Akeys keys.length ckeys, .slice Avals vals.length cvals, .slice Akids kids.length ckids] 25).below (Joins.below_alloc1 _ (.cells #[.bool false, .slice none 0 0, .slice none 0 0, .slice none 0 0] 29))).below (Joins.below_alloc1 _ (.cells #[.bool leaf, .slice none 0 0, .slice none 0 0, .slice none 0 0] 29)))
  have hO0 := heap_alloc_new ((w.alloc (.cells #[.bool leaf, .slice Akeys keys.length ckeys, .slice Avals vals.length cvals, .slice Akids kids.length ckids] 25)).alloc (.cells #[.bool false, .slice none 0 0, .slice none 0 0, .slice none 0 0] 29)) (.cells #[.bool leaf, .slice none 0 0, .slice none 0 0, .slice none 0 0] 29)
  have e2 : ((w.alloc (.cells #[.bool leaf, .slice Akeys keys.length ckeys, .slice Avals vals.length cvals, .slice Akids kids.length ckids] 25)).alloc (.cells #[.bool false, .slice none 0 0, .slice none 0 0, .slice none 0 0] 29)).heap.size = w.heap.size + 1 + 1 := by simp
  rw [e2] at hO0
  have HO := Lib.hid hO0
  have hsz : w.heap.size + 1 + 1 < (((w.alloc (.cells #[.bool leaf, .slice Akeys keys.length ckeys, .slice Avals vals.length cvals, .slice Akids kids.length ckids] 25)).alloc (.cells #[.bool false, .slice none 0 0, .slice none 0 0, .slice none 0 0] 29)).alloc (.cells #[.bool leaf, .slice none 0 0, .slice none 0 0, .slice none 0 0] 29)).heap.size := by simp
  have HSZ := Lib.hid hsz
  have HBA := Lib.hid hba
  have hR0 : (((w.alloc (.cells #[.bool leaf, .slice Akeys keys.length ckeys, .slice Avals vals.length cvals, .slice Akids kids.length ckids] 25)).alloc (.cells #[.bool false, .slice none 0 0, .slice none 0 0, .slice none 0 0] 29)).alloc (.cells #[.bool leaf, .slice none 0 0, .slice none 0 0, .slice none 0 0] 29)).heap[w.heap.size + 1]? = some (.cells #[.bool false, .slice none 0 0, .slice none 0 0, .slice none 0 0] 29 (0, 0)) := by
    rw [Below.heap_alloc _ _ _ (by simp), show w.heap.size + 1 = (w.alloc (.cells #[.bool leaf, .slice Akeys keys.length ckeys, .slice Avals vals.length cvals, .slice Akids kids.length ckids] 25)).heap.size by simp]
    exact heap_alloc_new _ _
  have HR := Lib.hid hR0
  have hW0 : (((w.alloc (.cells #[.bool leaf, .slice Akeys keys.length ckeys, .slice Avals vals.length cvals, .slice Akids kids.length ckids] 25)).alloc (.cells #[.bool false, .slice none 0 0, .slice none 0 0, .slice none 0 0] 29)).alloc (.cells #[.bool leaf, .slice none 0 0, .slice none 0 0, .slice none 0 0] 29)).heap.size = w.heap.size + 1 + 1 + 1 := by simp
  have HW := Lib.hid hW0
  clear hO0 e2 hba hsz hR0 hW0
  go_enter Tryz.func11, Tryz.ntmps11
  go_wp2_with fail
  refine (toStringS_any _ keys _ _ (Hkeys.out.on HBA.out) (Nat.le_refl _) hlkeys).mono ?_
  rintro e w1 ⟨svkeys, rfl, hokeys, b1⟩
  have hO1 := (b1.block _ HSZ.out).trans HO.out
  have hR1 := (b1.block _ (Nat.lt_of_succ_lt HSZ.out)).trans HR.out
  have C1 := C0.out.below b1
  have B1 := below_trans HBA.out b1
  rw [HW.out] at hokeys
  have hs1 : w.heap.size + 1 + 1 + 1 ≤ w1.heap.size := by have := b1.size; rw [HW.out] at this; exact this
  clear HO C0 HSZ HBA HR HW b1
  obtain ⟨Akeys', ckeys', rfl, _, _⟩ := hokeys.at_
  have c1_0 : w1.cell? ⟨w.heap.size, 0, none⟩ = some (.bool leaf) := C1.2 0 _ rfl
  have d1_0 : w1.cell? ⟨w.heap.size + 1 + 1, 0, none⟩ = some (.bool leaf) := by rw [Lib.cell_of_heap hO1]; rfl
  have fz1_0 : w1.frozen? ⟨w.heap.size + 1 + 1, 0, none⟩ = false := Lib.frozen_of_heap hO1 0
  have c1_1 : w1.cell? ⟨w.heap.size, 1, none⟩ = some (.slice Akeys keys.length ckeys) := C1.2 1 _ rfl
  have d1_1 : w1.cell? ⟨w.heap.size + 1 + 1, 1, none⟩ = some (.slice none 0 0) := by rw [Lib.cell_of_heap hO1]; rfl
  have fz1_1 : w1.frozen? ⟨w.heap.size + 1 + 1, 1, none⟩ = false := Lib.frozen_of_heap hO1 1
  have c1_2 : w1.cell? ⟨w.heap.size, 2, none⟩ = some (.slice Avals vals.length cvals) := C1.2 2 _ rfl
  have d1_2 : w1.cell? ⟨w.heap.size + 1 + 1, 2, none⟩ = some (.slice none 0 0) := by rw [Lib.cell_of_heap hO1]; rfl
  have fz1_2 : w1.frozen? ⟨w.heap.size + 1 + 1, 2, none⟩ = false := Lib.frozen_of_heap hO1 2
  have c1_3 : w1.cell? ⟨w.heap.size, 3, none⟩ = some (.slice Akids kids.length ckids) := C1.2 3 _ rfl
  have d1_3 : w1.cell? ⟨w.heap.size + 1 + 1, 3, none⟩ = some (.slice none 0 0) := by rw [Lib.cell_of_heap hO1]; rfl
  have fz1_3 : w1.frozen? ⟨w.heap.size + 1 + 1, 3, none⟩ = false := Lib.frozen_of_heap hO1 3
  have HO1 := Lib.hid (show (w1.setCell ⟨w.heap.size + 1 + 1, 1, none⟩ (.slice Akeys' keys.length ckeys')).heap[w.heap.size + 1 + 1]? = some (.cells #[.bool leaf, .slice Akeys' keys.length ckeys', .slice none 0 0, .slice none 0 0] 29 (0, 0)) from (heap_setCell_same _ _ 1 _ _ _ hO1))
  have HR1 := Lib.hid (show (w1.setCell ⟨w.heap.size + 1 + 1, 1, none⟩ (.slice Akeys' keys.length ckeys')).heap[w.heap.size + 1]? = some (.cells #[.bool false, .slice none 0 0, .slice none 0 0, .slice none 0 0] 29 (0, 0)) from ((heap_setCell_other _ _ _ _ (by simp)).trans hR1))
  have HC1 : Hid (CellsAt (w1.setCell ⟨w.heap.size + 1 + 1, 1, none⟩ (.slice Akeys' keys.length ckeys')) w.heap.size (#[.bool leaf, .slice Akeys keys.length ckeys, .slice Avals vals.length cvals, .slice Akids kids.length ckids] : Array Value).toList) := ⟨by simp; omega, fun j u hu => by rw [cell_setCell_blk _ _ _ _ (show (w.heap.size : Nat) ≠ w.heap.size + 1 + 1 by omega)]; exact C1.2 j u hu⟩
  have HB1 : Hid (Below w.heap.size w (w1.setCell ⟨w.heap.size + 1 + 1, 1, none⟩ (.slice Akeys' keys.length ckeys'))) := (B1.setCell (p := ⟨w.heap.size + 1 + 1, 1, none⟩) (by simp; omega) _)
  have HOkeys : Hid (Strs (w1.setCell ⟨w.heap.size + 1 + 1, 1, none⟩ (.slice Akeys' keys.length ckeys')) (w.heap.size + 1 + 1 + 1) (.slice Akeys' keys.length ckeys') keys) := (ownsRow_setCell_below hokeys (by simp) _)
  clear hO1 hR1 C1 B1 hokeys
  go_wp2_with fail
  refine (toStringS_any _ vals _ _ (Hvals.out.on HB1.out) (Nat.le_refl _) hlvals).mono ?_
  rintro e w2 ⟨svvals, rfl, hovals, b2⟩
  have hO2 := (b2.block _ (by simp; omega)).trans HO1.out
  have hR2 := (b2.block _ (by simp; omega)).trans HR1.out
  have C2 := HC1.out.below b2
  have B2 := below_trans HB1.out b2
  have hs2 : w.heap.size + 1 + 1 + 1 ≤ w2.heap.size := by have := b2.size; simp at this; omega
  have hokeys : Strs w2 (w.heap.size + 1 + 1 + 1) (.slice Akeys' keys.length ckeys') keys := own_on HOkeys.out b2
  have hovals : Strs w2 (w.heap.size + 1 + 1 + 1) svvals vals := Joins.ownsRow_le hovals (by simp; omega)
  clear HO1 HR1 HC1 HB1 b2 c1_0 c1_1 c1_2 c1_3
  obtain ⟨Avals', cvals', rfl, _, _⟩ := hovals.at_
  have c2_0 : w2.cell? ⟨w.heap.size, 0, none⟩ = some (.bool leaf) := C2.2 0 _ rfl
  have d2_0 : w2.cell? ⟨w.heap.size + 1 + 1, 0, none⟩ = some (.bool leaf) := by rw [Lib.cell_of_heap hO2]; rfl
  have fz2_0 : w2.frozen? ⟨w.heap.size + 1 + 1, 0, none⟩ = false := Lib.frozen_of_heap hO2 0
  have c2_1 : w2.cell? ⟨w.heap.size, 1, none⟩ = some (.slice Akeys keys.length ckeys) := C2.2 1 _ rfl
  have d2_1 : w2.cell? ⟨w.heap.size + 1 + 1, 1, none⟩ = some (.slice Akeys' keys.length ckeys') := by rw [Lib.cell_of_heap hO2]; rfl
  have fz2_1 : w2.frozen? ⟨w.heap.size + 1 + 1, 1, none⟩ = false := Lib.frozen_of_heap hO2 1
  have c2_2 : w2.cell? ⟨w.heap.size, 2, none⟩ = some (.slice Avals vals.length cvals) := C2.2 2 _ rfl
  have d2_2 : w2.cell? ⟨w.heap.size + 1 + 1, 2, none⟩ = some (.slice none 0 0) := by rw [Lib.cell_of_heap hO2]; rfl
  have fz2_2 : w2.frozen? ⟨w.heap.size + 1 + 1, 2, none⟩ = false := Lib.frozen_of_heap hO2 2
  have c2_3 : w2.cell? ⟨w.heap.size, 3, none⟩ = some (.slice Akids kids.length ckids) := C2.2 3 _ rfl
  have d2_3 : w2.cell? ⟨w.heap.size + 1 + 1, 3, none⟩ = some (.slice none 0 0) := by rw [Lib.cell_of_heap hO2]; rfl
  have fz2_3 : w2.frozen? ⟨w.heap.size + 1 + 1, 3, none⟩ = false := Lib.frozen_of_heap hO2 3
  have HO2 := Lib.hid (show (w2.setCell ⟨w.heap.size + 1 + 1, 2, none⟩ (.slice Avals' vals.length cvals')).heap[w.heap.size + 1 + 1]? = some (.cells #[.bool leaf, .slice Akeys' keys.length ckeys', .slice Avals' vals.length cvals', .slice none 0 0] 29 (0, 0)) from (heap_setCell_same _ _ 2 _ _ _ hO2))
  have HR2 := Lib.hid (show (w2.setCell ⟨w.heap.size + 1 + 1, 2, none⟩ (.slice Avals' vals.length cvals')).heap[w.heap.size + 1]? = some (.cells #[.bool false, .slice none 0 0, .slice none 0 0, .slice none 0 0] 29 (0, 0)) from ((heap_setCell_other _ _ _ _ (by simp)).trans hR2))
  have HC2 : Hid (CellsAt (w2.setCell ⟨w.heap.size + 1 + 1, 2, none⟩ (.slice Avals' vals.length cvals')) w.heap.size (#[.bool leaf, .slice Akeys keys.length ckeys, .slice Avals vals.length cvals, .slice Akids kids.length ckids] : Array Value).toList) := ⟨by simp; omega, fun j u hu => by rw [cell_setCell_blk _ _ _ _ (show (w.heap.size : Nat) ≠ w.heap.size + 1 + 1 by omega)]; exact C2.2 j u hu⟩
  have HB2 : Hid (Below w.heap.size w (w2.setCell ⟨w.heap.size + 1 + 1, 2, none⟩ (.slice Avals' vals.length cvals'))) := (B2.setCell (p := ⟨w.heap.size + 1 + 1, 2, none⟩) (by simp; omega) _)
  have HOkeys : Hid (Strs (w2.setCell ⟨w.heap.size + 1 + 1, 2, none⟩ (.slice Avals' vals.length cvals')) (w.heap.size + 1 + 1 + 1) (.slice Akeys' keys.length ckeys') keys) := (ownsRow_setCell_below hokeys (by simp) _)
  have HOvals : Hid (Strs (w2.setCell ⟨w.heap.size + 1 + 1, 2, none⟩ (.slice Avals' vals.length cvals')) (w.heap.size + 1 + 1 + 1) (.slice Avals' vals.length cvals') vals) := (ownsRow_setCell_below hovals (by simp) _)
  clear hO2 hR2 C2 B2 hokeys hovals
  go_wp2_with fail
  refine (toInt64S_any _ kids _ _ (Hkids.out.on HB2.out) (Nat.le_refl _) hlkids).mono ?_
  rintro e w3 ⟨svkids, rfl, hokids, b3⟩
  have hO3 := (b3.block _ (by simp; omega)).trans HO2.out
  have hR3 := (b3.block _ (by simp; omega)).trans HR2.out
  have C3 := HC2.out.below b3
  have B3 := below_trans HB2.out b3
  have hs3 : w.heap.size + 1 + 1 + 1 ≤ w3.heap.size := by have := b3.size; simp at this; omega
  have hokeys : Strs w3 (w.heap.size + 1 + 1 + 1) (.slice Akeys' keys.length ckeys') keys := own_on HOkeys.out b3
  have hovals : Strs w3 (w.heap.size + 1 + 1 + 1) (.slice Avals' vals.length cvals') vals := own_on HOvals.out b3
  have hokids : Ints w3 (w.heap.size + 1 + 1 + 1) svkids kids := Joins.ownsRow_le hokids (by simp; omega)
  clear HO2 HR2 HC2 HB2 b3 c2_0 c2_1 c2_2 c2_3
  obtain ⟨Akids', ckids', rfl, _, _⟩ := hokids.at_
  have c3_0 : w3.cell? ⟨w.heap.size, 0, none⟩ = some (.bool leaf) := C3.2 0 _ rfl
  have d3_0 : w3.cell? ⟨w.heap.size + 1 + 1, 0, none⟩ = some (.bool leaf) := by rw [Lib.cell_of_heap hO3]; rfl
  have fz3_0 : w3.frozen? ⟨w.heap.size + 1 + 1, 0, none⟩ = false := Lib.frozen_of_heap hO3 0
  have c3_1 : w3.cell? ⟨w.heap.size, 1, none⟩ = some (.slice Akeys keys.length ckeys) := C3.2 1 _ rfl
  have d3_1 : w3.cell? ⟨w.heap.size + 1 + 1, 1, none⟩ = some (.slice Akeys' keys.length ckeys') := by rw [Lib.cell_of_heap hO3]; rfl
  have fz3_1 : w3.frozen? ⟨w.heap.size + 1 + 1, 1, none⟩ = false := Lib.frozen_of_heap hO3 1
  have c3_2 : w3.cell? ⟨w.heap.size, 2, none⟩ = some (.slice Avals vals.length cvals) := C3.2 2 _ rfl
  have d3_2 : w3.cell? ⟨w.heap.size + 1 + 1, 2, none⟩ = some (.slice Avals' vals.length cvals') := by rw [Lib.cell_of_heap hO3]; rfl
  have fz3_2 : w3.frozen? ⟨w.heap.size + 1 + 1, 2, none⟩ = false := Lib.frozen_of_heap hO3 2
  have c3_3 : w3.cell? ⟨w.heap.size, 3, none⟩ = some (.slice Akids kids.length ckids) := C3.2 3 _ rfl
  have d3_3 : w3.cell? ⟨w.heap.size + 1 + 1, 3, none⟩ = some (.slice none 0 0) := by rw [Lib.cell_of_heap hO3]; rfl
  have fz3_3 : w3.frozen? ⟨w.heap.size + 1 + 1, 3, none⟩ = false := Lib.frozen_of_heap hO3 3
  have r0 : w3.cell? ⟨w.heap.size + 1, 0, none⟩ = some (.bool false) := by rw [Lib.cell_of_heap hR3]; rfl
  have g0 : w3.frozen? ⟨w.heap.size + 1, 0, none⟩ = false := Lib.frozen_of_heap hR3 0
  have r1 : w3.cell? ⟨w.heap.size + 1, 1, none⟩ = some (.slice none 0 0) := by rw [Lib.cell_of_heap hR3]; rfl
  have g1 : w3.frozen? ⟨w.heap.size + 1, 1, none⟩ = false := Lib.frozen_of_heap hR3 1
  have r2 : w3.cell? ⟨w.heap.size + 1, 2, none⟩ = some (.slice none 0 0) := by rw [Lib.cell_of_heap hR3]; rfl
  have g2 : w3.frozen? ⟨w.heap.size + 1, 2, none⟩ = false := Lib.frozen_of_heap hR3 2
  have r3 : w3.cell? ⟨w.heap.size + 1, 3, none⟩ = some (.slice none 0 0) := by rw [Lib.cell_of_heap hR3]; rfl
  have g3 : w3.frozen? ⟨w.heap.size + 1, 3, none⟩ = false := Lib.frozen_of_heap hR3 3
  have HRR := Lib.hid hR3
  have HOkeys := Lib.hid hokeys; clear hokeys
  have HOvals := Lib.hid hovals; clear hovals
  have HOkids := Lib.hid hokids; clear hokids
  clear hO3 hR3 C3
  go_wp2_with fail
  refine bodyPost_ret (results_cell_row rfl _ _ (w.heap.size + 1) 29 #[.bool leaf, .slice Akeys' keys.length ckeys', .slice Avals' vals.length cvals', .slice Akids' kids.length ckids'] (0, 0) _ rfl ?_ Tryz.underlying29 rfl (by kernel_rfl)) rfl ⟨⟨leaf, .slice Akeys' keys.length ckeys', keys, .slice Avals' vals.length cvals', vals, .slice Akids' kids.length ckids', kids⟩, rfl, rfl, ?_, ?_⟩
  · have q0 := HRR.out
    rw [← heap_setCell_other w3 ⟨w.heap.size + 1 + 1, 3, none⟩ (w.heap.size + 1) (.slice Akids' kids.length ckids') (by simp)] at q0
    exact (heap_setCell_same _ _ 3 _ _ _ (heap_setCell_same _ _ 2 _ _ _ (heap_setCell_same _ _ 1 _ _ _ (heap_setCell_same _ _ 0 _ _ _ q0))))
  · exact ⟨Joins.ownsRow_le (ownsRow_setCell_below (ownsRow_setCell_below (ownsRow_setCell_below (ownsRow_setCell_below (ownsRow_setCell_below HOkeys.out (by simp) _) (by simp) _) (by simp) _) (by simp) _) (by simp) _) (by omega), Joins.ownsRow_le (ownsRow_setCell_below (ownsRow_setCell_below (ownsRow_setCell_below (ownsRow_setCell_below (ownsRow_setCell_below HOvals.out (by simp) _) (by simp) _) (by simp) _) (by simp) _) (by simp) _) (by omega), Joins.ownsRow_le (ownsRow_setCell_below (ownsRow_setCell_below (ownsRow_setCell_below (ownsRow_setCell_below (ownsRow_setCell_below HOkids.out (by simp) _) (by simp) _) (by simp) _) (by simp) _) (by simp) _) (by omega), trivial⟩
  · exact (((((B3.setCell (p := ⟨w.heap.size + 1 + 1, 3, none⟩) (by simp; omega) _).setCell (p := ⟨w.heap.size + 1, 0, none⟩) (by simp) _).setCell (p := ⟨w.heap.size + 1, 1, none⟩) (by simp) _).setCell (p := ⟨w.heap.size + 1, 2, none⟩) (by simp) _).setCell (p := ⟨w.heap.size + 1, 3, none⟩) (by simp) _)

set_option maxHeartbeats 1000000 in
set_option maxRecDepth 8000 in
theorem eqPage_any (x y : PageV) (w : World) (hx : x.At w) (hy : y.At w) (hok : x.Ok 1048576) :
    Calls Tryz.prog 13 #[.agg x.cells, .agg y.cells] w fun e w' => e = .returned (.bool (decide (x.dat = y.dat))) ∧ Below w.heap.size w w' := by
  obtain ⟨R, hR⟩ : ∃ R : Bool, decide (x.dat = y.dat) = R := ⟨_, rfl⟩
  rw [hR]
  have HR := Lib.hid hR; clear hR
  have hba : Below w.heap.size w ((w.alloc (.cells x.cells 29)).alloc (.cells y.cells 29)) := Joins.below_alloc2 w _ _
  have hX := hx.on hba
  have hY := hy.on hba
  obtain ⟨leaf, keysv, keys, valsv, vals, kidsv, kids⟩ := x
  obtain ⟨leaf2, keysV, keys2, valsV, vals2, kidsV, kids2⟩ := y
  obtain ⟨⟨hlkeys, hzkeys⟩, ⟨hlvals, hzvals⟩, hlkids, _⟩ := hok
  obtain ⟨hxkeys, hxvals, hxkids, _⟩ := hx
  obtain ⟨hykeys, hyvals, hykids, _⟩ := hy
  obtain ⟨hXkeys, hXvals, hXkids, _⟩ := hX
  obtain ⟨hYkeys, hYvals, hYkids, _⟩ := hY
  simp only [PageV.cells] at *
  have HV : Hid (∀ b : Bool, (b = true ↔ leaf = leaf2 ∧ keys = keys2 ∧ vals = vals2 ∧ kids = kids2) → R = b) := fun b hb => by
    rw [← HR.out]
    have e : (PageV.dat ⟨leaf, keysv, keys, valsv, vals, kidsv, kids⟩ = PageV.dat ⟨leaf2, keysV, keys2, valsV, vals2, kidsV, kids2⟩) ↔ (leaf = leaf2 ∧ keys = keys2 ∧ vals = vals2 ∧ kids = kids2) := by simp [PageV.dat]
    cases b
    · rw [decide_eq_false_iff_not, e]; exact fun h => by simpa using hb.2 h
    · rw [decide_eq_true_iff, e]; exact hb.1 rfl
  clear HR
  clear hzkeys
  have HXkeys := Lib.hid hXkeys; clear hXkeys
  have HYkeys := Lib.hid hYkeys; clear hYkeys
  obtain ⟨Akeys, ckeys, rfl, _, _⟩ := id hxkeys; clear hxkeys
  obtain ⟨Akeys2, ckeys2, rfl, _, _⟩ := id hykeys; clear hykeys
  clear hzvals
  have HXvals := Lib.hid hXvals; clear hXvals
  have HYvals := Lib.hid hYvals; clear hYvals
  obtain ⟨Avals, cvals, rfl, _, _⟩ := id hxvals; clear hxvals
  obtain ⟨Avals2, cvals2, rfl, _, _⟩ := id hyvals; clear hyvals
  have HXkids := Lib.hid hXkids; clear hXkids
  have HYkids := Lib.hid hYkids; clear hYkids
  obtain ⟨Akids, ckids, rfl, _, _⟩ := id hxkids; clear hxkids
  obtain ⟨Akids2, ckids2, rfl, _, _⟩ := id hykids; clear hykids
  have hbz := hba.size
  go_enter Tryz.func13, Tryz.ntmps13
  by_cases hne : leaf = leaf2
  rotate_left
  · have e1 : (leaf == leaf2) = false := by simpa using hne
    have e2 : (leaf != leaf2) = true := by simpa using hne
    go_wp2_with fail
    go_ret
    exact ⟨ret_bool (HV.out false (by simp [hne])).symm, hba⟩
  have Eleaf := Lib.hid hne
  have e1 : (leaf == leaf2) = true := by simpa using hne
  have e2 : (leaf != leaf2) = false := by simpa using hne
  clear hne
  go_wp2_with fail
  refine (eqStringS_any _ _ keys keys2 _ _ HXkeys.out HYkeys.out hlkeys).mono ?_
  rintro e w' ⟨rfl, n0, rfl⟩
  have B0 := below_trans hba (below_drewN _ n0)
  by_cases hne : keys = keys2
  rotate_left
  · rw [decide_eq_false hne]
    go_wp2_with fail
    go_ret
    exact ⟨ret_bool (HV.out false (by simp [hne])).symm, B0⟩
  rw [decide_eq_true hne]
  have Ekeys := Lib.hid hne; clear hne
  go_wp2_with fail
  refine (eqStringS_any _ _ vals vals2 _ _ (HXvals.out.on (below_drewN _ _)) (HYvals.out.on (below_drewN _ _)) hlvals).mono ?_
  rintro e w' ⟨rfl, n1, rfl⟩
  have B1 := below_trans B0 (below_drewN _ n1)
  by_cases hne : vals = vals2
  rotate_left
  · rw [decide_eq_false hne]
    go_wp2_with fail
    go_ret
    exact ⟨ret_bool (HV.out false (by simp [hne])).symm, (by have hq := B1; simp only [World.drewN_drewN] at hq ⊢; exact hq)⟩
  rw [decide_eq_true hne]
  have Evals := Lib.hid hne; clear hne
  go_wp2_with fail
  refine (eqInt64S_any _ _ kids kids2 _ _ (HXkids.out.on (below_drewN _ _)) (HYkids.out.on (below_drewN _ _)) hlkids).mono ?_
  rintro e w' ⟨rfl, n2, rfl⟩
  have B2 := below_trans B1 (below_drewN _ n2)
  by_cases hne : kids = kids2
  rotate_left
  · rw [decide_eq_false hne]
    go_wp2_with fail
    go_ret
    exact ⟨ret_bool (HV.out false (by simp [hne])).symm, (by have hq := B2; simp only [World.drewN_drewN] at hq ⊢; exact hq)⟩
  rw [decide_eq_true hne]
  have Ekids := Lib.hid hne; clear hne
  go_wp2_with fail
  go_ret
  exact ⟨ret_bool (HV.out true (by simp [Eleaf.out, Ekeys.out, Evals.out, Ekids.out])).symm, (by have hq := B2; simp only [World.drewN_drewN] at hq ⊢; exact hq)⟩


end Go.Proofs.YtjedmpkjopgklaaGreatDoor
