/- Slices of flat structs. (printed by gen_dv.py) -/
import Derived.Test.YtllamjgloilioaaDvFlat2
import Derived.RegionTactic
import Derived.Deep.RegionWith
import Derived.StillTailTactics
namespace Go.Proofs.Ytllamjgloilioaa
open Go.RowKit Go.ChangeShapes Go.WideShapes Go.ChangeAt Go.Deep
set_option linter.unusedVariables false
set_option linter.unusedSimpArgs false

theorem At.getBind {w : World} {A : Option Addr} {n c : Nat} {ds : List DV} (h : At w (.sl tyBind) [.slice A n c] (.sl ds)) {k : Nat} (hk : k < ds.length) : ∃ (ad : Addr) (name : ByteArray) (cell : Int), A = some ad ∧ ad.block < w.heap.size ∧ At w tyBind [.string name, .int .i64 cell] ds[k] ∧ w.cell? (ad.add (k * 2)) = some (.string name) ∧ w.cell? ⟨(ad.add (k * 2)).block, (ad.add (k * 2)).off + 1, none⟩ = some (.int .i64 cell) := by
  obtain ⟨ad, ec, hA, _, hb, hc, hr⟩ := Rd.get h hk
  obtain ⟨name, cell, rfl⟩ := hr.cellsBind
  refine ⟨ad, _, _, hA, hb, hr, hc 0 _ rfl, ?_⟩
  · rw [show (⟨(ad.add (k * 2)).block, (ad.add (k * 2)).off + 1, none⟩ : Addr) = ad.add (k * 2 + 1) by rw [← add_posD, add_of_add]]; exact hc 1 _ rfl

set_option maxHeartbeats 1000000 in
set_option maxRecDepth 8000 in
theorem szBindS_dv (v : Value) (d : DV) (left : Int) (w : World) (h : At w (.sl tyBind) [v] d) (hf : Fits maxLen d) (h0 : 0 ≤ left) (h1 : left ≤ 1048576) :
    Calls Try.prog 41 #[v, .int .i64 left] w fun e w' => (∃ q : Int, e = .returned (.int .i64 q) ∧ -1 ≤ q ∧ q ≤ left ∧ Hid (0 ≤ q → Fits 1048576 d)) ∧ Below w.heap.size w w' := by
  obtain ⟨A, c, ds, hv, rfl, hc, hr⟩ := Rd.inv_sl h
  simp only [List.cons.injEq, and_true] at hv
  subst hv
  have H : Hid (At w (.sl tyBind) [.slice A ds.length c] (.sl ds)) := hr; clear h hr
  have hl := hf.len
  unfold maxLen at hl
  have HOK := Lib.hid hf.mem; clear hf
  by_cases hn : left - ds.length < 0
  · go_enter Try.func41, Try.ntmps41
    go_wp2
    go_ret
    exact ⟨⟨_, rfl, by omega, by omega, fun h => by omega⟩, below_refl _⟩
  · go_enter Try.func41, Try.ntmps41
    go_wp2
    go_loopw [1, 5] (fun l i wr => ∃ (k : Nat) (q : Int), k ≤ ds.length ∧ i = .int .i64 k ∧ l = .int .i64 q ∧ 0 ≤ q ∧ q ≤ left ∧ Hid (∀ x ∈ ds.take k, Fits 1048576 x) ∧ Below w.heap.size w wr) (fun _ i _ => ds.length - (intOf i).toNat)
    case atStart => exact ⟨0, _, Nat.zero_le _, rfl, rfl, by omega, by omega, fun x hx => by simp at hx, below_refl _⟩
    case round =>
      obtain ⟨k, q, hk, rfl, rfl, hq0, hq1, HI, hbel⟩ := hrel
      by_cases hlt : k < ds.length
      · have HB := Lib.hid hbel
        obtain ⟨ad, name, cell, rfl, hbl, hat, a0, a1⟩ := (H.out.on hbel).getBind hlt
        have HX := Lib.hid (HOK.out _ (List.getElem_mem hlt))
        have HT := Lib.hid (List.take_succ_eq_append_getElem hlt)
        have HAT := Lib.hid hat; clear hat
        generalize ds[k] = x at *
        go_wp2_with fail
        refine (szBind_dv _ x q _ HAT.out HX.out hq0 (by omega)).mono ?_
        rintro e w2 ⟨⟨q', rfl, q1, q2, HQ⟩, b2⟩
        clear a0 a1
        by_cases q0 : q' < 0
        · go_wp2_with fail
          go_ret
          exact ⟨⟨_, rfl, by omega, by omega, fun h => by omega⟩, below_trans HB.out b2⟩
        · go_wp2_with fail
          refine ⟨⟨k + 1, q', by omega, by go_num, rfl, by omega, by omega, ?_, below_trans HB.out b2⟩, by simp [intOf]; omega⟩
          intro x hx
          rw [HT.out] at hx
          rcases List.mem_append.1 hx with hx | hx
          · exact HI.out x hx
          · rw [List.mem_singleton] at hx; subst hx; exact HQ.out (by omega)
      · obtain rfl : k = ds.length := by omega
        rw [List.take_length] at HI
        go_wp2
        go_ret
        exact ⟨⟨_, rfl, by omega, by omega, fun h => .sl _ (by omega) HI.out⟩, hbel⟩

theorem info_Bind : (Try.prog.info? 106).map (fun i => (i.zero, i.size, i.bytes)) = some (some (.agg #[.string ⟨#[]⟩, .int .i64 0]), 2, 24) := by kernel_rfl

theorem run_make_Bind (n : Nat) (hn : n ≤ 1048576) (w : World) : (Instr.makeSlice 42 (.int .i64 (n : Int)) (.int .i64 (n : Int))).run Try.prog w = .ok (.slice (some ⟨w.heap.size, 0, none⟩) n n) (w.alloc (.cells (madeCells #[.string ⟨#[]⟩, .int .i64 0] (n * 2)) 106)) := by
  obtain ⟨i0, hi0, hz0, hz1, hz2⟩ := info_parts info_Bind
  have h := run_make_rowN (P := Try.prog) 42 106 i0 _ Try.underlying42 hi0 hz0 .i64 .i64 n n (Nat.le_refl _) (by rw [hz2]; omega) (by omega) w
  rw [hz1] at h
  exact h

set_option maxHeartbeats 2000000 in
set_option maxRecDepth 8000 in
theorem toBindS_dv (v : Value) (d : DV) (w : World) (h : At w (.sl tyBind) [v] d) (hf : Fits 1048576 d) :
    Calls Try.prog 50 #[v] w fun e w' => ∃ v', e = .returned v' ∧ Rd w' w.heap.size w'.heap.size (.sl tyBind) [v'] d ∧ Below w.heap.size w w' := by
  obtain ⟨A, c, ds, hv, rfl, hc, hr⟩ := Rd.inv_sl h
  simp only [List.cons.injEq, and_true] at hv
  subst hv
  have H : Hid (At w (.sl tyBind) [.slice A ds.length c] (.sl ds)) := hr; clear h hr
  have hl := hf.len
  have HOK := Lib.hid hf.mem; clear hf
  have hmk := fun W => run_make_Bind ds.length hl W
  have HZ : Hid (Part (w.alloc (.cells (madeCells #[.string ⟨#[]⟩, .int .i64 0] (ds.length * 2)) 106)) w.heap.size ds.length 106 tyBind []) := Part.new w _ _ _ _ (by simp [madeCells, Ty.size])
  generalize madeCells #[.string ⟨#[]⟩, .int .i64 0] (ds.length * 2) = zs at *
  go_enter Try.func50, Try.ntmps50
  go_wp2
  go_loopw [4] (fun i wr => ∃ k : Nat, k ≤ ds.length ∧ i = .int .i64 k ∧ Hid (Part wr w.heap.size ds.length 106 tyBind (ds.take k)) ∧ Below w.heap.size w wr) (fun i _ => ds.length - (intOf i).toNat)
  case atStart => exact ⟨0, Nat.zero_le _, rfl, HZ.out, Joins.below_alloc1 w _⟩
  case round =>
    obtain ⟨k, hk, rfl, HO, hbel⟩ := hrel
    by_cases hlt : k < ds.length
    · have HB := Lib.hid hbel
      obtain ⟨ad, name, cell, rfl, hbl, hat, a0, a1⟩ := (H.out.on hbel).getBind hlt
      have HX := Lib.hid (HOK.out _ (List.getElem_mem hlt))
      have HT := Lib.hid (List.take_succ_eq_append_getElem hlt)
      have HAT := Lib.hid hat; clear hat
      generalize ds[k] = x at *
      go_wp2_with fail
      refine (toBind_dv _ x _ HAT.out HX.out).mono ?_
      rintro e w2 ⟨cs', rfl, hr, b2⟩
      have hbs := hbel.size
      have HO2 := Lib.hid (Part.on HO.out b2)
      have HB2 := Lib.hid (below_trans HB.out b2)
      have HR := Lib.hid (hr.got (lo := w.heap.size + 1) (by have := Part.lt HO.out; omega))
      obtain ⟨name', cell', rfl⟩ := hr.cellsBind
      obtain ⟨⟨u0, s0⟩, f0⟩ := HO2.out.slot hlt 0 (by decide)
      obtain ⟨⟨u1, s1⟩, f1⟩ := HO2.out.slot hlt 1 (by decide)
      simp only [Ty.size, Nat.add_zero, Nat.zero_add, Nat.reduceAdd, Nat.mul_one] at s0 f0 s1 f1
      clear hr b2 HO a0 a1
      go_wp2_with fail
      have hp := HO2.out.put [.string name', .int .i64 cell'] x HR.out (by rw [List.length_take]; omega)
      rw [List.length_take, Nat.min_eq_left hk, ← HT.out] at hp
      exact ⟨⟨k + 1, by omega, by go_num, hp, setRow_below [.string name', .int .i64 cell'] _ _ _ _ (k * (tyBind).size) (Nat.le_refl _) HB2.out⟩, by simp [intOf]; omega⟩
    · obtain rfl : k = ds.length := by omega
      rw [List.take_length] at HO
      go_wp2
      go_ret
      exact ⟨_, rfl, HO.out.rd rfl (Nat.le_refl _), hbel⟩

theorem At.getGiven {w : World} {A : Option Addr} {n c : Nat} {ds : List DV} (h : At w (.sl tyGiven) [.slice A n c] (.sl ds)) {k : Nat} (hk : k < ds.length) : ∃ (ad : Addr) (byref : Bool) (text : ByteArray), A = some ad ∧ ad.block < w.heap.size ∧ At w tyGiven [.bool byref, .string text] ds[k] ∧ w.cell? (ad.add (k * 2)) = some (.bool byref) ∧ w.cell? ⟨(ad.add (k * 2)).block, (ad.add (k * 2)).off + 1, none⟩ = some (.string text) := by
  obtain ⟨ad, ec, hA, _, hb, hc, hr⟩ := Rd.get h hk
  obtain ⟨byref, text, rfl⟩ := hr.cellsGiven
  refine ⟨ad, _, _, hA, hb, hr, hc 0 _ rfl, ?_⟩
  · rw [show (⟨(ad.add (k * 2)).block, (ad.add (k * 2)).off + 1, none⟩ : Addr) = ad.add (k * 2 + 1) by rw [← add_posD, add_of_add]]; exact hc 1 _ rfl

set_option maxHeartbeats 1000000 in
set_option maxRecDepth 8000 in
theorem szGivenS_dv (v : Value) (d : DV) (left : Int) (w : World) (h : At w (.sl tyGiven) [v] d) (hf : Fits maxLen d) (h0 : 0 ≤ left) (h1 : left ≤ 1048576) :
    Calls Try.prog 11 #[v, .int .i64 left] w fun e w' => (∃ q : Int, e = .returned (.int .i64 q) ∧ -1 ≤ q ∧ q ≤ left ∧ Hid (0 ≤ q → Fits 1048576 d)) ∧ Below w.heap.size w w' := by
  obtain ⟨A, c, ds, hv, rfl, hc, hr⟩ := Rd.inv_sl h
  simp only [List.cons.injEq, and_true] at hv
  subst hv
  have H : Hid (At w (.sl tyGiven) [.slice A ds.length c] (.sl ds)) := hr; clear h hr
  have hl := hf.len
  unfold maxLen at hl
  have HOK := Lib.hid hf.mem; clear hf
  by_cases hn : left - ds.length < 0
  · go_enter Try.func11, Try.ntmps11
    go_wp2
    go_ret
    exact ⟨⟨_, rfl, by omega, by omega, fun h => by omega⟩, below_refl _⟩
  · go_enter Try.func11, Try.ntmps11
    go_wp2
    go_loopw [1, 5] (fun l i wr => ∃ (k : Nat) (q : Int), k ≤ ds.length ∧ i = .int .i64 k ∧ l = .int .i64 q ∧ 0 ≤ q ∧ q ≤ left ∧ Hid (∀ x ∈ ds.take k, Fits 1048576 x) ∧ Below w.heap.size w wr) (fun _ i _ => ds.length - (intOf i).toNat)
    case atStart => exact ⟨0, _, Nat.zero_le _, rfl, rfl, by omega, by omega, fun x hx => by simp at hx, below_refl _⟩
    case round =>
      obtain ⟨k, q, hk, rfl, rfl, hq0, hq1, HI, hbel⟩ := hrel
      by_cases hlt : k < ds.length
      · have HB := Lib.hid hbel
        obtain ⟨ad, byref, text, rfl, hbl, hat, a0, a1⟩ := (H.out.on hbel).getGiven hlt
        have HX := Lib.hid (HOK.out _ (List.getElem_mem hlt))
        have HT := Lib.hid (List.take_succ_eq_append_getElem hlt)
        have HAT := Lib.hid hat; clear hat
        generalize ds[k] = x at *
        go_wp2_with fail
        refine (szGiven_dv _ x q _ HAT.out HX.out hq0 (by omega)).mono ?_
        rintro e w2 ⟨⟨q', rfl, q1, q2, HQ⟩, b2⟩
        clear a0 a1
        by_cases q0 : q' < 0
        · go_wp2_with fail
          go_ret
          exact ⟨⟨_, rfl, by omega, by omega, fun h => by omega⟩, below_trans HB.out b2⟩
        · go_wp2_with fail
          refine ⟨⟨k + 1, q', by omega, by go_num, rfl, by omega, by omega, ?_, below_trans HB.out b2⟩, by simp [intOf]; omega⟩
          intro x hx
          rw [HT.out] at hx
          rcases List.mem_append.1 hx with hx | hx
          · exact HI.out x hx
          · rw [List.mem_singleton] at hx; subst hx; exact HQ.out (by omega)
      · obtain rfl : k = ds.length := by omega
        rw [List.take_length] at HI
        go_wp2
        go_ret
        exact ⟨⟨_, rfl, by omega, by omega, fun h => .sl _ (by omega) HI.out⟩, hbel⟩

theorem info_Given : (Try.prog.info? 71).map (fun i => (i.zero, i.size, i.bytes)) = some (some (.agg #[.bool false, .string ⟨#[]⟩]), 2, 24) := by kernel_rfl

theorem run_make_Given (n : Nat) (hn : n ≤ 1048576) (w : World) : (Instr.makeSlice 39 (.int .i64 (n : Int)) (.int .i64 (n : Int))).run Try.prog w = .ok (.slice (some ⟨w.heap.size, 0, none⟩) n n) (w.alloc (.cells (madeCells #[.bool false, .string ⟨#[]⟩] (n * 2)) 71)) := by
  obtain ⟨i0, hi0, hz0, hz1, hz2⟩ := info_parts info_Given
  have h := run_make_rowN (P := Try.prog) 39 71 i0 _ Try.underlying39 hi0 hz0 .i64 .i64 n n (Nat.le_refl _) (by rw [hz2]; omega) (by omega) w
  rw [hz1] at h
  exact h

set_option maxHeartbeats 2000000 in
set_option maxRecDepth 8000 in
theorem toGivenS_dv (v : Value) (d : DV) (w : World) (h : At w (.sl tyGiven) [v] d) (hf : Fits 1048576 d) :
    Calls Try.prog 19 #[v] w fun e w' => ∃ v', e = .returned v' ∧ Rd w' w.heap.size w'.heap.size (.sl tyGiven) [v'] d ∧ Below w.heap.size w w' := by
  obtain ⟨A, c, ds, hv, rfl, hc, hr⟩ := Rd.inv_sl h
  simp only [List.cons.injEq, and_true] at hv
  subst hv
  have H : Hid (At w (.sl tyGiven) [.slice A ds.length c] (.sl ds)) := hr; clear h hr
  have hl := hf.len
  have HOK := Lib.hid hf.mem; clear hf
  have hmk := fun W => run_make_Given ds.length hl W
  have HZ : Hid (Part (w.alloc (.cells (madeCells #[.bool false, .string ⟨#[]⟩] (ds.length * 2)) 71)) w.heap.size ds.length 71 tyGiven []) := Part.new w _ _ _ _ (by simp [madeCells, Ty.size])
  generalize madeCells #[.bool false, .string ⟨#[]⟩] (ds.length * 2) = zs at *
  go_enter Try.func19, Try.ntmps19
  go_wp2
  go_loopw [4] (fun i wr => ∃ k : Nat, k ≤ ds.length ∧ i = .int .i64 k ∧ Hid (Part wr w.heap.size ds.length 71 tyGiven (ds.take k)) ∧ Below w.heap.size w wr) (fun i _ => ds.length - (intOf i).toNat)
  case atStart => exact ⟨0, Nat.zero_le _, rfl, HZ.out, Joins.below_alloc1 w _⟩
  case round =>
    obtain ⟨k, hk, rfl, HO, hbel⟩ := hrel
    by_cases hlt : k < ds.length
    · have HB := Lib.hid hbel
      obtain ⟨ad, byref, text, rfl, hbl, hat, a0, a1⟩ := (H.out.on hbel).getGiven hlt
      have HX := Lib.hid (HOK.out _ (List.getElem_mem hlt))
      have HT := Lib.hid (List.take_succ_eq_append_getElem hlt)
      have HAT := Lib.hid hat; clear hat
      generalize ds[k] = x at *
      go_wp2_with fail
      refine (toGiven_dv _ x _ HAT.out HX.out).mono ?_
      rintro e w2 ⟨cs', rfl, hr, b2⟩
      have hbs := hbel.size
      have HO2 := Lib.hid (Part.on HO.out b2)
      have HB2 := Lib.hid (below_trans HB.out b2)
      have HR := Lib.hid (hr.got (lo := w.heap.size + 1) (by have := Part.lt HO.out; omega))
      obtain ⟨byref', text', rfl⟩ := hr.cellsGiven
      obtain ⟨⟨u0, s0⟩, f0⟩ := HO2.out.slot hlt 0 (by decide)
      obtain ⟨⟨u1, s1⟩, f1⟩ := HO2.out.slot hlt 1 (by decide)
      simp only [Ty.size, Nat.add_zero, Nat.zero_add, Nat.reduceAdd, Nat.mul_one] at s0 f0 s1 f1
      clear hr b2 HO a0 a1
      go_wp2_with fail
      have hp := HO2.out.put [.bool byref', .string text'] x HR.out (by rw [List.length_take]; omega)
      rw [List.length_take, Nat.min_eq_left hk, ← HT.out] at hp
      exact ⟨⟨k + 1, by omega, by go_num, hp, setRow_below [.bool byref', .string text'] _ _ _ _ (k * (tyGiven).size) (Nat.le_refl _) HB2.out⟩, by simp [intOf]; omega⟩
    · obtain rfl : k = ds.length := by omega
      rw [List.take_length] at HO
      go_wp2
      go_ret
      exact ⟨_, rfl, HO.out.rd rfl (Nat.le_refl _), hbel⟩

theorem At.getLoop {w : World} {A : Option Addr} {n c : Nat} {ds : List DV} (h : At w (.sl tyLoop) [.slice A n c] (.sl ds)) {k : Nat} (hk : k < ds.length) : ∃ (ad : Addr) (name : ByteArray) (step : Int) (limit : Int) (has : Bool) (next : Int) (fin : Int), A = some ad ∧ ad.block < w.heap.size ∧ At w tyLoop [.string name, .int .i64 step, .int .i64 limit, .bool has, .int .i64 next, .int .i64 fin] ds[k] ∧ w.cell? (ad.add (k * 6)) = some (.string name) ∧ w.cell? ⟨(ad.add (k * 6)).block, (ad.add (k * 6)).off + 1, none⟩ = some (.int .i64 step) ∧ w.cell? ⟨(ad.add (k * 6)).block, (ad.add (k * 6)).off + 2, none⟩ = some (.int .i64 limit) ∧ w.cell? ⟨(ad.add (k * 6)).block, (ad.add (k * 6)).off + 3, none⟩ = some (.bool has) ∧ w.cell? ⟨(ad.add (k * 6)).block, (ad.add (k * 6)).off + 4, none⟩ = some (.int .i64 next) ∧ w.cell? ⟨(ad.add (k * 6)).block, (ad.add (k * 6)).off + 5, none⟩ = some (.int .i64 fin) := by
  obtain ⟨ad, ec, hA, _, hb, hc, hr⟩ := Rd.get h hk
  obtain ⟨name, step, limit, has, next, fin, rfl⟩ := hr.cellsLoop
  refine ⟨ad, _, _, _, _, _, _, hA, hb, hr, hc 0 _ rfl, ?_, ?_, ?_, ?_, ?_⟩
  · rw [show (⟨(ad.add (k * 6)).block, (ad.add (k * 6)).off + 1, none⟩ : Addr) = ad.add (k * 6 + 1) by rw [← add_posD, add_of_add]]; exact hc 1 _ rfl
  · rw [show (⟨(ad.add (k * 6)).block, (ad.add (k * 6)).off + 2, none⟩ : Addr) = ad.add (k * 6 + 2) by rw [← add_posD, add_of_add]]; exact hc 2 _ rfl
  · rw [show (⟨(ad.add (k * 6)).block, (ad.add (k * 6)).off + 3, none⟩ : Addr) = ad.add (k * 6 + 3) by rw [← add_posD, add_of_add]]; exact hc 3 _ rfl
  · rw [show (⟨(ad.add (k * 6)).block, (ad.add (k * 6)).off + 4, none⟩ : Addr) = ad.add (k * 6 + 4) by rw [← add_posD, add_of_add]]; exact hc 4 _ rfl
  · rw [show (⟨(ad.add (k * 6)).block, (ad.add (k * 6)).off + 5, none⟩ : Addr) = ad.add (k * 6 + 5) by rw [← add_posD, add_of_add]]; exact hc 5 _ rfl

set_option maxHeartbeats 1000000 in
set_option maxRecDepth 8000 in
theorem szLoopS_dv (v : Value) (d : DV) (left : Int) (w : World) (h : At w (.sl tyLoop) [v] d) (hf : Fits maxLen d) (h0 : 0 ≤ left) (h1 : left ≤ 1048576) :
    Calls Try.prog 12 #[v, .int .i64 left] w fun e w' => (∃ q : Int, e = .returned (.int .i64 q) ∧ -1 ≤ q ∧ q ≤ left ∧ Hid (0 ≤ q → Fits 1048576 d)) ∧ Below w.heap.size w w' := by
  obtain ⟨A, c, ds, hv, rfl, hc, hr⟩ := Rd.inv_sl h
  simp only [List.cons.injEq, and_true] at hv
  subst hv
  have H : Hid (At w (.sl tyLoop) [.slice A ds.length c] (.sl ds)) := hr; clear h hr
  have hl := hf.len
  unfold maxLen at hl
  have HOK := Lib.hid hf.mem; clear hf
  by_cases hn : left - ds.length < 0
  · go_enter Try.func12, Try.ntmps12
    go_wp2
    go_ret
    exact ⟨⟨_, rfl, by omega, by omega, fun h => by omega⟩, below_refl _⟩
  · go_enter Try.func12, Try.ntmps12
    go_wp2
    go_loopw [1, 5] (fun l i wr => ∃ (k : Nat) (q : Int), k ≤ ds.length ∧ i = .int .i64 k ∧ l = .int .i64 q ∧ 0 ≤ q ∧ q ≤ left ∧ Hid (∀ x ∈ ds.take k, Fits 1048576 x) ∧ Below w.heap.size w wr) (fun _ i _ => ds.length - (intOf i).toNat)
    case atStart => exact ⟨0, _, Nat.zero_le _, rfl, rfl, by omega, by omega, fun x hx => by simp at hx, below_refl _⟩
    case round =>
      obtain ⟨k, q, hk, rfl, rfl, hq0, hq1, HI, hbel⟩ := hrel
      by_cases hlt : k < ds.length
      · have HB := Lib.hid hbel
        obtain ⟨ad, name, step, limit, has, next, fin, rfl, hbl, hat, a0, a1, a2, a3, a4, a5⟩ := (H.out.on hbel).getLoop hlt
        have HX := Lib.hid (HOK.out _ (List.getElem_mem hlt))
        have HT := Lib.hid (List.take_succ_eq_append_getElem hlt)
        have HAT := Lib.hid hat; clear hat
        generalize ds[k] = x at *
        go_wp2_with fail
        refine (szLoop_dv _ x q _ HAT.out HX.out hq0 (by omega)).mono ?_
        rintro e w2 ⟨⟨q', rfl, q1, q2, HQ⟩, b2⟩
        clear a0 a1 a2 a3 a4 a5
        by_cases q0 : q' < 0
        · go_wp2_with fail
          go_ret
          exact ⟨⟨_, rfl, by omega, by omega, fun h => by omega⟩, below_trans HB.out b2⟩
        · go_wp2_with fail
          refine ⟨⟨k + 1, q', by omega, by go_num, rfl, by omega, by omega, ?_, below_trans HB.out b2⟩, by simp [intOf]; omega⟩
          intro x hx
          rw [HT.out] at hx
          rcases List.mem_append.1 hx with hx | hx
          · exact HI.out x hx
          · rw [List.mem_singleton] at hx; subst hx; exact HQ.out (by omega)
      · obtain rfl : k = ds.length := by omega
        rw [List.take_length] at HI
        go_wp2
        go_ret
        exact ⟨⟨_, rfl, by omega, by omega, fun h => .sl _ (by omega) HI.out⟩, hbel⟩

theorem info_Loop : (Try.prog.info? 74).map (fun i => (i.zero, i.size, i.bytes)) = some (some (.agg #[.string ⟨#[]⟩, .int .i64 0, .int .i64 0, .bool false, .int .i64 0, .int .i64 0]), 6, 56) := by kernel_rfl

theorem run_make_Loop (n : Nat) (hn : n ≤ 1048576) (w : World) : (Instr.makeSlice 40 (.int .i64 (n : Int)) (.int .i64 (n : Int))).run Try.prog w = .ok (.slice (some ⟨w.heap.size, 0, none⟩) n n) (w.alloc (.cells (madeCells #[.string ⟨#[]⟩, .int .i64 0, .int .i64 0, .bool false, .int .i64 0, .int .i64 0] (n * 6)) 74)) := by
  obtain ⟨i0, hi0, hz0, hz1, hz2⟩ := info_parts info_Loop
  have h := run_make_rowN (P := Try.prog) 40 74 i0 _ Try.underlying40 hi0 hz0 .i64 .i64 n n (Nat.le_refl _) (by rw [hz2]; omega) (by omega) w
  rw [hz1] at h
  exact h

set_option maxHeartbeats 2000000 in
set_option maxRecDepth 8000 in
theorem toLoopS_dv (v : Value) (d : DV) (w : World) (h : At w (.sl tyLoop) [v] d) (hf : Fits 1048576 d) :
    Calls Try.prog 20 #[v] w fun e w' => ∃ v', e = .returned v' ∧ Rd w' w.heap.size w'.heap.size (.sl tyLoop) [v'] d ∧ Below w.heap.size w w' := by
  obtain ⟨A, c, ds, hv, rfl, hc, hr⟩ := Rd.inv_sl h
  simp only [List.cons.injEq, and_true] at hv
  subst hv
  have H : Hid (At w (.sl tyLoop) [.slice A ds.length c] (.sl ds)) := hr; clear h hr
  have hl := hf.len
  have HOK := Lib.hid hf.mem; clear hf
  have hmk := fun W => run_make_Loop ds.length hl W
  have HZ : Hid (Part (w.alloc (.cells (madeCells #[.string ⟨#[]⟩, .int .i64 0, .int .i64 0, .bool false, .int .i64 0, .int .i64 0] (ds.length * 6)) 74)) w.heap.size ds.length 74 tyLoop []) := Part.new w _ _ _ _ (by simp [madeCells, Ty.size])
  generalize madeCells #[.string ⟨#[]⟩, .int .i64 0, .int .i64 0, .bool false, .int .i64 0, .int .i64 0] (ds.length * 6) = zs at *
  go_enter Try.func20, Try.ntmps20
  go_wp2
  go_loopw [4] (fun i wr => ∃ k : Nat, k ≤ ds.length ∧ i = .int .i64 k ∧ Hid (Part wr w.heap.size ds.length 74 tyLoop (ds.take k)) ∧ Below w.heap.size w wr) (fun i _ => ds.length - (intOf i).toNat)
  case atStart => exact ⟨0, Nat.zero_le _, rfl, HZ.out, Joins.below_alloc1 w _⟩
  case round =>
    obtain ⟨k, hk, rfl, HO, hbel⟩ := hrel
    by_cases hlt : k < ds.length
    · have HB := Lib.hid hbel
      obtain ⟨ad, name, step, limit, has, next, fin, rfl, hbl, hat, a0, a1, a2, a3, a4, a5⟩ := (H.out.on hbel).getLoop hlt
      have HX := Lib.hid (HOK.out _ (List.getElem_mem hlt))
      have HT := Lib.hid (List.take_succ_eq_append_getElem hlt)
      have HAT := Lib.hid hat; clear hat
      generalize ds[k] = x at *
      go_wp2_with fail
      refine (toLoop_dv _ x _ HAT.out HX.out).mono ?_
      rintro e w2 ⟨cs', rfl, hr, b2⟩
      have hbs := hbel.size
      have HO2 := Lib.hid (Part.on HO.out b2)
      have HB2 := Lib.hid (below_trans HB.out b2)
      have HR := Lib.hid (hr.got (lo := w.heap.size + 1) (by have := Part.lt HO.out; omega))
      obtain ⟨name', step', limit', has', next', fin', rfl⟩ := hr.cellsLoop
      obtain ⟨⟨u0, s0⟩, f0⟩ := HO2.out.slot hlt 0 (by decide)
      obtain ⟨⟨u1, s1⟩, f1⟩ := HO2.out.slot hlt 1 (by decide)
      obtain ⟨⟨u2, s2⟩, f2⟩ := HO2.out.slot hlt 2 (by decide)
      obtain ⟨⟨u3, s3⟩, f3⟩ := HO2.out.slot hlt 3 (by decide)
      obtain ⟨⟨u4, s4⟩, f4⟩ := HO2.out.slot hlt 4 (by decide)
      obtain ⟨⟨u5, s5⟩, f5⟩ := HO2.out.slot hlt 5 (by decide)
      simp only [Ty.size, Nat.add_zero, Nat.zero_add, Nat.reduceAdd, Nat.mul_one] at s0 f0 s1 f1 s2 f2 s3 f3 s4 f4 s5 f5
      clear hr b2 HO a0 a1 a2 a3 a4 a5
      go_wp2_with fail
      have hp := HO2.out.put [.string name', .int .i64 step', .int .i64 limit', .bool has', .int .i64 next', .int .i64 fin'] x HR.out (by rw [List.length_take]; omega)
      rw [List.length_take, Nat.min_eq_left hk, ← HT.out] at hp
      exact ⟨⟨k + 1, by omega, by go_num, hp, setRow_below [.string name', .int .i64 step', .int .i64 limit', .bool has', .int .i64 next', .int .i64 fin'] _ _ _ _ (k * (tyLoop).size) (Nat.le_refl _) HB2.out⟩, by simp [intOf]; omega⟩
    · obtain rfl : k = ds.length := by omega
      rw [List.take_length] at HO
      go_wp2
      go_ret
      exact ⟨_, rfl, HO.out.rd rfl (Nat.le_refl _), hbel⟩

theorem At.getFrame {w : World} {A : Option Addr} {n c : Nat} {ds : List DV} (h : At w (.sl tyFrame) [.slice A n c] (.sl ds)) {k : Nat} (hk : k < ds.length) : ∃ (ad : Addr) (ret : Int) (value : Bool) (test : Bool) (stack : Int) (refs : Int) (args : Int) (loops : Int) (trap : ByteArray) (routine : ByteArray), A = some ad ∧ ad.block < w.heap.size ∧ At w tyFrame [.int .i64 ret, .bool value, .bool test, .int .i64 stack, .int .i64 refs, .int .i64 args, .int .i64 loops, .string trap, .string routine] ds[k] ∧ w.cell? (ad.add (k * 9)) = some (.int .i64 ret) ∧ w.cell? ⟨(ad.add (k * 9)).block, (ad.add (k * 9)).off + 1, none⟩ = some (.bool value) ∧ w.cell? ⟨(ad.add (k * 9)).block, (ad.add (k * 9)).off + 2, none⟩ = some (.bool test) ∧ w.cell? ⟨(ad.add (k * 9)).block, (ad.add (k * 9)).off + 3, none⟩ = some (.int .i64 stack) ∧ w.cell? ⟨(ad.add (k * 9)).block, (ad.add (k * 9)).off + 4, none⟩ = some (.int .i64 refs) ∧ w.cell? ⟨(ad.add (k * 9)).block, (ad.add (k * 9)).off + 5, none⟩ = some (.int .i64 args) ∧ w.cell? ⟨(ad.add (k * 9)).block, (ad.add (k * 9)).off + 6, none⟩ = some (.int .i64 loops) ∧ w.cell? ⟨(ad.add (k * 9)).block, (ad.add (k * 9)).off + 7, none⟩ = some (.string trap) ∧ w.cell? ⟨(ad.add (k * 9)).block, (ad.add (k * 9)).off + 8, none⟩ = some (.string routine) := by
  obtain ⟨ad, ec, hA, _, hb, hc, hr⟩ := Rd.get h hk
  obtain ⟨ret, value, test, stack, refs, args, loops, trap, routine, rfl⟩ := hr.cellsFrame
  refine ⟨ad, _, _, _, _, _, _, _, _, _, hA, hb, hr, hc 0 _ rfl, ?_, ?_, ?_, ?_, ?_, ?_, ?_, ?_⟩
  · rw [show (⟨(ad.add (k * 9)).block, (ad.add (k * 9)).off + 1, none⟩ : Addr) = ad.add (k * 9 + 1) by rw [← add_posD, add_of_add]]; exact hc 1 _ rfl
  · rw [show (⟨(ad.add (k * 9)).block, (ad.add (k * 9)).off + 2, none⟩ : Addr) = ad.add (k * 9 + 2) by rw [← add_posD, add_of_add]]; exact hc 2 _ rfl
  · rw [show (⟨(ad.add (k * 9)).block, (ad.add (k * 9)).off + 3, none⟩ : Addr) = ad.add (k * 9 + 3) by rw [← add_posD, add_of_add]]; exact hc 3 _ rfl
  · rw [show (⟨(ad.add (k * 9)).block, (ad.add (k * 9)).off + 4, none⟩ : Addr) = ad.add (k * 9 + 4) by rw [← add_posD, add_of_add]]; exact hc 4 _ rfl
  · rw [show (⟨(ad.add (k * 9)).block, (ad.add (k * 9)).off + 5, none⟩ : Addr) = ad.add (k * 9 + 5) by rw [← add_posD, add_of_add]]; exact hc 5 _ rfl
  · rw [show (⟨(ad.add (k * 9)).block, (ad.add (k * 9)).off + 6, none⟩ : Addr) = ad.add (k * 9 + 6) by rw [← add_posD, add_of_add]]; exact hc 6 _ rfl
  · rw [show (⟨(ad.add (k * 9)).block, (ad.add (k * 9)).off + 7, none⟩ : Addr) = ad.add (k * 9 + 7) by rw [← add_posD, add_of_add]]; exact hc 7 _ rfl
  · rw [show (⟨(ad.add (k * 9)).block, (ad.add (k * 9)).off + 8, none⟩ : Addr) = ad.add (k * 9 + 8) by rw [← add_posD, add_of_add]]; exact hc 8 _ rfl

set_option maxHeartbeats 1000000 in
set_option maxRecDepth 8000 in
theorem szFrameS_dv (v : Value) (d : DV) (left : Int) (w : World) (h : At w (.sl tyFrame) [v] d) (hf : Fits maxLen d) (h0 : 0 ≤ left) (h1 : left ≤ 1048576) :
    Calls Try.prog 13 #[v, .int .i64 left] w fun e w' => (∃ q : Int, e = .returned (.int .i64 q) ∧ -1 ≤ q ∧ q ≤ left ∧ Hid (0 ≤ q → Fits 1048576 d)) ∧ Below w.heap.size w w' := by
  obtain ⟨A, c, ds, hv, rfl, hc, hr⟩ := Rd.inv_sl h
  simp only [List.cons.injEq, and_true] at hv
  subst hv
  have H : Hid (At w (.sl tyFrame) [.slice A ds.length c] (.sl ds)) := hr; clear h hr
  have hl := hf.len
  unfold maxLen at hl
  have HOK := Lib.hid hf.mem; clear hf
  by_cases hn : left - ds.length < 0
  · go_enter Try.func13, Try.ntmps13
    go_wp2
    go_ret
    exact ⟨⟨_, rfl, by omega, by omega, fun h => by omega⟩, below_refl _⟩
  · go_enter Try.func13, Try.ntmps13
    go_wp2
    go_loopw [1, 5] (fun l i wr => ∃ (k : Nat) (q : Int), k ≤ ds.length ∧ i = .int .i64 k ∧ l = .int .i64 q ∧ 0 ≤ q ∧ q ≤ left ∧ Hid (∀ x ∈ ds.take k, Fits 1048576 x) ∧ Below w.heap.size w wr) (fun _ i _ => ds.length - (intOf i).toNat)
    case atStart => exact ⟨0, _, Nat.zero_le _, rfl, rfl, by omega, by omega, fun x hx => by simp at hx, below_refl _⟩
    case round =>
      obtain ⟨k, q, hk, rfl, rfl, hq0, hq1, HI, hbel⟩ := hrel
      by_cases hlt : k < ds.length
      · have HB := Lib.hid hbel
        obtain ⟨ad, ret, value, test, stack, refs, args, loops, trap, routine, rfl, hbl, hat, a0, a1, a2, a3, a4, a5, a6, a7, a8⟩ := (H.out.on hbel).getFrame hlt
        have HX := Lib.hid (HOK.out _ (List.getElem_mem hlt))
        have HT := Lib.hid (List.take_succ_eq_append_getElem hlt)
        have HAT := Lib.hid hat; clear hat
        generalize ds[k] = x at *
        go_wp2_with fail
        refine (szFrame_dv _ x q _ HAT.out HX.out hq0 (by omega)).mono ?_
        rintro e w2 ⟨⟨q', rfl, q1, q2, HQ⟩, b2⟩
        clear a0 a1 a2 a3 a4 a5 a6 a7 a8
        by_cases q0 : q' < 0
        · go_wp2_with fail
          go_ret
          exact ⟨⟨_, rfl, by omega, by omega, fun h => by omega⟩, below_trans HB.out b2⟩
        · go_wp2_with fail
          refine ⟨⟨k + 1, q', by omega, by go_num, rfl, by omega, by omega, ?_, below_trans HB.out b2⟩, by simp [intOf]; omega⟩
          intro x hx
          rw [HT.out] at hx
          rcases List.mem_append.1 hx with hx | hx
          · exact HI.out x hx
          · rw [List.mem_singleton] at hx; subst hx; exact HQ.out (by omega)
      · obtain rfl : k = ds.length := by omega
        rw [List.take_length] at HI
        go_wp2
        go_ret
        exact ⟨⟨_, rfl, by omega, by omega, fun h => .sl _ (by omega) HI.out⟩, hbel⟩

theorem info_Frame : (Try.prog.info? 77).map (fun i => (i.zero, i.size, i.bytes)) = some (some (.agg #[.int .i64 0, .bool false, .bool false, .int .i64 0, .int .i64 0, .int .i64 0, .int .i64 0, .string ⟨#[]⟩, .string ⟨#[]⟩]), 9, 80) := by kernel_rfl

theorem run_make_Frame (n : Nat) (hn : n ≤ 1048576) (w : World) : (Instr.makeSlice 41 (.int .i64 (n : Int)) (.int .i64 (n : Int))).run Try.prog w = .ok (.slice (some ⟨w.heap.size, 0, none⟩) n n) (w.alloc (.cells (madeCells #[.int .i64 0, .bool false, .bool false, .int .i64 0, .int .i64 0, .int .i64 0, .int .i64 0, .string ⟨#[]⟩, .string ⟨#[]⟩] (n * 9)) 77)) := by
  obtain ⟨i0, hi0, hz0, hz1, hz2⟩ := info_parts info_Frame
  have h := run_make_rowN (P := Try.prog) 41 77 i0 _ Try.underlying41 hi0 hz0 .i64 .i64 n n (Nat.le_refl _) (by rw [hz2]; omega) (by omega) w
  rw [hz1] at h
  exact h

set_option maxHeartbeats 2000000 in
set_option maxRecDepth 8000 in
theorem toFrameS_dv (v : Value) (d : DV) (w : World) (h : At w (.sl tyFrame) [v] d) (hf : Fits 1048576 d) :
    Calls Try.prog 21 #[v] w fun e w' => ∃ v', e = .returned v' ∧ Rd w' w.heap.size w'.heap.size (.sl tyFrame) [v'] d ∧ Below w.heap.size w w' := by
  obtain ⟨A, c, ds, hv, rfl, hc, hr⟩ := Rd.inv_sl h
  simp only [List.cons.injEq, and_true] at hv
  subst hv
  have H : Hid (At w (.sl tyFrame) [.slice A ds.length c] (.sl ds)) := hr; clear h hr
  have hl := hf.len
  have HOK := Lib.hid hf.mem; clear hf
  have hmk := fun W => run_make_Frame ds.length hl W
  have HZ : Hid (Part (w.alloc (.cells (madeCells #[.int .i64 0, .bool false, .bool false, .int .i64 0, .int .i64 0, .int .i64 0, .int .i64 0, .string ⟨#[]⟩, .string ⟨#[]⟩] (ds.length * 9)) 77)) w.heap.size ds.length 77 tyFrame []) := Part.new w _ _ _ _ (by simp [madeCells, Ty.size])
  generalize madeCells #[.int .i64 0, .bool false, .bool false, .int .i64 0, .int .i64 0, .int .i64 0, .int .i64 0, .string ⟨#[]⟩, .string ⟨#[]⟩] (ds.length * 9) = zs at *
  go_enter Try.func21, Try.ntmps21
  go_wp2
  go_loopw [4] (fun i wr => ∃ k : Nat, k ≤ ds.length ∧ i = .int .i64 k ∧ Hid (Part wr w.heap.size ds.length 77 tyFrame (ds.take k)) ∧ Below w.heap.size w wr) (fun i _ => ds.length - (intOf i).toNat)
  case atStart => exact ⟨0, Nat.zero_le _, rfl, HZ.out, Joins.below_alloc1 w _⟩
  case round =>
    obtain ⟨k, hk, rfl, HO, hbel⟩ := hrel
    by_cases hlt : k < ds.length
    · have HB := Lib.hid hbel
      obtain ⟨ad, ret, value, test, stack, refs, args, loops, trap, routine, rfl, hbl, hat, a0, a1, a2, a3, a4, a5, a6, a7, a8⟩ := (H.out.on hbel).getFrame hlt
      have HX := Lib.hid (HOK.out _ (List.getElem_mem hlt))
      have HT := Lib.hid (List.take_succ_eq_append_getElem hlt)
      have HAT := Lib.hid hat; clear hat
      generalize ds[k] = x at *
      go_wp2_with fail
      refine (toFrame_dv _ x _ HAT.out HX.out).mono ?_
      rintro e w2 ⟨cs', rfl, hr, b2⟩
      have hbs := hbel.size
      have HO2 := Lib.hid (Part.on HO.out b2)
      have HB2 := Lib.hid (below_trans HB.out b2)
      have HR := Lib.hid (hr.got (lo := w.heap.size + 1) (by have := Part.lt HO.out; omega))
      obtain ⟨ret', value', test', stack', refs', args', loops', trap', routine', rfl⟩ := hr.cellsFrame
      obtain ⟨⟨u0, s0⟩, f0⟩ := HO2.out.slot hlt 0 (by decide)
      obtain ⟨⟨u1, s1⟩, f1⟩ := HO2.out.slot hlt 1 (by decide)
      obtain ⟨⟨u2, s2⟩, f2⟩ := HO2.out.slot hlt 2 (by decide)
      obtain ⟨⟨u3, s3⟩, f3⟩ := HO2.out.slot hlt 3 (by decide)
      obtain ⟨⟨u4, s4⟩, f4⟩ := HO2.out.slot hlt 4 (by decide)
      obtain ⟨⟨u5, s5⟩, f5⟩ := HO2.out.slot hlt 5 (by decide)
      obtain ⟨⟨u6, s6⟩, f6⟩ := HO2.out.slot hlt 6 (by decide)
      obtain ⟨⟨u7, s7⟩, f7⟩ := HO2.out.slot hlt 7 (by decide)
      obtain ⟨⟨u8, s8⟩, f8⟩ := HO2.out.slot hlt 8 (by decide)
      simp only [Ty.size, Nat.add_zero, Nat.zero_add, Nat.reduceAdd, Nat.mul_one] at s0 f0 s1 f1 s2 f2 s3 f3 s4 f4 s5 f5 s6 f6 s7 f7 s8 f8
      clear hr b2 HO a0 a1 a2 a3 a4 a5 a6 a7 a8
      go_wp2_with fail
      have hp := HO2.out.put [.int .i64 ret', .bool value', .bool test', .int .i64 stack', .int .i64 refs', .int .i64 args', .int .i64 loops', .string trap', .string routine'] x HR.out (by rw [List.length_take]; omega)
      rw [List.length_take, Nat.min_eq_left hk, ← HT.out] at hp
      exact ⟨⟨k + 1, by omega, by go_num, hp, setRow_below [.int .i64 ret', .bool value', .bool test', .int .i64 stack', .int .i64 refs', .int .i64 args', .int .i64 loops', .string trap', .string routine'] _ _ _ _ (k * (tyFrame).size) (Nat.le_refl _) HB2.out⟩, by simp [intOf]; omega⟩
    · obtain rfl : k = ds.length := by omega
      rw [List.take_length] at HO
      go_wp2
      go_ret
      exact ⟨_, rfl, HO.out.rd rfl (Nat.le_refl _), hbel⟩

end Go.Proofs.Ytllamjgloilioaa
