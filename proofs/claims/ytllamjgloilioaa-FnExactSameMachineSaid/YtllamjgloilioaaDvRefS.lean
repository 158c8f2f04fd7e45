/- Slices of structs with a list of strings. (printed by gen_dv.py) -/
import Derived.Test.YtllamjgloilioaaDvRef
import Derived.RegionTactic
import Derived.Deep.RegionWith
import Derived.StillTailTactics
namespace Go.Proofs.Ytllamjgloilioaa
open Go.RowKit Go.ChangeShapes Go.WideShapes Go.ChangeAt Go.Deep
set_option linter.unusedVariables false
set_option linter.unusedSimpArgs false

theorem At.getNode {w : World} {A : Option Addr} {n c : Nat} {ds : List DV} (h : At w (.sl tyNode) [.slice A n c] (.sl ds)) {k : Nat} (hk : k < ds.length) : ∃ (ad : Addr) (name : ByteArray) (Asubs : Option Addr) (csubs : Nat) (subs : List DV) (value : ByteArray), A = some ad ∧ ad.block < w.heap.size ∧ At w tyNode [.string name, .slice Asubs subs.length csubs, .string value] ds[k] ∧ w.cell? (ad.add (k * 3)) = some (.string name) ∧ w.cell? ⟨(ad.add (k * 3)).block, (ad.add (k * 3)).off + 1, none⟩ = some (.slice Asubs subs.length csubs) ∧ w.cell? ⟨(ad.add (k * 3)).block, (ad.add (k * 3)).off + 2, none⟩ = some (.string value) := by
  obtain ⟨ad, ec, hA, _, hb, hc, hr⟩ := Rd.get h hk
  obtain ⟨name, Asubs, csubs, subs, value, rfl⟩ := hr.cellsNode
  refine ⟨ad, _, _, _, _, _, hA, hb, hr, hc 0 _ rfl, ?_, ?_⟩
  · rw [show (⟨(ad.add (k * 3)).block, (ad.add (k * 3)).off + 1, none⟩ : Addr) = ad.add (k * 3 + 1) by rw [← add_posD, add_of_add]]; exact hc 1 _ rfl
  · rw [show (⟨(ad.add (k * 3)).block, (ad.add (k * 3)).off + 2, none⟩ : Addr) = ad.add (k * 3 + 2) by rw [← add_posD, add_of_add]]; exact hc 2 _ rfl

set_option maxHeartbeats 1000000 in
set_option maxRecDepth 8000 in
theorem szNodeS_dv (v : Value) (d : DV) (left : Int) (w : World) (h : At w (.sl tyNode) [v] d) (hf : Fits maxLen d) (h0 : 0 ≤ left) (h1 : left ≤ 1048576) :
    Calls Try.prog 82 #[v, .int .i64 left] w fun e w' => (∃ q : Int, e = .returned (.int .i64 q) ∧ -1 ≤ q ∧ q ≤ left ∧ Hid (0 ≤ q → Fits 1048576 d)) ∧ Below w.heap.size w w' := by
  obtain ⟨A, c, ds, hv, rfl, hc, hr⟩ := Rd.inv_sl h
  simp only [List.cons.injEq, and_true] at hv
  subst hv
  have H : Hid (At w (.sl tyNode) [.slice A ds.length c] (.sl ds)) := hr; clear h hr
  have hl := hf.len
  unfold maxLen at hl
  have HOK := Lib.hid hf.mem; clear hf
  by_cases hn : left - ds.length < 0
  · go_enter Try.func82, Try.ntmps82
    go_wp2
    go_ret
    exact ⟨⟨_, rfl, by omega, by omega, fun h => by omega⟩, below_refl _⟩
  · go_enter Try.func82, Try.ntmps82
    go_wp2
    go_loopw [1, 5] (fun l i wr => ∃ (k : Nat) (q : Int), k ≤ ds.length ∧ i = .int .i64 k ∧ l = .int .i64 q ∧ 0 ≤ q ∧ q ≤ left ∧ Hid (∀ x ∈ ds.take k, Fits 1048576 x) ∧ Below w.heap.size w wr) (fun _ i _ => ds.length - (intOf i).toNat)
    case atStart => exact ⟨0, _, Nat.zero_le _, rfl, rfl, by omega, by omega, fun x hx => by simp at hx, below_refl _⟩
    case round =>
      obtain ⟨k, q, hk, rfl, rfl, hq0, hq1, HI, hbel⟩ := hrel
      by_cases hlt : k < ds.length
      · have HB := Lib.hid hbel
        obtain ⟨ad, name, Asubs, csubs, subs, value, rfl, hbl, hat, a0, a1, a2⟩ := (H.out.on hbel).getNode hlt
        have HX := Lib.hid (HOK.out _ (List.getElem_mem hlt))
        have HT := Lib.hid (List.take_succ_eq_append_getElem hlt)
        have HAT := Lib.hid hat; clear hat
        generalize ds[k] = x at *
        go_wp2_with fail
        refine (szNode_dv _ x q _ HAT.out HX.out hq0 (by omega)).mono ?_
        rintro e w2 ⟨⟨q', rfl, q1, q2, HQ⟩, b2⟩
        clear a0 a1 a2
        by_cases q0 : q' < 0
        · go_wp2_with fail
          go_ret
          exact ⟨⟨_, rfl, by omega, by omega, fun h => by omega⟩, below_trans HB.out b2⟩
        · go_wp2_with fail
          refine ⟨⟨k + 1, q', by omega, by go_num, rfl, by omega, by omega, ?_, below_trans HB.out b2⟩, by simp [intOf]; omega⟩
          intro x hx
          rw [HT.out] at hx
          rcases List.mem_append.1 hx with hx | hx
          · exact HI.out x hx
          · rw [List.mem_singleton] at hx; subst hx; exact HQ.out (by omega)
      · obtain rfl : k = ds.length := by omega
        rw [List.take_length] at HI
        go_wp2
        go_ret
        exact ⟨⟨_, rfl, by omega, by omega, fun h => .sl _ (by omega) HI.out⟩, hbel⟩

theorem info_Node : (Try.prog.info? 131).map (fun i => (i.zero, i.size, i.bytes)) = some (some (.agg #[.string ⟨#[]⟩, .slice none 0 0, .string ⟨#[]⟩]), 3, 56) := by kernel_rfl

theorem run_make_Node (n : Nat) (hn : n ≤ 1048576) (w : World) : (Instr.makeSlice 95 (.int .i64 (n : Int)) (.int .i64 (n : Int))).run Try.prog w = .ok (.slice (some ⟨w.heap.size, 0, none⟩) n n) (w.alloc (.cells (madeCells #[.string ⟨#[]⟩, .slice none 0 0, .string ⟨#[]⟩] (n * 3)) 131)) := by
  obtain ⟨i0, hi0, hz0, hz1, hz2⟩ := info_parts info_Node
  have h := run_make_rowN (P := Try.prog) 95 131 i0 _ Try.underlying95 hi0 hz0 .i64 .i64 n n (Nat.le_refl _) (by rw [hz2]; omega) (by omega) w
  rw [hz1] at h
  exact h

set_option maxHeartbeats 2000000 in
set_option maxRecDepth 8000 in
theorem toNodeS_dv (v : Value) (d : DV) (w : World) (h : At w (.sl tyNode) [v] d) (hf : Fits 1048576 d) :
    Calls Try.prog 84 #[v] w fun e w' => ∃ v', e = .returned v' ∧ Rd w' w.heap.size w'.heap.size (.sl tyNode) [v'] d ∧ Below w.heap.size w w' := by
  obtain ⟨A, c, ds, hv, rfl, hc, hr⟩ := Rd.inv_sl h
  simp only [List.cons.injEq, and_true] at hv
  subst hv
  have H : Hid (At w (.sl tyNode) [.slice A ds.length c] (.sl ds)) := hr; clear h hr
  have hl := hf.len
  have HOK := Lib.hid hf.mem; clear hf
  have hmk := fun W => run_make_Node ds.length hl W
  have HZ : Hid (Part (w.alloc (.cells (madeCells #[.string ⟨#[]⟩, .slice none 0 0, .string ⟨#[]⟩] (ds.length * 3)) 131)) w.heap.size ds.length 131 tyNode []) := Part.new w _ _ _ _ (by simp [madeCells, Ty.size])
  generalize madeCells #[.string ⟨#[]⟩, .slice none 0 0, .string ⟨#[]⟩] (ds.length * 3) = zs at *
  go_enter Try.func84, Try.ntmps84
  go_wp2
  go_loopw [4] (fun i wr => ∃ k : Nat, k ≤ ds.length ∧ i = .int .i64 k ∧ Hid (Part wr w.heap.size ds.length 131 tyNode (ds.take k)) ∧ Below w.heap.size w wr) (fun i _ => ds.length - (intOf i).toNat)
  case atStart => exact ⟨0, Nat.zero_le _, rfl, HZ.out, Joins.below_alloc1 w _⟩
  case round =>
    obtain ⟨k, hk, rfl, HO, hbel⟩ := hrel
    by_cases hlt : k < ds.length
    · have HB := Lib.hid hbel
      obtain ⟨ad, name, Asubs, csubs, subs, value, rfl, hbl, hat, a0, a1, a2⟩ := (H.out.on hbel).getNode hlt
      have HX := Lib.hid (HOK.out _ (List.getElem_mem hlt))
      have HT := Lib.hid (List.take_succ_eq_append_getElem hlt)
      have HAT := Lib.hid hat; clear hat
      generalize ds[k] = x at *
      go_wp2_with fail
      refine (toNode_dv _ x _ HAT.out HX.out).mono ?_
      rintro e w2 ⟨cs', rfl, hr, b2⟩
      have hbs := hbel.size
      have HO2 := Lib.hid (Part.on HO.out b2)
      have HB2 := Lib.hid (below_trans HB.out b2)
      have HR := Lib.hid (hr.got (lo := w.heap.size + 1) (by have := Part.lt HO.out; omega))
      obtain ⟨name', Asubs', csubs', subs', value', rfl⟩ := hr.cellsNode
      obtain ⟨⟨u0, s0⟩, f0⟩ := HO2.out.slot hlt 0 (by decide)
      obtain ⟨⟨u1, s1⟩, f1⟩ := HO2.out.slot hlt 1 (by decide)
      obtain ⟨⟨u2, s2⟩, f2⟩ := HO2.out.slot hlt 2 (by decide)
      simp only [Ty.size, Nat.add_zero, Nat.zero_add, Nat.reduceAdd, Nat.mul_one] at s0 f0 s1 f1 s2 f2
      clear hr b2 HO a0 a1 a2
      go_wp2_with fail
      have hp := HO2.out.put [.string name', .slice Asubs' subs'.length csubs', .string value'] x HR.out (by rw [List.length_take]; omega)
      rw [List.length_take, Nat.min_eq_left hk, ← HT.out] at hp
      exact ⟨⟨k + 1, by omega, by go_num, hp, setRow_below [.string name', .slice Asubs' subs'.length csubs', .string value'] _ _ _ _ (k * (tyNode).size) (Nat.le_refl _) HB2.out⟩, by simp [intOf]; omega⟩
    · obtain rfl : k = ds.length := by omega
      rw [List.take_length] at HO
      go_wp2
      go_ret
      exact ⟨_, rfl, HO.out.rd rfl (Nat.le_refl _), hbel⟩

set_option maxHeartbeats 2000000 in
set_option maxRecDepth 8000 in
theorem eqNodeS_dv (v v2 : Value) (d d2 : DV) (w : World) (h : At w (.sl tyNode) [v] d) (h2 : At w (.sl tyNode) [v2] d2) (hf : Fits 1048576 d) :
    Calls Try.prog 85 #[v, v2] w fun e w' => GotB e d d2 ∧ Below w.heap.size w w' := by
  obtain ⟨A, c, ds, hv, rfl, hc, hr⟩ := Rd.inv_sl h
  simp only [List.cons.injEq, and_true] at hv
  subst hv
  have H : Hid (At w (.sl tyNode) [.slice A ds.length c] (.sl ds)) := hr; clear h hr
  obtain ⟨A2, c2, es, hv, rfl, hc2, hr⟩ := Rd.inv_sl h2
  simp only [List.cons.injEq, and_true] at hv
  subst hv
  have H2 : Hid (At w (.sl tyNode) [.slice A2 es.length c2] (.sl es)) := hr; clear h2 hr
  have hl := hf.len
  have HOK := Lib.hid hf.mem; clear hf
  rcases eqForms (ds.length : Int) (es.length : Int) with ⟨e1, e2, e3⟩ | ⟨e1, e2, e3⟩
  · have hlen : ds.length = es.length := by have := e3.out; omega
    have e4 : (ds.length == es.length) = true := by simp [hlen]
    have e5 : (ds.length != es.length) = false := by simp [hlen]
    have HL := Lib.hid hlen; clear hlen
    go_enter Try.func85, Try.ntmps85
    go_wp2
    go_loopw [5] (fun i wr => ∃ k : Nat, k ≤ ds.length ∧ i = .int .i64 k ∧ Hid (DV.sl ds = .sl es ↔ DV.sl (ds.drop k) = .sl (es.drop k)) ∧ Below w.heap.size w wr) (fun i _ => ds.length - (intOf i).toNat)
    case atStart => exact ⟨0, Nat.zero_le _, rfl, by show _ ↔ _; rw [List.drop_zero, List.drop_zero], below_refl _⟩
    case round =>
      obtain ⟨k, hk, rfl, HI, hbel⟩ := hrel
      by_cases hlt : k < ds.length
      · have hlt2 : k < es.length := by rw [← HL.out]; exact hlt
        have HB : Hid (Below w.heap.size w wr.drew) := hbel.drew
        obtain ⟨ad, name, Asubs, csubs, subs, value, rfl, hbl, hat, a0, a1, a2⟩ := (H.out.on hbel).getNode hlt
        obtain ⟨ad2, name2, Asubs2, csubs2, subs2, value2, rfl, hbl2, hat2, b0, b1, b2⟩ := (H2.out.on hbel).getNode hlt2
        have HX := Lib.hid (HOK.out _ (List.getElem_mem hlt))
        have HD := Lib.hid (List.drop_eq_getElem_cons hlt)
        have HD2 := Lib.hid (List.drop_eq_getElem_cons hlt2)
        have HA3 : Hid (At wr.drew tyNode [.string name, .slice Asubs subs.length csubs, .string value] ds[k]) := hat.on ((below_refl wr).drew); clear hat
        have HA4 : Hid (At wr.drew tyNode [.string name2, .slice Asubs2 subs2.length csubs2, .string value2] es[k]) := hat2.on ((below_refl wr).drew); clear hat2
        generalize ds[k] = x at *
        generalize es[k] = y at *
        have i0 : (0 : Int) ≤ k := by omega
        have i1 : (k : Int) < ds.length := by omega
        have i2 : (k : Int) < es.length := by omega
        go_wp2_with fail
        have a0' : World.cell? { heap := wr.heap, tape := wr.tape, drawn := wr.drawn + 1, os := wr.os, output := wr.output } (ad.add (k * 3)) = some (.string name) := a0
        have b0' : World.cell? { heap := wr.heap, tape := wr.tape, drawn := wr.drawn + 1, os := wr.os, output := wr.output } (ad2.add (k * 3)) = some (.string name2) := b0
        have a1' : World.cell? { heap := wr.heap, tape := wr.tape, drawn := wr.drawn + 1, os := wr.os, output := wr.output } ⟨(ad.add (k * 3)).block, (ad.add (k * 3)).off + 1, none⟩ = some (.slice Asubs subs.length csubs) := a1
        have b1' : World.cell? { heap := wr.heap, tape := wr.tape, drawn := wr.drawn + 1, os := wr.os, output := wr.output } ⟨(ad2.add (k * 3)).block, (ad2.add (k * 3)).off + 1, none⟩ = some (.slice Asubs2 subs2.length csubs2) := b1
        have a2' : World.cell? { heap := wr.heap, tape := wr.tape, drawn := wr.drawn + 1, os := wr.os, output := wr.output } ⟨(ad.add (k * 3)).block, (ad.add (k * 3)).off + 2, none⟩ = some (.string value) := a2
        have b2' : World.cell? { heap := wr.heap, tape := wr.tape, drawn := wr.drawn + 1, os := wr.os, output := wr.output } ⟨(ad2.add (k * 3)).block, (ad2.add (k * 3)).off + 2, none⟩ = some (.string value2) := b2
        go_still_tail 8, (by kernel_rfl)
        change wpList _ _ _ _ _ wr.drew
        generalize wr.drew = w5 at *
        clear a0 b0 a0' b0' a1 b1 a1' b1' a2 b2 a2' b2'
        go_wp2_with fail
        refine (eqNode_dv _ _ x y _ HA3.out HA4.out HX.out).mono ?_
        rintro e w6 ⟨⟨r, rfl, HE⟩, b6⟩
        have HB6 := Lib.hid (below_trans HB.out b6)
        have HEE := Lib.hid HE; clear HE b6
        cases r
        · go_wp2_with fail
          go_ret
          refine ⟨⟨false, rfl, ?_⟩, HB6.out⟩
          show _ ↔ _
          rw [HI.out, HD.out, HD2.out, sl_cons]
          exact ⟨fun h => (by cases h), fun h => HEE.out.2 h.1⟩
        · go_wp2_with fail
          refine ⟨⟨k + 1, by omega, by go_num, ?_, HB6.out⟩, by simp [intOf]; omega⟩
          show _ ↔ _
          rw [HI.out, HD.out, HD2.out, sl_cons]
          exact ⟨fun h => h.2, fun h => ⟨HEE.out.1 rfl, h⟩⟩
      · go_wp2
        go_ret
        refine ⟨⟨true, rfl, ?_⟩, hbel⟩
        have := HL.out
        show _ ↔ _
        rw [HI.out, List.drop_eq_nil_of_le (by omega), List.drop_eq_nil_of_le (by omega)]; simp
  · have e4 : (ds.length == es.length) = false := by have := e3.out; simp; omega
    have e5 : (ds.length != es.length) = true := by have := e3.out; simp; omega
    go_enter Try.func85, Try.ntmps85
    go_wp2
    go_ret
    refine ⟨⟨false, rfl, ?_⟩, below_refl _⟩
    show _ ↔ _
    exact ⟨fun h => (by cases h), fun h => absurd (sl_len h) (by have := e3.out; omega)⟩

theorem At.getRef {w : World} {A : Option Addr} {n c : Nat} {ds : List DV} (h : At w (.sl tyRef) [.slice A n c] (.sl ds)) {k : Nat} (hk : k < ds.length) : ∃ (ad : Addr) (glob : Bool) (name : ByteArray) (Asubs : Option Addr) (csubs : Nat) (subs : List DV), A = some ad ∧ ad.block < w.heap.size ∧ At w tyRef [.bool glob, .string name, .slice Asubs subs.length csubs] ds[k] ∧ w.cell? (ad.add (k * 3)) = some (.bool glob) ∧ w.cell? ⟨(ad.add (k * 3)).block, (ad.add (k * 3)).off + 1, none⟩ = some (.string name) ∧ w.cell? ⟨(ad.add (k * 3)).block, (ad.add (k * 3)).off + 2, none⟩ = some (.slice Asubs subs.length csubs) := by
  obtain ⟨ad, ec, hA, _, hb, hc, hr⟩ := Rd.get h hk
  obtain ⟨glob, name, Asubs, csubs, subs, rfl⟩ := hr.cellsRef
  refine ⟨ad, _, _, _, _, _, hA, hb, hr, hc 0 _ rfl, ?_, ?_⟩
  · rw [show (⟨(ad.add (k * 3)).block, (ad.add (k * 3)).off + 1, none⟩ : Addr) = ad.add (k * 3 + 1) by rw [← add_posD, add_of_add]]; exact hc 1 _ rfl
  · rw [show (⟨(ad.add (k * 3)).block, (ad.add (k * 3)).off + 2, none⟩ : Addr) = ad.add (k * 3 + 2) by rw [← add_posD, add_of_add]]; exact hc 2 _ rfl

set_option maxHeartbeats 1000000 in
set_option maxRecDepth 8000 in
theorem szRefS_dv (v : Value) (d : DV) (left : Int) (w : World) (h : At w (.sl tyRef) [v] d) (hf : Fits maxLen d) (h0 : 0 ≤ left) (h1 : left ≤ 1048576) :
    Calls Try.prog 10 #[v, .int .i64 left] w fun e w' => (∃ q : Int, e = .returned (.int .i64 q) ∧ -1 ≤ q ∧ q ≤ left ∧ Hid (0 ≤ q → Fits 1048576 d)) ∧ Below w.heap.size w w' := by
  obtain ⟨A, c, ds, hv, rfl, hc, hr⟩ := Rd.inv_sl h
  simp only [List.cons.injEq, and_true] at hv
  subst hv
  have H : Hid (At w (.sl tyRef) [.slice A ds.length c] (.sl ds)) := hr; clear h hr
  have hl := hf.len
  unfold maxLen at hl
  have HOK := Lib.hid hf.mem; clear hf
  by_cases hn : left - ds.length < 0
  · go_enter Try.func10, Try.ntmps10
    go_wp2
    go_ret
    exact ⟨⟨_, rfl, by omega, by omega, fun h => by omega⟩, below_refl _⟩
  · go_enter Try.func10, Try.ntmps10
    go_wp2
    go_loopw [1, 5] (fun l i wr => ∃ (k : Nat) (q : Int), k ≤ ds.length ∧ i = .int .i64 k ∧ l = .int .i64 q ∧ 0 ≤ q ∧ q ≤ left ∧ Hid (∀ x ∈ ds.take k, Fits 1048576 x) ∧ Below w.heap.size w wr) (fun _ i _ => ds.length - (intOf i).toNat)
    case atStart => exact ⟨0, _, Nat.zero_le _, rfl, rfl, by omega, by omega, fun x hx => by simp at hx, below_refl _⟩
    case round =>
      obtain ⟨k, q, hk, rfl, rfl, hq0, hq1, HI, hbel⟩ := hrel
      by_cases hlt : k < ds.length
      · have HB := Lib.hid hbel
        obtain ⟨ad, glob, name, Asubs, csubs, subs, rfl, hbl, hat, a0, a1, a2⟩ := (H.out.on hbel).getRef hlt
        have HX := Lib.hid (HOK.out _ (List.getElem_mem hlt))
        have HT := Lib.hid (List.take_succ_eq_append_getElem hlt)
        have HAT := Lib.hid hat; clear hat
        generalize ds[k] = x at *
        go_wp2_with fail
        refine (szRef_dv _ x q _ HAT.out HX.out hq0 (by omega)).mono ?_
        rintro e w2 ⟨⟨q', rfl, q1, q2, HQ⟩, b2⟩
        clear a0 a1 a2
        by_cases q0 : q' < 0
        · go_wp2_with fail
          go_ret
          exact ⟨⟨_, rfl, by omega, by omega, fun h => by omega⟩, below_trans HB.out b2⟩
        · go_wp2_with fail
          refine ⟨⟨k + 1, q', by omega, by go_num, rfl, by omega, by omega, ?_, below_trans HB.out b2⟩, by simp [intOf]; omega⟩
          intro x hx
          rw [HT.out] at hx
          rcases List.mem_append.1 hx with hx | hx
          · exact HI.out x hx
          · rw [List.mem_singleton] at hx; subst hx; exact HQ.out (by omega)
      · obtain rfl : k = ds.length := by omega
        rw [List.take_length] at HI
        go_wp2
        go_ret
        exact ⟨⟨_, rfl, by omega, by omega, fun h => .sl _ (by omega) HI.out⟩, hbel⟩

theorem info_Ref : (Try.prog.info? 47).map (fun i => (i.zero, i.size, i.bytes)) = some (some (.agg #[.bool false, .string ⟨#[]⟩, .slice none 0 0]), 3, 48) := by kernel_rfl

theorem run_make_Ref (n : Nat) (hn : n ≤ 1048576) (w : World) : (Instr.makeSlice 38 (.int .i64 (n : Int)) (.int .i64 (n : Int))).run Try.prog w = .ok (.slice (some ⟨w.heap.size, 0, none⟩) n n) (w.alloc (.cells (madeCells #[.bool false, .string ⟨#[]⟩, .slice none 0 0] (n * 3)) 47)) := by
  obtain ⟨i0, hi0, hz0, hz1, hz2⟩ := info_parts info_Ref
  have h := run_make_rowN (P := Try.prog) 38 47 i0 _ Try.underlying38 hi0 hz0 .i64 .i64 n n (Nat.le_refl _) (by rw [hz2]; omega) (by omega) w
  rw [hz1] at h
  exact h

set_option maxHeartbeats 2000000 in
set_option maxRecDepth 8000 in
theorem toRefS_dv (v : Value) (d : DV) (w : World) (h : At w (.sl tyRef) [v] d) (hf : Fits 1048576 d) :
    Calls Try.prog 18 #[v] w fun e w' => ∃ v', e = .returned v' ∧ Rd w' w.heap.size w'.heap.size (.sl tyRef) [v'] d ∧ Below w.heap.size w w' := by
  obtain ⟨A, c, ds, hv, rfl, hc, hr⟩ := Rd.inv_sl h
  simp only [List.cons.injEq, and_true] at hv
  subst hv
  have H : Hid (At w (.sl tyRef) [.slice A ds.length c] (.sl ds)) := hr; clear h hr
  have hl := hf.len
  have HOK := Lib.hid hf.mem; clear hf
  have hmk := fun W => run_make_Ref ds.length hl W
  have HZ : Hid (Part (w.alloc (.cells (madeCells #[.bool false, .string ⟨#[]⟩, .slice none 0 0] (ds.length * 3)) 47)) w.heap.size ds.length 47 tyRef []) := Part.new w _ _ _ _ (by simp [madeCells, Ty.size])
  generalize madeCells #[.bool false, .string ⟨#[]⟩, .slice none 0 0] (ds.length * 3) = zs at *
  go_enter Try.func18, Try.ntmps18
  go_wp2
  go_loopw [4] (fun i wr => ∃ k : Nat, k ≤ ds.length ∧ i = .int .i64 k ∧ Hid (Part wr w.heap.size ds.length 47 tyRef (ds.take k)) ∧ Below w.heap.size w wr) (fun i _ => ds.length - (intOf i).toNat)
  case atStart => exact ⟨0, Nat.zero_le _, rfl, HZ.out, Joins.below_alloc1 w _⟩
  case round =>
    obtain ⟨k, hk, rfl, HO, hbel⟩ := hrel
    by_cases hlt : k < ds.length
    · have HB := Lib.hid hbel
      obtain ⟨ad, glob, name, Asubs, csubs, subs, rfl, hbl, hat, a0, a1, a2⟩ := (H.out.on hbel).getRef hlt
      have HX := Lib.hid (HOK.out _ (List.getElem_mem hlt))
      have HT := Lib.hid (List.take_succ_eq_append_getElem hlt)
      have HAT := Lib.hid hat; clear hat
      generalize ds[k] = x at *
      go_wp2_with fail
      refine (toRef_dv _ x _ HAT.out HX.out).mono ?_
      rintro e w2 ⟨cs', rfl, hr, b2⟩
      have hbs := hbel.size
      have HO2 := Lib.hid (Part.on HO.out b2)
      have HB2 := Lib.hid (below_trans HB.out b2)
      have HR := Lib.hid (hr.got (lo := w.heap.size + 1) (by have := Part.lt HO.out; omega))
      obtain ⟨glob', name', Asubs', csubs', subs', rfl⟩ := hr.cellsRef
      obtain ⟨⟨u0, s0⟩, f0⟩ := HO2.out.slot hlt 0 (by decide)
      obtain ⟨⟨u1, s1⟩, f1⟩ := HO2.out.slot hlt 1 (by decide)
      obtain ⟨⟨u2, s2⟩, f2⟩ := HO2.out.slot hlt 2 (by decide)
      simp only [Ty.size, Nat.add_zero, Nat.zero_add, Nat.reduceAdd, Nat.mul_one] at s0 f0 s1 f1 s2 f2
      clear hr b2 HO a0 a1 a2
      go_wp2_with fail
      have hp := HO2.out.put [.bool glob', .string name', .slice Asubs' subs'.length csubs'] x HR.out (by rw [List.length_take]; omega)
      rw [List.length_take, Nat.min_eq_left hk, ← HT.out] at hp
      exact ⟨⟨k + 1, by omega, by go_num, hp, setRow_below [.bool glob', .string name', .slice Asubs' subs'.length csubs'] _ _ _ _ (k * (tyRef).size) (Nat.le_refl _) HB2.out⟩, by simp [intOf]; omega⟩
    · obtain rfl : k = ds.length := by omega
      rw [List.take_length] at HO
      go_wp2
      go_ret
      exact ⟨_, rfl, HO.out.rd rfl (Nat.le_refl _), hbel⟩

set_option maxHeartbeats 2000000 in
set_option maxRecDepth 8000 in
theorem eqRefS_dv (v v2 : Value) (d d2 : DV) (w : World) (h : At w (.sl tyRef) [v] d) (h2 : At w (.sl tyRef) [v2] d2) (hf : Fits 1048576 d) :
    Calls Try.prog 32 #[v, v2] w fun e w' => GotB e d d2 ∧ Below w.heap.size w w' := by
  obtain ⟨A, c, ds, hv, rfl, hc, hr⟩ := Rd.inv_sl h
  simp only [List.cons.injEq, and_true] at hv
  subst hv
  have H : Hid (At w (.sl tyRef) [.slice A ds.length c] (.sl ds)) := hr; clear h hr
  obtain ⟨A2, c2, es, hv, rfl, hc2, hr⟩ := Rd.inv_sl h2
  simp only [List.cons.injEq, and_true] at hv
  subst hv
  have H2 : Hid (At w (.sl tyRef) [.slice A2 es.length c2] (.sl es)) := hr; clear h2 hr
  have hl := hf.len
  have HOK := Lib.hid hf.mem; clear hf
  rcases eqForms (ds.length : Int) (es.length : Int) with ⟨e1, e2, e3⟩ | ⟨e1, e2, e3⟩
  · have hlen : ds.length = es.length := by have := e3.out; omega
    have e4 : (ds.length == es.length) = true := by simp [hlen]
    have e5 : (ds.length != es.length) = false := by simp [hlen]
    have HL := Lib.hid hlen; clear hlen
    go_enter Try.func32, Try.ntmps32
    go_wp2
    go_loopw [5] (fun i wr => ∃ k : Nat, k ≤ ds.length ∧ i = .int .i64 k ∧ Hid (DV.sl ds = .sl es ↔ DV.sl (ds.drop k) = .sl (es.drop k)) ∧ Below w.heap.size w wr) (fun i _ => ds.length - (intOf i).toNat)
    case atStart => exact ⟨0, Nat.zero_le _, rfl, by show _ ↔ _; rw [List.drop_zero, List.drop_zero], below_refl _⟩
    case round =>
      obtain ⟨k, hk, rfl, HI, hbel⟩ := hrel
      by_cases hlt : k < ds.length
      · have hlt2 : k < es.length := by rw [← HL.out]; exact hlt
        have HB : Hid (Below w.heap.size w wr.drew) := hbel.drew
        obtain ⟨ad, glob, name, Asubs, csubs, subs, rfl, hbl, hat, a0, a1, a2⟩ := (H.out.on hbel).getRef hlt
        obtain ⟨ad2, glob2, name2, Asubs2, csubs2, subs2, rfl, hbl2, hat2, b0, b1, b2⟩ := (H2.out.on hbel).getRef hlt2
        have HX := Lib.hid (HOK.out _ (List.getElem_mem hlt))
        have HD := Lib.hid (List.drop_eq_getElem_cons hlt)
        have HD2 := Lib.hid (List.drop_eq_getElem_cons hlt2)
        have HA3 : Hid (At wr.drew tyRef [.bool glob, .string name, .slice Asubs subs.length csubs] ds[k]) := hat.on ((below_refl wr).drew); clear hat
        have HA4 : Hid (At wr.drew tyRef [.bool glob2, .string name2, .slice Asubs2 subs2.length csubs2] es[k]) := hat2.on ((below_refl wr).drew); clear hat2
        generalize ds[k] = x at *
        generalize es[k] = y at *
        have i0 : (0 : Int) ≤ k := by omega
        have i1 : (k : Int) < ds.length := by omega
        have i2 : (k : Int) < es.length := by omega
        go_wp2_with fail
        have a0' : World.cell? { heap := wr.heap, tape := wr.tape, drawn := wr.drawn + 1, os := wr.os, output := wr.output } (ad.add (k * 3)) = some (.bool glob) := a0
        have b0' : World.cell? { heap := wr.heap, tape := wr.tape, drawn := wr.drawn + 1, os := wr.os, output := wr.output } (ad2.add (k * 3)) = some (.bool glob2) := b0
        have a1' : World.cell? { heap := wr.heap, tape := wr.tape, drawn := wr.drawn + 1, os := wr.os, output := wr.output } ⟨(ad.add (k * 3)).block, (ad.add (k * 3)).off + 1, none⟩ = some (.string name) := a1
        have b1' : World.cell? { heap := wr.heap, tape := wr.tape, drawn := wr.drawn + 1, os := wr.os, output := wr.output } ⟨(ad2.add (k * 3)).block, (ad2.add (k * 3)).off + 1, none⟩ = some (.string name2) := b1
        have a2' : World.cell? { heap := wr.heap, tape := wr.tape, drawn := wr.drawn + 1, os := wr.os, output := wr.output } ⟨(ad.add (k * 3)).block, (ad.add (k * 3)).off + 2, none⟩ = some (.slice Asubs subs.length csubs) := a2
        have b2' : World.cell? { heap := wr.heap, tape := wr.tape, drawn := wr.drawn + 1, os := wr.os, output := wr.output } ⟨(ad2.add (k * 3)).block, (ad2.add (k * 3)).off + 2, none⟩ = some (.slice Asubs2 subs2.length csubs2) := b2
        go_still_tail 8, (by kernel_rfl)
        change wpList _ _ _ _ _ wr.drew
        generalize wr.drew = w5 at *
        clear a0 b0 a0' b0' a1 b1 a1' b1' a2 b2 a2' b2'
        go_wp2_with fail
        refine (eqRef_dv _ _ x y _ HA3.out HA4.out HX.out).mono ?_
        rintro e w6 ⟨⟨r, rfl, HE⟩, b6⟩
        have HB6 := Lib.hid (below_trans HB.out b6)
        have HEE := Lib.hid HE; clear HE b6
        cases r
        · go_wp2_with fail
          go_ret
          refine ⟨⟨false, rfl, ?_⟩, HB6.out⟩
          show _ ↔ _
          rw [HI.out, HD.out, HD2.out, sl_cons]
          exact ⟨fun h => (by cases h), fun h => HEE.out.2 h.1⟩
        · go_wp2_with fail
          refine ⟨⟨k + 1, by omega, by go_num, ?_, HB6.out⟩, by simp [intOf]; omega⟩
          show _ ↔ _
          rw [HI.out, HD.out, HD2.out, sl_cons]
          exact ⟨fun h => h.2, fun h => ⟨HEE.out.1 rfl, h⟩⟩
      · go_wp2
        go_ret
        refine ⟨⟨true, rfl, ?_⟩, hbel⟩
        have := HL.out
        show _ ↔ _
        rw [HI.out, List.drop_eq_nil_of_le (by omega), List.drop_eq_nil_of_le (by omega)]; simp
  · have e4 : (ds.length == es.length) = false := by have := e3.out; simp; omega
    have e5 : (ds.length != es.length) = true := by have := e3.out; simp; omega
    go_enter Try.func32, Try.ntmps32
    go_wp2
    go_ret
    refine ⟨⟨false, rfl, ?_⟩, below_refl _⟩
    show _ ↔ _
    exact ⟨fun h => (by cases h), fun h => absurd (sl_len h) (by have := e3.out; omega)⟩

set_option maxHeartbeats 2000000 in
set_option maxRecDepth 8000 in
theorem EqualNode_dv (v v2 : Value) (d d2 : DV) (w : World) (h : At w (.sl tyNode) [v] d) (h2 : At w (.sl tyNode) [v2] d2) (hf : Fits 1048576 d) :
    Calls Try.prog 73 #[v, v2, .func (.func 74) #[] #[]] w fun e w' => GotB e d d2 ∧ Below w.heap.size w w' := by
  obtain ⟨A, c, ds, hv, rfl, hc, hr⟩ := Rd.inv_sl h
  simp only [List.cons.injEq, and_true] at hv
  subst hv
  have H : Hid (At w (.sl tyNode) [.slice A ds.length c] (.sl ds)) := hr; clear h hr
  obtain ⟨A2, c2, es, hv, rfl, hc2, hr⟩ := Rd.inv_sl h2
  simp only [List.cons.injEq, and_true] at hv
  subst hv
  have H2 : Hid (At w (.sl tyNode) [.slice A2 es.length c2] (.sl es)) := hr; clear h2 hr
  have hl := hf.len
  have HOK := Lib.hid hf.mem; clear hf
  rcases eqForms (ds.length : Int) (es.length : Int) with ⟨e1, e2, e3⟩ | ⟨e1, e2, e3⟩
  · have hlen : ds.length = es.length := by have := e3.out; omega
    have e4 : (ds.length == es.length) = true := by simp [hlen]
    have e5 : (ds.length != es.length) = false := by simp [hlen]
    have HL := Lib.hid hlen; clear hlen
    go_enter Try.func73, Try.ntmps73
    go_wp2
    go_loopw [17] (fun i wr => ∃ k : Nat, k ≤ ds.length ∧ i = .int .i64 k ∧ Hid (DV.sl ds = .sl es ↔ DV.sl (ds.drop k) = .sl (es.drop k)) ∧ Below w.heap.size w wr) (fun i _ => ds.length - (intOf i).toNat)
    case atStart => exact ⟨0, Nat.zero_le _, rfl, by show _ ↔ _; rw [List.drop_zero, List.drop_zero], below_refl _⟩
    case round =>
      obtain ⟨k, hk, rfl, HI, hbel⟩ := hrel
      by_cases hlt : k < ds.length
      · have hlt2 : k < es.length := by rw [← HL.out]; exact hlt
        obtain ⟨ad, name, Asubs, csubs, subs, value, rfl, hbl, hat, a0, a1, a2⟩ := (H.out.on hbel).getNode hlt
        have hb1a := Joins.below_alloc1 wr (.cells #[.string name, .slice Asubs subs.length csubs, .string value] 131)
        have hb1 := below_trans hbel hb1a
        obtain ⟨ad2, name2, Asubs2, csubs2, subs2, value2, rfl, hbl2, hat2, b0, b1, b2⟩ := (H2.out.on hb1).getNode hlt2
        have hb2a := Joins.below_alloc1 (wr.alloc (.cells #[.string name, .slice Asubs subs.length csubs, .string value] 131)) (.cells #[.string name2, .slice Asubs2 subs2.length csubs2, .string value2] 131)
        have HX := Lib.hid (HOK.out _ (List.getElem_mem hlt))
        have HD := Lib.hid (List.drop_eq_getElem_cons hlt)
        have HD2 := Lib.hid (List.drop_eq_getElem_cons hlt2)
        have HA3 := Lib.hid ((hat.on hb1a).on hb2a)
        have HA4 := Lib.hid (hat2.on hb2a)
        have HB := Lib.hid (below_trans hb1 hb2a)
        clear hat hat2 hb1 hb1a hb2a
        generalize ds[k] = x at *
        generalize es[k] = y at *
        have i0 : (0 : Int) ≤ k := by omega
        have i1 : (k : Int) < ds.length := by omega
        have i2 : (k : Int) < es.length := by omega
        go_wp2_with fail
        refine (sameNode_dv _ _ x y _ HA3.out HA4.out HX.out).mono ?_
        rintro e w6 ⟨⟨r, rfl, HE⟩, b6⟩
        have HB6 := Lib.hid (below_trans HB.out b6)
        have HEE := Lib.hid HE; clear HE b6
        cases r
        · go_wp2_with fail
          go_ret
          refine ⟨⟨false, rfl, ?_⟩, HB6.out⟩
          show _ ↔ _
          rw [HI.out, HD.out, HD2.out, sl_cons]
          exact ⟨fun h => (by cases h), fun h => HEE.out.2 h.1⟩
        · go_wp2_with fail
          refine ⟨⟨k + 1, by omega, by go_num, ?_, HB6.out⟩, by simp [intOf]; omega⟩
          show _ ↔ _
          rw [HI.out, HD.out, HD2.out, sl_cons]
          exact ⟨fun h => h.2, fun h => ⟨HEE.out.1 rfl, h⟩⟩
      · go_wp2
        go_ret
        refine ⟨⟨true, rfl, ?_⟩, hbel⟩
        have := HL.out
        show _ ↔ _
        rw [HI.out, List.drop_eq_nil_of_le (by omega), List.drop_eq_nil_of_le (by omega)]; simp
  · have e4 : (ds.length == es.length) = false := by have := e3.out; simp; omega
    have e5 : (ds.length != es.length) = true := by have := e3.out; simp; omega
    go_enter Try.func73, Try.ntmps73
    go_wp2
    go_ret
    refine ⟨⟨false, rfl, ?_⟩, below_refl _⟩
    show _ ↔ _
    exact ⟨fun h => (by cases h), fun h => absurd (sl_len h) (by have := e3.out; omega)⟩

set_option maxHeartbeats 2000000 in
set_option maxRecDepth 8000 in
theorem EqualRef_dv (v v2 : Value) (d d2 : DV) (w : World) (h : At w (.sl tyRef) [v] d) (h2 : At w (.sl tyRef) [v2] d2) (hf : Fits 1048576 d) :
    Calls Try.prog 25 #[v, v2, .func (.func 26) #[] #[]] w fun e w' => GotB e d d2 ∧ Below w.heap.size w w' := by
  obtain ⟨A, c, ds, hv, rfl, hc, hr⟩ := Rd.inv_sl h
  simp only [List.cons.injEq, and_true] at hv
  subst hv
  have H : Hid (At w (.sl tyRef) [.slice A ds.length c] (.sl ds)) := hr; clear h hr
  obtain ⟨A2, c2, es, hv, rfl, hc2, hr⟩ := Rd.inv_sl h2
  simp only [List.cons.injEq, and_true] at hv
  subst hv
  have H2 : Hid (At w (.sl tyRef) [.slice A2 es.length c2] (.sl es)) := hr; clear h2 hr
  have hl := hf.len
  have HOK := Lib.hid hf.mem; clear hf
  rcases eqForms (ds.length : Int) (es.length : Int) with ⟨e1, e2, e3⟩ | ⟨e1, e2, e3⟩
  · have hlen : ds.length = es.length := by have := e3.out; omega
    have e4 : (ds.length == es.length) = true := by simp [hlen]
    have e5 : (ds.length != es.length) = false := by simp [hlen]
    have HL := Lib.hid hlen; clear hlen
    go_enter Try.func25, Try.ntmps25
    go_wp2
    go_loopw [17] (fun i wr => ∃ k : Nat, k ≤ ds.length ∧ i = .int .i64 k ∧ Hid (DV.sl ds = .sl es ↔ DV.sl (ds.drop k) = .sl (es.drop k)) ∧ Below w.heap.size w wr) (fun i _ => ds.length - (intOf i).toNat)
    case atStart => exact ⟨0, Nat.zero_le _, rfl, by show _ ↔ _; rw [List.drop_zero, List.drop_zero], below_refl _⟩
    case round =>
      obtain ⟨k, hk, rfl, HI, hbel⟩ := hrel
      by_cases hlt : k < ds.length
      · have hlt2 : k < es.length := by rw [← HL.out]; exact hlt
        obtain ⟨ad, glob, name, Asubs, csubs, subs, rfl, hbl, hat, a0, a1, a2⟩ := (H.out.on hbel).getRef hlt
        have hb1a := Joins.below_alloc1 wr (.cells #[.bool glob, .string name, .slice Asubs subs.length csubs] 47)
        have hb1 := below_trans hbel hb1a
        obtain ⟨ad2, glob2, name2, Asubs2, csubs2, subs2, rfl, hbl2, hat2, b0, b1, b2⟩ := (H2.out.on hb1).getRef hlt2
        have hb2a := Joins.below_alloc1 (wr.alloc (.cells #[.bool glob, .string name, .slice Asubs subs.length csubs] 47)) (.cells #[.bool glob2, .string name2, .slice Asubs2 subs2.length csubs2] 47)
        have HX := Lib.hid (HOK.out _ (List.getElem_mem hlt))
        have HD := Lib.hid (List.drop_eq_getElem_cons hlt)
        have HD2 := Lib.hid (List.drop_eq_getElem_cons hlt2)
        have HA3 := Lib.hid ((hat.on hb1a).on hb2a)
        have HA4 := Lib.hid (hat2.on hb2a)
        have HB := Lib.hid (below_trans hb1 hb2a)
        clear hat hat2 hb1 hb1a hb2a
        generalize ds[k] = x at *
        generalize es[k] = y at *
        have i0 : (0 : Int) ≤ k := by omega
        have i1 : (k : Int) < ds.length := by omega
        have i2 : (k : Int) < es.length := by omega
        go_wp2_with fail
        refine (sameRef_dv _ _ x y _ HA3.out HA4.out HX.out).mono ?_
        rintro e w6 ⟨⟨r, rfl, HE⟩, b6⟩
        have HB6 := Lib.hid (below_trans HB.out b6)
        have HEE := Lib.hid HE; clear HE b6
        cases r
        · go_wp2_with fail
          go_ret
          refine ⟨⟨false, rfl, ?_⟩, HB6.out⟩
          show _ ↔ _
          rw [HI.out, HD.out, HD2.out, sl_cons]
          exact ⟨fun h => (by cases h), fun h => HEE.out.2 h.1⟩
        · go_wp2_with fail
          refine ⟨⟨k + 1, by omega, by go_num, ?_, HB6.out⟩, by simp [intOf]; omega⟩
          show _ ↔ _
          rw [HI.out, HD.out, HD2.out, sl_cons]
          exact ⟨fun h => h.2, fun h => ⟨HEE.out.1 rfl, h⟩⟩
      · go_wp2
        go_ret
        refine ⟨⟨true, rfl, ?_⟩, hbel⟩
        have := HL.out
        show _ ↔ _
        rw [HI.out, List.drop_eq_nil_of_le (by omega), List.drop_eq_nil_of_le (by omega)]; simp
  · have e4 : (ds.length == es.length) = false := by have := e3.out; simp; omega
    have e5 : (ds.length != es.length) = true := by have := e3.out; simp; omega
    go_enter Try.func25, Try.ntmps25
    go_wp2
    go_ret
    refine ⟨⟨false, rfl, ?_⟩, below_refl _⟩
    show _ ↔ _
    exact ⟨fun h => (by cases h), fun h => absurd (sl_len h) (by have := e3.out; omega)⟩

end Go.Proofs.Ytllamjgloilioaa
