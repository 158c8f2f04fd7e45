/- strings.Builder beside a block of another type: what WriteString leaves alone. -/
import Derived.Test.YtcjlokojppicnaaDoorBuilder
namespace Go.Proofs.YtcjlokojppicnaaDoor
open Go.RowKit
set_option linter.unusedVariables false

theorem Bld.lt {w : World} {B b : Nat} {l : List UInt8} (h : Bld w B b l) : b < w.heap.size := by
  rcases h with h | h <;> exact h.lt

theorem Bld.block {w : World} {B b : Nat} {l : List UInt8} (h : Bld w B b l) : ∃ cs, w.heap[b]? = some (.cells cs 50 (0, 0)) := by
  rcases h with ⟨_, v, hb, _⟩ | ⟨_, v, hb, _⟩ <;> exact ⟨_, hb⟩

/-- Only new blocks. -/
theorem Bld.on {w w' : World} {B b : Nat} {l : List UInt8} (h : Bld w B b l) (hb : Below w.heap.size w w') : Bld w' B b l := by
  have hlt := h.lt
  have go : ∀ p, Lib.BuilderAt 50 5 B b p (Lib.byteCells l) w → Lib.BuilderAt 50 5 B b p (Lib.byteCells l) w' := fun p hq => by
    obtain ⟨h1, v, h2, h3, h4⟩ := hq
    refine ⟨h1, v, by rw [hb.block b hlt]; exact h2, ?_, h4⟩
    rcases h3 with ⟨i1, i2 | ⟨g, cap, cur, hv, hg, hh, hr⟩⟩
    · exact ⟨i1, .inl i2⟩
    · refine ⟨i1, .inr ⟨g, cap, cur, hv, hg, ?_, hr⟩⟩
      have hgl : g < w.heap.size := by
        rcases Nat.lt_or_ge g w.heap.size with h | h
        · exact h
        · rw [Array.getElem?_eq_none h] at hh; cases hh
      rw [hb.block g hgl]; exact hh
  rcases h with h | h
  · exact .inl (go _ h)
  · exact .inr (go _ h)

theorem copyCheck_box (B b x : Nat) (bs : List Value) (w : World) (hx : x ≠ b) (h : Lib.IsBuilder 50 5 B b bs w) :
    Calls Tryd.prog 35 #[.pointer (some ⟨b, 0, none⟩)] w fun e w' => e = .returned (.tuple #[]) ∧ (Lib.BuilderAt 50 5 B b (.pointer (some ⟨b, 0, none⟩)) bs w' ∧ Below B w w' ∧ w'.heap[x]? = w.heap[x]?) := by
  rcases h with h | h
  · refine (copyCheck_fresh b w h.cell0 h.shape h.frozen0).mono ?_
    rintro e w' ⟨rfl, rfl⟩
    exact ⟨rfl, h.used _, (Below.refl B w).setCell (p := ⟨b, 0, none⟩) h.1 _, Below.heap_setCell w _ _ x hx⟩
  · refine (copyCheck_used b w h.cell0).mono ?_
    rintro e w' ⟨rfl, rfl⟩
    exact ⟨rfl, h, Below.refl B _, rfl⟩

set_option maxHeartbeats 2000000 in
set_option maxRecDepth 100000 in
theorem WriteString_box (B b x : Nat) (cx : Array Value) (Tx : TypeId) (l : List UInt8) (s : ByteArray) (w : World) (h : Bld w B b l) (hlen : l.length + s.size ≤ 140737488355328) (hBw : B ≤ w.heap.size) (hx : w.heap[x]? = some (.cells cx Tx (0, 0))) (t1 : Tx ≠ 5) (t2 : Tx ≠ 50) :
    Calls Tryd.prog 23 #[.pointer (some ⟨b, 0, none⟩), .string s] w fun e w' => e = .returned (.tuple #[.int .i64 s.size, .nilIface]) ∧ Bld w' B b (l ++ s.data.toList) ∧ Below B w w' ∧ w'.heap[x]? = some (.cells cx Tx (0, 0)) := by
  have hxb : x ≠ b := by
    intro e
    subst e
    obtain ⟨cs, hb⟩ := h.block
    rw [hx] at hb
    simp at hb
    exact t2 hb.2
  have hx0 := Lib.hid hx
  obtain ⟨i0, hi, hz0, hz1, hz2⟩ := info_parts info_u8
  have hl2 : (Lib.byteCells l).length = l.length := Lib.byteCells_length l
  have HL := Lib.hid hl2; clear hl2
  unfold Bld at h ⊢
  rw [byteCells_app]
  generalize hbs : Lib.byteCells l = bs at *
  have hlen' : bs.length + s.size ≤ 140737488355328 := by rw [HL.out]; exact hlen
  clear hbs HL hlen hx
  go_enter Tryd.func23, Tryd.ntmps23
  go_wp2_with (go_at_call 35; refine (copyCheck_box B b x bs _ hxb h).mono ?_)
  rintro e w1 ⟨rfl, h1, hb1, hx1⟩
  have HX1 := Lib.hid (hx1.trans hx0.out); clear hx1
  obtain ⟨hB, v, hbk, hown, hne⟩ := h1
  have hnx : v.ownBlock ≠ some x := Lib.ownBlock_ne hown HX1.out t1
  have c0 : w1.cell? ⟨b, 0, none⟩ = some (.pointer (some ⟨b, 0, none⟩)) := by rw [Lib.cell_of_heap hbk]; rfl
  have c1 : w1.cell? ⟨b, 1, none⟩ = some v := by rw [Lib.cell_of_heap hbk]; rfl
  go_wp2_with (at_builtin; refine Lib.wpList_append_own_string _ rfl _ _ 48 9 rfl B 5 i0 Tryd.underlying48 Tryd.underlying9 hi hz0 hz1 hz2 _ _ _ rfl hown s rfl ?c3 ?c4 ?c5 ?_)
  case c3 => unfold maxLen; omega
  case c4 => omega
  case c5 => have := hb1.size; omega
  intro v' w2 hown' hgrow _
  have hlt : b < w1.heap.size := by
    rcases Nat.lt_or_ge b w1.heap.size with h' | h'
    · exact h'
    · simp [Array.getElem?_eq_none h'] at hbk
  have hlx : x < w1.heap.size := by
    rcases Nat.lt_or_ge x w1.heap.size with h' | h'
    · exact h'
    · have := HX1.out; simp [Array.getElem?_eq_none h'] at this
  have hb2 : w2.heap[b]? = some (.cells #[.pointer (some ⟨b, 0, none⟩), v] 50 (0, 0)) := by
    rw [hgrow.block b hlt (fun e => hne e.symm)]
    exact hbk
  have HX2 := Lib.hid ((hgrow.block x hlx (fun e => hnx e.symm)).trans HX1.out)
  have d0 : w2.cell? ⟨b, 0, none⟩ = some (.pointer (some ⟨b, 0, none⟩)) := by rw [Lib.cell_of_heap hb2]; rfl
  have d1 : w2.cell? ⟨b, 1, none⟩ = some v := by rw [Lib.cell_of_heap hb2]; rfl
  have f1 : w2.frozen? ⟨b, 1, none⟩ = false := Lib.frozen_of_heap hb2 1
  obtain ⟨ao, n', cap, rfl⟩ : ∃ ao n' cap, v' = .slice ao n' cap := by
    rcases hown'.2 with ⟨hv, _⟩ | ⟨g, cap, cur, hv, _⟩
    · exact ⟨_, _, _, hv⟩
    · exact ⟨_, _, _, hv⟩
  go_wp2
  go_ret2
  refine ⟨rfl, .inr ?_, ?_, ?_⟩
  · exact Lib.BuilderAt.put (T := 50) (e := 5) hB hb2 (bs' := bs ++ Lib.strCells s) (by simpa [Lib.strCells_length] using hown') (by decide)
  · exact (hb1.grown hgrow (by have := hb1.size; omega) (fun k hk => (hown.lt k hk).1)).setCell (p := ⟨b, 1, none⟩) hB _
  · rw [Below.heap_setCell w2 ⟨b, 1, none⟩ _ x hxb]; exact HX2.out

end Go.Proofs.YtcjlokojppicnaaDoor
