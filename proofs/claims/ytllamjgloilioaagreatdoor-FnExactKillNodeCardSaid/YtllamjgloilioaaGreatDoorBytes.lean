/- A slice of bytes that the call itself owns: append of one byte, string(b), []byte(s). -/
import Derived.Test.YtllamjgloilioaaGreatDoorBase
import Derived.Maps.AppendAt
import Derived.Laws.IdiomStrings
namespace Go.Proofs.YtllamjgloilioaaGreatDoor
open Go.RowKit
set_option linter.unusedVariables false

theorem info_u8 : (Tryz.prog.info? 5).map (fun i => (i.zero, i.size, i.bytes)) = some (some (.int .u8 0), 1, 1) := by kernel_rfl

def byteVs (l : List UInt8) : List Value := l.map fun c => Value.int .u8 (c.toNat : Int)

theorem byteVs_append (l m : List UInt8) : byteVs (l ++ m) = byteVs l ++ byteVs m := by simp [byteVs]

/-- The slice value v holds the bytes l in a row of the call's own, from block base on. -/
def Bytes (w : World) (base : Nat) (v : Value) (l : List UInt8) : Prop := w.ownsRow base 5 1 v l.length (byteVs l)

theorem Bytes.drew {w : World} {base : Nat} {v : Value} {l : List UInt8} (h : Bytes w base v l) : Bytes w.drew base v l := h

theorem Bytes.drewN {w : World} {base : Nat} {v : Value} {l : List UInt8} (h : Bytes w base v l) (n : Nat) : Bytes (w.drewN n) base v l := h

theorem Bytes.alloc {w : World} {base : Nat} {v : Value} {l : List UInt8} (h : Bytes w base v l) (o : Obj) : Bytes (w.alloc o) base v l := World.ownsRow.alloc h o

theorem Bytes.empty (w : World) (base : Nat) (hb : base ≤ w.heap.size) : Bytes (w.alloc (.cells #[] 5)) base (.slice (some ⟨w.heap.size, 0, none⟩) 0 0) [] :=
  World.ownsRow_lit w #[] 0 hb (by unfold maxLen; omega) rfl

theorem Bytes.below {w w' : World} {base : Nat} {v : Value} {l : List UInt8} (h : Bytes w base v l) (hb : Below w.heap.size w w') : Bytes w' base v l := by
  rcases h with ⟨h1, h2 | ⟨g, cap, cur, hv, hg, hh, hr⟩⟩
  · exact ⟨h1, .inl h2⟩
  · refine ⟨h1, .inr ⟨g, cap, cur, hv, hg, ?_, hr⟩⟩
    have hlt : g < w.heap.size := by
      rcases Nat.lt_or_ge g w.heap.size with h | h
      · exact h
      · rw [Array.getElem?_eq_none h] at hh; cases hh
    rw [hb.block g hlt]; exact hh

theorem grownBy_trans' {a b c : World} {row : Option Nat} (h : a.grownBy b row) (k : b.grownBy c row) : a.grownBy c row :=
  ⟨k.os.trans h.os, k.tape.trans h.tape, k.output.trans h.output, Nat.le_trans h.size k.size, fun i hi hne => (k.block i (Nat.lt_of_lt_of_le hi h.size) hne).trans (h.block i hi hne)⟩

theorem wpList_append_byte (w : World) {ops : Array Oper} {rest : List Oper} {o : Oper} {a : Act} {Q : Exit → Act → World → Prop} (hgd : o.guard = none) (s x : Operand)
    (ho : o.op = .call { callee := .builtin .append, args := #[s, x], argTypes := #[63, 63] }) (base : Nat) (v : Value) (l : List UInt8) (c : UInt8) (hown : Bytes w base v l) (hs : a.eval s = v)
    (hx : a.eval x = .slice (some ⟨w.heap.size, 0, none⟩) 1 1) (hlen : l.length < 140737488355328) (hbase : base ≤ w.heap.size)
    (h : ∀ v' w', Bytes w' base v' (l ++ [c]) → w.grownBy w' v.ownBlock → Below base w w' → (v'.ownBlock = v.ownBlock ∨ v'.ownBlock = some (w.heap.size + 1)) → wpList Tryz.prog ops Q rest (a.put o.dst v') w') :
    wpList Tryz.prog ops Q (o :: rest) a (w.alloc (.cells #[.int .u8 (c.toNat : Int)] 5)) := by
  obtain ⟨i0, hi0, hz0, hz1, hz2⟩ := info_parts info_u8
  refine wpList_plain hgd fun K hK => ?_
  obtain ⟨v', w', hrun, h2, h3, _, h5⟩ := run_append_own_at (P := Tryz.prog) (w.alloc (.cells #[.int .u8 (c.toNat : Int)] 5)) base 63 o.type 5 i0 _ 1 1 Tryz.underlying63 hi0 hz0 hz1 hz2 rfl (by omega) v l.length (byteVs l) (hown.alloc _)
    ⟨w.heap.size, 0, none⟩ 1 1 [.int .u8 (c.toNat : Int)] rfl (fun j u hj => by
      match j, hj with
      | 0, hj => simp at hj; subst hj; simp [Addr.add]) (fun u hu => by simp at hu; subst hu; rfl) (by unfold maxLen; omega) (by omega) (by simp; omega)
  have hg : w.grownBy w' v.ownBlock := grownBy_trans' (World.grownBy_alloc w _ _) h3
  have hbl : Below base w w' := by
    refine (Below.refl _ _).grown hg hbase (fun k hk => ?_)
    exact (World.ownsRow.lt hown k hk).1
  unfold Oper.wp execOp
  simp only [ho, resolve, invoke, builtin, Sem.run_bind, Sem.run_pure, Result.andThen_ok, List.map_toArray, List.map_cons, List.map_nil, hs, hx, hrun]
  refine hK _ _ (h v' w' ?_ hg hbl (by simpa using h5))
  show w'.ownsRow base 5 1 v' (l ++ [c]).length (byteVs (l ++ [c]))
  rw [byteVs_append, List.length_append]
  exact h2

theorem run_string_of_own {w : World} {base : Nat} {v : Value} {l : List UInt8} (h : Bytes w base v l) : (convert 63 9 v).run Tryz.prog w = .ok (.string ⟨l.toArray⟩) w := by
  rcases h.2 with ⟨rfl, hn⟩ | ⟨g, cap, cur, rfl, hg, hh, hr⟩
  · have : l = [] := List.eq_nil_of_length_eq_zero hn
    subst this
    rw [run_convert_bytes_string w _ _ _ none 0 0 Tryz.underlying63 Tryz.underlying5 Tryz.underlying9]
    rfl
  · refine run_convert_bytes_back w _ _ _ ⟨g, 0, none⟩ cap l Tryz.underlying63 Tryz.underlying5 Tryz.underlying9 (fun j hj => ?_)
    exact World.ownsRow.cells h rfl j _ (by simp [byteVs, hj])

theorem string_of_own {w : World} {base : Nat} {v : Value} {l : List UInt8} (h : Bytes w base v l) : ∃ r : ByteArray, (convert 63 9 v).run Tryz.prog w = .ok (.string r) w ∧ r.data.toList = l ∧ r.size = l.length :=
  ⟨_, run_string_of_own h, rfl, rfl⟩

/-- What []byte(s) has laid, seen later: block g holds the bytes of s and bears a mark. -/
def Laid (w : World) (g : Nat) (s : ByteArray) : Prop := ∃ cap, w.heap[g]? = some (.cells (bytesRow s cap) 5 ((bytesRow s cap).size, (bytesRow s cap).size + 1))

theorem Laid.cell {w : World} {g : Nat} {s : ByteArray} (h : Laid w g s) {j : Nat} (hj : j < s.size) : w.cell? ⟨g, j, none⟩ = some (.int .u8 (s[j].toNat : Int)) := by
  obtain ⟨cap, h⟩ := h
  have := bytesRow_at s cap j hj
  simp [World.cell?, h, this]; rfl

theorem Laid.lt {w : World} {g : Nat} {s : ByteArray} (h : Laid w g s) : g < w.heap.size := by
  obtain ⟨cap, h⟩ := h
  rcases Nat.lt_or_ge g w.heap.size with hlt | hge
  · exact hlt
  · rw [Array.getElem?_eq_none hge] at h; cases h

theorem Laid.alloc {w : World} {g : Nat} {s : ByteArray} (h : Laid w g s) (o : Obj) : Laid (w.alloc o) g s := by
  have hlt := h.lt
  obtain ⟨cap, h⟩ := h
  exact ⟨cap, (Below.heap_alloc w o g hlt).trans h⟩

theorem Laid.drew {w : World} {g : Nat} {s : ByteArray} (h : Laid w g s) : Laid w.drew g s := h

theorem Laid.below {w w' : World} {g : Nat} {s : ByteArray} (h : Laid w g s) (hb : Below w.heap.size w w') : Laid w' g s := by
  have hlt := h.lt
  obtain ⟨cap, h⟩ := h
  exact ⟨cap, (hb.block g hlt).trans h⟩

theorem Laid.grown {w w' : World} {g base : Nat} {s : ByteArray} {v : Value} {l : List UInt8} (h : Laid w g s) (hown : Bytes w base v l) (hg : w.grownBy w' v.ownBlock) : Laid w' g s := by
  have hlt := h.lt
  obtain ⟨cap, h⟩ := h
  refine ⟨cap, (hg.block g hlt (fun e => ?_)).trans h⟩
  rcases hown.2 with ⟨rfl, _⟩ | ⟨g', cap', cur, rfl, _, hh, _⟩
  · simp [Value.ownBlock] at e
  · have : g = g' := by simpa [Value.ownBlock] using e
    subst this
    rw [h] at hh
    injection hh with hh
    injection hh with _ _ e3
    injection e3 with e3 e4
    omega

theorem run_bytes_conv (w : World) (s : ByteArray) : (convert 9 63 (.string s)).run Tryz.prog w = .ok (.slice (some ⟨w.heap.size, 0, none⟩) s.size (grownCap w s.size 0 5))
      (w.drew.alloc (.cells (bytesRow s (grownCap w s.size 0 5)) 5 ((bytesRow s (grownCap w s.size 0 5)).size, (bytesRow s (grownCap w s.size 0 5)).size + 1))) :=
  run_bytes_of_string w _ _ _ s Tryz.underlying9 Tryz.underlying63 Tryz.underlying5

theorem Laid.new (w : World) (s : ByteArray) (cap : Nat) : Laid (w.alloc (.cells (bytesRow s cap) 5 ((bytesRow s cap).size, (bytesRow s cap).size + 1))) w.heap.size s :=
  ⟨cap, heap_alloc_new w _⟩

theorem Laid.new2 (w : World) (o : Obj) (s : ByteArray) (cap : Nat) : Laid ((w.alloc o).alloc (.cells (bytesRow s cap) 5 ((bytesRow s cap).size, (bytesRow s cap).size + 1))) (w.heap.size + 1) s := by
  have h := Laid.new (w.alloc o) s cap
  simpa using h

end Go.Proofs.YtllamjgloilioaaGreatDoor
