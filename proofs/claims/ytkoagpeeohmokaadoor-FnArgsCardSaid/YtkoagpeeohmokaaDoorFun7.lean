/- PureFun: spec's l10Fun at TR. -/
import Derived.Test.YtkoagpeeohmokaaDoorFun6
import Derived.Test.YtkoagpeeohmokaaDoorAppendAny
namespace Go.Proofs.YtkoagpeeohmokaaDoor
open Go.RowKit
set_option linter.unusedVariables false

theorem step_append_strs (w : World) {ops : Array Oper} {o : Oper} {a : Act} {K : Act → World → Prop} {Q : Exit → Act → World → Prop} {E : Prop} (hgd : o.guard = none) (s x : Operand)
    (ho : o.op = .call { callee := .builtin .append, args := #[s, x], argTypes := #[36, 36] }) (base : Nat) (v : Value) (l : List ByteArray) (hown : Strs w base v l) (hs : a.eval s = v) (A : Option Addr) (c B : Nat) (xs : List ByteArray) (hr : Reads w B 1 A xs.length (strVs xs))
    (hx : a.eval x = .slice A xs.length c) (hlen : l.length + xs.length ≤ 4398046511104) (hbase : base ≤ w.heap.size)
    (h : ∀ v' w', Strs w' base v' (l ++ xs) → Below base w w' → K (a.put o.dst v') w') :
    if Region.wanted o (yielded ops a.tmps) = true then Oper.wp Tryd.prog o a w K Q else E := by
  have hw : Region.wanted o (yielded ops a.tmps) = true := by simp [Region.wanted, hgd]
  rw [if_pos hw]
  obtain ⟨i0, hi0, hz0, hz1, hz2⟩ := info_parts info_string
  obtain ⟨v', w', hrun, h2, h3, _⟩ := run_append_any (P := Tryd.prog) w base 36 o.type 9 i0 _ 1 16 Tryd.underlying36 hi0 hz0 hz1 hz2 rfl (by omega) v l.length (strVs l) hown B A xs.length c (strVs xs) hr (fun u hu => by
      obtain ⟨y, _, rfl⟩ := List.mem_map.1 hu; rfl) (by unfold maxLen; omega) (by omega) hbase
  have hbl : Below base w w' := by
    refine (Below.refl _ _).grown h3 hbase (fun k hk => ?_)
    exact (World.ownsRow.lt hown k hk).1
  unfold Oper.wp execOp
  simp only [ho, resolve, invoke, builtin, Sem.run_bind, Sem.run_pure, Result.andThen_ok, List.map_toArray, List.map_cons, List.map_nil, hs, hx, hrun]
  refine h v' w' ?_ hbl
  show w'.ownsRow base 9 1 v' (l ++ xs).length (strVs (l ++ xs))
  rw [strVs_append, List.length_append]
  exact h2

theorem reads_one (w : World) : Reads (w.alloc (.cells #[.string ⟨#[]⟩] 9)) (w.alloc (.cells #[.string ⟨#[]⟩] 9)).heap.size 1 (some ⟨w.heap.size, 0, none⟩) 1 (strVs [⟨#[]⟩]) := by
  have h : Strs (w.alloc (.cells #[.string ⟨#[]⟩] 9)) w.heap.size (.slice (some ⟨w.heap.size, 0, none⟩) 1 1) [⟨#[]⟩] := World.ownsRow_lit w #[.string ⟨#[]⟩] 1 (Nat.le_refl _) (by unfold maxLen; omega) rfl
  obtain ⟨A, c, e, _, hr⟩ := h.at_
  injection e with e1 e2 e3
  subst e1
  exact hr

/-- The same where a row of one string lies beside, in block g, which is not the row that grows. -/
theorem step_append_strs2 (w : World) {ops : Array Oper} {o : Oper} {a : Act} {K : Act → World → Prop} {Q : Exit → Act → World → Prop} {E : Prop} (hgd : o.guard = none) (s x : Operand)
    (ho : o.op = .call { callee := .builtin .append, args := #[s, x], argTypes := #[36, 36] }) (base b0 : Nat) (l : List ByteArray) (hown : Strs w base (.slice (some ⟨b0, 0, none⟩) 0 0) l) (hs : a.eval s = .slice (some ⟨b0, 0, none⟩) 0 0) (A : Option Addr) (c B : Nat) (xs : List ByteArray) (hr : Reads w B 1 A xs.length (strVs xs))
    (hx : a.eval x = .slice A xs.length c) (hlen : l.length + xs.length ≤ 4398046511104) (hbase : base ≤ w.heap.size) (g : Nat) (hg : ¬ b0 = g) (hone : Reads w w.heap.size 1 (some ⟨g, 0, none⟩) 1 (strVs [⟨#[]⟩]))
    (h : ∀ v' w', Strs w' base v' (l ++ xs) → Below base w w' → Reads w' w'.heap.size 1 (some ⟨g, 0, none⟩) 1 (strVs [⟨#[]⟩]) → K (a.put o.dst v') w') :
    if Region.wanted o (yielded ops a.tmps) = true then Oper.wp Tryd.prog o a w K Q else E := by
  have hw : Region.wanted o (yielded ops a.tmps) = true := by simp [Region.wanted, hgd]
  rw [if_pos hw]
  obtain ⟨i0, hi0, hz0, hz1, hz2⟩ := info_parts info_string
  obtain ⟨v', w', hrun, h2, h3, _⟩ := run_append_any (P := Tryd.prog) w base 36 o.type 9 i0 _ 1 16 Tryd.underlying36 hi0 hz0 hz1 hz2 rfl (by omega) _ l.length (strVs l) hown B A xs.length c (strVs xs) hr (fun u hu => by
      obtain ⟨y, _, rfl⟩ := List.mem_map.1 hu; rfl) (by unfold maxLen; omega) (by omega) hbase
  have hbl : Below base w w' := by
    refine (Below.refl _ _).grown h3 hbase (fun k hk => ?_)
    exact (World.ownsRow.lt hown k hk).1
  unfold Oper.wp execOp
  simp only [ho, resolve, invoke, builtin, Sem.run_bind, Sem.run_pure, Result.andThen_ok, List.map_toArray, List.map_cons, List.map_nil, hs, hx, hrun]
  refine h v' w' ?_ hbl ?_
  · show w'.ownsRow base 9 1 v' (l ++ xs).length (strVs (l ++ xs))
    rw [strVs_append, List.length_append]
    exact h2
  · refine ⟨hone.1, fun hn => ?_⟩
    obtain ⟨ad, e, hb, hc⟩ := hone.2 hn
    injection e with e
    subst e
    refine ⟨_, rfl, Nat.lt_of_lt_of_le hb h3.size, fun j u hu => ?_⟩
    rw [← hc j u hu]
    have e2 : ((⟨g, 0, none⟩ : Addr).add j).block = g := block_of_add _ _
    have h4 := h3.block g hb (by intro e; simp [Value.ownBlock] at e; exact hg e.symm)
    exact World.cell?_of_block (by rw [e2]; exact h4)

theorem trTo_get (xs : List ByteArray) (h : 1 < xs.length) : (strVs (([] ++ xs) ++ [⟨#[]⟩]))[2]? = some (.string (trToL xs)) := by
  unfold strVs trToL
  rw [List.nil_append, List.map_append, List.map_cons, List.map_nil]
  rcases Nat.lt_or_ge 2 xs.length with h2 | h2
  · rw [List.getElem?_append_left (by simpa using h2), List.getElem?_map, List.getElem?_eq_getElem h2]; rfl
  · have e : xs.length = 2 := by omega
    have h3 : xs[2]? = none := List.getElem?_eq_none (by omega)
    rw [List.getElem?_append_right (by simp; omega), List.length_map, e, h3]; rfl

end Go.Proofs.YtkoagpeeohmokaaDoor
