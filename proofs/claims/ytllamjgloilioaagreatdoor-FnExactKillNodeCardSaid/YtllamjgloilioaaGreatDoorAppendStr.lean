/- append of one string to a row of the call's own. -/
import Derived.Test.YtllamjgloilioaaGreatDoorBytes
import Derived.Test.YtllamjgloilioaaGreatDoorStrs
namespace Go.Proofs.YtllamjgloilioaaGreatDoor
open Go.RowKit
set_option linter.unusedVariables false

theorem info_string : (Tryz.prog.info? 9).map (fun i => (i.zero, i.size, i.bytes)) = some (some (.string ⟨#[]⟩), 1, 16) := by kernel_rfl

theorem wpList_append_str (w : World) {ops : Array Oper} {rest : List Oper} {o : Oper} {a : Act} {Q : Exit → Act → World → Prop} (hgd : o.guard = none) (s x : Operand)
    (ho : o.op = .call { callee := .builtin .append, args := #[s, x], argTypes := #[25, 25] }) (base : Nat) (v : Value) (l : List ByteArray) (c : ByteArray) (hown : Strs w base v l) (hs : a.eval s = v)
    (hx : a.eval x = .slice (some ⟨w.heap.size, 0, none⟩) 1 1) (hlen : l.length < 4398046511104) (hbase : base ≤ w.heap.size)
    (h : ∀ v' w', Strs w' base v' (l ++ [c]) → w.grownBy w' v.ownBlock → Below base w w' → (v'.ownBlock = v.ownBlock ∨ v'.ownBlock = some (w.heap.size + 1)) → wpList Tryz.prog ops Q rest (a.put o.dst v') w') :
    wpList Tryz.prog ops Q (o :: rest) a (w.alloc (.cells #[.string c] 9)) := by
  obtain ⟨i0, hi0, hz0, hz1, hz2⟩ := info_parts info_string
  refine wpList_plain hgd fun K hK => ?_
  obtain ⟨v', w', hrun, h2, h3, _, h5⟩ := run_append_own_at (P := Tryz.prog) (w.alloc (.cells #[.string c] 9)) base 25 o.type 9 i0 _ 1 16 Tryz.underlying25 hi0 hz0 hz1 hz2 rfl (by omega) v l.length (strVs l) (World.ownsRow.alloc hown _)
    ⟨w.heap.size, 0, none⟩ 1 1 [.string c] rfl (fun j u hj => by
      match j, hj with
      | 0, hj => simp at hj; subst hj; simp [Addr.add]) (fun u hu => by simp at hu; subst hu; rfl) (by unfold maxLen; omega) (by omega) (by simp; omega)
  have hg : w.grownBy w' v.ownBlock := grownBy_trans' (World.grownBy_alloc w _ _) h3
  have hbl : Below base w w' := by
    refine (Below.refl _ _).grown hg hbase (fun k hk => ?_)
    exact (World.ownsRow.lt hown k hk).1
  unfold Oper.wp execOp
  simp only [ho, resolve, invoke, builtin, Sem.run_bind, Sem.run_pure, Result.andThen_ok, List.map_toArray, List.map_cons, List.map_nil, hs, hx, hrun]
  refine hK _ _ (h v' w' ?_ hg hbl (by simpa using h5))
  show w'.ownsRow base 9 1 v' (l ++ [c]).length (strVs (l ++ [c]))
  rw [strVs_append, List.length_append]
  exact h2

end Go.Proofs.YtllamjgloilioaaGreatDoor
