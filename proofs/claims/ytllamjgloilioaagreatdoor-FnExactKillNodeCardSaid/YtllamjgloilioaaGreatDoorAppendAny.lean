/- append of a list that came in onto a row of the call's own; l03Subs. (run_append_of_nil and run_append_any began as lines of the kit's page extra-words.md, which is meant for copying.) -/
import Derived.Test.YtllamjgloilioaaGreatDoorAppendStr
import Derived.Test.YtllamjgloilioaaGreatDoorSubsL
import Derived.Maps.AppendAt
import Derived.Lib.SmallJoins
namespace Go.Proofs.YtllamjgloilioaaGreatDoor
open Go.RowKit
set_option linter.unusedVariables false

section
variable {P : Program} (w : World)
theorem run_append_of_nil (base : Nat) (t ty e : TypeId) (i : TypeInfo) (size : Nat) (ht : P.underlying t = some (.slice e)) (hi : P.info? e = some i)
    (v : Value) (n : Nat) (xs : List Value) (hown : w.ownsRow base e size v n xs) (c : Nat) : (Builtin.append_ #[t, t] ty #[v, .slice none 0 c]).run P w = .ok v w := by
  rcases hown.2 with ⟨rfl, rfl⟩ | ⟨g, cap, cur, rfl, _, _, hnc, _⟩
  · simp [Builtin.append_, run_underlying ht, sizeOf, typeInfo, hi, Builtin.lenOf, Builtin.firstCells]
  · simp [Builtin.append_, run_underlying ht, sizeOf, typeInfo, hi, Builtin.lenOf, Builtin.firstCells, hnc, storeCells]

theorem run_append_any (base : Nat) (t ty e : TypeId) (i : TypeInfo) (z : Value) (size bytes : Nat) (ht : P.underlying t = some (.slice e)) (hi : P.info? e = some i) (hz : i.zero = some z)
    (hsize : i.size = size) (hby : i.bytes = bytes) (hzs : z.cells.size = size) (hsz : 0 < size)
    (v : Value) (n : Nat) (xs : List Value) (hown : w.ownsRow base e size v n xs)
    (B : Nat) (A : Option Addr) (m c : Nat) (news : List Value) (hr : Reads w B size A m news) (h1 : ∀ u ∈ news, u.oneCell' = true)
    (h63 : n + m ≤ maxLen) (hbytes : (n + m) * bytes ≤ 140737488355328) (hbase : base ≤ w.heap.size) :
    ∃ v' w', (Builtin.append_ #[t, t] ty #[v, .slice A m c]).run P w = .ok v' w' ∧ w'.ownsRow base e size v' (n + m) (xs ++ news) ∧ w.grownBy w' v.ownBlock ∧
      (v'.ownBlock = v.ownBlock ∨ v'.ownBlock = some w.heap.size) := by
  rcases A with _ | ad
  · have hm : m = 0 := by
      rcases Nat.eq_zero_or_pos m with h0 | h0
      · exact h0
      · obtain ⟨ad, h, _⟩ := hr.2 h0
        cases h
    subst hm
    have hn : news = [] := List.eq_nil_of_length_eq_zero (by simpa using hr.1)
    subst hn
    exact ⟨v, w, run_append_of_nil w base t ty e i size ht hi v n xs hown c, by simpa using hown, World.grownBy.refl w _, .inl rfl⟩
  · have hcells : ∀ j u, news[j]? = some u → w.cell? (ad.add j) = some u := by
      intro j u hu
      rcases Nat.eq_zero_or_pos m with h0 | h0
      · subst h0
        have hn : news = [] := List.eq_nil_of_length_eq_zero (by simpa using hr.1)
        subst hn
        simp at hu
      · obtain ⟨ad', h, _, hc⟩ := hr.2 h0
        injection h with h
        subst h
        exact hc j u hu
    obtain ⟨v', w', hrun, h2, h3, _, h5⟩ := run_append_own_at (P := P) w base t ty e i z size bytes ht hi hz hsize hby hzs hsz v n xs hown ad m c news hr.1 hcells h1 h63 hbytes hbase
    exact ⟨v', w', hrun, h2, h3, h5⟩
end

theorem wpList_append_strs (w : World) {ops : Array Oper} {rest : List Oper} {o : Oper} {a : Act} {Q : Exit → Act → World → Prop} (hgd : o.guard = none) (s x : Operand)
    (ho : o.op = .call { callee := .builtin .append, args := #[s, x], argTypes := #[25, 25] }) (base : Nat) (v : Value) (l : List ByteArray) (hown : Strs w base v l) (hs : a.eval s = v) (A : Option Addr) (c B : Nat) (xs : List ByteArray) (hr : Reads w B 1 A xs.length (strVs xs))
    (hx : a.eval x = .slice A xs.length c) (hlen : l.length + xs.length ≤ 4398046511104) (hbase : base ≤ w.heap.size)
    (h : ∀ v' w', Strs w' base v' (l ++ xs) → Below base w w' → wpList Tryz.prog ops Q rest (a.put o.dst v') w') :
    wpList Tryz.prog ops Q (o :: rest) a w := by
  obtain ⟨i0, hi0, hz0, hz1, hz2⟩ := info_parts info_string
  refine wpList_plain hgd fun K hK => ?_
  obtain ⟨v', w', hrun, h2, h3, _⟩ := run_append_any (P := Tryz.prog) w base 25 o.type 9 i0 _ 1 16 Tryz.underlying25 hi0 hz0 hz1 hz2 rfl (by omega) v l.length (strVs l) hown B A xs.length c (strVs xs) hr (fun u hu => by
      obtain ⟨y, _, rfl⟩ := List.mem_map.1 hu; rfl) (by unfold maxLen; omega) (by omega) hbase
  have hbl : Below base w w' := by
    refine (Below.refl _ _).grown h3 hbase (fun k hk => ?_)
    exact (World.ownsRow.lt hown k hk).1
  unfold Oper.wp execOp
  simp only [ho, resolve, invoke, builtin, Sem.run_bind, Sem.run_pure, Result.andThen_ok, List.map_toArray, List.map_cons, List.map_nil, hs, hx, hrun]
  refine hK _ _ (h v' w' ?_ hbl)
  show w'.ownsRow base 9 1 v' (l ++ xs).length (strVs (l ++ xs))
  rw [strVs_append, List.length_append]
  exact h2

theorem l03Subs_any (v : Value) (xs : List ByteArray) (w : World) (h : StrsAt w w.heap.size v xs) (hl : xs.length ≤ 1048576) :
    Calls Tryz.prog 50 #[v] w fun e w' => ∃ v', e = .returned v' ∧ Strs w' w.heap.size v' xs ∧ Below w.heap.size w w' := by
  have hA : StrsAt (w.alloc (.cells #[] 9)) w.heap.size v xs := h.below (Joins.below_alloc1 w _)
  obtain ⟨A, c, rfl, hc, _⟩ := h
  obtain ⟨A', c', e', _, hr⟩ := hA
  injection e' with e1 e2 e3
  subst e1
  have HR := Lib.hid hr; clear hr
  have hO : Strs (w.alloc (.cells #[] 9)) w.heap.size (.slice (some ⟨w.heap.size, 0, none⟩) 0 0) [] := World.ownsRow_lit w #[] 0 (Nat.le_refl _) (by unfold maxLen; omega) rfl
  have HO := Lib.hid hO; clear hO
  have hba : Below w.heap.size w (w.alloc (.cells #[] 9)) := Joins.below_alloc1 w _
  go_enter Tryz.func50, Tryz.ntmps50
  go_wp2_with (at_builtin; refine wpList_append_strs (w.alloc (.cells #[] 9)) rfl _ _ rfl w.heap.size _ [] HO.out rfl A c w.heap.size xs HR.out rfl (by simp; omega) hba.size ?_; intro v' w1 h1 b1)
  go_ret
  exact ⟨_, rfl, h1, hba.trans b1⟩

end Go.Proofs.YtllamjgloilioaaGreatDoor
