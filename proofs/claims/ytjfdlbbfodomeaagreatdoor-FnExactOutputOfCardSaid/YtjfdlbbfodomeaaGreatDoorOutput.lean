/- OutputOf: both sides. -/
import Derived.Test.YtjfdlbbfodomeaaGreatDoorEventLaw
import Derived.Test.YtjfdlbbfodomeaaGreatDoorSameEvents
import Derived.Test.YtjfdlbbfodomeaaGreatDoorBuilder
namespace Go.Proofs.YtjfdlbbfodomeaaGreatDoor
open Go.RowKit Go.ChangeShapes Go.WideShapes Go.ChangeAt Go.Deep
set_option linter.unusedVariables false

def outGo : List EventV → List UInt8 → Option (List UInt8)
  | [], acc => some acc
  | x :: r, acc => if evB x = true then outGo r (if x.kind = 7 then acc ++ x.value.data.toList else acc) else none

def outB (ns : List EventV) : Option (List UInt8) := outGo ns []

/-- What OutputOf hands back. -/
def GotOut (o : Option (List UInt8)) (e : Ending) : Prop := ∃ r : ByteArray, r.data.toList = o.getD [] ∧ e = .returned (.tuple #[.string r, .int .i64 (if o.isSome = true then 0 else 1)])

theorem gotOut_none : GotOut none (.returned (.tuple #[.string ⟨#[]⟩, .int .i64 1])) := ⟨⟨#[]⟩, rfl, rfl⟩

theorem gotOut_some {l : List UInt8} {r : ByteArray} (h : r.data.toList = l) : GotOut (some l) (.returned (.tuple #[.string r, .int .i64 0])) := ⟨r, h, rfl⟩

theorem evB_short {x : EventV} (h : evB x = true) (hk : x.kind = 7) : x.value.size ≤ 64 := by
  unfold evB at h
  split at h
  · cases h
  · rename_i hc
    rcases Nat.lt_or_ge 64 x.value.size with h2 | h2
    · exact absurd (by rw [decide_eq_true h2, hk]; rfl) hc
    · exact h2

theorem outGo_dat : ∀ (a b : List EventV) (acc : List UInt8), a.map EventV.dat = b.map EventV.dat → outGo a acc = outGo b acc
  | [], [], _, _ => rfl
  | [], y :: b, _, h => by simp at h
  | x :: a, [], _, h => by simp at h
  | x :: a, y :: b, acc, h => by
    simp only [List.map_cons, List.cons.injEq] at h
    obtain ⟨h1, h2, h3, h4, h5⟩ := EventV.dat_eq h.1
    rw [outGo, outGo, evB_dat h.1, h1, h4]
    split
    · exact outGo_dat a b _ h.2
    · rfl

theorem outB_dat {a b : List EventV} (h : a.map EventV.dat = b.map EventV.dat) : outB a = outB b := outGo_dat a b [] h

set_option maxHeartbeats 1000000 in
set_option maxRecDepth 8000 in
theorem OutputOf_any (v : Value) (ns : List EventV) (w : World) (hT : T10 w) (hml : ML w) (h : EventsAt w v ns) (hl : ns.length ≤ 1048576) (hok : ∀ x ∈ ns, x.Ok 1048576) :
    Calls Tryz.prog 53 #[v] w fun e w' => GotOut (outB ns) e ∧ Below w.heap.size w w' := by
  have HT := Lib.hid hT; have HM := Lib.hid hml; clear hT hml
  have H := Lib.hid h
  have HOK := Lib.hid hok; clear hok
  obtain ⟨O, hO⟩ : ∃ O, outB ns = O := ⟨_, rfl⟩
  rw [hO]
  have HO := Lib.hid hO; clear hO
  obtain ⟨A, c, rfl, hc, _⟩ := h
  go_enter Tryz.func53, Tryz.ntmps53
  go_wp2
  go_loopw [9] (fun i wr => ∃ (k : Nat) (L : List UInt8), k ≤ ns.length ∧ i = .int .i64 k ∧ L.length ≤ 64 * k ∧ Hid (Bld wr w.heap.size w.heap.size L) ∧ Hid (Below w.heap.size w wr) ∧ Hid (O = outGo (ns.drop k) L)) (fun i _ => ns.length - (intOf i).toNat)
  case atStart => exact ⟨0, [], Nat.zero_le _, rfl, by simp, Bld.new w, (Below.refl _ _).alloc (Nat.le_refl _) _, HO.out.symm⟩
  case round =>
    clear HO
    obtain ⟨k, L, hk, rfl, hL, HB, HG, HI⟩ := hrel
    by_cases hlt : k < ns.length
    · obtain ⟨ad, rfl, hbl, hat, a0, a1, a2, a3, a4⟩ := (H.out.on HG.out).get hlt
      have HX := Lib.hid (HOK.out _ (List.getElem_mem hlt))
      have HD : Hid (O = outGo (ns[k] :: ns.drop (k + 1)) L) := by
        show _ = _
        rw [HI.out, List.drop_eq_getElem_cons hlt]
      have hb1 : Below wr.heap.size wr (wr.alloc (.cells ns[k].cells 53)) := Joins.below_alloc1 wr _
      have HG1 : Hid (Below w.heap.size w (wr.alloc (.cells ns[k].cells 53))) := below_trans HG.out hb1
      have HB1 := Lib.hid (Bld.below HB.out hb1)
      have HQ := Lib.hid (EventOk_any ns[k] _ (HT.out.below HG1.out) (HM.out.below HG1.out) (hat.on hb1) HX.out)
      have HCX := Lib.hid (CellsAt.new wr ns[k].cells 53)
      have HSH := Lib.hid (@evB_short ns[k])
      have hvz := HX.out.2.2.1
      clear HI HB HG hb1
      generalize ns[k] = x at *
      obtain ⟨E, hE⟩ : ∃ E : Bool, evB x = E := ⟨_, rfl⟩
      rw [hE] at HQ
      have HE := Lib.hid hE; clear hE
      obtain ⟨kind, name, sv, xs, value, n⟩ := x
      obtain ⟨Ax, cx, hsx, hcx, _⟩ := id hat.1
      replace hsx : sv = .slice Ax xs.length cx := hsx
      subst hsx
      simp only [EventV.cells] at *
      clear hat
      go_wp2_with fail
      refine HQ.out.mono ?_
      rintro e w5 ⟨rfl, b5⟩
      have c0 : w5.cell? ⟨wr.heap.size, 0, none⟩ = some (.int .i64 kind) := (HCX.out.below b5).2 0 _ rfl
      have c3 : w5.cell? ⟨wr.heap.size, 3, none⟩ = some (.string value) := (HCX.out.below b5).2 3 _ rfl
      have HG5 := Lib.hid (below_trans HG1.out b5)
      have HB5 := Lib.hid (Bld.below HB1.out b5)
      clear b5 HQ HCX HG1 HB1
      cases E
      · have HN : Hid (O = none) := by show _ = _; rw [HD.out, outGo, HE.out]; rfl
        go_wp2_with fail
        go_ret2
        exact ⟨by rw [HN.out]; exact gotOut_none, HG5.out⟩
      · rcases eqForms kind 7 with ⟨e1, e2, e3⟩ | ⟨e1, e2, e3⟩
        · have hv64 : value.size ≤ 64 := HSH.out HE.out e3.out
          have HN : Hid (O = outGo (ns.drop (k + 1)) (L ++ value.data.toList)) := by
            show _ = _; rw [HD.out, outGo, HE.out, if_pos rfl, if_pos e3.out]
          have HW := Lib.hid (WriteString_any w.heap.size w.heap.size L value w5 HB5.out (by omega) HG5.out.size)
          go_wp2_with (go_at_call 104; refine HW.out.mono ?_; rintro e w6 ⟨rfl, hb6, hl6⟩)
          refine ⟨⟨k + 1, L ++ value.data.toList, by omega, by go_num, ?_, hb6, HG5.out.trans hl6, HN.out⟩, by simp [intOf]; omega⟩
          rw [List.length_append, ← ba_size]; omega
        · have HN : Hid (O = outGo (ns.drop (k + 1)) L) := by
            show _ = _; rw [HD.out, outGo, HE.out, if_pos rfl, if_neg e3.out]
          go_wp2_with fail
          exact ⟨⟨k + 1, L, by omega, by go_num, by omega, HB5, HG5, HN.out⟩, by simp [intOf]; omega⟩
    · have HN : Hid (O = some L) := by show _ = _; rw [HI.out, List.drop_eq_nil_of_le (by omega)]; rfl
      have HW := Lib.hid (BString_any w.heap.size w.heap.size L wr HB.out HG.out.size)
      go_wp2_with (go_at_call 105; refine HW.out.mono ?_; rintro e w6 ⟨rfl, hl6⟩)
      go_ret2
      exact ⟨by rw [HN.out]; exact gotOut_some (by simp), HG.out.trans hl6⟩

theorem wpList_append_text (w : World) {ops : Array Oper} {rest : List Oper} {o : Oper} {a : Act} {Q : Exit → Act → World → Prop} (hgd : o.guard = none) (s x : Operand)
    (ho : o.op = .call { callee := .builtin .append, args := #[s, x], argTypes := #[106, 9] }) (base : Nat) (v : Value) (l : List UInt8) (hown : Bytes w base v l) (hs : a.eval s = v) (t : ByteArray) (hx : a.eval x = .string t)
    (hlen : l.length + t.size ≤ 140737488355328) (hbase : base ≤ w.heap.size)
    (h : ∀ v' w', Bytes w' base v' (l ++ t.data.toList) → Below base w w' → wpList Tryz.prog ops Q rest (a.put o.dst v') w') :
    wpList Tryz.prog ops Q (o :: rest) a w := by
  obtain ⟨i0, hi, hz0, hz1, hz2⟩ := info_parts info_u8
  refine Lib.wpList_append_own_string w hgd s x 106 9 ho base 5 i0 Tryz.underlying106 Tryz.underlying9 hi hz0 hz1 hz2 v l.length (byteVs l) hs hown t hx (by unfold maxLen; omega) (by omega) hbase ?_
  intro v' w' h2 h3 _
  refine h v' w' ?_ ((Below.refl _ _).grown h3 hbase (fun k hk => (World.ownsRow.lt hown k hk).1))
  show w'.ownsRow base 5 1 v' (l ++ t.data.toList).length (byteVs (l ++ t.data.toList))
  have e1 : byteVs (l ++ t.data.toList) = byteVs l ++ Lib.strCells t := by simp [byteVs, Lib.strCells]
  rw [e1, List.length_append, ← ba_size]
  exact h2

set_option maxHeartbeats 1000000 in
set_option maxRecDepth 8000 in
theorem sOutputOf_any (v : Value) (ns : List EventV) (w : World) (h : EventsAt w v ns) (hl : ns.length ≤ 1048576) (hok : ∀ x ∈ ns, x.Ok 1048576) :
    Calls Tryz.prog 51 #[v] w fun e w' => GotOut (outB ns) e ∧ Below w.heap.size w w' := by
  have H := Lib.hid h
  have HOK := Lib.hid hok; clear hok
  obtain ⟨O, hO⟩ : ∃ O, outB ns = O := ⟨_, rfl⟩
  rw [hO]
  have HO := Lib.hid hO; clear hO
  obtain ⟨A, c, rfl, hc, _⟩ := h
  go_enter Tryz.func51, Tryz.ntmps51
  go_wp2
  go_loopw [4, 5] (fun t i wr => ∃ (k : Nat) (L : List UInt8), k ≤ ns.length ∧ i = .int .i64 k ∧ L.length ≤ 64 * k ∧ Hid (Bytes wr w.heap.size t L) ∧ Hid (Below w.heap.size w wr) ∧ Hid (O = outGo (ns.drop k) L)) (fun _ i _ => ns.length - (intOf i).toNat)
  case atStart => exact ⟨0, [], Nat.zero_le _, rfl, by simp, Bytes.empty w _ (Nat.le_refl _), (Below.refl _ _).alloc (Nat.le_refl _) _, HO.out.symm⟩
  case round =>
    clear HO
    obtain ⟨k, L, hk, rfl, hL, HB, HG, HI⟩ := hrel
    by_cases hlt : k < ns.length
    · obtain ⟨ad, rfl, hbl, hat, a0, a1, a2, a3, a4⟩ := (H.out.on HG.out).get hlt
      have HX := Lib.hid (HOK.out _ (List.getElem_mem hlt))
      have HD : Hid (O = outGo (ns[k] :: ns.drop (k + 1)) L) := by
        show _ = _
        rw [HI.out, List.drop_eq_getElem_cons hlt]
      have HQ := Lib.hid (l11Right_any ns[k] wr hat HX.out)
      have HSH := Lib.hid (@evB_short ns[k])
      have HGET : Hid (∀ W, Below w.heap.size w W → W.cell? (ad.add (k * 5)) = some (.int .i64 ns[k].kind) ∧ W.cell? ⟨(ad.add (k * 5)).block, (ad.add (k * 5)).off + 3, none⟩ = some (.string ns[k].value)) := fun W hW => by
        obtain ⟨ad', e, _, _, g0, _, _, g3, _⟩ := (H.out.on hW).get hlt
        injection e with e; subst e
        exact ⟨g0, g3⟩
      clear HI
      generalize ns[k] = x at *
      obtain ⟨E, hE⟩ : ∃ E : Bool, evB x = E := ⟨_, rfl⟩
      rw [hE] at HQ
      have HE := Lib.hid hE; clear hE
      obtain ⟨kind, name, sv, xs, value, n⟩ := x
      obtain ⟨Ax, cx, hsx, hcx, _⟩ := id hat.1
      replace hsx : sv = .slice Ax xs.length cx := hsx
      subst hsx
      simp only [EventV.cells] at *
      clear hat
      go_wp2_with fail
      refine HQ.out.mono ?_
      rintro e w5 ⟨rfl, b5⟩
      have HG5 := Lib.hid (below_trans HG.out b5)
      have HB5 := Lib.hid (Bytes.below HB.out b5)
      obtain ⟨g0, g3⟩ := HGET.out w5 HG5.out
      clear b5 HQ HB HG a0 a1 a2 a3 a4 HGET
      cases E
      · have HN : Hid (O = none) := by show _ = _; rw [HD.out, outGo, HE.out]; rfl
        go_wp2_with fail
        go_ret2
        exact ⟨by rw [HN.out]; exact gotOut_none, HG5.out⟩
      · rcases eqForms kind 7 with ⟨e1, e2, e3⟩ | ⟨e1, e2, e3⟩
        · have hv64 : value.size ≤ 64 := HSH.out HE.out e3.out
          have HN : Hid (O = outGo (ns.drop (k + 1)) (L ++ value.data.toList)) := by
            show _ = _; rw [HD.out, outGo, HE.out, if_pos rfl, if_pos e3.out]
          go_wp2_with (at_builtin; refine wpList_append_text w5 rfl _ _ rfl w.heap.size _ L HB5.out rfl value rfl (by omega) HG5.out.size ?_; intro v' w6 hb6 hl6)
          refine ⟨⟨k + 1, L ++ value.data.toList, by omega, by go_num, ?_, hb6, HG5.out.trans hl6, HN.out⟩, by simp [intOf]; omega⟩
          rw [List.length_append, ← ba_size]; omega
        · have HN : Hid (O = outGo (ns.drop (k + 1)) L) := by
            show _ = _; rw [HD.out, outGo, HE.out, if_pos rfl, if_neg e3.out]
          go_wp2_with fail
          exact ⟨⟨k + 1, L, by omega, by go_num, by omega, HB5, HG5, HN.out⟩, by simp [intOf]; omega⟩
    · have HN : Hid (O = some L) := by show _ = _; rw [HI.out, List.drop_eq_nil_of_le (by omega)]; rfl
      obtain ⟨r, hcv, hr, _⟩ := string_of_own HB.out
      have HR := Lib.hid hr; clear hr
      go_wp2_with fail
      go_ret2
      exact ⟨by rw [HN.out]; exact gotOut_some HR.out, HG.out⟩

end Go.Proofs.YtjfdlbbfodomeaaGreatDoor
