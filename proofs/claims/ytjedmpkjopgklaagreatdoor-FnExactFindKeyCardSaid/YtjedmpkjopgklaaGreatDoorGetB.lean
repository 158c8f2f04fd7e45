/- GetSubs: both sides. -/
import Derived.Test.YtjedmpkjopgklaaGreatDoorGetTake
import Derived.Test.YtjedmpkjopgklaaGreatDoorForms
namespace Go.Proofs.YtjedmpkjopgklaaGreatDoor
open Go.RowKit
set_option linter.unusedVariables false

def szV : Value → Nat
  | .string R => R.size
  | _ => 0

/-- What GetSubs hands back. -/
def GotSubs (l : List UInt8) (base : Nat) (e : Ending) (w' : World) : Prop := ∃ v, e = .returned (.tuple #[v, .bool (getB l).isSome]) ∧ Strs w' base v ((getB l).getD [])

theorem gotSubs_none {l : List UInt8} {base : Nat} {w' : World} {v : Value} (h : getB l = none) (hv : Strs w' base v []) : GotSubs l base (.returned (.tuple #[v, .bool false])) w' :=
  ⟨v, by rw [h]; rfl, by rw [h]; exact hv⟩

theorem gotSubs_some {l : List UInt8} {base : Nat} {w' : World} {v : Value} {a : List ByteArray} (h : getB l = some a) (hv : Strs w' base v a) : GotSubs l base (.returned (.tuple #[v, .bool true])) w' :=
  ⟨v, by rw [h]; rfl, by rw [h]; exact hv⟩

theorem Strs.nil (w : World) (base : Nat) : Strs w base (.slice none 0 0) [] := ⟨rfl, .inl ⟨rfl, rfl⟩⟩

theorem getB_none {l : List UInt8} (h : parse tkI 5 [] l = none) : getB l = none := by unfold getB; rw [h]

theorem getB_fail {l : List UInt8} {a : List ByteArray} {r : List UInt8} (h : parse tkI 5 [] l = some (a, r)) (hf : subsOkB a = false ∨ putB a ≠ l) : getB l = none := by
  unfold getB; rw [h]; simp only
  rw [if_neg]
  rintro ⟨h1, h2⟩
  rcases hf with hf | hf
  · rw [hf] at h1; cases h1
  · exact hf h2

theorem getB_good {l : List UInt8} {a : List ByteArray} {r : List UInt8} (h : parse tkI 5 [] l = some (a, r)) (h1 : subsOkB a = true) (h2 : putB a = l) : getB l = some a := by
  unfold getB; rw [h]; simp only
  rw [if_pos ⟨h1, h2⟩]

theorem putSubs_ok {a : List ByteArray} (h : subsOkB a = true) : putSubsB a = putB a := by unfold putSubsB; rw [if_pos h]

theorem tkI_one {l : List UInt8} {a t : List UInt8} (h : NumRead l true a t) : tkI (1 :: l) = some (a, t) := by
  rcases h with ⟨_, h1, h2, h3, h4⟩ | ⟨h, _⟩
  · rw [tkI, if_pos rfl, if_pos ⟨h1, h2⟩, h3, h4]
  · cases h

theorem tkI_one_no {l : List UInt8} {a t : List UInt8} (h : NumRead l false a t) : tkI (1 :: l) = none := by
  rcases h with ⟨h, _⟩ | ⟨_, h⟩
  · cases h
  · rw [tkI, if_pos rfl, if_neg (fun k => by rcases h with h | h <;> omega)]

theorem tkI_two (l : List UInt8) : tkI (2 :: l) = decS l := by rw [tkI, if_neg (by decide), if_pos rfl]

theorem tkI_other {c : UInt8} {l : List UInt8} (h1 : ¬ c = 1) (h2 : ¬ c = 2) : tkI (c :: l) = none := by rw [tkI, if_neg h1, if_neg h2]

theorem cons_ne {R : ByteArray} (h : 1 ≤ R.size) : R.data.toList ≠ [] := by
  intro e; rw [ba_size, e] at h; simp at h

theorem ext1 (R : ByteArray) : (R.extract 1 R.size).data.toList = sfx R 1 := by
  unfold sfx
  simp only [ByteArray.data_extract, Array.toList_extract, List.extract_eq_take_drop]
  rw [List.take_of_length_le (by rw [List.length_drop, ← ba_size]; omega)]

theorem getSB_none {l : List UInt8} (h : parse tkS 5 [] l = none) : getB l = none := by rw [← getSB_eq]; unfold getSB; rw [h]

theorem getSB_fail {l : List UInt8} {a : List ByteArray} {r : List UInt8} (h : parse tkS 5 [] l = some (a, r)) (hf : r ≠ [] ∨ subsOkB a = false ∨ putB a ≠ l) : getB l = none := by
  rw [← getSB_eq]; unfold getSB; rw [h]; simp only
  rw [if_neg]
  rintro ⟨h0, h1, h2⟩
  rcases hf with hf | hf | hf
  · exact hf h0
  · rw [hf] at h1; cases h1
  · exact hf h2

theorem getSB_good {l : List UInt8} {a : List ByteArray} (h : parse tkS 5 [] l = some (a, [])) (h1 : subsOkB a = true) (h2 : putB a = l) : getB l = some a := by
  rw [← getSB_eq]; unfold getSB; rw [h]; simp only
  rw [if_pos ⟨trivial, h1, h2⟩]

theorem mem_snoc_le {acc : List ByteArray} {r : ByteArray} (h : ∀ x ∈ acc, x.size ≤ 1048576) (hr : r.size ≤ 1048576) : ∀ x ∈ acc ++ [r], x.size ≤ 1048576 := by
  intro x hx
  rcases List.mem_append.1 hx with hx | hx
  · exact h x hx
  · rw [List.mem_singleton] at hx; subst hx; exact hr

set_option maxHeartbeats 2000000 in
set_option maxRecDepth 8000 in
theorem GetSubs_any (s : ByteArray) (w : World) (hT : T10 w) (hml : ML w) (hs : s.size ≤ 1048576) :
    Calls Tryz.prog 183 #[.string s] w fun e w' => GotSubs s.data.toList w.heap.size e w' ∧ Below w.heap.size w w' := by
  have HT := Lib.hid hT; have HM := Lib.hid hml; clear hT hml
  go_enter Tryz.func183, Tryz.ntmps183
  go_wp2_with fail
  go_loopw [4, 5] (fun v r wr => ∃ (acc : List ByteArray) (n : Nat) (R : ByteArray), acc.length ≤ 5 ∧ Hid (acc.length + n = 5) ∧ r = .string R ∧ R.size ≤ s.size ∧ Hid (Strs wr w.heap.size v acc) ∧ Hid (∀ x ∈ acc, x.size ≤ 1048576) ∧ Hid (parse tkI 5 [] s.data.toList = parse tkI n acc R.data.toList) ∧ Below w.heap.size w wr) (fun _ r _ => szV r)
  case atStart => exact ⟨[], 5, s, by simp, rfl, rfl, Nat.le_refl _, World.ownsRow_lit w #[] 0 (Nat.le_refl _) (by unfold maxLen; omega) rfl, fun x hx => (by cases hx), rfl, (Below.refl _ _).alloc (Nat.le_refl _) _⟩
  case round =>
    obtain ⟨acc, n, R, hal, HAN, rfl, hR, HOW, HZ, HP, hbel⟩ := hrel
    have hbs := hbel.size
    obtain ⟨A, c, rfl, _, _⟩ := HOW.out.at_
    by_cases hgo : 1 ≤ R.size ∧ acc.length ≤ 4
    · obtain ⟨hR1, ha4⟩ := hgo
      obtain ⟨e1, e2, _, _⟩ | ⟨e1, e2, _, _⟩ := emptyForms R
      · have : 1 ≤ R.size := hR1
        rename_i h0
        have := of_decide_eq_true h0.out
        omega
      · obtain ⟨n, rfl⟩ : ∃ m, n = m + 1 := ⟨n - 1, by have := HAN.out; omega⟩
        have hlt0 : 0 < R.size := by omega
        have HS := Lib.hid (sfx_lt hlt0)
        have HNE := Lib.hid (cons_ne hR1)
        rcases eqForms (R[0].toNat : Int) 1 with ⟨f1, f2, f3⟩ | ⟨f1, f2, f3⟩
        · have HC : Hid (R[0] = 1) := by show R[0] = 1; exact UInt8.toNat_inj.1 (by have := f3.out; have e : (1 : UInt8).toNat = 1 := rfl; omega)
          have HL : Hid (R.data.toList = 1 :: sfx R 1) := by show _ = _; rw [← sfx_zero, HS.out, HC.out]
          have h1s : (1 : Int) ≤ R.size := by omega
          go_wp2_with fail
          refine (getNumber_any (R.extract 1 R.size) _ (HT.out.below hbel) (by rw [ByteArray.size_extract]; omega)).mono ?_
          rintro e w1 ⟨⟨r, t, b, rfl, hrd, hr64, htz⟩, b1⟩
          rw [ext1] at hrd
          rw [ByteArray.size_extract] at htz
          have HRD := Lib.hid hrd; clear hrd
          have HB1 := Lib.hid (hbel.trans (b1.mono hbs))
          have HO1 := Lib.hid (HOW.out.below b1)
          clear b1
          cases b
          · go_wp2_with fail
            go_ret2
            exact ⟨gotSubs_none (getB_none (by rw [HP.out]; exact parse_none HNE.out (by rw [HL.out]; exact tkI_one_no HRD.out))) (Strs.nil _ _), HB1.out⟩
          · go_wp2_with (at_builtin; refine wpList_append_str w1 rfl _ _ rfl w.heap.size _ acc r HO1.out rfl rfl (by omega) HB1.out.size ?_; intro v' w2 hb2 hg2 hbl2 _hv)
            refine ⟨⟨acc ++ [r], n, t, by simp; omega, by show _ = _; have := HAN.out; simp; omega, rfl, by omega, hb2, mem_snoc_le HZ.out (by omega), ?_, HB1.out.trans hbl2⟩, by simp [szV]; omega⟩
            show _ = _
            rw [HP.out, parse_some HNE.out (by rw [HL.out]; exact tkI_one HRD.out), ofL_of]
        · rcases eqForms (R[0].toNat : Int) 2 with ⟨g1, g2, g3⟩ | ⟨g1, g2, g3⟩
          · have HC : Hid (R[0] = 2) := by show R[0] = 2; exact UInt8.toNat_inj.1 (by have := g3.out; have e : (2 : UInt8).toNat = 2 := rfl; omega)
            have HL : Hid (R.data.toList = 2 :: sfx R 1) := by show _ = _; rw [← sfx_zero, HS.out, HC.out]
            have h1s : (1 : Int) ≤ R.size := by omega
            go_wp2_with fail
            refine (getString_any (R.extract 1 R.size) _ (by rw [ByteArray.size_extract]; omega)).mono ?_
            rintro e w1 ⟨⟨r, t, b, rfl, hrd⟩, b1⟩
            rw [ext1] at hrd
            have HRD := Lib.hid hrd; clear hrd
            have HB1 := Lib.hid (hbel.trans (b1.mono hbs))
            have HO1 := Lib.hid (HOW.out.below b1)
            clear b1
            cases b
            · have HN : Hid (decS (sfx R 1) = none) := by
                rcases HRD.out with ⟨h, _⟩ | ⟨_, h⟩
                · cases h
                · exact h
              go_wp2_with fail
              go_ret2
              exact ⟨gotSubs_none (getB_none (by rw [HP.out]; exact parse_none HNE.out (by rw [HL.out, tkI_two]; exact HN.out))) (Strs.nil _ _), HB1.out⟩
            · have HN : Hid (decS (sfx R 1) = some (r.data.toList, t.data.toList)) := by
                rcases HRD.out with ⟨_, h⟩ | ⟨h, _⟩
                · exact h
                · cases h
              have hle := decS_len (sfx R 1).length (sfx R 1) _ _ (Nat.le_refl _) HN.out
              rw [← ba_size, ← ba_size, show (sfx R 1).length = R.size - 1 by unfold sfx; rw [List.length_drop, ← ba_size]] at hle
              obtain ⟨hle1, hle2⟩ := hle
              go_wp2_with (at_builtin; refine wpList_append_str w1 rfl _ _ rfl w.heap.size _ acc r HO1.out rfl rfl (by omega) HB1.out.size ?_; intro v' w2 hb2 hg2 hbl2 _hv)
              refine ⟨⟨acc ++ [r], n, t, by simp; omega, by show _ = _; have := HAN.out; simp; omega, rfl, by omega, hb2, mem_snoc_le HZ.out (by omega), ?_, HB1.out.trans hbl2⟩, by simp [szV]; omega⟩
              show _ = _
              rw [HP.out, parse_some HNE.out (by rw [HL.out, tkI_two]; exact HN.out), ofL_of]
          · have N1 : Hid (¬ R[0] = 1) := fun h => f3.out (by rw [h]; rfl)
            have N2 : Hid (¬ R[0] = 2) := fun h => g3.out (by rw [h]; rfl)
            have HL : Hid (R.data.toList = R[0] :: sfx R 1) := by show _ = _; rw [← sfx_zero, HS.out]
            go_wp2_with fail
            go_ret2
            exact ⟨gotSubs_none (getB_none (by rw [HP.out]; exact parse_none HNE.out (by rw [HL.out]; exact tkI_other N1.out N2.out))) (Strs.nil _ _), hbel⟩
    · have HPP : Hid (parse tkI 5 [] s.data.toList = some (acc, R.data.toList)) := by
        show _ = _
        rw [HP.out]
        by_cases h0 : R.size = 0
        · rw [show R.data.toList = [] from List.eq_nil_of_length_eq_zero (by rw [← ba_size]; exact h0)]; exact parse_nil _ _ _
        · rw [show n = 0 by have := HAN.out; omega]; rfl
      have HSO := Lib.hid (SubsOk_any _ acc wr _ HOW.out.at_ (by omega) HZ.out)
      have HPS := Lib.hid (PutSubs_any _ acc wr (HT.out.below hbel) (HM.out.below hbel) HOW.out.at_ (by omega) HZ.out)
      have hgo2 : R.size = 0 ∨ (¬ R.size = 0 ∧ ¬ acc.length ≤ 4) := by omega
      have HLE : Hid (∀ x ∈ acc, x.size ≤ 1048576) := HZ
      clear hgo HZ HAN HP
      obtain ⟨S, hS⟩ : ∃ S : Bool, subsOkB acc = S := ⟨_, rfl⟩
      rw [hS] at HSO
      have HSS := Lib.hid hS; clear hS
      have key : ((R.toList.isEmpty = true ∧ (R.toList == []) = true) ∨ (R.toList.isEmpty = false ∧ (R.toList == []) = false ∧ ¬ acc.length ≤ 4)) := by
        rcases emptyForms R with ⟨e1, e2, e3, e4⟩ | ⟨e1, e2, e3, e4⟩
        · exact .inl ⟨e1, e2⟩
        · exact .inr ⟨e1, e2, by have := of_decide_eq_false e4.out; omega⟩
      clear hgo2
      cases S
      · rcases key with ⟨e1, e2⟩ | ⟨e1, e2, e3⟩
        all_goals
          go_wp2_with fail
          refine HSO.out.mono ?_
          rintro e w' ⟨rfl, rfl⟩
          go_wp2_with fail
          go_ret2
          exact ⟨gotSubs_none (getB_fail HPP.out (.inl HSS.out)) (Strs.nil _ _), hbel⟩
      · rcases key with ⟨e1, e2⟩ | ⟨e1, e2, e3⟩
        rotate_left
        · exact absurd (subsOk_len HSS.out).1 (by omega)
        go_wp2_with fail
        refine HSO.out.mono ?_
        rintro e w' ⟨rfl, rfl⟩
        go_wp2_with fail
        refine HPS.out.mono ?_
        rintro e w2 ⟨r, rfl, HR, b2⟩
        have HB2 := Lib.hid (hbel.trans (b2.mono hbs))
        have HO2 := Lib.hid (HOW.out.below b2)
        have HRR : Hid (r.data.toList = putB acc) := by show _ = _; rw [HR.out, putSubs_ok HSS.out]
        clear b2 HR
        by_cases hrs : r = s
        · subst hrs
          have q1 := str_eq r
          go_wp2_with fail
          go_ret2
          exact ⟨gotSubs_some (getB_good HPP.out HSS.out HRR.out.symm) HO2.out, HB2.out⟩
        · have q1 := str_ne hrs
          have HN := Lib.hid hrs; clear hrs
          go_wp2_with fail
          go_ret2
          exact ⟨gotSubs_none (getB_fail HPP.out (.inr (fun h => HN.out (ba_ext (HRR.out.trans h))))) (Strs.nil _ _), HB2.out⟩

set_option maxHeartbeats 2000000 in
set_option maxRecDepth 8000 in
theorem sGetSubs_any (s : ByteArray) (w : World) (hs : s.size ≤ 1048576) :
    Calls Tryz.prog 153 #[.string s] w fun e w' => GotSubs s.data.toList w.heap.size e w' ∧ Below w.heap.size w w' := by
  go_enter Tryz.func153, Tryz.ntmps153
  go_wp2_with fail
  go_loopw [4, 5] (fun v r wr => ∃ (acc : List ByteArray) (n : Nat) (R : ByteArray), acc.length ≤ 5 ∧ Hid (acc.length + n = 5) ∧ r = .string R ∧ R.size ≤ s.size ∧ Hid (Strs wr w.heap.size v acc) ∧ Hid (∀ x ∈ acc, x.size ≤ 1048576) ∧ Hid (parse tkS 5 [] s.data.toList = parse tkS n acc R.data.toList) ∧ Below w.heap.size w wr) (fun _ r _ => szV r)
  case atStart => exact ⟨[], 5, s, by simp, rfl, rfl, Nat.le_refl _, World.ownsRow_lit w #[] 0 (Nat.le_refl _) (by unfold maxLen; omega) rfl, fun x hx => (by cases hx), rfl, (Below.refl _ _).alloc (Nat.le_refl _) _⟩
  case round =>
    obtain ⟨acc, n, R, hal, HAN, rfl, hR, HOW, HZ, HP, hbel⟩ := hrel
    have hbs := hbel.size
    obtain ⟨A, c, rfl, _, _⟩ := HOW.out.at_
    by_cases hgo : 1 ≤ R.size ∧ acc.length ≤ 4
    · obtain ⟨hR1, ha4⟩ := hgo
      obtain ⟨e1, e2, _, h0⟩ | ⟨e1, e2, _, _⟩ := emptyForms R
      · have := of_decide_eq_true h0.out
        omega
      · obtain ⟨n, rfl⟩ : ∃ m, n = m + 1 := ⟨n - 1, by have := HAN.out; omega⟩
        have HNE := Lib.hid (cons_ne hR1)
        go_wp2_with fail
        refine (l02Take_any R _ (by omega) hR1).mono ?_
        rintro e w1 ⟨⟨r, t, b, rfl, hrd⟩, b1⟩
        have HRD := Lib.hid hrd; clear hrd
        have HB1 := Lib.hid (hbel.trans (b1.mono hbs))
        have HO1 := Lib.hid (HOW.out.below b1)
        clear b1
        cases b
        · have HN : Hid (tkS R.data.toList = none) := by
            rcases HRD.out with ⟨h, _⟩ | ⟨_, h⟩
            · cases h
            · exact h
          go_wp2_with fail
          go_ret2
          exact ⟨gotSubs_none (getSB_none (by rw [HP.out]; exact parse_none HNE.out HN.out)) (World.ownsRow_lit _ #[] 0 (HB1.out.size) (by unfold maxLen; omega) rfl), HB1.out.alloc HB1.out.size _⟩
        · have HN : Hid (tkS R.data.toList = some (r.data.toList, t.data.toList) ∧ r.size ≤ 1048576 ∧ t.size + 1 ≤ R.data.toList.length) := by
            rcases HRD.out with ⟨_, h⟩ | ⟨h, _⟩
            · exact h
            · cases h
          have hr6 := HN.out.2.1
          have ht6 := HN.out.2.2
          rw [← ba_size] at ht6
          go_wp2_with (at_builtin; refine wpList_append_str w1 rfl _ _ rfl w.heap.size _ acc r HO1.out rfl rfl (by omega) HB1.out.size ?_; intro v' w2 hb2 hg2 hbl2 _hv)
          refine ⟨⟨acc ++ [r], n, t, by simp; omega, by show _ = _; have := HAN.out; simp; omega, rfl, by omega, hb2, mem_snoc_le HZ.out (by omega), ?_, HB1.out.trans hbl2⟩, by simp [szV]; omega⟩
          show _ = _
          rw [HP.out, parse_some HNE.out HN.out.1, ofL_of]
    · have HPP : Hid (parse tkS 5 [] s.data.toList = some (acc, R.data.toList)) := by
        show _ = _
        rw [HP.out]
        by_cases h0 : R.size = 0
        · rw [show R.data.toList = [] from List.eq_nil_of_length_eq_zero (by rw [← ba_size]; exact h0)]; exact parse_nil _ _ _
        · rw [show n = 0 by have := HAN.out; omega]; rfl
      have HSO := Lib.hid (l02Subs_any _ acc wr _ HOW.out.at_ (by omega) HZ.out)
      obtain ⟨S, hS⟩ : ∃ S : Bool, subsOkB acc = S := ⟨_, rfl⟩
      rw [hS] at HSO
      have HSS := Lib.hid hS; clear hS
      rcases emptyForms R with ⟨e1, e2, e3, e4⟩ | ⟨e1, e2, e3, e4⟩
      · have HRE : Hid (R.data.toList = []) := by show _ = _; rw [e3.out]
        cases S
        · go_wp2_with fail
          refine HSO.out.mono ?_
          rintro e w' ⟨rfl, rfl⟩
          go_wp2_with fail
          go_ret2
          exact ⟨gotSubs_none (getSB_fail HPP.out (.inr (.inl HSS.out))) (World.ownsRow_lit _ #[] 0 hbs (by unfold maxLen; omega) rfl), hbel.alloc hbs _⟩
        · obtain ⟨h4, h24⟩ := subsOk_len HSS.out
          have HPS := Lib.hid (l02Put_any _ acc wr HOW.out.at_ h4 h24)
          clear h24
          go_wp2_with fail
          refine HSO.out.mono ?_
          rintro e w' ⟨rfl, rfl⟩
          go_wp2_with fail
          refine HPS.out.mono ?_
          rintro e w2 ⟨r, rfl, HR, b2⟩
          have HB2 := Lib.hid (hbel.trans (b2.mono hbs))
          have HO2 := Lib.hid (HOW.out.below b2)
          clear b2
          by_cases hrs : r = s
          · subst hrs
            have q1 := str_eq r
            go_wp2_with fail
            go_ret2
            exact ⟨gotSubs_some (getSB_good (by rw [HPP.out, HRE.out]) HSS.out HR.out.symm) HO2.out, HB2.out⟩
          · have q1 := str_ne hrs
            have HN := Lib.hid hrs; clear hrs
            go_wp2_with fail
            go_ret2
            exact ⟨gotSubs_none (getSB_fail HPP.out (.inr (.inr (fun h => HN.out (ba_ext (HR.out.trans h)))))) (World.ownsRow_lit _ #[] 0 (HB2.out.size) (by unfold maxLen; omega) rfl), HB2.out.alloc HB2.out.size _⟩
      · have h5 : ¬ acc.length ≤ 4 := by have := of_decide_eq_false e4.out; omega
        go_wp2_with fail
        go_ret2
        exact ⟨gotSubs_none (getSB_fail HPP.out (.inr (.inl (subsOkB_five (by omega))))) (World.ownsRow_lit _ #[] 0 hbs (by unfold maxLen; omega) rfl), hbel.alloc hbs _⟩

end Go.Proofs.YtjedmpkjopgklaaGreatDoor
