/- impl.quoted and spec.l04Quoted: each reads a quoted text; UnquoteText: the walk of the law. -/
import Derived.Test.YtdpcdedgpibdiaaBuilder
import Derived.Test.YtdpcdedgpibdiaaPref
namespace Go.Proofs.Ytdpcdedgpibdiaa
open Go.RowKit
set_option linter.unusedVariables false

/-- Behind the opening mark: the text, and how many bytes it takes with its closing mark. -/
def unq : List UInt8 → Option (List UInt8 × Nat)
  | [] => none
  | [c] => if c = 34 then some ([], 1) else none
  | c :: d :: r => if c = 34 then (if d = 34 then (unq r).map fun x => (34 :: x.1, x.2 + 2) else some ([], 1)) else (unq (d :: r)).map fun x => (c :: x.1, x.2 + 1)

def addq (L : List UInt8) (n : Nat) (x : Option (List UInt8 × Nat)) : Option (List UInt8 × Nat) := x.map fun y => (L ++ y.1, y.2 + n)

theorem addq_nil (x : Option (List UInt8 × Nat)) : addq [] 0 x = x := by cases x <;> simp [addq]

theorem addq_addq (L M : List UInt8) (n m : Nat) (x : Option (List UInt8 × Nat)) : addq L n (addq M m x) = addq (L ++ M) (m + n) x := by
  cases x <;> simp [addq]; omega

theorem unq_other {c : UInt8} {r : List UInt8} (h : c ≠ 34) : unq (c :: r) = addq [c] 1 (unq r) := by
  cases r with
  | nil => simp [unq, h, addq]
  | cons d r => rw [unq, if_neg h]; rfl

theorem unq_two (r : List UInt8) : unq (34 :: 34 :: r) = addq [34] 2 (unq r) := by
  rw [unq, if_pos rfl, if_pos rfl]; rfl

theorem unq_end1 : unq [34] = some ([], 1) := by simp [unq]

theorem unq_end {d : UInt8} {r : List UInt8} (h : d ≠ 34) : unq (34 :: d :: r) = some ([], 1) := by rw [unq, if_pos rfl, if_neg h]

theorem unq_bd : ∀ (n : Nat) (l : List UInt8), l.length ≤ n → ∀ x, unq l = some x → x.1.length < x.2 ∧ x.2 ≤ l.length
  | 0, l, hn, x, h => by
    have : l = [] := List.eq_nil_of_length_eq_zero (by omega)
    subst this; simp [unq] at h
  | n + 1, [], hn, x, h => by simp [unq] at h
  | n + 1, [c], hn, x, h => by
    unfold unq at h
    split at h
    · injection h with h; subst h; simp
    · cases h
  | n + 1, c :: d :: r, hn, x, h => by
    unfold unq at h
    split at h
    · split at h
      · cases hr : unq r with
        | none => rw [hr] at h; cases h
        | some y => rw [hr] at h; injection h with h; subst h; have := unq_bd n r (by simp at hn; omega) y hr; simp; omega
      · injection h with h; subst h; simp
    · cases hr : unq (d :: r) with
      | none => rw [hr] at h; cases h
      | some y => rw [hr] at h; injection h with h; subst h; have := unq_bd n (d :: r) (by simp at hn ⊢; omega) y hr; simp at this ⊢; omega

/-- The text that a reading gives; the empty one if there is none. -/
def qText (x : Option (List UInt8 × Nat)) : List UInt8 := (x.map (·.1)).getD []

def qLen (x : Option (List UInt8 × Nat)) (p : Nat) : Int := match x with | some y => ((y.2 + p : Nat) : Int) | none => 0

theorem qText_some (y : List UInt8 × Nat) : qText (some y) = y.1 := rfl

set_option maxHeartbeats 1000000 in
theorem quoted_any (s : ByteArray) (w : World) (hs : s.size ≤ 1048576) : Calls Try.prog 62 #[.string s] w fun e w' => (∃ r : ByteArray, e = .returned (.tuple #[.string r, .int .i64 (qLen (unq (sfx s 1)) 1)]) ∧ r.data.toList = qText (unq (sfx s 1))) ∧ Below w.heap.size w w' := by
  go_enter Try.func62, Try.ntmps62
  go_wp2
  go_loopw [5] (fun i wr => ∃ (k : Nat) (L : List UInt8), 1 ≤ k ∧ k ≤ s.size + 1 ∧ i = .int .i64 k ∧ L.length ≤ k ∧ Bld wr w.heap.size w.heap.size L ∧ Below w.heap.size w wr ∧ unq (sfx s 1) = addq L (k - 1) (unq (sfx s k))) (fun i _ => s.size + 1 - (intOf i).toNat)
  case atStart => exact ⟨1, [], Nat.le_refl _, by omega, rfl, by simp, Bld.new w, (Below.refl _ _).alloc (Nat.le_refl _) _, (addq_nil _).symm⟩
  case round =>
    obtain ⟨k, L, hk1, hk, rfl, hL, hbld, hbel, hinv⟩ := hrel
    have HI := Lib.hid hinv; clear hinv
    have hbs := hbel.size
    by_cases hlt : k < s.size
    · have HS := Lib.hid (sfx_lt hlt)
      rcases eqForms (s[k].toNat : Int) 34 with ⟨e1, e2, e3⟩ | ⟨e1, e2, e3⟩
      · have HC : Hid (s[k] = 34) := by show s[k] = 34; exact UInt8.toNat_inj.1 (by have := e3.out; have e : (34 : UInt8).toNat = 34 := rfl; omega)
        by_cases hlt2 : k + 1 < s.size
        · have HS2 := Lib.hid (sfx_lt hlt2)
          rcases eqForms (s[k + 1].toNat : Int) 34 with ⟨f1, f2, f3⟩ | ⟨f1, f2, f3⟩
          · have HC2 : Hid (s[k + 1] = 34) := by show s[k + 1] = 34; exact UInt8.toNat_inj.1 (by have := f3.out; have e : (34 : UInt8).toNat = 34 := rfl; omega)
            have HW := Lib.hid (WriteByte_any w.heap.size w.heap.size L 34 wr hbld (by omega) hbs)
            go_wp2_with (go_at_call 78; refine HW.out.mono ?_; rintro e w1 ⟨rfl, hb1, hl1⟩)
            refine ⟨⟨k + 2, L ++ [34], by omega, by omega, by go_num, by simp; omega, hb1, hbel.trans hl1, ?_⟩, by simp [intOf]; omega⟩
            rw [HI.out, HS.out, HC.out, HS2.out, HC2.out, unq_two, addq_addq]; congr 1; omega
          · have HC2 : Hid (s[k + 1] ≠ 34) := fun h => f3.out (by rw [h]; rfl)
            have HW := Lib.hid (BString_any w.heap.size w.heap.size L wr hbld hbs)
            have HV : Hid (unq (sfx s 1) = some (L, k)) := by
              show _ = _
              rw [HI.out, HS.out, HC.out, HS2.out, unq_end HC2.out]; simp [addq]; omega
            go_wp2_with (go_at_call 79; refine HW.out.mono ?_; rintro e w1 ⟨rfl, hl1⟩)
            go_ret2
            exact ⟨⟨⟨L.toArray⟩, by rw [HV.out]; rfl, by rw [HV.out]; rfl⟩, hbel.trans hl1⟩
        · have HW := Lib.hid (BString_any w.heap.size w.heap.size L wr hbld hbs)
          have HV : Hid (unq (sfx s 1) = some (L, k)) := by
            show _ = _
            rw [HI.out, HS.out, HC.out, sfx_ge (s := s) (k := k + 1) (by omega), unq_end1]; simp [addq]; omega
          go_wp2_with (go_at_call 79; refine HW.out.mono ?_; rintro e w1 ⟨rfl, hl1⟩)
          go_ret2
          exact ⟨⟨⟨L.toArray⟩, by rw [HV.out]; rfl, by rw [HV.out]; rfl⟩, hbel.trans hl1⟩
      · have HC : Hid (s[k] ≠ 34) := fun h => e3.out (by rw [h]; rfl)
        have HW := Lib.hid (WriteByte_any w.heap.size w.heap.size L s[k] wr hbld (by omega) hbs)
        go_wp2_with (go_at_call 78; refine HW.out.mono ?_; rintro e w1 ⟨rfl, hb1, hl1⟩)
        refine ⟨⟨k + 1, L ++ [s[k]], by omega, by omega, by go_num, by simp; omega, hb1, hbel.trans hl1, ?_⟩, by simp [intOf]; omega⟩
        rw [HI.out, HS.out, unq_other HC.out, addq_addq]; congr 1; omega
    · have HV : Hid (unq (sfx s 1) = none) := by
        show _ = _
        rw [HI.out, sfx_ge (s := s) (by omega)]; rfl
      go_wp2
      go_ret2
      exact ⟨⟨⟨#[]⟩, by rw [HV.out]; rfl, by rw [HV.out]; rfl⟩, hbel⟩

set_option maxHeartbeats 1000000 in
theorem l04Quoted_any (s : ByteArray) (p : Nat) (w : World) (hs : s.size ≤ 1048576) (hp : p ≤ 1048576) : Calls Try.prog 60 #[.string s, .int .i64 (p : Int)] w fun e w' => (∃ r : ByteArray, e = .returned (.tuple #[.string r, .int .i64 (qLen (unq (sfx s (p + 1))) (p + 1)), .bool (unq (sfx s (p + 1))).isSome]) ∧ r.data.toList = qText (unq (sfx s (p + 1)))) ∧ Below w.heap.size w w' := by
  go_enter Try.func60, Try.ntmps60
  go_wp2
  go_loopw [7, 8] (fun v i wr => ∃ (k : Nat) (L : List UInt8), p + 1 ≤ k ∧ k ≤ s.size + p + 1 ∧ i = .int .i64 k ∧ L.length ≤ k ∧ Bytes wr w.heap.size v L ∧ Below w.heap.size w wr ∧ unq (sfx s (p + 1)) = addq L (k - (p + 1)) (unq (sfx s k))) (fun _ i _ => s.size + p + 1 - (intOf i).toNat)
  case atStart => exact ⟨p + 1, [], Nat.le_refl _, by omega, rfl, by simp, Bytes.empty w _ (Nat.le_refl _), (Below.refl _ _).alloc (Nat.le_refl _) _, by rw [Nat.sub_self]; exact (addq_nil _).symm⟩
  case round =>
    obtain ⟨k, L, hk1, hk, rfl, hL, hown, hbel, hinv⟩ := hrel
    have HI := Lib.hid hinv; clear hinv
    have hbs := hbel.size
    by_cases hlt : k < s.size
    · have HS := Lib.hid (sfx_lt hlt)
      rcases eqForms (s[k].toNat : Int) 34 with ⟨e1, e2, e3⟩ | ⟨e1, e2, e3⟩
      · have HC : Hid (s[k] = 34) := by show s[k] = 34; exact UInt8.toNat_inj.1 (by have := e3.out; have e : (34 : UInt8).toNat = 34 := rfl; omega)
        by_cases hlt2 : k + 1 < s.size
        · have HS2 := Lib.hid (sfx_lt hlt2)
          rcases eqForms (s[k + 1].toNat : Int) 34 with ⟨f1, f2, f3⟩ | ⟨f1, f2, f3⟩
          · have HC2 : Hid (s[k + 1] = 34) := by show s[k + 1] = 34; exact UInt8.toNat_inj.1 (by have := f3.out; have e : (34 : UInt8).toNat = 34 := rfl; omega)
            go_wp2_with (first | (at_builtin; refine wpList_append_byte wr rfl _ _ rfl w.heap.size _ L 34 hown rfl rfl (by omega) hbs ?_; intro v' w1 hb1 hg1 hbl1 _hv))
            refine ⟨⟨k + 2, L ++ [34], by omega, by omega, by go_num, by simp; omega, hb1, hbel.trans hbl1, ?_⟩, by simp [intOf]; omega⟩
            rw [HI.out, HS.out, HC.out, HS2.out, HC2.out, unq_two, addq_addq]; congr 1; omega
          · have HC2 : Hid (s[k + 1] ≠ 34) := fun h => f3.out (by rw [h]; rfl)
            have hcv := run_string_of_own hown
            have HV : Hid (unq (sfx s (p + 1)) = some (L, k - p)) := by
              show _ = _
              rw [HI.out, HS.out, HC.out, HS2.out, unq_end HC2.out]; simp [addq]; omega
            go_wp2
            go_ret3
            exact ⟨⟨⟨L.toArray⟩, by rw [HV.out]; simp [qLen]; omega, by rw [HV.out]; rfl⟩, hbel⟩
        · have hcv := run_string_of_own hown
          have HV : Hid (unq (sfx s (p + 1)) = some (L, k - p)) := by
            show _ = _
            rw [HI.out, HS.out, HC.out, sfx_ge (s := s) (k := k + 1) (by omega), unq_end1]; simp [addq]; omega
          go_wp2
          go_ret3
          exact ⟨⟨⟨L.toArray⟩, by rw [HV.out]; simp [qLen]; omega, by rw [HV.out]; rfl⟩, hbel⟩
      · have HC : Hid (s[k] ≠ 34) := fun h => e3.out (by rw [h]; rfl)
        go_wp2_with (first | (at_builtin; refine wpList_append_byte wr rfl _ _ rfl w.heap.size _ L s[k] hown rfl rfl (by omega) hbs ?_; intro v' w1 hb1 hg1 hbl1 _hv))
        refine ⟨⟨k + 1, L ++ [s[k]], by omega, by omega, by go_num, by simp; omega, hb1, hbel.trans hbl1, ?_⟩, by simp [intOf]; omega⟩
        rw [HI.out, HS.out, unq_other HC.out, addq_addq]; congr 1; omega
    · have HV : Hid (unq (sfx s (p + 1)) = none) := by
        show _ = _
        rw [HI.out, sfx_ge (s := s) (by omega)]; rfl
      go_wp2
      go_ret3
      exact ⟨⟨⟨#[]⟩, by rw [HV.out]; rfl, by rw [HV.out]; rfl⟩, hbel⟩

/-- What UnquoteText returns: the text and a code. -/
def unquote (s : ByteArray) : List UInt8 × Int :=
  if (sfx s 0).head? = some 34 ∧ qLen (unq (sfx s 1)) 1 = s.size ∧ (unq (sfx s 1)).isSome then (qText (unq (sfx s 1)), 0) else ([], 6)

theorem qLen_none_ne {s : ByteArray} (h : 0 < s.size) (hn : unq (sfx s 1) = none) : ¬ qLen (unq (sfx s 1)) 1 = s.size := by rw [hn]; simp [qLen]; omega

theorem UnquoteText_any (s : ByteArray) (w : World) (hs : s.size ≤ 1048576) : Calls Try.prog 35 #[.string s] w fun e w' => (∃ r : ByteArray, e = .returned (.tuple #[.string r, .int .i64 (unquote s).2]) ∧ r.data.toList = (unquote s).1) ∧ Below w.heap.size w w' := by
  cases hp : (sfx ⟨#[34]⟩ 0).isPrefixOf (sfx s 0)
  · have HV : Hid (unquote s = ([], 6)) := by
      show _ = _
      unfold unquote
      rw [if_neg]
      rintro ⟨h, _⟩
      cases hl : sfx s 0 with
      | nil => rw [hl] at h; simp at h
      | cons c r => rw [hl] at h hp; simp at h; subst h; simp [sfx] at hp
    have HP := Lib.hid (HasPrefix_any s ⟨#[34]⟩ w hs (by decide))
    rw [hp] at HP
    clear hp
    go_enter Try.func35, Try.ntmps35
    go_wp2_with (go_at_call 61; refine HP.out.mono ?_; rintro e w1 ⟨rfl, rfl⟩)
    go_ret2
    exact ⟨⟨⟨#[]⟩, by rw [HV.out]; rfl, by rw [HV.out]⟩, below_refl _⟩
  · have hh : (sfx s 0).head? = some 34 ∧ 0 < s.size := by
      cases hl : sfx s 0 with
      | nil => rw [hl] at hp; simp [sfx] at hp
      | cons c r =>
        rw [hl] at hp
        have hc : (34 : UInt8) = c := by simpa [sfx] using hp
        refine ⟨by rw [← hc]; rfl, ?_⟩
        rcases Nat.eq_zero_or_pos s.size with h0 | h0
        · rw [sfx_ge (by omega)] at hl; cases hl
        · exact h0
    obtain ⟨hh, hpos⟩ := hh
    have HP := Lib.hid (HasPrefix_any s ⟨#[34]⟩ w hs (by decide))
    rw [hp] at HP
    have HQ := Lib.hid (quoted_any s w hs)
    have HN := Lib.hid (@qLen_none_ne s hpos)
    have HH := Lib.hid hh
    clear hp hh
    rcases eqForms (qLen (unq (sfx s 1)) 1) s.size with ⟨e1, e2, e3⟩ | ⟨e1, e2, e3⟩
    · have HV : Hid (unquote s = (qText (unq (sfx s 1)), 0)) := by
        show _ = _
        unfold unquote
        rw [if_pos]
        refine ⟨HH.out, e3.out, ?_⟩
        cases hu : unq (sfx s 1) with
        | none => exact absurd e3.out (HN.out hu)
        | some y => rfl
      generalize qLen (unq (sfx s 1)) 1 = z at *
      go_enter Try.func35, Try.ntmps35
      go_wp2_with (first | (go_at_call 61; refine HP.out.mono ?_; rintro e w1 ⟨rfl, rfl⟩) | (go_at_call 62; refine HQ.out.mono ?_; rintro e w1 ⟨⟨r, rfl, hr⟩, hl1⟩; have HR := Lib.hid hr; clear hr))
      go_ret2
      exact ⟨⟨r, by rw [HV.out]; rfl, by rw [HV.out]; exact HR.out⟩, hl1⟩
    · have HV : Hid (unquote s = ([], 6)) := by
        show _ = _
        unfold unquote
        rw [if_neg]
        exact fun h => e3.out h.2.1
      generalize qLen (unq (sfx s 1)) 1 = z at *
      go_enter Try.func35, Try.ntmps35
      go_wp2_with (first | (go_at_call 61; refine HP.out.mono ?_; rintro e w1 ⟨rfl, rfl⟩) | (go_at_call 62; refine HQ.out.mono ?_; rintro e w1 ⟨⟨r, rfl, hr⟩, hl1⟩; have HR := Lib.hid hr; clear hr))
      go_ret2
      exact ⟨⟨⟨#[]⟩, by rw [HV.out]; rfl, by rw [HV.out]⟩, hl1⟩

theorem sUnquoteText_any (s : ByteArray) (w : World) (hs : s.size ≤ 1048576) : Calls Try.prog 34 #[.string s] w fun e w' => (∃ r : ByteArray, e = .returned (.tuple #[.string r, .int .i64 (unquote s).2]) ∧ r.data.toList = (unquote s).1) ∧ Below w.heap.size w w' := by
  by_cases h0 : s.size = 0
  · have hs0 : s = ⟨#[]⟩ := ba_ext (by have := sfx_ge (s := s) (k := 0) (by omega); exact this)
    subst hs0
    go_enter Try.func34, Try.ntmps34
    go_wp2
    go_ret2
    exact ⟨⟨⟨#[]⟩, rfl, rfl⟩, below_refl _⟩
  · have hpos : 0 < s.size := by omega
    obtain ⟨hne2, HE⟩ : (s.toList == []) = false ∧ Hid (s.data.toList ≠ []) := by
      rcases strCase s [] with rfl | h
      · exact absurd rfl h0
      · exact h
    have hne : s.toList.isEmpty = false := by rw [ba_toList]; exact List.isEmpty_eq_false_iff.2 HE.out
    have HS := Lib.hid (sfx_lt hpos)
    have HQ := Lib.hid (l04Quoted_any s 0 w hs (by omega))
    have HN := Lib.hid (@qLen_none_ne s hpos)
    rcases eqForms (s[0].toNat : Int) 34 with ⟨e1, e2, e3⟩ | ⟨e1, e2, e3⟩
    · have HC : Hid (s[0] = 34) := by show s[0] = 34; exact UInt8.toNat_inj.1 (by have := e3.out; have e : (34 : UInt8).toNat = 34 := rfl; omega)
      have HH : Hid ((sfx s 0).head? = some 34) := by show _ = _; rw [HS.out, HC.out]; rfl
      simp only [Nat.zero_add] at HQ
      rcases eqForms (qLen (unq (sfx s 1)) 1) s.size with ⟨f1, f2, f3⟩ | ⟨f1, f2, f3⟩
      · have HI : (unq (sfx s 1)).isSome = true := by
          cases hu : unq (sfx s 1) with
          | none => exact absurd f3.out (HN.out hu)
          | some y => rfl
        have HV : Hid (unquote s = (qText (unq (sfx s 1)), 0)) := by
          show _ = _
          unfold unquote
          rw [if_pos ⟨HH.out, f3.out, HI⟩]
        rw [HI] at HQ
        clear HI
        generalize qLen (unq (sfx s 1)) 1 = z at *
        go_enter Try.func34, Try.ntmps34
        go_wp2_with fail
        refine HQ.out.mono ?_
        rintro e w1 ⟨⟨r, rfl, hr⟩, hl1⟩
        have HR := Lib.hid hr; clear hr
        go_wp2_with fail
        go_ret2
        exact ⟨⟨r, by rw [HV.out]; rfl, by rw [HV.out]; exact HR.out⟩, hl1⟩
      · have HV : Hid (unquote s = ([], 6)) := by
          show _ = _
          unfold unquote
          rw [if_neg]
          exact fun h => f3.out h.2.1
        generalize qLen (unq (sfx s 1)) 1 = z at *
        cases hi : (unq (sfx s 1)).isSome
        all_goals
          rw [hi] at HQ
          clear hi
          go_enter Try.func34, Try.ntmps34
          go_wp2_with fail
          refine HQ.out.mono ?_
          rintro e w1 ⟨⟨r, rfl, hr⟩, hl1⟩
          clear hr
          go_wp2_with fail
          go_ret2
          exact ⟨⟨⟨#[]⟩, by rw [HV.out]; rfl, by rw [HV.out]⟩, hl1⟩
    · have HV : Hid (unquote s = ([], 6)) := by
        show _ = _
        unfold unquote
        rw [if_neg]
        rintro ⟨h, _⟩
        rw [HS.out] at h
        simp at h
        exact e3.out (by rw [h]; rfl)
      go_enter Try.func34, Try.ntmps34
      go_wp2_with fail
      go_ret2
      exact ⟨⟨⟨#[]⟩, by rw [HV.out]; rfl, by rw [HV.out]⟩, below_refl _⟩

theorem UnquoteText_walk (s : ByteArray) (hs : s.size ≤ maxLen) (w : World) : Calls Try.prog 11 #[.string s] w fun e w' => e = .returned (.bool true) ∧ Below w.heap.size w w' := by
  unfold maxLen at hs
  by_cases h : s.size ≤ 1048576
  · go_enter Try.func11, Try.ntmps11
    go_wp2_with fail
    refine (sUnquoteText_any s _ h).mono ?_
    rintro e w1 ⟨⟨r1, rfl, hr1⟩, hb1⟩
    have H1 := Lib.hid hr1; clear hr1
    go_wp2_with fail
    refine (UnquoteText_any s _ h).mono ?_
    rintro e w2 ⟨⟨r2, rfl, hr2⟩, hb2⟩
    obtain rfl : r1 = r2 := ba_ext (H1.out.trans hr2.symm)
    clear hr2
    go_wp2_with fail
    go_ret
    exact ⟨rfl, below_trans hb1 hb2⟩
  · go_enter Try.func11, Try.ntmps11
    go_wp2_with fail
    go_ret
    exact ⟨rfl, below_refl _⟩

end Go.Proofs.Ytdpcdedgpibdiaa
