/- impl.quoted and spec.l04Quoted: each reads a quoted text; UnquoteText: the walk of the law. -/
import Derived.Test.YtkoagpeeohmokaaDoorBuilder
import Derived.Test.YtkoagpeeohmokaaDoorPref
namespace Go.Proofs.YtkoagpeeohmokaaDoor
open Go.RowKit
set_option linter.unusedVariables false

/-- Behind the opening mark: the text, and how many bytes it takes with its closing mark. -/
def unq : List UInt8 → Option (List UInt8 × Nat)
  | [] => none
  | [c] => if c = 34 then some ([], 1) else none
  | c :: d :: r => if c = 34 then (if d = 34 then (unq r).map fun x => (34 :: x.1, x.2 + 2) else some ([], 1)) else (unq (d :: r)).map fun x => (c :: x.1, x.2 + 1)

def addq (L : List UInt8) (n : Nat) (x : Option (List UInt8 × Nat)) : Option (List UInt8 × Nat) := x.map fun y => (L ++ y.1, y.2 + n)

theorem addq_nil (x : Option (List UInt8 × Nat)) : addq [] 0 x = x := by cases x <;> simp [addq]

theorem addq_addq (L M : List UInt8) (n m : Nat) (x : Option (List UInt8 × Nat)) : addq L n (addq M m x) = addq (L ++ M) (m + n) x := by
  cases x <;> simp [addq]; omega

theorem unq_other {c : UInt8} {r : List UInt8} (h : c ≠ 34) : unq (c :: r) = addq [c] 1 (unq r) := by
  cases r with
  | nil => simp [unq, h, addq]
  | cons d r => rw [unq, if_neg h]; rfl

theorem unq_two (r : List UInt8) : unq (34 :: 34 :: r) = addq [34] 2 (unq r) := by
  rw [unq, if_pos rfl, if_pos rfl]; rfl

theorem unq_end1 : unq [34] = some ([], 1) := by simp [unq]

theorem unq_end {d : UInt8} {r : List UInt8} (h : d ≠ 34) : unq (34 :: d :: r) = some ([], 1) := by rw [unq, if_pos rfl, if_neg h]

theorem unq_bd : ∀ (n : Nat) (l : List UInt8), l.length ≤ n → ∀ x, unq l = some x → x.1.length < x.2 ∧ x.2 ≤ l.length
  | 0, l, hn, x, h => by
    have : l = [] := List.eq_nil_of_length_eq_zero (by omega)
    subst this; simp [unq] at h
  | n + 1, [], hn, x, h => by simp [unq] at h
  | n + 1, [c], hn, x, h => by
    unfold unq at h
    split at h
    · injection h with h; subst h; simp
    · cases h
  | n + 1, c :: d :: r, hn, x, h => by
    unfold unq at h
    split at h
    · split at h
      · cases hr : unq r with
        | none => rw [hr] at h; cases h
        | some y => rw [hr] at h; injection h with h; subst h; have := unq_bd n r (by simp at hn; omega) y hr; simp; omega
      · injection h with h; subst h; simp
    · cases hr : unq (d :: r) with
      | none => rw [hr] at h; cases h
      | some y => rw [hr] at h; injection h with h; subst h; have := unq_bd n (d :: r) (by simp at hn ⊢; omega) y hr; simp at this ⊢; omega

/-- The text that a reading gives; the empty one if there is none. -/
def qText (x : Option (List UInt8 × Nat)) : List UInt8 := (x.map (·.1)).getD []

def qLen (x : Option (List UInt8 × Nat)) (p : Nat) : Int := match x with | some y => ((y.2 + p : Nat) : Int) | none => 0

theorem qText_some (y : List UInt8 × Nat) : qText (some y) = y.1 := rfl

set_option maxRecDepth 20000 in
set_option maxHeartbeats 1000000 in
theorem quoted_any (s : ByteArray) (w : World) (hs : s.size ≤ 1048576) : Calls Tryd.prog 41 #[.string s] w fun e w' => (∃ r : ByteArray, e = .returned (.tuple #[.string r, .int .i64 (qLen (unq (sfx s 1)) 1)]) ∧ r.data.toList = qText (unq (sfx s 1))) ∧ Below w.heap.size w w' := by
  go_enter Tryd.func41, Tryd.ntmps41
  go_wp2
  go_loopw [5] (fun i wr => ∃ (k : Nat) (L : List UInt8), 1 ≤ k ∧ k ≤ s.size + 1 ∧ i = .int .i64 k ∧ L.length ≤ k ∧ Bld wr w.heap.size w.heap.size L ∧ Below w.heap.size w wr ∧ unq (sfx s 1) = addq L (k - 1) (unq (sfx s k))) (fun i _ => s.size + 1 - (intOf i).toNat)
  case atStart => exact ⟨1, [], Nat.le_refl _, by omega, rfl, by simp, Bld.new w, (Below.refl _ _).alloc (Nat.le_refl _) _, (addq_nil _).symm⟩
  case round =>
    obtain ⟨k, L, hk1, hk, rfl, hL, hbld, hbel, hinv⟩ := hrel
    have HI := Lib.hid hinv; clear hinv
    have hbs := hbel.size
    by_cases hlt : k < s.size
    · have HS := Lib.hid (sfx_lt hlt)
      rcases eqForms (s[k].toNat : Int) 34 with ⟨e1, e2, e3⟩ | ⟨e1, e2, e3⟩
      · have HC : Hid (s[k] = 34) := by show s[k] = 34; exact UInt8.toNat_inj.1 (by have := e3.out; have e : (34 : UInt8).toNat = 34 := rfl; omega)
        by_cases hlt2 : k + 1 < s.size
        · have HS2 := Lib.hid (sfx_lt hlt2)
          rcases eqForms (s[k + 1].toNat : Int) 34 with ⟨f1, f2, f3⟩ | ⟨f1, f2, f3⟩
          · have HC2 : Hid (s[k + 1] = 34) := by show s[k + 1] = 34; exact UInt8.toNat_inj.1 (by have := f3.out; have e : (34 : UInt8).toNat = 34 := rfl; omega)
            have HW := Lib.hid (WriteByte_any w.heap.size w.heap.size L 34 wr hbld (by omega) hbs)
            go_wp2_with (go_at_call 75; refine HW.out.mono ?_; rintro e w1 ⟨rfl, hb1, hl1⟩)
            refine ⟨⟨k + 2, L ++ [34], by omega, by omega, by go_num, by simp; omega, hb1, hbel.trans hl1, ?_⟩, by simp [intOf]; omega⟩
            rw [HI.out, HS.out, HC.out, HS2.out, HC2.out, unq_two, addq_addq]; congr 1; omega
          · have HC2 : Hid (s[k + 1] ≠ 34) := fun h => f3.out (by rw [h]; rfl)
            have HW := Lib.hid (BString_any w.heap.size w.heap.size L wr hbld hbs)
            have HV : Hid (unq (sfx s 1) = some (L, k)) := by
              show _ = _
              rw [HI.out, HS.out, HC.out, HS2.out, unq_end HC2.out]; simp [addq]; omega
            go_wp2_with (go_at_call 58; refine HW.out.mono ?_; rintro e w1 ⟨rfl, hl1⟩)
            go_ret2
            exact ⟨⟨⟨L.toArray⟩, by rw [HV.out]; rfl, by rw [HV.out]; rfl⟩, hbel.trans hl1⟩
        · have HW := Lib.hid (BString_any w.heap.size w.heap.size L wr hbld hbs)
          have HV : Hid (unq (sfx s 1) = some (L, k)) := by
            show _ = _
            rw [HI.out, HS.out, HC.out, sfx_ge (s := s) (k := k + 1) (by omega), unq_end1]; simp [addq]; omega
          go_wp2_with (go_at_call 58; refine HW.out.mono ?_; rintro e w1 ⟨rfl, hl1⟩)
          go_ret2
          exact ⟨⟨⟨L.toArray⟩, by rw [HV.out]; rfl, by rw [HV.out]; rfl⟩, hbel.trans hl1⟩
      · have HC : Hid (s[k] ≠ 34) := fun h => e3.out (by rw [h]; rfl)
        have HW := Lib.hid (WriteByte_any w.heap.size w.heap.size L s[k] wr hbld (by omega) hbs)
        go_wp2_with (go_at_call 75; refine HW.out.mono ?_; rintro e w1 ⟨rfl, hb1, hl1⟩)
        refine ⟨⟨k + 1, L ++ [s[k]], by omega, by omega, by go_num, by simp; omega, hb1, hbel.trans hl1, ?_⟩, by simp [intOf]; omega⟩
        rw [HI.out, HS.out, unq_other HC.out, addq_addq]; congr 1; omega
    · have HV : Hid (unq (sfx s 1) = none) := by
        show _ = _
        rw [HI.out, sfx_ge (s := s) (by omega)]; rfl
      go_wp2
      go_ret2
      exact ⟨⟨⟨#[]⟩, by rw [HV.out]; rfl, by rw [HV.out]; rfl⟩, hbel⟩

set_option maxRecDepth 20000 in
set_option maxHeartbeats 1000000 in
theorem l04Quoted_any (s : ByteArray) (p : Nat) (w : World) (hs : s.size ≤ 1048576) (hp : p ≤ 1048576) : Calls Tryd.prog 35 #[.string s, .int .i64 (p : Int)] w fun e w' => (∃ r : ByteArray, e = .returned (.tuple #[.string r, .int .i64 (qLen (unq (sfx s (p + 1))) (p + 1)), .bool (unq (sfx s (p + 1))).isSome]) ∧ r.data.toList = qText (unq (sfx s (p + 1)))) ∧ Below w.heap.size w w' := by
  go_enter Tryd.func35, Tryd.ntmps35
  go_wp2
  go_loopw [7, 8] (fun v i wr => ∃ (k : Nat) (L : List UInt8), p + 1 ≤ k ∧ k ≤ s.size + p + 1 ∧ i = .int .i64 k ∧ L.length ≤ k ∧ Bytes wr w.heap.size v L ∧ Below w.heap.size w wr ∧ unq (sfx s (p + 1)) = addq L (k - (p + 1)) (unq (sfx s k))) (fun _ i _ => s.size + p + 1 - (intOf i).toNat)
  case atStart => exact ⟨p + 1, [], Nat.le_refl _, by omega, rfl, by simp, Bytes.empty w _ (Nat.le_refl _), (Below.refl _ _).alloc (Nat.le_refl _) _, by rw [Nat.sub_self]; exact (addq_nil _).symm⟩
  case round =>
    obtain ⟨k, L, hk1, hk, rfl, hL, hown, hbel, hinv⟩ := hrel
    have HI := Lib.hid hinv; clear hinv
    have hbs := hbel.size
    by_cases hlt : k < s.size
    · have HS := Lib.hid (sfx_lt hlt)
      rcases eqForms (s[k].toNat : Int) 34 with ⟨e1, e2, e3⟩ | ⟨e1, e2, e3⟩
      · have HC : Hid (s[k] = 34) := by show s[k] = 34; exact UInt8.toNat_inj.1 (by have := e3.out; have e : (34 : UInt8).toNat = 34 := rfl; omega)
        by_cases hlt2 : k + 1 < s.size
        · have HS2 := Lib.hid (sfx_lt hlt2)
          rcases eqForms (s[k + 1].toNat : Int) 34 with ⟨f1, f2, f3⟩ | ⟨f1, f2, f3⟩
          · have HC2 : Hid (s[k + 1] = 34) := by show s[k + 1] = 34; exact UInt8.toNat_inj.1 (by have := f3.out; have e : (34 : UInt8).toNat = 34 := rfl; omega)
            go_wp2_with (first | (at_builtin; refine wpList_append_byte wr rfl _ _ rfl w.heap.size _ L 34 hown rfl rfl (by omega) hbs ?_; intro v' w1 hb1 hg1 hbl1 _hv))
            refine ⟨⟨k + 2, L ++ [34], by omega, by omega, by go_num, by simp; omega, hb1, hbel.trans hbl1, ?_⟩, by simp [intOf]; omega⟩
            rw [HI.out, HS.out, HC.out, HS2.out, HC2.out, unq_two, addq_addq]; congr 1; omega
          · have HC2 : Hid (s[k + 1] ≠ 34) := fun h => f3.out (by rw [h]; rfl)
            have hcv := run_string_of_own hown
            have HV : Hid (unq (sfx s (p + 1)) = some (L, k - p)) := by
              show _ = _
              rw [HI.out, HS.out, HC.out, HS2.out, unq_end HC2.out]; simp [addq]; omega
            go_wp2
            go_ret3
            exact ⟨⟨⟨L.toArray⟩, by rw [HV.out]; simp [qLen]; omega, by rw [HV.out]; rfl⟩, hbel⟩
        · have hcv := run_string_of_own hown
          have HV : Hid (unq (sfx s (p + 1)) = some (L, k - p)) := by
            show _ = _
            rw [HI.out, HS.out, HC.out, sfx_ge (s := s) (k := k + 1) (by omega), unq_end1]; simp [addq]; omega
          go_wp2
          go_ret3
          exact ⟨⟨⟨L.toArray⟩, by rw [HV.out]; simp [qLen]; omega, by rw [HV.out]; rfl⟩, hbel⟩
      · have HC : Hid (s[k] ≠ 34) := fun h => e3.out (by rw [h]; rfl)
        go_wp2_with (first | (at_builtin; refine wpList_append_byte wr rfl _ _ rfl w.heap.size _ L s[k] hown rfl rfl (by omega) hbs ?_; intro v' w1 hb1 hg1 hbl1 _hv))
        refine ⟨⟨k + 1, L ++ [s[k]], by omega, by omega, by go_num, by simp; omega, hb1, hbel.trans hbl1, ?_⟩, by simp [intOf]; omega⟩
        rw [HI.out, HS.out, unq_other HC.out, addq_addq]; congr 1; omega
    · have HV : Hid (unq (sfx s (p + 1)) = none) := by
        show _ = _
        rw [HI.out, sfx_ge (s := s) (by omega)]; rfl
      go_wp2
      go_ret3
      exact ⟨⟨⟨#[]⟩, by rw [HV.out]; rfl, by rw [HV.out]; rfl⟩, hbel⟩

/-- What UnquoteText returns: the text and a code. -/
def unquote (s : ByteArray) : List UInt8 × Int :=
  if (sfx s 0).head? = some 34 ∧ qLen (unq (sfx s 1)) 1 = s.size ∧ (unq (sfx s 1)).isSome then (qText (unq (sfx s 1)), 0) else ([], 6)

theorem qLen_none_ne {s : ByteArray} (h : 0 < s.size) (hn : unq (sfx s 1) = none) : ¬ qLen (unq (sfx s 1)) 1 = s.size := by rw [hn]; simp [qLen]; omega

end Go.Proofs.YtkoagpeeohmokaaDoor
