/- strings.ReplaceAll of one byte, in plain words; QuoteText: both sides and the walk of the law. -/
import Derived.Test.YtcjlokojppicnaaDoorBytes
import Derived.Test.YtcjlokojppicnaaDoorShelf
import Derived.Test.YtcjlokojppicnaaDoorGlob
import Derived.Lib.Replace
import Derived.Lib.CountLaws
import Derived.Lib.ReplaceLaws
import Derived.Lib.IndexLaws
import Derived.Lib.IndexBytes
namespace Go.Proofs.YtcjlokojppicnaaDoor
open Go.RowKit
set_option linter.unusedVariables false

def repl (c : UInt8) (new : List UInt8) (l : List UInt8) : List UInt8 := l.flatMap fun x => if x = c then new else [x]

theorem repl_nil (c : UInt8) (new : List UInt8) : repl c new [] = [] := rfl

theorem repl_cons (c : UInt8) (new : List UInt8) (x : UInt8) (r : List UInt8) : repl c new (x :: r) = (if x = c then new else [x]) ++ repl c new r := by simp [repl]

theorem repl_append (c : UInt8) (new : List UInt8) (a b : List UInt8) : repl c new (a ++ b) = repl c new a ++ repl c new b := by simp [repl]

theorem repl_no (c : UInt8) (new : List UInt8) : ∀ (l : List UInt8), (∀ k : Nat, l[k]? ≠ some c) → repl c new l = l
  | [], _ => rfl
  | x :: r, h => by
    rw [repl_cons, repl_no c new r (fun k => by have := h (k + 1); simpa using this), if_neg (fun e => h 0 (by simp [e]))]
    rfl

theorem repl_length (c : UInt8) (new : List UInt8) : ∀ (l : List UInt8), (repl c new l).length ≤ l.length * (new.length + 1)
  | [] => by simp [repl_nil]
  | x :: r => by
    have := repl_length c new r
    rw [repl_cons, List.length_append, List.length_cons, Nat.succ_mul]
    split <;> simp <;> omega

theorem replaceK_one (c : UInt8) (new : List UInt8) : ∀ (n : Nat) (s : List UInt8), s.length ≤ n → Lib.replaceK [c] new (Lib.count s [c]) s = repl c new s
  | n, s, hn => by
    by_cases hm : Lib.index s [c] = -1
    · rw [Lib.count_miss hm, Lib.replaceK]
      refine (repl_no c new s ?_).symm
      rw [Lib.index_one] at hm
      exact Lib.indexByte_none hm
    · obtain ⟨i, hi⟩ : ∃ i : Nat, Lib.index s [c] = i := ⟨(Lib.index s [c]).toNat, by have := Lib.index_ge s [c]; omega⟩
      have hb := hi
      rw [Lib.index_one] at hb
      obtain ⟨h1, h2⟩ := Lib.indexByte_some hb
      have hlt : i < s.length := (List.getElem?_eq_some_iff.1 h1).1
      match n, hn with
      | 0, hn => omega
      | n + 1, hn =>
        have hc := Lib.count_hit (List.cons_ne_nil c []) hi
        rw [hc, Nat.add_comm 1, Lib.replaceK_hit [c] new _ s i hi]
        have ih := replaceK_one c new n (s.drop (i + 1)) (by simp; omega)
        have e : [c].length = 1 := rfl
        rw [e] at *
        rw [ih]
        have hs : s = s.take i ++ c :: s.drop (i + 1) := by
          have hci : s[i] = c := by have := List.getElem?_eq_some_iff.1 h1; exact this.2
          rw [← hci, ← List.drop_eq_getElem_cons hlt, List.take_append_drop]
        have ht : repl c new (s.take i) = s.take i := by
          refine repl_no c new _ (fun k hk => ?_)
          rcases Nat.lt_or_ge k i with hki | hki
          · rw [List.getElem?_take_of_lt hki] at hk; exact h2 k hki hk
          · rw [List.getElem?_eq_none (by simp; omega)] at hk; cases hk
        conv => rhs; rw [hs]
        rw [repl_append, repl_cons, if_pos rfl, ht, List.append_assoc]

theorem replaceAll_one (c : UInt8) (new s : List UInt8) (h : [c] ≠ new) : Lib.replaceAll s [c] new = repl c new s := by
  unfold Lib.replaceAll Lib.replace
  rw [if_neg (by simpa using h)]
  have : Lib.replaceNum s [c] (-1) = Lib.count s [c] := by unfold Lib.replaceNum; rw [if_pos (.inl (by omega))]
  rw [this]
  exact replaceK_one c new s.length s (Nat.le_refl _)

theorem ReplaceAll_one (s : ByteArray) (c : UInt8) (new : ByteArray) (w : World) (hml : ML w) (hs : s.size ≤ 1048576) (hn : new.size ≤ 16) (hne : [c] ≠ new.data.toList) :
    Calls Tryd.prog 37 #[.string s, .string ⟨#[c]⟩, .string new] w fun e w' => (∃ r : ByteArray, e = .returned (.string r) ∧ r.data.toList = repl c new.data.toList s.data.toList) ∧ Below w.heap.size w w' := by
  have hcnt := Lib.countB_mul_le ⟨#[c]⟩ (Nat.le_refl 1) s.size s (Nat.le_refl _)
  have e1 : (⟨#[c]⟩ : ByteArray).size = 1 := rfl
  rw [e1, Nat.mul_one] at hcnt
  have hmul : Lib.countB s ⟨#[c]⟩ * new.size ≤ 1048576 * 16 := Nat.mul_le_mul (by omega) hn
  obtain ⟨m, hm⟩ := hml
  refine (Tryd.strings_ReplaceAll s ⟨#[c]⟩ new m w (by omega) hm (Nat.le_refl 1) (by omega)).mono fun e w' ⟨he, hb⟩ => ⟨⟨_, he, ?_⟩, hb⟩
  have e2 : (⟨#[c]⟩ : ByteArray).data.toList = [c] := rfl
  rw [e2, replaceAll_one c _ _ hne]

/-- The quoted text. -/
def quote (l : List UInt8) : List UInt8 := 34 :: (repl 34 [34, 34] l ++ [34])

theorem quote_length (l : List UInt8) : (quote l).length ≤ l.length * 3 + 2 := by
  have := repl_length 34 [34, 34] l
  simp only [quote, List.length_cons, List.length_append, List.length_nil] at this ⊢; omega

theorem QuoteText_any (s : ByteArray) (w : World) (hml : ML w) (hs : s.size ≤ 1048576) : Calls Tryd.prog 25 #[.string s] w fun e w' => (∃ r : ByteArray, e = .returned (.string r) ∧ r.data.toList = quote s.data.toList) ∧ Below w.heap.size w w' := by
  have HC := Lib.hid (ReplaceAll_one s 34 ⟨#[34, 34]⟩ w hml hs (by decide) (by decide))
  clear hml
  go_enter Tryd.func25, Tryd.ntmps25
  go_wp2_with fail
  refine HC.out.mono ?_
  rintro e w1 ⟨⟨r, rfl, hr⟩, hb1⟩
  have hrs : r.size ≤ 1048576 * 3 := by
    have h1 : r.size = r.data.toList.length := by simp
    have h2 := repl_length 34 [34, 34] s.data.toList
    have h3 : s.data.toList.length = s.size := by simp
    rw [h1, hr]
    simp only [List.length_cons, List.length_nil] at h2
    omega
  have HR := Lib.hid hr; clear hr
  go_wp2_with fail
  go_ret
  refine ⟨⟨_, rfl, ?_⟩, hb1⟩
  rw [ba_app, ba_app, HR.out]
  rfl

theorem Bytes.lit1 (w : World) (c : UInt8) : Bytes (w.alloc (.cells #[.int .u8 (c.toNat : Int)] 5)) w.heap.size (.slice (some ⟨w.heap.size, 0, none⟩) 1 1) [c] :=
  World.ownsRow_lit w #[.int .u8 (c.toNat : Int)] 1 (Nat.le_refl _) (by unfold maxLen; omega) rfl

set_option maxHeartbeats 1000000 in
theorem l04Quote_any (s : ByteArray) (w : World) (hs : s.size ≤ 1048576) : Calls Tryd.prog 20 #[.string s] w fun e w' => (∃ r : ByteArray, e = .returned (.string r) ∧ r.data.toList = quote s.data.toList) ∧ Below w.heap.size w w' := by
  go_enter Tryd.func20, Tryd.ntmps20
  go_wp2_with fail
  go_loopw [3, 4] (fun v i wr => ∃ (k : Nat) (L : List UInt8), k ≤ s.size ∧ i = .int .i64 k ∧ L.length ≤ 2 * k + 1 ∧ Bytes wr w.heap.size v L ∧ Below w.heap.size w wr ∧ quote s.data.toList = L ++ (repl 34 [34, 34] (sfx s k) ++ [34])) (fun _ i _ => s.size - (intOf i).toNat)
  case atStart => exact ⟨0, [34], Nat.zero_le _, rfl, by simp, Bytes.lit1 w 34, (Below.refl _ _).alloc (Nat.le_refl _) _, rfl⟩
  case round =>
    obtain ⟨k, L, hk, rfl, hL, hown, hbel, hinv⟩ := hrel
    have HI := Lib.hid hinv; clear hinv
    have hbs := hbel.size
    by_cases hlt : k < s.size
    · have HS := Lib.hid (sfx_lt hlt)
      rcases eqForms (s[k].toNat : Int) 34 with ⟨e1, e2, e3⟩ | ⟨e1, e2, e3⟩
      · have HC : Hid (s[k] = 34) := by show s[k] = 34; exact UInt8.toNat_inj.1 (by have := e3.out; have e : (34 : UInt8).toNat = 34 := rfl; omega)
        have tok : True := trivial
        go_wp2_with (first | (at_builtin; have _t := tok; refine wpList_append_byte wr rfl _ _ rfl w.heap.size _ L s[k] hown rfl rfl (by omega) hbs ?_; intro v' w1 hb1 hg1 hbl1 _hv; clear tok) | (at_builtin; refine wpList_append_byte w1 rfl _ _ rfl w.heap.size _ (L ++ [s[k]]) 34 hb1 rfl rfl (by simp; omega) (by have := hbl1.size; omega) ?_; intro v2 w2 hb2 hg2 hbl2 _hv2))
        refine ⟨⟨k + 1, L ++ [s[k]] ++ [34], by omega, by go_num, by simp; omega, hb2, hbel.trans (hbl1.trans hbl2), ?_⟩, by simp [intOf]; omega⟩
        rw [HI.out, HS.out, HC.out, repl_cons, if_pos rfl]; simp
      · have HC : Hid (s[k] ≠ 34) := fun h => e3.out (by rw [h]; rfl)
        go_wp2_with (first | (at_builtin; refine wpList_append_byte wr rfl _ _ rfl w.heap.size _ L s[k] hown rfl rfl (by omega) hbs ?_; intro v' w1 hb1 hg1 hbl1 _hv))
        refine ⟨⟨k + 1, L ++ [s[k]], by omega, by go_num, by simp; omega, hb1, hbel.trans hbl1, ?_⟩, by simp [intOf]; omega⟩
        rw [HI.out, HS.out, repl_cons, if_neg HC.out]; simp
    · go_wp2_with (first | (at_builtin; refine wpList_append_byte wr rfl _ _ rfl w.heap.size _ L 34 hown rfl rfl (by omega) hbs ?_; intro v' w1 hb1 hg1 hbl1 _hv; obtain ⟨r, hcv, hr, hrz⟩ := string_of_own hb1; have HR := Lib.hid hr; clear hr hrz))
      go_ret
      refine ⟨⟨_, rfl, ?_⟩, hbel.trans hbl1⟩
      rw [HR.out, HI.out, sfx_ge (s := s) (by omega), repl_nil, List.nil_append]

end Go.Proofs.YtcjlokojppicnaaDoor
