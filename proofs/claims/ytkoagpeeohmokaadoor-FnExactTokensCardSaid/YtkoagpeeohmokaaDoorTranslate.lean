/- impl.TranslateOf and spec.l10Translate: each returns trans of the three strings; ExtractOf; the walks of the two laws. -/
import Derived.Test.YtkoagpeeohmokaaDoorBytes
import Derived.Test.YtkoagpeeohmokaaDoorIdxB
namespace Go.Proofs.YtkoagpeeohmokaaDoor
open Go.RowKit
set_option linter.unusedVariables false

def trOne (a b : List UInt8) (c : UInt8) : List UInt8 := if idxB a c < 0 then [c] else (b[(idxB a c).toNat]?).toList

def trans (s a b : List UInt8) : List UInt8 := s.flatMap (trOne a b)

theorem trans_cons (c : UInt8) (s a b : List UInt8) : trans (c :: s) a b = trOne a b c ++ trans s a b := by simp [trans]

theorem trOne_le (a b : List UInt8) (c : UInt8) : (trOne a b c).length ≤ 1 := by
  unfold trOne; split
  · simp
  · cases b[(idxB a c).toNat]? <;> simp

theorem trOne_none {a b : List UInt8} {c : UInt8} (h : idxB a c < 0) : trOne a b c = [c] := if_pos h

theorem trOne_some {a : List UInt8} {b : ByteArray} {c : UInt8} (h : ¬ idxB a c < 0) (hb : (idxB a c).toNat < b.size) : trOne a (sfx b 0) c = [b[(idxB a c).toNat]] := by
  unfold trOne; rw [if_neg h]
  show (b.data.toList[(idxB a c).toNat]?).toList = _
  rw [List.getElem?_eq_getElem (by simpa using hb)]; rfl

theorem trOne_out {a : List UInt8} {b : ByteArray} {c : UInt8} (h : ¬ idxB a c < 0) (hb : b.size ≤ (idxB a c).toNat) : trOne a (sfx b 0) c = [] := by
  unfold trOne; rw [if_neg h]
  show (b.data.toList[(idxB a c).toNat]?).toList = _
  rw [List.getElem?_eq_none (by simpa using hb)]; rfl

set_option maxHeartbeats 1000000 in
theorem TranslateOf_any (s a b : ByteArray) (w : World) (hs : s.size ≤ 1048576) (hb : b.size ≤ 1048576) : Calls Tryd.prog 97 #[.string s, .string a, .string b] w fun e w' => (∃ r : ByteArray, e = .returned (.string r) ∧ r.data.toList = trans (sfx s 0) (sfx a 0) (sfx b 0)) ∧ Below w.heap.size w w' := by
  have hconv := fun W => run_bytes_conv W s
  go_enter Tryd.func97, Tryd.ntmps97
  go_wp2
  go_loopw [7, 15] (fun v i wr => ∃ (k : Nat) (L : List UInt8), k ≤ s.size ∧ i = .int .i64 k ∧ L.length ≤ k ∧ Bytes wr w.heap.size v L ∧ Laid wr (w.heap.size + 1) s ∧ Below w.heap.size w wr ∧ trans (sfx s 0) (sfx a 0) (sfx b 0) = L ++ trans (sfx s k) (sfx a 0) (sfx b 0)) (fun _ i _ => s.size - (intOf i).toNat)
  case atStart =>
    refine ⟨0, [], Nat.zero_le _, rfl, Nat.le_refl _, ((Bytes.empty w _ (Nat.le_refl _)).alloc _).drew, ?_, ?_, rfl⟩
    · exact (Laid.new2 w _ s _).drew
    · exact (((Below.refl _ _).alloc (Nat.le_refl _) _).alloc (by simp) _).drew
  case round =>
    obtain ⟨k, L, hk, rfl, hL, hown, hlaid, hbel, hinv⟩ := hrel
    have HI := Lib.hid hinv; clear hinv
    have hbs := hbel.size
    by_cases hlt : k < s.size
    · have HS := Lib.hid (sfx_lt hlt)
      have hcell := hlaid.cell hlt
      have HX := Lib.hid (fun W => IndexByte_any a s[k] W)
      obtain ⟨i, hi⟩ : ∃ i : Int, idxB (sfx a 0) s[k] = i := ⟨_, rfl⟩
      have hi1 : -1 ≤ i := hi ▸ idxB_ge _ _
      rw [hi] at HX
      have Hi := Lib.hid hi; clear hi
      by_cases h1 : i < 0
      · have HT : Hid (trOne (sfx a 0) (sfx b 0) s[k] = [s[k]]) := trOne_none (by rw [Hi.out]; exact h1)
        go_wp2_with (first | (go_at_call 78; refine (HX.out _).mono ?_; rintro e w' ⟨rfl, rfl⟩) | (at_builtin; refine wpList_append_byte wr rfl _ _ rfl w.heap.size _ L s[k] hown rfl rfl (by omega) hbs ?_; intro v' w1 hb1 hg1 hbl1 _hv))
        refine ⟨⟨k + 1, L ++ [s[k]], by omega, by go_num, by simp; omega, hb1, hlaid.grown hown hg1, hbel.trans hbl1, ?_⟩, by simp [intOf]; omega⟩
        rw [HI.out, HS.out, trans_cons, HT.out, List.append_assoc]
      · by_cases h2 : i < (b.size : Int)
        · have h3 : i.toNat < b.size := by omega
          have HT : Hid (trOne (sfx a 0) (sfx b 0) s[k] = [b[i.toNat]]) := by
            have := trOne_some (a := sfx a 0) (b := b) (c := s[k]) (by rw [Hi.out]; exact h1) (by rw [Hi.out]; exact h3)
            simp only [Hi.out] at this; exact this
          go_wp2_with (first | (go_at_call 78; refine (HX.out _).mono ?_; rintro e w' ⟨rfl, rfl⟩) | (at_builtin; refine wpList_append_byte wr rfl _ _ rfl w.heap.size _ L b[i.toNat] hown rfl rfl (by omega) hbs ?_; intro v' w1 hb1 hg1 hbl1 _hv))
          refine ⟨⟨k + 1, L ++ [b[i.toNat]], by omega, by go_num, by simp; omega, hb1, hlaid.grown hown hg1, hbel.trans hbl1, ?_⟩, by simp [intOf]; omega⟩
          rw [HI.out, HS.out, trans_cons, HT.out, List.append_assoc]
        · have HT : Hid (trOne (sfx a 0) (sfx b 0) s[k] = []) := trOne_out (by rw [Hi.out]; exact h1) (by rw [Hi.out]; omega)
          go_wp2_with (first | (go_at_call 78; refine (HX.out _).mono ?_; rintro e w' ⟨rfl, rfl⟩))
          refine ⟨⟨k + 1, L, by omega, by go_num, by omega, hown, hlaid, hbel, ?_⟩, by simp [intOf]; omega⟩
          rw [HI.out, HS.out, trans_cons, HT.out, List.nil_append]
    · have hcv := run_string_of_own hown
      go_wp2
      go_ret
      refine ⟨⟨_, rfl, ?_⟩, hbel⟩
      rw [HI.out, sfx_ge (s := s) (by omega)]; simp [trans]

end Go.Proofs.YtkoagpeeohmokaaDoor
