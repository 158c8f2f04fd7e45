/- PureFun: the bytes from the end, spec's; the bytes with some numbers, both sides. -/
import Derived.Test.YtkoagpeeohmokaaDoorFun2
namespace Go.Proofs.YtkoagpeeohmokaaDoor
open Go.RowKit
set_option linter.unusedVariables false

theorem charL_snoc (x : ByteArray) : ∀ xs : List ByteArray, charL (xs ++ [x]) = charL xs ++ charOne x
  | [] => by simp [charL]
  | y :: r => by rw [List.cons_append, charL, charL_snoc x r, charL, List.append_assoc]

/-- A number's byte, or none. -/
theorem char_cases (x : ByteArray) (n : Int) (hn : n = NM.numOf x.data.toList) :
    (n < 0 ∧ charOne x = []) ∨ (0 ≤ n ∧ 255 < n / 1000000 ∧ charOne x = []) ∨ (0 ≤ n ∧ n / 1000000 ≤ 255 ∧ ∃ c : UInt8, charOne x = [c] ∧ (n / 1000000) % 256 = c.toNat ∧ n / 1000000 = c.toNat) := by
  subst hn
  unfold charOne
  rcases Int.lt_or_le (NM.numOf x.data.toList) 0 with h | h
  · exact .inl ⟨h, if_neg (by omega)⟩
  · have e : wholeV x = NM.numOf x.data.toList / 1000000 := Int.tdiv_eq_ediv_of_nonneg h
    rw [e]
    generalize NM.numOf x.data.toList = n at *
    by_cases h2 : n / 1000000 ≤ 255
    · refine .inr (.inr ⟨h, h2, UInt8.ofNat (n / 1000000).toNat, if_pos ⟨h, h2⟩, ?_, ?_⟩)
      · have : (UInt8.ofNat (n / 1000000).toNat).toNat = (n / 1000000).toNat % 256 := by simp
        omega
      · have : (UInt8.ofNat (n / 1000000).toNat).toNat = (n / 1000000).toNat % 256 := by simp
        omega
    · exact .inr (.inl ⟨h, by omega, if_neg (by omega)⟩)

set_option maxHeartbeats 1000000 in
set_option maxRecDepth 8000 in
theorem characters_any (v : Value) (xs : List ByteArray) (w : World) (h : StrsAt w w.heap.size v xs) (hl : xs.length ≤ 1048576) (hz : ∀ x ∈ xs, x.size ≤ 1048576) :
    Calls Tryd.prog 66 #[v] w fun e w' => GotStr (charL xs) e ∧ Below w.heap.size w w' := by
  have H := Lib.hid h
  obtain ⟨A, c, rfl, _, _⟩ := h
  have Z := Lib.hid hz; clear hz
  go_enter Tryd.func66, Tryd.ntmps66
  go_wp2
  go_loopw [3, 10] (fun v i wr => ∃ (k : Nat) (L : List UInt8), k ≤ xs.length ∧ i = .int .i64 k ∧ L.length ≤ k ∧ Hid (L = charL (xs.take k)) ∧ Bytes wr w.heap.size v L ∧ Below w.heap.size w wr) (fun _ i _ => xs.length - (intOf i).toNat)
  case atStart => exact ⟨0, [], Nat.zero_le _, rfl, Nat.le_refl _, rfl, Bytes.empty w _ (Nat.le_refl _), (Below.refl _ _).alloc (Nat.le_refl _) _⟩
  case round =>
    obtain ⟨k, L, hk, rfl, hL, HI, hown, hbel⟩ := hrel
    have HB := Lib.hid hbel
    by_cases hlt : k < xs.length
    · obtain ⟨ad, rfl, hc⟩ := (H.out.on hbel).at0 hlt
      have HT : Hid (charL (xs.take (k + 1)) = charL (xs.take k) ++ charOne xs[k]) := by show _ = _; rw [List.take_succ_eq_append_getElem hlt, charL_snoc]
      have HN := Lib.hid (NumOf_any xs[k] wr (Z.out _ (List.getElem_mem hlt)))
      generalize xs[k] = x at *
      have HO := Lib.hid hown
      clear hown
      go_wp2_with fail
      refine HN.out.mono ?_
      rintro e w1 ⟨n, rfl, hn, b1⟩
      have HB1 := Lib.hid (below_trans HB.out b1)
      have hown1 := HO.out.below b1
      have hbs := HB1.out.size
      have hbd := NM.numOf_bd x.data.toList
      rw [← hn.out] at hbd
      obtain ⟨hbd0, hbd1⟩ := hbd
      clear b1 HN hc
      rcases char_cases x n hn.out with ⟨h1, h2⟩ | ⟨h1, h2, h3⟩ | ⟨h1, h2, ch, h3, h4, h5⟩
      · have HE := Lib.hid h2; clear h2
        have d1 : decide ((0 : Int) ≤ n) = false := decide_eq_false (by omega)
        have d0 : decide (n < 0) = true := decide_eq_true h1
        go_wp2_with fail
        refine ⟨⟨k + 1, L, by omega, by go_num, by omega, ?_, hown1, HB1.out⟩, by simp [intOf]; omega⟩
        show _ = _
        rw [HT.out, HE.out, List.append_nil]; exact HI.out
      · have HE := Lib.hid h3; clear h3
        have d1 : decide ((0 : Int) ≤ n) = true := decide_eq_true (by omega)
        have d2 : decide (n / 1000000 ≤ 255) = false := decide_eq_false (by omega)
        have d3 : decide (255 < n / 1000000) = true := decide_eq_true h2
        go_wp2_with fail
        refine ⟨⟨k + 1, L, by omega, by go_num, by omega, ?_, hown1, HB1.out⟩, by simp [intOf]; omega⟩
        show _ = _
        rw [HT.out, HE.out, List.append_nil]; exact HI.out
      · have HE := Lib.hid h3; clear h3
        clear h4
        go_wp2_with (first | (at_builtin; refine wpList_append_byte w1 rfl _ _ rfl w.heap.size _ L ch hown1 rfl rfl (by omega) hbs ?_; intro v' w2 hb2 hg2 hbl2 _hv))
        refine ⟨⟨k + 1, L ++ [ch], by omega, by go_num, by simp; omega, ?_, hb2, HB1.out.trans hbl2⟩, by simp [intOf]; omega⟩
        show _ = _
        rw [HT.out, HE.out, HI.out]
    · obtain rfl : k = xs.length := by omega
      have hcv := run_string_of_own hown
      go_wp2
      go_ret
      refine ⟨⟨_, rfl, ?_⟩, hbel⟩
      have := HI.out
      rw [List.take_length] at this
      exact this

end Go.Proofs.YtkoagpeeohmokaaDoor
