/- spec.l01Text; the walk of NumText. -/
import Derived.Test.YtllamjgloilioaaGreatDoorNumText2
namespace Go.Proofs.YtllamjgloilioaaGreatDoor
open Go.RowKit
set_option linter.unusedVariables false

theorem whole_at (x : Int) (n : Nat) (hx : x = n) (hn : n ≤ 1000000000000000000) (w : World) : Calls Tryz.prog 99 #[.int .i64 x] w fun e w' => ∃ r : ByteArray, e = .returned (.string r) ∧ r.size ≤ 30 ∧ Hid (r.data.toList = NT.dd n) ∧ Below w.heap.size w w' := by
  subst hx; exact l01Whole_any 20 n (by omega) (by omega) hn w

def posText (x : Int) (a b : Nat) : List UInt8 := if x = 0 then [48] else NT.dd a ++ if b = 0 then [] else 46 :: NT.fr b

def szOf : Value → Nat
  | .string s => s.size
  | _ => 0

theorem fr_round (f : ByteArray) (b : Nat) (h1 : 1 ≤ f.size) (HF : Hid (NT.fr b = Lib.trimRightB f.data.toList 48)) (hne : NT.fr b ≠ []) (hlt : f.size - 1 < f.size) :
    (((f[f.size - 1].toNat : Int) == 48) = true ∧ 2 ≤ f.size ∧ Hid (NT.fr b = Lib.trimRightB (f.extract 0 (f.size - 1)).data.toList 48)) ∨
    (((f[f.size - 1].toNat : Int) == 48) = false ∧ Hid (NT.fr b = f.data.toList)) := by
  have hl : f.data.toList.length = f.size := (ba_size f).symm
  have hd : f.data.toList.drop (f.size - 1) = [f[f.size - 1]] := by
    rw [List.drop_eq_getElem_cons (by omega), List.drop_eq_nil_of_le (by omega)]; rfl
  have hs : f.data.toList = f.data.toList.take (f.size - 1) ++ [f[f.size - 1]] := by
    rw [← hd, List.take_append_drop]
  have he : (f.extract 0 (f.size - 1)).data.toList = f.data.toList.take (f.size - 1) := by simp; rw [List.dropLast_eq_take, hl]
  have ht : NT.fr b = if f[f.size - 1] = 48 then Lib.trimRightB (f.data.toList.take (f.size - 1)) 48 else f.data.toList := by
    rw [HF.out, hs, NT.trim_snoc, ← hs]
  rcases eqForms (f[f.size - 1].toNat : Int) 48 with ⟨e1, e2, e3⟩ | ⟨e1, e2, e3⟩
  · left
    have hc : f[f.size - 1] = 48 := u8_of_nat (n := 48) (by simpa using e1) (by omega)
    rw [if_pos hc] at ht
    refine ⟨e1, ?_, by show _ = _; rw [he]; exact ht⟩
    rcases Nat.lt_or_ge 1 f.size with h | h
    · exact h
    · exfalso; apply hne; rw [ht, show f.size - 1 = 0 by omega]; rfl
  · right
    have hc : f[f.size - 1] ≠ 48 := fun e => by rw [e] at e1; cases e1
    rw [if_neg hc] at ht
    exact ⟨e1, ht⟩

set_option maxRecDepth 8000 in
set_option maxHeartbeats 2000000 in
theorem l01TextPos_any (x : Int) (hx0 : 0 ≤ x) (hx1 : x ≤ 999999999999999999) (a b : Nat) (ha : x / 1000000 = a) (hb : x % 1000000 = b) (w : World) : Calls Tryz.prog 86 #[.int .i64 x] w fun e w' => ∃ r : ByteArray, e = .returned (.string r) ∧ r.size ≤ 64 ∧ Hid (r.data.toList = posText x a b) ∧ Below w.heap.size w w' := by
  have HFA := Lib.hid (fun (W : World) => whole_at (a : Int) a rfl (by omega) W)
  have HFB := Lib.hid (fun (W : World) => whole_at (1000000 + (b : Int)) (1000000 + b) (by omega) (by omega) W)
  have hb6 : b < 1000000 := by omega
  have H7 := Lib.hid (NT.dd_seven hb6)
  have HNE := Lib.hid (fun h : 0 < b => NT.fr_ne' hb6 h)
  have hb0 : (0 : Int) ≤ b ∧ (b : Int) < 1000000 := by omega
  clear hb6
  have hB' : (0 < (b : Int) ∧ b ≠ 0) ∨ ((b : Int) = 0 ∧ b = 0) := by omega
  rcases hB' with ⟨hB1, hB2⟩ | ⟨hB1, hB2⟩
  · have HB2 := Lib.hid hB2; clear hB2
    go_enter Tryz.func86, Tryz.ntmps86
    go_wp2_with fail
    refine (HFA.out _).mono ?_
    rintro e w1 ⟨r1, rfl, hs1, HL1, hb1⟩
    go_wp2_with fail
    refine (HFB.out _).mono ?_
    rintro e w2 ⟨r2, rfl, hs2, HL2, hb2⟩
    have h7 : r2.size = 7 := by rw [ba_size, HL2.out]; exact H7.out
    have HF0 : Hid (NT.fr b = Lib.trimRightB (r2.extract 1 7).data.toList 48) := by show _ = _; rw [tail_fr r2 b HL2 h7]; rfl
    have hs6 : (r2.extract 1 7).size = 6 := by rw [ByteArray.size_extract]; omega
    go_wp2_with fail
    go_loop [5] (fun v => ∃ f : ByteArray, v = .string f ∧ 1 ≤ f.size ∧ f.size ≤ 6 ∧ Hid (NT.fr b = Lib.trimRightB f.data.toList 48)) (fun v => szOf v)
    case atStart => exact ⟨_, rfl, by omega, by omega, HF0⟩
    case round =>
      obtain ⟨f, rfl, hf1, hf6, HF⟩ := hrel
      have hlt : f.size - 1 < f.size := by omega
      rcases fr_round f b hf1 HF (HNE.out (Nat.pos_of_ne_zero HB2.out)) hlt with ⟨e1, h2, HF'⟩ | ⟨e1, HF'⟩
      · have hz : (f.extract 0 (f.size - 1)).size = f.size - 1 := by rw [ByteArray.size_extract]; omega
        go_wp2_with fail
        exact ⟨⟨_, rfl, by omega, by omega, HF'⟩, by show (f.extract 0 (f.size - 1)).size < f.size; omega⟩
      · have hne : (r1 ++ (⟨#[46]⟩ ++ f)).toList.isEmpty = false := by rw [ba_toList]; simp
        go_wp2_with fail
        go_ret
        refine ⟨_, rfl, by have := sz_one 46; simp only [ByteArray.size_append]; omega, ?_, below_trans hb1 hb2⟩
        show _ = _
        unfold posText
        rw [if_neg (by omega), if_neg HB2.out, ← HL1.out, HF'.out]
        simp
  · have HB2 := Lib.hid hB2
    have hxa : (x = 0 ∧ a = 0) ∨ (x ≠ 0 ∧ a ≠ 0) := by omega
    clear hB2
    rcases hxa with ⟨h1, h2⟩ | ⟨h1, h2⟩
    all_goals
      have HX := Lib.hid h1; have HA := Lib.hid h2; clear h1 h2
      go_enter Tryz.func86, Tryz.ntmps86
      go_wp2_with fail
      refine (HFA.out _).mono ?_
      rintro e w1 ⟨r1, rfl, hs1, HL1, hb1⟩
    · obtain rfl : r1 = ⟨#[]⟩ := ba_ext (by rw [HL1.out, HA.out]; rfl)
      go_wp2_with fail
      go_ret
      exact ⟨_, rfl, by decide, by show _ = _; unfold posText; rw [if_pos HX.out], hb1⟩
    · have hne : r1 ≠ ⟨#[]⟩ := fun e => HA.out (NT.dd_nil.mp (by rw [← HL1.out, e]))
      have hne1 : r1.toList.isEmpty = false := by rw [ba_toList]; exact List.isEmpty_eq_false_iff.2 (fun e => hne (ba_ext e))
      go_wp2_with fail
      go_ret
      exact ⟨_, rfl, by omega, by show _ = _; unfold posText; rw [if_neg HX.out, if_pos HB2.out, HL1.out]; simp, hb1⟩

theorem numText_pos (x : Int) (hx0 : 0 ≤ x) (hx1 : x ≤ 999999999999999999) (a b : Nat) (ha : x / 1000000 = a) (hb : x % 1000000 = b) : posText x a b = numTextB x := by
  unfold posText
  by_cases h : x = 0
  · subst h; rw [if_pos rfl]; rfl
  · rw [if_neg h]
    exact numText_of x x ⟨.inl rfl, by omega, hx1⟩ _ a b ha hb (by rw [if_neg (show ¬ x < 0 by omega), List.nil_append])

theorem numText_neg (x : Int) (hx0 : 0 < x) (hx1 : x ≤ 999999999999999999) (a b : Nat) (ha : x / 1000000 = a) (hb : x % 1000000 = b) (L : List UInt8) (hL : L = 45 :: posText x a b) : L = numTextB (-x) := by
  rw [hL]
  unfold posText
  rw [if_neg (show ¬ x = 0 by omega)]
  exact numText_of (-x) x ⟨.inr rfl, by omega, hx1⟩ _ a b ha hb (by rw [if_pos (show -x < 0 by omega)]; rfl)

set_option maxRecDepth 8000 in
theorem l01Text_any (n : Int) (h0 : -999999999999999999 ≤ n) (h1 : n ≤ 999999999999999999) (w : World) : Calls Tryz.prog 86 #[.int .i64 n] w fun e w' => ∃ r : ByteArray, e = .returned (.string r) ∧ r.size ≤ 65 ∧ Hid (r.data.toList = numTextB n) ∧ Below w.heap.size w w' := by
  by_cases hn : 0 ≤ n
  · refine (l01TextPos_any n hn h1 (n / 1000000).toNat (n % 1000000).toNat (by omega) (by omega) w).mono ?_
    rintro e w' ⟨r, rfl, hr, HL, hb⟩
    exact ⟨r, rfl, by omega, by show _ = _; rw [HL.out, numText_pos n hn h1 _ _ (by omega) (by omega)], hb⟩
  · obtain ⟨x, rfl⟩ : ∃ x : Int, n = -x := ⟨-n, by omega⟩
    have HP := Lib.hid (l01TextPos_any x (by omega) (by omega) (x / 1000000).toNat (x % 1000000).toNat (by omega) (by omega) w)
    have HG := Lib.hid (fun L => numText_neg x (by omega) (by omega) (x / 1000000).toNat (x % 1000000).toNat (by omega) (by omega) L)
    go_enter Tryz.func86, Tryz.ntmps86
    go_wp2_with fail
    refine HP.out.mono ?_
    rintro e w' ⟨r, rfl, hr, HL, hb⟩
    go_wp2_with fail
    go_ret
    refine ⟨_, rfl, by have := sz_one 45; simp only [ByteArray.size_append]; omega, ?_, hb⟩
    apply HG.out
    rw [← HL.out]
    simp

theorem T10.of_laid {w : World} (hL : laidMetH Tryz.prog Rows.fnExactKillNodeRow.laid w) : T10 w := by
  have h : laidMet Tryz.prog Rows.fnExactKillNodeRow.laid w := hL
  have h3 := laidMet.tail (laidMet.tail h)
  exact Lib.tabIs_of_head (k := .u64) (zs := Lib.pow10Tab) (g := 1) (by kernel_rfl) (by kernel_rfl) Tryz.underlying107 Tryz.underlying98 (by kernel_rfl) (by kernel_rfl) h3

end Go.Proofs.YtllamjgloilioaaGreatDoor
