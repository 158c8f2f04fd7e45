/- Patterns: the codes of an item, both sides. -/
import Derived.Test.YtcjlokojppicnaaDoorPatMath
import Derived.Test.YtcjlokojppicnaaDoorIdxB
namespace Go.Proofs.YtcjlokojppicnaaDoor
open Go.RowKit
set_option linter.unusedVariables false

def codesT : ByteArray := ⟨#[65, 67, 69, 76, 78, 80, 85]⟩

theorem idxB_code (c : UInt8) : decide (idxB (sfx codesT 0) c < 0) = !isCode c := by
  have h : ∀ l : List UInt8, decide (idxB l c < 0) = !l.contains c := by
    intro l
    induction l with
    | nil => simp [idxB_nil]
    | cons b l ih =>
      by_cases hb : b = c
      · subst hb; rw [idxB_hit]; simp
      · rw [idxB_miss hb]
        have hg := idxB_ge l c
        have e : (b :: l).contains c = l.contains c := by
          rw [List.contains_cons]
          have : (c == b) = false := beq_eq_false_iff_ne.2 (fun h => hb h.symm)
          rw [this, Bool.false_or]
        rw [e, ← ih, decide_eq_decide]
        split <;> omega
  exact h _

/-- The codes from place k on rise. -/
def riseFrom (s : ByteArray) : Nat → Bool
  | 0 => riseB (sfx s 0)
  | j + 1 => riseGo (s.data.toList[j]?.getD 0) (sfx s (j + 1))

theorem riseFrom_succ (s : ByteArray) (j : Nat) : riseFrom s (j + 1) = riseGo (s.data.toList[j]?.getD 0) (sfx s (j + 1)) := rfl

theorem riseFrom_zero (s : ByteArray) : riseFrom s 0 = riseB (sfx s 0) := rfl

theorem get_at {s : ByteArray} {j : Nat} (h : j < s.size) : s.data.toList[j]?.getD 0 = s[j] := by
  rw [List.getElem?_eq_getElem (by simpa using h)]; rfl

theorem rise_no {s : ByteArray} {k : Nat} (h : k < s.size) (hc : isCode s[k] = false) : riseFrom s k = false := by
  cases k with
  | zero => rw [riseFrom_zero, sfx_lt h, riseB, hc]; rfl
  | succ j => rw [riseFrom_succ, sfx_lt h, riseGo, hc]; rfl

theorem rise_zero {s : ByteArray} (h : 0 < s.size) (hc : isCode s[0] = true) : riseFrom s 0 = riseFrom s 1 := by
  rw [riseFrom_zero, riseFrom_succ, sfx_lt h, riseB, hc, get_at h]; rfl

theorem rise_down {s : ByteArray} {j : Nat} (h : j + 1 < s.size) (hc : s[j + 1].toNat ≤ (s[j]'(by omega)).toNat) : riseFrom s (j + 1) = false := by
  rw [riseFrom_succ, sfx_lt h, riseGo, get_at (by omega), decide_eq_false (by omega)]; simp

theorem rise_up {s : ByteArray} {j : Nat} (h : j + 1 < s.size) (hk : isCode s[j + 1] = true) (hc : (s[j]'(by omega)).toNat < s[j + 1].toNat) : riseFrom s (j + 1) = riseFrom s (j + 2) := by
  rw [riseFrom_succ, riseFrom_succ, sfx_lt h, riseGo, get_at (by omega), get_at h, decide_eq_true hc, hk]; simp

theorem rise_end {s : ByteArray} {k : Nat} (h : s.size ≤ k) : riseFrom s k = true := by
  cases k with
  | zero => rw [riseFrom_zero, sfx_ge h]; rfl
  | succ j => rw [riseFrom_succ, sfx_ge h]; rfl

set_option maxRecDepth 8000 in
theorem codesOk_any (s : ByteArray) (w : World) (hs : s.size ≤ 1048576) : Calls Tryd.prog 42 #[.string s] w fun e w' => e = .returned (.bool (riseB s.data.toList)) ∧ Below w.heap.size w w' := by
  have HX := Lib.hid (fun c W => IndexByte_any codesT c W)
  have H0 : Hid (riseB s.data.toList = riseFrom s 0) := rfl
  unfold codesT at HX
  go_enter Tryd.func42, Tryd.ntmps42
  go_wp2
  go_loopw [3] (fun i wr => ∃ k : Nat, k ≤ s.size ∧ i = .int .i64 k ∧ Hid (riseB s.data.toList = riseFrom s k) ∧ Below w.heap.size w wr) (fun i _ => s.size - (intOf i).toNat)
  case atStart => exact ⟨0, Nat.zero_le _, rfl, H0.out, below_refl _⟩
  case round =>
    clear H0
    obtain ⟨k, hk, rfl, HI, hbel⟩ := hrel
    by_cases hlt : k < s.size
    · have hcb := idxB_code s[k]
      unfold codesT at hcb
      have HN := Lib.hid (@rise_no s k hlt)
      have HD : Hid (∀ n, Below w.heap.size w (wr.drewN n)) := fun n => below_trans hbel (below_drewN _ _)
      have HC := Lib.hid (fun W => HX.out s[k] W)
      generalize idxB _ s[k] = z at *
      cases hc : isCode s[k]
      · rw [hc] at hcb
        have hz : decide (z < 0) = true := hcb
        have HV := Lib.hid (HI.out.trans (HN.out hc))
        clear hcb hc
        go_wp2
        go_quiet ((go_at_call 50; exact Calls.quiet_of_same ((HC.out _).mono fun e w' ⟨h1, h2⟩ => ⟨h1, h2.symm⟩)))
        go_wp2
        go_ret
        exact ⟨ret_bool HV.out.symm, HD.out _⟩
      · rw [hc] at hcb
        have hz : decide (z < 0) = false := hcb
        clear hcb
        rcases Nat.eq_zero_or_pos k with h0 | h0
        · subst h0
          have HV := Lib.hid (HI.out.trans (rise_zero hlt hc))
          clear hc
          go_wp2
          go_quiet ((go_at_call 50; exact Calls.quiet_of_same ((HC.out _).mono fun e w' ⟨h1, h2⟩ => ⟨h1, h2.symm⟩)))
          go_wp2
          exact ⟨⟨1, by omega, by go_num, HV.out, HD.out _⟩, by simp [intOf]; omega⟩
        · obtain ⟨j, rfl⟩ : ∃ j, k = j + 1 := ⟨k - 1, by omega⟩
          have hj : j < s.size := by omega
          have hw : IntKind.i64.wrap ((j : Int) + 1 - 1) = j := by rw [show (j : Int) + 1 - 1 = j by omega]; exact IntWalk.i64_in _ (by omega)
          have p0 : (0 : Int) < (j : Int) + 1 := by omega
          have p2 : (0 : Int) ≤ (j : Int) + 1 := by omega
          have p3 : ((j : Int) + 1).toNat = j + 1 := by omega
          have p4 : j < s.size := hj
          have p1 : (j : Int) + 1 < s.size := by omega
          by_cases hd : s[j + 1].toNat ≤ s[j].toNat
          · have HV := Lib.hid (HI.out.trans (rise_down hlt hd))
            have hd1 : decide ((s[j + 1].toNat : Int) ≤ (s[j].toNat : Int)) = true := by rw [decide_eq_true_iff]; omega
            clear hc
            go_wp2
            go_quiet ((go_at_call 50; exact Calls.quiet_of_same ((HC.out _).mono fun e w' ⟨h1, h2⟩ => ⟨h1, h2.symm⟩)))
            go_wp2
            go_ret
            exact ⟨ret_bool HV.out.symm, HD.out _⟩
          · have HV := Lib.hid (HI.out.trans (rise_up hlt hc (by omega)))
            have hd1 : decide ((s[j + 1].toNat : Int) ≤ (s[j].toNat : Int)) = false := by rw [decide_eq_false_iff_not]; omega
            clear hc
            go_wp2
            go_quiet ((go_at_call 50; exact Calls.quiet_of_same ((HC.out _).mono fun e w' ⟨h1, h2⟩ => ⟨h1, h2.symm⟩)))
            go_wp2
            exact ⟨⟨j + 2, by omega, by go_num, HV.out, HD.out _⟩, by simp [intOf]; omega⟩
    · have HV := Lib.hid (HI.out.trans (rise_end (s := s) (k := k) (by omega)))
      go_wp2
      go_ret
      exact ⟨ret_bool HV.out.symm, hbel⟩

theorem l04Is_any (c : UInt8) (w : World) : Calls Tryd.prog 49 #[.int .u8 (c.toNat : Int)] w fun e w' => e = .returned (.bool (isCode c)) ∧ w = w' := by
  have H0 : Hid (isCode c = (sfx ⟨#[65, 67, 69, 76, 78, 80, 85]⟩ 0).contains c) := rfl
  have HE : Hid (∀ (b : UInt8) (r : List UInt8), ((b.toNat : Int) == (c.toNat : Int)) = true → (b :: r).contains c = true) := fun b r h => by
    have e : b = c := UInt8.toNat_inj.1 (by have := beq_iff_eq.1 h; omega)
    simp [e]
  have HN : Hid (∀ (b : UInt8) (r : List UInt8), ((b.toNat : Int) == (c.toNat : Int)) = false → (b :: r).contains c = r.contains c) := fun b r h => by
    have e : ¬ b = c := fun e => by rw [e] at h; simp at h
    have : (c == b) = false := beq_eq_false_iff_ne.2 (fun h => e h.symm)
    rw [List.contains_cons, this, Bool.false_or]
  generalize isCode c = R at *
  go_enter Tryd.func49, Tryd.ntmps49
  go_wp2
  go_loop [3] (fun i => ∃ k : Nat, k ≤ 7 ∧ i = .int .i64 k ∧ Hid (R = (sfx ⟨#[65, 67, 69, 76, 78, 80, 85]⟩ k).contains c)) (fun i => 7 - (intOf i).toNat)
  case atStart => exact ⟨0, by omega, rfl, H0.out⟩
  case round =>
    clear H0
    obtain ⟨k, hk, rfl, HI⟩ := hrel
    by_cases hlt : k < 7
    · have hs : k < (⟨#[65, 67, 69, 76, 78, 80, 85]⟩ : ByteArray).size := hlt
      have HS := Lib.hid (sfx_lt hs)
      rcases eqForms ((⟨#[65, 67, 69, 76, 78, 80, 85]⟩ : ByteArray)[k].toNat : Int) (c.toNat : Int) with ⟨e1, e2, e3⟩ | ⟨e1, e2, e3⟩
      · have HV := Lib.hid (HE.out _ (sfx ⟨#[65, 67, 69, 76, 78, 80, 85]⟩ (k + 1)) e1)
        go_wp2
        go_ret
        exact ⟨ret_bool (by rw [HI.out, HS.out]; exact HV.out.symm), rfl⟩
      · have HV := Lib.hid (HN.out _ (sfx ⟨#[65, 67, 69, 76, 78, 80, 85]⟩ (k + 1)) e1)
        go_wp2
        exact ⟨⟨k + 1, by omega, by go_num, by show _ = _; rw [HI.out, HS.out]; exact HV.out⟩, by simp [intOf]; omega⟩
    · have hk7 : k = 7 := by omega
      subst hk7
      go_wp2
      go_ret
      exact ⟨ret_bool HI.out.symm, rfl⟩

set_option maxRecDepth 8000 in
theorem l04CodesOK_any (s : ByteArray) (w : World) (hs : s.size ≤ 1048576) : Calls Tryd.prog 40 #[.string s] w fun e w' => e = .returned (.bool (riseB s.data.toList && decide (s.data.toList ≠ []))) ∧ Below w.heap.size w w' := by
  rcases strCase s [] with rfl | ⟨hne, HNE⟩
  · go_enter Tryd.func40, Tryd.ntmps40
    go_wp2
    go_ret
    exact ⟨rfl, below_refl _⟩
  have HX := Lib.hid (fun c W => l04Is_any c W)
  have H0 : Hid ((riseB s.data.toList && decide (s.data.toList ≠ [])) = riseFrom s 0) := by show _ = _; rw [decide_eq_true HNE.out, Bool.and_true]; rfl
  have hne2 : s.toList.isEmpty = false := by rw [ba_toList]; exact List.isEmpty_eq_false_iff.2 HNE.out
  generalize (riseB s.data.toList && decide (s.data.toList ≠ [])) = R at *
  go_enter Tryd.func40, Tryd.ntmps40
  go_wp2
  go_loopw [3] (fun i wr => ∃ k : Nat, k ≤ s.size ∧ i = .int .i64 k ∧ Hid (R = riseFrom s k) ∧ Below w.heap.size w wr) (fun i _ => s.size - (intOf i).toNat)
  case atStart => exact ⟨0, Nat.zero_le _, rfl, H0.out, below_refl _⟩
  case round =>
    clear H0
    obtain ⟨k, hk, rfl, HI, hbel⟩ := hrel
    by_cases hlt : k < s.size
    · have HN := Lib.hid (@rise_no s k hlt)
      have HD : Hid (∀ n, Below w.heap.size w (wr.drewN n)) := fun n => below_trans hbel (below_drewN _ _)
      have HC := Lib.hid (fun W => HX.out s[k] W)
      cases hc : isCode s[k]
      · rw [hc] at HC
        have HV := Lib.hid (HI.out.trans (HN.out hc))
        clear hc
        go_wp2
        go_quiet ((go_at_call 49; exact Calls.quiet_of_same ((HC.out _).mono fun e w' ⟨h1, h2⟩ => ⟨h1, h2.symm⟩)))
        go_wp2
        go_ret
        exact ⟨ret_bool HV.out.symm, HD.out _⟩
      · rw [hc] at HC
        rcases Nat.eq_zero_or_pos k with h0 | h0
        · subst h0
          have HV := Lib.hid (HI.out.trans (rise_zero hlt hc))
          clear hc
          go_wp2
          go_quiet ((go_at_call 49; exact Calls.quiet_of_same ((HC.out _).mono fun e w' ⟨h1, h2⟩ => ⟨h1, h2.symm⟩)))
          go_wp2
          exact ⟨⟨1, by omega, by go_num, HV.out, HD.out _⟩, by simp [intOf]; omega⟩
        · obtain ⟨j, rfl⟩ : ∃ j, k = j + 1 := ⟨k - 1, by omega⟩
          have hj : j < s.size := by omega
          have hw : IntKind.i64.wrap ((j : Int) + 1 - 1) = j := by rw [show (j : Int) + 1 - 1 = j by omega]; exact IntWalk.i64_in _ (by omega)
          have p0 : (0 : Int) < (j : Int) + 1 := by omega
          have p2 : (0 : Int) ≤ (j : Int) + 1 := by omega
          have p3 : ((j : Int) + 1).toNat = j + 1 := by omega
          have p4 : j < s.size := hj
          have p1 : (j : Int) + 1 < s.size := by omega
          by_cases hd : s[j + 1].toNat ≤ s[j].toNat
          · have HV := Lib.hid (HI.out.trans (rise_down hlt hd))
            have hd1 : decide ((s[j + 1].toNat : Int) ≤ (s[j].toNat : Int)) = true := by rw [decide_eq_true_iff]; omega
            clear hc
            go_wp2
            go_quiet ((go_at_call 49; exact Calls.quiet_of_same ((HC.out _).mono fun e w' ⟨h1, h2⟩ => ⟨h1, h2.symm⟩)))
            go_wp2
            go_ret
            exact ⟨ret_bool HV.out.symm, HD.out _⟩
          · have HV := Lib.hid (HI.out.trans (rise_up hlt hc (by omega)))
            have hd1 : decide ((s[j + 1].toNat : Int) ≤ (s[j].toNat : Int)) = false := by rw [decide_eq_false_iff_not]; omega
            clear hc
            go_wp2
            go_quiet ((go_at_call 49; exact Calls.quiet_of_same ((HC.out _).mono fun e w' ⟨h1, h2⟩ => ⟨h1, h2.symm⟩)))
            go_wp2
            exact ⟨⟨j + 2, by omega, by go_num, HV.out, HD.out _⟩, by simp [intOf]; omega⟩
    · have HV := Lib.hid (HI.out.trans (rise_end (s := s) (k := k) (by omega)))
      go_wp2
      go_ret
      exact ⟨ret_bool HV.out.symm, hbel⟩

end Go.Proofs.YtcjlokojppicnaaDoor
