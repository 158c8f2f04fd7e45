/- spec.l01Of; the walks of NumOf and Truth. -/
import Derived.Test.YtllamjgloilioaaGreatDoorNumOf
namespace Go.Proofs.YtllamjgloilioaaGreatDoor
open Go.RowKit
set_option linter.unusedVariables false

theorem u8_of_nat {c : UInt8} {n : Nat} (h : (c.toNat : Int) = n) (hn : n < 256) : c = UInt8.ofNat n := by
  apply UInt8.toNat_inj.mp; rw [UInt8.toNat_ofNat']; omega

theorem l01_list (s : ByteArray) : s.data.toList = sfx s 0 := by rfl

/-- What the marks at the beginning give, one byte at a time. -/
theorem sign_cases (c : UInt8) (r : List UInt8) :
    (((c.toNat : Int) == 43) = true ∧ ((c.toNat : Int) == 45) = false ∧ NM.neg (c :: r) = NM.neg r ∧ NM.afterSign (c :: r) = NM.afterSign r) ∨
    (((c.toNat : Int) == 43) = false ∧ ((c.toNat : Int) == 45) = true ∧ NM.neg (c :: r) = !NM.neg r ∧ NM.afterSign (c :: r) = NM.afterSign r) ∨
    (((c.toNat : Int) == 43) = false ∧ ((c.toNat : Int) == 45) = false ∧ NM.neg (c :: r) = false ∧ NM.afterSign (c :: r) = c :: r) := by
  by_cases h1 : (c.toNat : Int) = 43
  · obtain rfl := u8_of_nat (n := 43) h1 (by omega)
    left; exact ⟨by decide, by decide, rfl, rfl⟩
  by_cases h2 : (c.toNat : Int) = 45
  · obtain rfl := u8_of_nat (n := 45) h2 (by omega)
    right; left; exact ⟨by decide, by decide, rfl, rfl⟩
  have n1 : c ≠ 43 := fun e => h1 (by rw [e]; rfl)
  have n2 : c ≠ 45 := fun e => h2 (by rw [e]; rfl)
  right; right
  refine ⟨by simpa using h1, by simpa using h2, by simp [NM.neg, n1, n2], ?_⟩
  unfold NM.afterSign
  rw [List.dropWhile_cons_of_neg]
  simp [NM.sgn, n1, n2]

theorem mag_of (L : List UInt8) (q n2 n3 : Int) (hq : NM.whole 0 L = q) (h2 : (q * 1000000 ≤ 1000000000000000000 ∧ n2 = q * 1000000) ∨ (1000000000000000000 ≤ q * 1000000 ∧ n2 = 1000000000000000000))
    (h3 : (∃ r, NM.afterDigs L = 46 :: r ∧ n3 = NM.frac n2 100000 r) ∨ ((∀ r, NM.afterDigs L ≠ 46 :: r) ∧ n3 = n2)) (n4 : Int) (h4 : (n3 ≤ 999999999999999999 ∧ n4 = n3) ∨ (999999999999999999 ≤ n3 ∧ n4 = 999999999999999999)) : n4 = NM.mag L := by
  have e2 : n2 = min (NM.whole 0 L * 1000000) 1000000000000000000 := by clear h3 h4; rw [hq]; omega
  rcases h3 with ⟨r, hr, e3⟩ | ⟨hr, e3⟩
  · have := NM.ref_mag L n2 e2 (NM.fracVal 6 r) (by rw [hr]; simp)
    have e : NM.frac n2 100000 r = n2 + NM.fracVal 6 r := NM.frac_eq 5 r n2
    rw [← this]; omega
  · have := NM.ref_mag L n2 e2 0 (by
      cases ha : NM.afterDigs L with
      | nil => rfl
      | cons c r =>
        have : c ≠ 46 := fun e => hr r (by rw [ha, e])
        simp [this])
    rw [← this]; omega

theorem whole_dig {c : UInt8} (h : NM.dg c = true) (q : Int) (r : List UInt8) (d x : Int) (hd : (NM.dv c : Int) = d) (hx : (10 * q + d ≤ 1000000000000 ∧ x = 10 * q + d) ∨ (1000000000000 ≤ 10 * q + d ∧ x = 1000000000000)) : NM.whole q (c :: r) = NM.whole x r := by
  rw [NM.whole, if_pos h, hd]
  congr 1
  split <;> omega

theorem whole_stop {c : UInt8} (h : NM.dg c = false) (q : Int) (r : List UInt8) : NM.whole q (c :: r) = q := by
  rw [NM.whole, h]; rfl

theorem after_dig {c : UInt8} (h : NM.dg c = true) (r : List UInt8) : NM.afterDigs (c :: r) = NM.afterDigs r := by
  unfold NM.afterDigs; rw [List.dropWhile_cons_of_pos h]

theorem after_stop {c : UInt8} (h : NM.dg c = false) (r : List UInt8) : NM.afterDigs (c :: r) = c :: r := by
  unfold NM.afterDigs; rw [List.dropWhile_cons_of_neg (by rw [h]; decide)]

theorem frac_dig {c : UInt8} (h : NM.dg c = true) (q u : Int) (r : List UInt8) (d : Int) (hd : (NM.dv c : Int) = d) : NM.frac q u (c :: r) = NM.frac (q + d * u) (u / 10) r := by
  rw [NM.frac, if_pos h, hd]

theorem frac_stop {c : UInt8} (h : NM.dg c = false) (q u : Int) (r : List UInt8) : NM.frac q u (c :: r) = q := by
  rw [NM.frac, h]; rfl

theorem digit_of {c : UInt8} (h : NM.dg c = true) : ∃ d : Int, (c.toNat : Int) - 48 = d ∧ 0 ≤ d ∧ d ≤ 9 ∧ Hid ((NM.dv c : Int) = d) ∧ 48 ≤ c.toNat ∧ c.toNat ≤ 57 := by
  have h48 : 48 ≤ c.toNat ∧ c.toNat ≤ 57 := by simpa [NM.dg] using h
  refine ⟨_, rfl, by omega, by omega, ?_, h48⟩
  show (NM.dv c : Int) = _
  unfold NM.dv; omega

/-- The sign's loop, one round. -/
theorem sign_round (s : ByteArray) (k : Nat) (b : Bool) (hk : k ≤ s.size) (HN : Hid (NM.neg s.data.toList = (b != NM.neg (sfx s k)))) (HA : Hid (NM.afterSign s.data.toList = NM.afterSign (sfx s k))) :
    (∃ hlt : k < s.size, ∃ b' : Bool, (((s[k].toNat : Int) == 43) = true ∧ ((s[k].toNat : Int) == 45) = false ∧ b' = b ∨ ((s[k].toNat : Int) == 43) = false ∧ ((s[k].toNat : Int) == 45) = true ∧ b' = !b) ∧
      Hid (NM.neg s.data.toList = (b' != NM.neg (sfx s (k + 1)))) ∧ Hid (NM.afterSign s.data.toList = NM.afterSign (sfx s (k + 1)))) ∨
    (Hid (NM.neg s.data.toList = b) ∧ Hid (NM.afterSign s.data.toList = sfx s k) ∧ ((∃ hlt : k < s.size, ((s[k].toNat : Int) == 43) = false ∧ ((s[k].toNat : Int) == 45) = false) ∨ ¬ k < s.size)) := by
  by_cases hlt : k < s.size
  · have HS := Lib.hid (sfx_lt hlt)
    rcases sign_cases s[k] (sfx s (k + 1)) with ⟨t1, t2, t3, t4⟩ | ⟨t1, t2, t3, t4⟩ | ⟨t1, t2, t3, t4⟩
    · exact .inl ⟨hlt, b, .inl ⟨t1, t2, rfl⟩, by show _ = _; rw [HN.out, HS.out, t3], by show _ = _; rw [HA.out, HS.out, t4]⟩
    · exact .inl ⟨hlt, !b, .inr ⟨t1, t2, rfl⟩, by show _ = _; rw [HN.out, HS.out, t3]; cases b <;> cases NM.neg (sfx s (k + 1)) <;> rfl, by show _ = _; rw [HA.out, HS.out, t4]⟩
    · exact .inr ⟨by show _ = _; rw [HN.out, HS.out, t3]; cases b <;> rfl, by show _ = _; rw [HA.out, HS.out, t4], .inl ⟨hlt, t1, t2⟩⟩
  · exact .inr ⟨by show _ = _; rw [HN.out, sfx_ge (by omega)]; cases b <;> rfl, by show _ = _; rw [HA.out, sfx_ge (by omega)]; rfl, .inr hlt⟩

/-- The whole part's loop, one round. -/
theorem whole_round (s : ByteArray) (k j : Nat) (q : Int) (hj : j ≤ s.size) (hq0 : 0 ≤ q) (hq1 : q ≤ 1000000000000) (HW : Hid (NM.whole 0 (sfx s k) = NM.whole q (sfx s j))) (HD : Hid (NM.afterDigs (sfx s k) = NM.afterDigs (sfx s j))) :
    (∃ hlt : j < s.size, isDig s[j].toNat = true ∧ ∃ d x : Int, (s[j].toNat : Int) - 48 = d ∧ 0 ≤ d ∧ d ≤ 9 ∧ 48 ≤ s[j].toNat ∧ s[j].toNat ≤ 57 ∧ Hid ((10 * q + d ≤ 1000000000000 ∧ x = 10 * q + d) ∨ (1000000000000 ≤ 10 * q + d ∧ x = 1000000000000)) ∧ 0 ≤ x ∧ x ≤ 1000000000000 ∧
      Hid (NM.whole 0 (sfx s k) = NM.whole x (sfx s (j + 1))) ∧ Hid (NM.afterDigs (sfx s k) = NM.afterDigs (sfx s (j + 1)))) ∨
    (Hid (NM.whole 0 (sfx s k) = q) ∧
      ((∃ hlt : j < s.size, isDig s[j].toNat = false ∧ ((s[j].toNat : Int) == 46) = true ∧ Hid (NM.afterDigs (sfx s k) = 46 :: sfx s (j + 1))) ∨
       (Hid (∀ r, NM.afterDigs (sfx s k) ≠ 46 :: r) ∧ ((∃ hlt : j < s.size, isDig s[j].toNat = false ∧ ((s[j].toNat : Int) == 46) = false) ∨ ¬ j < s.size)))) := by
  by_cases hlt : j < s.size
  · have HS := Lib.hid (sfx_lt hlt)
    cases hd : NM.dg s[j]
    · right
      refine ⟨by show _ = _; rw [HW.out, HS.out, whole_stop hd], ?_⟩
      rcases eqForms (s[j].toNat : Int) 46 with ⟨e1, e2, e3⟩ | ⟨e1, e2, e3⟩
      · left
        refine ⟨hlt, hd, e1, ?_⟩
        show _ = _
        rw [HD.out, HS.out, after_stop hd]
        congr 1
        exact u8_of_nat (n := 46) (by simpa using e1) (by omega)
      · right
        refine ⟨?_, .inl ⟨hlt, hd, e1⟩⟩
        intro r h
        rw [HD.out, HS.out, after_stop hd] at h
        have h1 : s[j] = 46 := (List.cons.inj h).1
        rw [h1] at e1; cases e1
    · left
      obtain ⟨d, h1, h2, h3, HV, h4, h5⟩ := digit_of hd
      obtain ⟨x, hx⟩ : ∃ x : Int, (10 * q + d ≤ 1000000000000 ∧ x = 10 * q + d) ∨ (1000000000000 ≤ 10 * q + d ∧ x = 1000000000000) := by
        by_cases h : 10 * q + d ≤ 1000000000000
        · exact ⟨_, .inl ⟨h, rfl⟩⟩
        · exact ⟨_, .inr ⟨by omega, rfl⟩⟩
      exact ⟨hlt, hd, d, x, h1, h2, h3, h4, h5, hx, by omega, by omega, by show _ = _; rw [HW.out, HS.out, whole_dig hd q _ d x HV.out hx], by show _ = _; rw [HD.out, HS.out, after_dig hd]⟩
  · right
    refine ⟨by show _ = _; rw [HW.out, sfx_ge (s := s) (k := j) (by omega)]; rfl, .inr ⟨?_, .inr hlt⟩⟩
    intro r h
    rw [HD.out, sfx_ge (s := s) (k := j) (by omega)] at h
    cases h

/-- The fraction's loop, one round. -/
theorem frac_round (s : ByteArray) (n3 : Int) (j : Nat) (q u : Int) (hj : j ≤ s.size) (HF : Hid (n3 = NM.frac q u (sfx s j))) :
    (∃ hlt : j < s.size, isDig s[j].toNat = true ∧ ∃ d : Int, (s[j].toNat : Int) - 48 = d ∧ 0 ≤ d ∧ d ≤ 9 ∧ 48 ≤ s[j].toNat ∧ s[j].toNat ≤ 57 ∧ Hid (n3 = NM.frac (q + d * u) (u / 10) (sfx s (j + 1)))) ∨
    (n3 = q ∧ ((∃ hlt : j < s.size, isDig s[j].toNat = false) ∨ ¬ j < s.size)) := by
  by_cases hlt : j < s.size
  · have HS := Lib.hid (sfx_lt hlt)
    cases hd : NM.dg s[j]
    · exact .inr ⟨by rw [HF.out, HS.out, frac_stop hd], .inl ⟨hlt, hd⟩⟩
    · obtain ⟨d, h1, h2, h3, HV, h4, h5⟩ := digit_of hd
      exact .inl ⟨hlt, hd, d, h1, h2, h3, h4, h5, by show _ = _; rw [HF.out, HS.out, frac_dig hd q u _ d HV.out]⟩
  · exact .inr ⟨by rw [HF.out, sfx_ge (s := s) (k := j) (by omega)]; rfl, .inr hlt⟩

theorem min_ex (a b : Int) : ∃ c : Int, (a ≤ b ∧ c = a) ∨ (b ≤ a ∧ c = b) := by
  by_cases h : a ≤ b
  · exact ⟨_, .inl ⟨h, rfl⟩⟩
  · exact ⟨_, .inr ⟨by omega, rfl⟩⟩

set_option maxHeartbeats 4000000 in
theorem l01Of_any (s : ByteArray) (w : World) (hs : s.size ≤ 1048576) : Calls Tryz.prog 78 #[.string s] w fun e w' => ∃ n : Int, e = .returned (.int .i64 n) ∧ Hid (n = NM.numOf s.data.toList) ∧ w = w' := by
  go_enter Tryz.func78, Tryz.ntmps78
  go_wp2
  go_loop [3, 4] (fun i m => ∃ (k : Nat) (b : Bool), k ≤ s.size ∧ i = .int .i64 k ∧ m = .bool b ∧ Hid (NM.neg s.data.toList = (b != NM.neg (sfx s k))) ∧ Hid (NM.afterSign s.data.toList = NM.afterSign (sfx s k))) (fun i _ => s.size - (intOf i).toNat)
  case atStart => exact ⟨0, false, Nat.zero_le _, rfl, rfl, by show _ = _; rw [l01_list]; simp, by show _ = _; rw [l01_list]⟩
  case round =>
    obtain ⟨k, b, hk, rfl, rfl, HN, HA⟩ := hrel
    rcases sign_round s k b hk HN HA with ⟨hlt, b', (⟨t1, t2, hb'⟩ | ⟨t1, t2, hb'⟩), HN', HA'⟩ | ⟨HB, HL, hcase⟩
    · go_wp2
      exact ⟨⟨k + 1, _, by omega, by go_num, by rw [hb'], HN', HA'⟩, by simp [intOf]; omega⟩
    · go_wp2
      exact ⟨⟨k + 1, _, by omega, by go_num, by rw [hb'], HN', HA'⟩, by simp [intOf]; omega⟩
    clear HN HA
    rcases hcase with ⟨hlt, t1, t2⟩ | hlt
    all_goals
      go_wp2
      go_loop [3, 5] (fun i n => ∃ (j : Nat) (q : Int), j ≤ s.size ∧ i = .int .i64 j ∧ n = .int .i64 q ∧ 0 ≤ q ∧ q ≤ 1000000000000 ∧ Hid (NM.whole 0 (sfx s k) = NM.whole q (sfx s j)) ∧ Hid (NM.afterDigs (sfx s k) = NM.afterDigs (sfx s j))) (fun i _ => s.size - (intOf i).toNat)
      case atStart => exact ⟨k, 0, by omega, rfl, rfl, by omega, by omega, rfl, rfl⟩
      case round =>
        obtain ⟨j, q, hj, rfl, rfl, hq0, hq1, HW, HD⟩ := hrel
        rcases whole_round s k j q hj hq0 hq1 HW HD with ⟨hlt, hD, d, x, hd, hd0, hd1, h48, h57, HX, hx0, hx1, HW', HD'⟩ | ⟨HQ, hcase⟩
        · go_wp2_with (first | (go_at_call 64; refine (l01Digit_any _ _).mono ?_; rintro e w' ⟨rfl, rfl⟩) | (go_at_call 87; refine (l00Min_any _ _ x HX.out _).mono ?_; rintro e w' ⟨rfl, rfl⟩))
          exact ⟨⟨j + 1, x, by omega, by go_num, rfl, hx0, hx1, HW', HD'⟩, by simp [intOf]; omega⟩
        clear HW HD
        obtain ⟨n2, h2⟩ := min_ex (q * 1000000) 1000000000000000000
        have hn20 : 0 ≤ n2 ∧ n2 ≤ 1000000000000000000 := by omega
        have H2 := Lib.hid h2; clear h2
        rcases hcase with ⟨hlt, hD, e46, HP⟩ | ⟨HP, hcase⟩
        · go_wp2_with (first | (go_at_call 64; refine (l01Digit_any _ _).mono ?_; rintro e w' ⟨rfl, rfl⟩) | (go_at_call 87; refine (l00Min_any _ _ n2 H2.out _).mono ?_; rintro e w' ⟨rfl, rfl⟩))
          obtain ⟨n3, hn3⟩ : ∃ n3, n3 = NM.frac n2 100000 (sfx s (j + 1)) := ⟨_, rfl⟩
          have H3 := Lib.hid hn3; clear hn3
          go_loop [3, 5, 6] (fun i n u => ∃ (j' : Nat) (q' u' : Int), j' ≤ s.size ∧ i = .int .i64 j' ∧ n = .int .i64 q' ∧ u = .int .i64 u' ∧ 0 ≤ q' ∧ 0 ≤ u' ∧ u' ≤ 100000 ∧ q' + 10 * u' ≤ 1000000000001000000 ∧ Hid (n3 = NM.frac q' u' (sfx s j'))) (fun i _ _ => s.size - (intOf i).toNat)
          case atStart => exact ⟨j + 1, n2, 100000, by omega, by go_num, rfl, rfl, by omega, by omega, by omega, by omega, H3⟩
          case round =>
            obtain ⟨j', q', u', hj', rfl, rfl, rfl, hq0', hu0, hu1, hqu, HF⟩ := hrel
            rcases frac_round s n3 j' q' u' hj' HF with ⟨hlt', hD', d, hd, hd0, hd1, h48, h57, HF'⟩ | ⟨rfl, hcase⟩
            · obtain ⟨p, hp, hp0, hp1⟩ : ∃ p : Int, d * u' = p ∧ 0 ≤ p ∧ p ≤ 9 * u' := ⟨_, rfl, Int.mul_nonneg hd0 hu0, Int.mul_le_mul_of_nonneg_right hd1 hu0⟩
              rw [hp] at HF'
              go_wp2_with (first | (go_at_call 64; refine (l01Digit_any _ _).mono ?_; rintro e w' ⟨rfl, rfl⟩))
              exact ⟨⟨j' + 1, q' + p, u' / 10, by omega, by go_num, rfl, rfl, by omega, by omega, by omega, by omega, HF'⟩, by simp [intOf]; omega⟩
            obtain ⟨n4, h4⟩ := min_ex n3 999999999999999999
            have H4 := Lib.hid h4
            have HM := Lib.hid (mag_of (sfx s k) q n2 n3 HQ.out H2.out (.inl ⟨_, HP.out, H3.out⟩) n4 h4)
            have hn4 : 0 ≤ n4 ∧ n4 ≤ 999999999999999999 := by omega
            clear h4
            rcases hcase with ⟨hlt', hD'⟩ | hlt' <;> cases b
            all_goals
              go_wp2_with (first | (go_at_call 64; refine (l01Digit_any _ _).mono ?_; rintro e w' ⟨rfl, rfl⟩) | (go_at_call 87; refine (l00Min_any _ _ n4 H4.out _).mono ?_; rintro e w' ⟨rfl, rfl⟩))
              go_ret
              refine ⟨_, rfl, ?_, rfl⟩
              show _ = _
              unfold NM.numOf
              rw [HB.out, HL.out, ← HM.out]; rfl
        · obtain ⟨n4, h4⟩ := min_ex n2 999999999999999999
          have H4 := Lib.hid h4
          have HM := Lib.hid (mag_of (sfx s k) q n2 n2 HQ.out H2.out (.inr ⟨HP.out, rfl⟩) n4 h4)
          have hn4 : 0 ≤ n4 ∧ n4 ≤ 999999999999999999 := by omega
          clear h4
          rcases hcase with ⟨hlt', hD', e46⟩ | hlt' <;> cases b
          all_goals
            go_wp2_with (go_at_call 64; refine (l01Digit_any _ _).mono ?_; rintro e w' ⟨rfl, rfl⟩)
            refine (l00Min_any _ _ n2 H2.out _).mono ?_
            rintro e w' ⟨rfl, rfl⟩
            go_wp2_with fail
            refine (l00Min_any _ _ n4 H4.out _).mono ?_
            rintro e w' ⟨rfl, rfl⟩
            go_wp2_with fail
            go_ret
            refine ⟨_, rfl, ?_, rfl⟩
            show _ = _
            unfold NM.numOf
            rw [HB.out, HL.out, ← HM.out]; rfl

end Go.Proofs.YtllamjgloilioaaGreatDoor
