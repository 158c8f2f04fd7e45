/- MulNum and DivNum: both sides, and the laws. -/
import Derived.Test.YtkoagpeeohmokaaGreatDoorDiv64b
namespace Go.Proofs.YtkoagpeeohmokaaGreatDoor
open Go.RowKit
set_option linter.unusedVariables false

def mulNum : Int → Int → Int × Int := binNum false fun a b => ratioV a.natAbs b.natAbs 1000000 (decide (a < 0) != decide (b < 0))

def divNum : Int → Int → Int × Int := binNum true fun a b => ratioV a.natAbs 1000000 b.natAbs (decide (a < 0) != decide (b < 0))

theorem magnitude_any (n : Int) (w : World) (hn : -9000000000000000000 ≤ n) (hn2 : n ≤ 9000000000000000000) : Calls Tryz.prog 187 #[.int .i64 n] w fun e w' => e = .returned (.int .u64 (n.natAbs : Int)) ∧ w = w' := by
  have HA : Hid (0 ≤ n → (n.natAbs : Int) = n) := fun h => by omega
  have HB : Hid (n < 0 → (n.natAbs : Int) = -n) := fun h => by omega
  generalize n.natAbs = m at *
  by_cases h0 : n < 0
  · go_enter Tryz.func187, Tryz.ntmps187
    go_wp2
    go_ret
    exact ⟨ret_int (HB.out h0).symm, rfl⟩
  · go_enter Tryz.func187, Tryz.ntmps187
    go_wp2
    go_ret
    exact ⟨ret_int (HA.out (by omega)).symm, rfl⟩

theorem signs (a b : Int) : ∃ p q s : Bool, decide (a < 0) = p ∧ decide (b < 0) = q ∧ (!(p == q)) = s ∧ Hid ((p != q) = s) := ⟨_, _, _, rfl, rfl, rfl, rfl⟩

theorem nat_le {a : Int} (h : -999999999999999999 ≤ a ∧ a ≤ 999999999999999999) : a.natAbs ≤ 999999999999999999 := by omega

set_option maxHeartbeats 1000000 in
theorem MulNum_any (a b : Int) (w : World) : Calls Tryz.prog 149 #[.int .i64 a, .int .i64 b] w fun e w' => e = .returned (.tuple #[.int .i64 (mulNum a b).1, .int .i64 (mulNum a b).2]) ∧ ∃ n, w' = w.drewN n := by
  rcases opCode_cases a b false with ⟨h, hx⟩ | ⟨h, _, _, hd, _⟩ | ⟨h, ha, hb, _⟩
  · have HO := Lib.hid h
    clear hx
    go_enter Tryz.func149, Tryz.ntmps149
    go_wp2_with (go_at_call 184; refine (operands_any _ _ _ _).mono ?_; rintro e w' ⟨rfl, rfl⟩)
    go_ret2
    exact ⟨ret_pair (binNum_err HO.out (by decide)), 0, rfl⟩
  · cases hd
  · have HV := Lib.hid (binNum_ok (f := fun a b => ratioV a.natAbs b.natAbs 1000000 (decide (a < 0) != decide (b < 0))) h)
    have ba := isNumB_true ha
    have bb := isNumB_true hb
    have HOP := Lib.hid (operands_any a b false)
    rw [h] at HOP
    clear h ha hb
    obtain ⟨p, q, s, hp, hq, hs, hs'⟩ := signs a b
    rw [hp, hq, hs'.out] at HV
    have HR : Hid (∀ W, Calls Tryz.prog 186 #[.int .u64 (a.natAbs : Int), .int .u64 (b.natAbs : Int), .int .u64 1000000, .bool s] W _) := fun W => ratio_any a.natAbs b.natAbs 1000000 s W (nat_le ba) (nat_le bb) (by decide) (by decide)
    have HMA := Lib.hid (fun W => magnitude_any a W (by omega) (by omega))
    have HMB := Lib.hid (fun W => magnitude_any b W (by omega) (by omega))
    generalize a.natAbs = x at *
    generalize b.natAbs = y at *
    go_enter Tryz.func149, Tryz.ntmps149
    go_wp2_with fail
    refine (HOP.out _).mono ?_
    rintro e w' ⟨rfl, rfl⟩
    go_wp2_with fail
    refine (HMA.out _).mono ?_
    rintro e w' ⟨rfl, rfl⟩
    go_wp2_with fail
    refine (HMB.out _).mono ?_
    rintro e w' ⟨rfl, rfl⟩
    go_wp2_with fail
    refine (HR.out _).mono ?_
    rintro e w' ⟨rfl, n, rfl⟩
    go_wp2_with fail
    go_ret2
    exact ⟨ret_pair HV.out, _, rfl⟩

set_option maxHeartbeats 1000000 in
theorem DivNum_any (a b : Int) (w : World) : Calls Tryz.prog 150 #[.int .i64 a, .int .i64 b] w fun e w' => e = .returned (.tuple #[.int .i64 (divNum a b).1, .int .i64 (divNum a b).2]) ∧ ∃ n, w' = w.drewN n := by
  rcases opCode_cases a b true with ⟨h, hx⟩ | ⟨h, hx⟩ | ⟨h, ha, hb, hz⟩
  · have HO := Lib.hid h
    clear hx
    go_enter Tryz.func150, Tryz.ntmps150
    go_wp2_with (go_at_call 184; refine (operands_any _ _ _ _).mono ?_; rintro e w' ⟨rfl, rfl⟩)
    go_ret2
    exact ⟨ret_pair (binNum_err HO.out (by decide)), 0, rfl⟩
  · have HO := Lib.hid h
    clear hx
    go_enter Tryz.func150, Tryz.ntmps150
    go_wp2_with (go_at_call 184; refine (operands_any _ _ _ _).mono ?_; rintro e w' ⟨rfl, rfl⟩)
    go_ret2
    exact ⟨ret_pair (binNum_err HO.out (by decide)), 0, rfl⟩
  · have HV := Lib.hid (binNum_ok (f := fun a b => ratioV a.natAbs 1000000 b.natAbs (decide (a < 0) != decide (b < 0))) h)
    have ba := isNumB_true ha
    have bb := isNumB_true hb
    have hb0 := hz rfl
    have HOP := Lib.hid (operands_any a b true)
    rw [h] at HOP
    clear h ha hb hz
    obtain ⟨p, q, s, hp, hq, hs, hs'⟩ := signs a b
    rw [hp, hq, hs'.out] at HV
    have HR : Hid (∀ W, Calls Tryz.prog 186 #[.int .u64 (a.natAbs : Int), .int .u64 1000000, .int .u64 (b.natAbs : Int), .bool s] W _) := fun W => ratio_any a.natAbs 1000000 b.natAbs s W (nat_le ba) (by decide) (by omega) (nat_le bb)
    have HMA := Lib.hid (fun W => magnitude_any a W (by omega) (by omega))
    have HMB := Lib.hid (fun W => magnitude_any b W (by omega) (by omega))
    clear hb0
    generalize a.natAbs = x at *
    generalize b.natAbs = y at *
    go_enter Tryz.func150, Tryz.ntmps150
    go_wp2_with fail
    refine (HOP.out _).mono ?_
    rintro e w' ⟨rfl, rfl⟩
    go_wp2_with fail
    refine (HMA.out _).mono ?_
    rintro e w' ⟨rfl, rfl⟩
    go_wp2_with fail
    refine (HMB.out _).mono ?_
    rintro e w' ⟨rfl, rfl⟩
    go_wp2_with fail
    refine (HR.out _).mono ?_
    rintro e w' ⟨rfl, n, rfl⟩
    go_wp2_with fail
    go_ret2
    exact ⟨ret_pair HV.out, _, rfl⟩

/-- A size with a sign. -/
theorem l01Signed_any (n a b : Int) (w : World) (hn : 0 ≤ n) (hn2 : n ≤ 9000000000000000000) (s : Bool) (hs : (decide (a < 0) != decide (b < 0)) = s) : Calls Tryz.prog 142 #[.int .i64 n, .int .i64 a, .int .i64 b] w fun e w' => e = .returned (.tuple #[.int .i64 (if s = true then -n else n), .int .i64 0]) ∧ w = w' := by
  obtain ⟨p, q, hp, hq, hs2⟩ : ∃ p q, decide (a < 0) = p ∧ decide (b < 0) = q ∧ (!(p == q)) = s := ⟨_, _, rfl, rfl, hs⟩
  clear hs
  cases s
  all_goals
    go_enter Tryz.func142, Tryz.ntmps142
    go_wp2
    go_ret2
    exact ⟨rfl, rfl⟩

theorem mulParts (x y h l a b : Nat) (hh : h = x / 1000000) (hl : l = x % 1000000) (ha : a = y / 1000000) (hb : b = y % 1000000) : x * y / 1000000 = h * y + l * a + l * b / 1000000 := by
  subst hh hl ha hb; exact MM.mul_parts x y

theorem tooMuch (x y h : Nat) (hh : h = x / 1000000) (h0 : 0 < h) (hy : 999999999999999999 / h < y) : 999999999999999999 < x * y / 1000000 := by
  rw [MM.mul_parts x y, ← hh]
  have h1 : 999999999999999999 < h * y := by
    have := (Nat.div_lt_iff_lt_mul h0).1 hy
    rw [Nat.mul_comm]; exact this
  omega

set_option maxHeartbeats 2000000 in
theorem l01Mul_any (a b : Int) (w : World) : Calls Tryz.prog 96 #[.int .i64 a, .int .i64 b] w fun e w' => e = .returned (.tuple #[.int .i64 (mulNum a b).1, .int .i64 (mulNum a b).2]) ∧ w = w' := by
  rcases opCode_cases a b false with ⟨h, h2⟩ | ⟨h, _, _, hd, _⟩ | ⟨h, ha, hb, _⟩
  · have HO := Lib.hid h
    clear h
    cases ha : isNumB a <;> cases hb : isNumB b <;> (try (exfalso; simp [ha, hb] at h2; done))
    all_goals
      clear h2
      go_enter Tryz.func96, Tryz.ntmps96
      go_wp2_with (go_at_call 139; refine (l01Is_any _ _).mono ?_; rintro e w' ⟨rfl, rfl⟩)
      go_ret2
      exact ⟨ret_pair (binNum_err HO.out (by decide)), rfl⟩
  · cases hd
  · have HV := Lib.hid (binNum_ok (f := fun a b => ratioV a.natAbs b.natAbs 1000000 (decide (a < 0) != decide (b < 0))) h)
    have ba := isNumB_true ha
    have bb := isNumB_true hb
    have HIA : Hid (∀ W, Calls Tryz.prog 139 #[.int .i64 a] W fun e w' => e = .returned (.bool true) ∧ W = w') := fun W => by have := l01Is_any a W; rw [ha] at this; exact this
    have HIB : Hid (∀ W, Calls Tryz.prog 139 #[.int .i64 b] W fun e w' => e = .returned (.bool true) ∧ W = w') := fun W => by have := l01Is_any b W; rw [hb] at this; exact this
    clear h ha hb
    obtain ⟨s, hs⟩ : ∃ s, (decide (a < 0) != decide (b < 0)) = s := ⟨_, rfl⟩
    rw [hs] at HV
    have HSG := Lib.hid (fun n W hn hn2 => l01Signed_any n a b W hn hn2 s hs)
    have HAA := Lib.hid (fun W => l01Abs_any a (a.natAbs : Int) (by omega) (by omega) W)
    have HAB := Lib.hid (fun W => l01Abs_any b (b.natAbs : Int) (by omega) (by omega) W)
    have bx := nat_le ba
    have bY := nat_le bb
    clear hs ba bb
    generalize a.natAbs = x at *
    generalize b.natAbs = y at *
    obtain ⟨h, hh⟩ : ∃ h, h = x / 1000000 := ⟨_, rfl⟩
    obtain ⟨l, hl⟩ : ∃ l, l = x % 1000000 := ⟨_, rfl⟩
    obtain ⟨c, hc⟩ : ∃ c, c = y / 1000000 := ⟨_, rfl⟩
    obtain ⟨d, hd⟩ : ∃ d, d = y % 1000000 := ⟨_, rfl⟩
    have k1 : (x : Int) / 1000000 = h := by omega
    have k2 : (x : Int) % 1000000 = l := by omega
    have k3 : (y : Int) / 1000000 = c := by omega
    have k4 : (y : Int) % 1000000 = d := by omega
    have bl : (l : Int) ≤ 999999 := by omega
    have bd : (d : Int) ≤ 999999 := by omega
    have bc : (c : Int) ≤ 999999999999 := by omega
    have bh : (h : Int) ≤ 999999999999 := by omega
    have byi : (y : Int) ≤ 999999999999999999 := by omega
    have bxi : (x : Int) ≤ 999999999999999999 := by omega
    have HT := Lib.hid (tooMuch x y h hh)
    have HP := Lib.hid (mulParts x y h l c d hh hl hc hd)
    have hcd : y = 1000000 * c + d := by omega
    clear hh hl hc hd bx bY
    by_cases hover : 0 < h ∧ 999999999999999999 / h < y
    · obtain ⟨h0, h1⟩ := hover
      have HF : Hid (mulNum a b = (0, 7)) := by show binNum _ _ _ _ = _; rw [HV.out]; unfold ratioV; rw [if_pos (HT.out h0 h1)]
      have t1 : decide ((0 : Int) < (h : Int)) = true := decide_eq_true (by omega)
      have t2 : (999999999999999999 : Int) / (h : Int) = ((999999999999999999 / h : Nat) : Int) := by rw [Int.natCast_ediv]; rfl
      have t3 : ((999999999999999999 / h : Nat) : Int) < (y : Int) := by omega
      have t4 : ((999999999999999999 / h : Nat) : Int) ≤ 999999999999999999 := by have := Nat.div_le_self 999999999999999999 h; omega
      have h0' : (0 : Int) < (h : Int) := by omega
      have e0 : ¬ h = 0 := by omega
      generalize 999999999999999999 / h = z at *
      clear h1 hcd HP HT h0
      go_enter Tryz.func96, Tryz.ntmps96
      go_wp2_with fail
      refine (HIA.out _).mono ?_
      rintro e w' ⟨rfl, rfl⟩
      go_wp2_with fail
      refine (HIB.out _).mono ?_
      rintro e w' ⟨rfl, rfl⟩
      go_wp2_with fail
      refine (HAA.out _).mono ?_
      rintro e w' ⟨rfl, rfl⟩
      go_wp2_with fail
      refine (HAB.out _).mono ?_
      rintro e w' ⟨rfl, rfl⟩
      go_wp2_with fail
      go_ret2
      exact ⟨ret_pair HF.out, rfl⟩
    · have hhy : h * y ≤ 999999999999999999 := by
        by_cases h0 : 0 < h
        · have : y ≤ 999999999999999999 / h := by omega
          have := (Nat.le_div_iff_mul_le h0).1 this
          rw [Nat.mul_comm]; exact this
        · have : h = 0 := by omega
          subst this; rw [Nat.zero_mul]; decide
      have hlc : l * c ≤ 999999 * 999999999999 := Nat.mul_le_mul (by omega) (by omega)
      have hld : l * d ≤ 999999 * 999999 := Nat.mul_le_mul (by omega) (by omega)
      have p1 : (h : Int) * (y : Int) = ((h * y : Nat) : Int) := (Int.natCast_mul _ _).symm
      have p2 : (l : Int) * (c : Int) = ((l * c : Nat) : Int) := (Int.natCast_mul _ _).symm
      have p3 : (l : Int) * (d : Int) = ((l * d : Nat) : Int) := (Int.natCast_mul _ _).symm
      have HQ := HP.out
      obtain ⟨q, hq⟩ : ∃ q, q = x * y / 1000000 := ⟨_, rfl⟩
      rw [← hq] at HQ
      have HT3 : Hid (0 < h → 999999999999999999 / h ≥ y) := fun h0 => by omega
      obtain ⟨N, hN⟩ : ∃ N : Int, (q : Int) = N := ⟨_, rfl⟩
      have HV3 : Hid (mulNum a b = if 999999999999999999 < q then (0, 7) else (if s = true then -N else N, 0)) := by
        show binNum _ _ _ _ = _
        rw [HV.out]; unfold ratioV; rw [← hq, hN]
      clear HV hq hcd HP HT hover
      generalize h * y = hy at *
      generalize l * c = lc at *
      generalize l * d = ld at *
      obtain ⟨e, he⟩ : ∃ e, ld / 1000000 = e := ⟨_, rfl⟩
      rw [he] at HQ
      have p4 : (ld : Int) / 1000000 = e := by omega
      have p5 : (hy : Int) + lc + e = N := by omega
      have b1 : (hy : Int) ≤ 999999999999999999 := by omega
      have b2 : (lc : Int) ≤ 999999999999999999 := by omega
      have b3 : (ld : Int) ≤ 999999999999999999 := by omega
      have b4 : (e : Int) ≤ 999999999999 := by omega
      have b5 : N ≤ 3000000000000000000 := by omega
      have b6 : 0 ≤ N := by omega
      clear he HQ hhy hlc hld
      have HSQ := Lib.hid (fun W => HSG.out N W (by omega) (by omega))
      clear HSG
      by_cases hq : 999999999999999999 < q
      · have HF : Hid (mulNum a b = (0, 7)) := by show _ = _; rw [HV3.out, if_pos hq]
        have t5 : decide ((999999999999999999 : Int) < N) = true := decide_eq_true (by omega)
        clear hq HV3 hN
        by_cases h0 : 0 < h
        · have hz := HT3.out h0
          have t1 : decide ((0 : Int) < (h : Int)) = true := decide_eq_true (by omega)
          have t2 : (999999999999999999 : Int) / (h : Int) = ((999999999999999999 / h : Nat) : Int) := by rw [Int.natCast_ediv]; rfl
          have t4 : ((999999999999999999 / h : Nat) : Int) ≤ 999999999999999999 := by have := Nat.div_le_self 999999999999999999 h; omega
          have h0' : (0 : Int) < (h : Int) := by omega
          have e0 : ¬ h = 0 := by omega
          obtain ⟨Z, hZ⟩ : ∃ Z : Int, ((999999999999999999 / h : Nat) : Int) = Z := ⟨_, rfl⟩
          have t3 : decide (Z < (y : Int)) = false := decide_eq_false (by omega)
          rw [hZ] at t2 t4
          clear hz h0 HT3 hZ
          go_enter Tryz.func96, Tryz.ntmps96
          go_wp2_with fail
          refine (HIA.out _).mono ?_
          rintro e w' ⟨rfl, rfl⟩
          go_wp2_with fail
          refine (HIB.out _).mono ?_
          rintro e w' ⟨rfl, rfl⟩
          go_wp2_with fail
          refine (HAA.out _).mono ?_
          rintro e w' ⟨rfl, rfl⟩
          go_wp2_with fail
          refine (HAB.out _).mono ?_
          rintro e w' ⟨rfl, rfl⟩
          go_wp2_with fail
          go_ret2
          exact ⟨ret_pair HF.out, rfl⟩
        · have t1 : decide (0 < h) = false := decide_eq_false h0
          clear h0 HT3
          go_enter Tryz.func96, Tryz.ntmps96
          go_wp2_with fail
          refine (HIA.out _).mono ?_
          rintro e w' ⟨rfl, rfl⟩
          go_wp2_with fail
          refine (HIB.out _).mono ?_
          rintro e w' ⟨rfl, rfl⟩
          go_wp2_with fail
          refine (HAA.out _).mono ?_
          rintro e w' ⟨rfl, rfl⟩
          go_wp2_with fail
          refine (HAB.out _).mono ?_
          rintro e w' ⟨rfl, rfl⟩
          go_wp2_with fail
          go_ret2
          exact ⟨ret_pair HF.out, rfl⟩
      · have HF : Hid (mulNum a b = (if s = true then -N else N, 0)) := by show _ = _; rw [HV3.out, if_neg hq]
        have t5 : decide ((999999999999999999 : Int) < N) = false := decide_eq_false (by omega)
        clear hq HV3 hN
        by_cases h0 : 0 < h
        · have hz := HT3.out h0
          have t1 : decide ((0 : Int) < (h : Int)) = true := decide_eq_true (by omega)
          have t2 : (999999999999999999 : Int) / (h : Int) = ((999999999999999999 / h : Nat) : Int) := by rw [Int.natCast_ediv]; rfl
          have t4 : ((999999999999999999 / h : Nat) : Int) ≤ 999999999999999999 := by have := Nat.div_le_self 999999999999999999 h; omega
          have h0' : (0 : Int) < (h : Int) := by omega
          have e0 : ¬ h = 0 := by omega
          obtain ⟨Z, hZ⟩ : ∃ Z : Int, ((999999999999999999 / h : Nat) : Int) = Z := ⟨_, rfl⟩
          have t3 : decide (Z < (y : Int)) = false := decide_eq_false (by omega)
          rw [hZ] at t2 t4
          clear hz h0 HT3 hZ
          go_enter Tryz.func96, Tryz.ntmps96
          go_wp2_with fail
          refine (HIA.out _).mono ?_
          rintro e w' ⟨rfl, rfl⟩
          go_wp2_with fail
          refine (HIB.out _).mono ?_
          rintro e w' ⟨rfl, rfl⟩
          go_wp2_with fail
          refine (HAA.out _).mono ?_
          rintro e w' ⟨rfl, rfl⟩
          go_wp2_with fail
          refine (HAB.out _).mono ?_
          rintro e w' ⟨rfl, rfl⟩
          go_wp2_with fail
          refine (HSQ.out _).mono ?_
          rintro e w' ⟨rfl, rfl⟩
          cases s
          all_goals
            go_wp2_with fail
            go_ret2
            exact ⟨ret_pair (by rw [HF.out]; rfl), rfl⟩
        · have t1 : decide (0 < h) = false := decide_eq_false h0
          clear h0 HT3
          go_enter Tryz.func96, Tryz.ntmps96
          go_wp2_with fail
          refine (HIA.out _).mono ?_
          rintro e w' ⟨rfl, rfl⟩
          go_wp2_with fail
          refine (HIB.out _).mono ?_
          rintro e w' ⟨rfl, rfl⟩
          go_wp2_with fail
          refine (HAA.out _).mono ?_
          rintro e w' ⟨rfl, rfl⟩
          go_wp2_with fail
          refine (HAB.out _).mono ?_
          rintro e w' ⟨rfl, rfl⟩
          go_wp2_with fail
          refine (HSQ.out _).mono ?_
          rintro e w' ⟨rfl, rfl⟩
          cases s
          all_goals
            go_wp2_with fail
            go_ret2
            exact ⟨ret_pair (by rw [HF.out]; rfl), rfl⟩

end Go.Proofs.YtkoagpeeohmokaaGreatDoor
