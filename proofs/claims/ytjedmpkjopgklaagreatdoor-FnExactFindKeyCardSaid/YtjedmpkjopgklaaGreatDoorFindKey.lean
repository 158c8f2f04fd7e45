/- FindKey: the search in sorted keys, both sides. -/
import Derived.Test.YtjedmpkjopgklaaGreatDoorPageLaw
namespace Go.Proofs.YtjedmpkjopgklaaGreatDoor
open Go.RowKit Go.ChangeShapes Go.WideShapes Go.ChangeAt Go.Deep
set_option linter.unusedVariables false

theorem bytesLess_trans : ∀ x y z : List UInt8, Op.bytesLess x y = true → Op.bytesLess y z = true → Op.bytesLess x z = true
  | _, _, [], _, h => by simp [Op.bytesLess] at h
  | [], _, _ :: _, _, _ => by simp [Op.bytesLess]
  | a :: x, [], _ :: _, h, _ => by simp [Op.bytesLess] at h
  | a :: x, b :: y, c :: z, h1, h2 => by
    simp only [Op.bytesLess, Bool.or_eq_true, Bool.and_eq_true, decide_eq_true_eq, beq_iff_eq] at *
    rcases h1 with h1 | ⟨rfl, h1⟩
    · rcases h2 with h2 | ⟨rfl, h2⟩
      · exact .inl (by rw [UInt8.lt_iff_toNat_lt] at *; omega)
      · exact .inl h1
    · rcases h2 with h2 | ⟨rfl, h2⟩
      · exact .inl h2
      · exact .inr ⟨rfl, bytesLess_trans x y z h1 h2⟩

def lt (x y : ByteArray) : Bool := Op.bytesLess x.toList y.toList

/-- Keys in order. -/
def Sorted (xs : List ByteArray) : Prop := xs.Pairwise fun x y => lt x y = true

def linkB : Option ByteArray → ByteArray → Bool
  | none, _ => true
  | some y, x => lt y x

theorem keysGo_cons (p : Option ByteArray) (x : ByteArray) (r : List ByteArray) : keysGo p (x :: r) = ((kOk x && linkB p x) && keysGo (some x) r) := by cases p <;> rfl

theorem keysGo_sorted : ∀ (xs : List ByteArray) (p : Option ByteArray), keysGo p xs = true → Sorted xs ∧ ∀ y, p = some y → ∀ x ∈ xs, lt y x = true
  | [], p, _ => ⟨List.Pairwise.nil, fun _ _ x hx => by cases hx⟩
  | x :: r, p, h => by
    rw [keysGo_cons, Bool.and_eq_true, Bool.and_eq_true] at h
    obtain ⟨⟨_, h1⟩, h2⟩ := h
    obtain ⟨i1, i2⟩ := keysGo_sorted r (some x) h2
    refine ⟨List.Pairwise.cons (fun z hz => i2 x rfl z hz) i1, fun y hy z hz => ?_⟩
    subst hy
    rcases List.mem_cons.1 hz with rfl | hz
    · exact h1
    · exact bytesLess_trans _ _ _ h1 (i2 x rfl z hz)

/-- How many keys are below. -/
def lowN (xs : List ByteArray) (t : ByteArray) : Nat := (xs.takeWhile fun x => lt x t).length

theorem lowN_of : ∀ (xs : List ByteArray) (t : ByteArray) (i : Nat), i ≤ xs.length → (∀ j (h : j < xs.length), j < i → lt xs[j] t = true) → (∀ h : i < xs.length, lt xs[i] t = false) → lowN xs t = i
  | [], t, i, hi, _, _ => by simp at hi; subst hi; rfl
  | x :: r, t, 0, _, _, h0 => by
    have := h0 (by simp)
    simp only [List.getElem_cons_zero] at this
    simp [lowN, this]
  | x :: r, t, i + 1, hi, hl, h0 => by
    have h1 := hl 0 (by simp) (by omega)
    simp only [List.getElem_cons_zero] at h1
    have ih := lowN_of r t i (by simpa using hi) (fun j h hj => by have := hl (j + 1) (by simpa using h) (by omega); simpa using this) (fun h => by have := h0 (by simpa using h); simpa using this)
    simp only [lowN, List.takeWhile_cons, h1, if_true, List.length_cons] at ih ⊢
    omega

/-- What FindKey answers for right pages: the place, and whether the key is there. -/
def hasK (xs : List ByteArray) (t : ByteArray) : Bool := match xs[lowN xs t]? with | none => false | some y => decide (y = t)

theorem cmpLess_any (x y : ByteArray) (w : World) : Calls Tryz.prog 109 #[.string x, .string y] w fun e w' => e = .returned (.bool (lt x y)) ∧ w = w' := by
  have e1 : (x.toList == x.toList) = true := by simp
  have HL : Hid (Op.bytesLess x.toList y.toList = lt x y) := rfl
  obtain ⟨L, hL⟩ : ∃ L, Op.bytesLess x.toList y.toList = L := ⟨_, rfl⟩
  rw [hL] at HL
  cases L
  all_goals
    go_enter Tryz.func109, Tryz.ntmps109
    go_wp2_with go_in
    go_ret
    exact ⟨ret_bool HL.out, rfl⟩

theorem isNaN_any (x : ByteArray) (w : World) : Calls Tryz.prog 110 #[.string x] w fun e w' => e = .returned (.bool false) ∧ w = w' := by
  have e1 : (x.toList == x.toList) = true := by simp
  go_enter Tryz.func110, Tryz.ntmps110
  go_wp2
  go_ret
  exact ⟨rfl, rfl⟩

theorem strEqForms (x y : ByteArray) : ((x.toList == y.toList) = true ∧ Hid (x = y)) ∨ ((x.toList == y.toList) = false ∧ Hid (¬ x = y)) := by
  by_cases h : x = y
  · subst h; exact .inl ⟨by simp, rfl⟩
  · right
    refine ⟨?_, h⟩
    rw [ba_toList, ba_toList]; exact beq_eq_false_iff_ne.2 (fun e => h (ba_ext e))

/-- What the binary search knows: all below i are less, none from j on is. -/
def Split (xs : List ByteArray) (t : ByteArray) (i j : Nat) : Prop := (∀ k (h : k < xs.length), k < i → lt xs[k] t = true) ∧ (∀ k (h : k < xs.length), j ≤ k → lt xs[k] t = false)

theorem Split.up {xs : List ByteArray} {t : ByteArray} {i j h : Nat} (hs : Sorted xs) (hp : Split xs t i j) (hh : h < xs.length) (hl : lt xs[h] t = true) : Split xs t (h + 1) j := by
  refine ⟨fun k hk hkh => ?_, hp.2⟩
  rcases Nat.lt_or_ge k h with h1 | h1
  · exact bytesLess_trans _ _ _ (List.pairwise_iff_getElem.1 hs k h hk hh h1) hl
  · obtain rfl : k = h := by omega
    exact hl

theorem Split.down {xs : List ByteArray} {t : ByteArray} {i j h : Nat} (hs : Sorted xs) (hp : Split xs t i j) (hh : h < xs.length) (hl : lt xs[h] t = false) : Split xs t i h := by
  refine ⟨hp.1, fun k hk hkh => ?_⟩
  rcases Nat.lt_or_ge h k with h1 | h1
  · cases hc : lt xs[k] t with
    | false => rfl
    | true =>
      have q : lt xs[h] t = true := bytesLess_trans _ _ _ (List.pairwise_iff_getElem.1 hs h k hh hk h1) hc
      rw [hl] at q; cases q
  · obtain rfl : k = h := by omega
    exact hl

def GotSearch (xs : List ByteArray) (t : ByteArray) (e : Ending) : Prop := e = .returned (.tuple #[.int .i64 (lowN xs t), .bool (hasK xs t)])

set_option maxHeartbeats 1000000 in
set_option maxRecDepth 8000 in
theorem BinarySearch_any (v : Value) (xs : List ByteArray) (t : ByteArray) (w : World) (B : Nat) (h : StrsAt w B v xs) (hl : xs.length ≤ 1048576) (hs : Sorted xs) :
    Calls Tryz.prog 67 #[v, .string t] w fun e w' => GotSearch xs t e ∧ w = w' := by
  have HSO := Lib.hid hs; clear hs
  obtain ⟨A, c, rfl, hc, hr⟩ := h
  have HR := Lib.hid hr; clear hr
  go_enter Tryz.func67, Tryz.ntmps67
  go_wp2_with fail
  go_loop [7, 8, 9] (fun a b _ => ∃ i j : Nat, i ≤ j ∧ j ≤ xs.length ∧ a = .int .i64 i ∧ b = .int .i64 j ∧ Hid (Split xs t i j)) (fun a b _ => (intOf b - intOf a).toNat)
  case atStart => exact ⟨0, xs.length, Nat.zero_le _, Nat.le_refl _, rfl, rfl, fun k hk h => absurd h (by omega), fun k hk h => absurd h (by omega)⟩
  case round =>
    obtain ⟨i, j, hij, hj, rfl, rfl, HI⟩ := hrel
    by_cases hlt : i < j
    · obtain ⟨m, hm⟩ : ∃ m, (i + j) / 2 = m := ⟨_, rfl⟩
      have hmi : i ≤ m := by omega
      have hmj : m < j := by omega
      have hml : m < xs.length := by omega
      obtain ⟨ad, rfl, _, hcell⟩ := HR.out.strAt hml
      have k1 : ((i : Int) + (j : Int)) / 2 = (m : Int) := by omega
      have k2 : (0 : Int) ≤ m := by omega
      have k3 : (m : Int) < xs.length := by omega
      have HUP := Lib.hid (fun hx => Split.up HSO.out HI.out hml hx)
      have HDN := Lib.hid (fun hx => Split.down HSO.out HI.out hml hx)
      have HC := Lib.hid (fun W => cmpLess_any xs[m] t W)
      generalize xs[m] = x at *
      clear hm HI
      cases hL : lt x t
      · rw [hL] at HC HDN
        have HS := Lib.hid (HDN.out rfl); clear hL HUP HDN
        go_wp2_with fail
        refine (HC.out _).mono ?_
        rintro e w' ⟨rfl, rfl⟩
        go_wp2_with fail
        exact ⟨⟨i, m, hmi, by omega, rfl, rfl, HS⟩, by simp [intOf]; omega⟩
      · rw [hL] at HC HUP
        have HS := Lib.hid (HUP.out rfl); clear hL HUP HDN
        go_wp2_with fail
        refine (HC.out _).mono ?_
        rintro e w' ⟨rfl, rfl⟩
        go_wp2_with fail
        exact ⟨⟨m + 1, j, by omega, by omega, by go_num, rfl, HS⟩, by simp [intOf]; omega⟩
    · obtain rfl : i = j := by omega
      have HN : Hid (lowN xs t = i) := lowN_of xs t i hj HI.out.1 (fun h => HI.out.2 i h (Nat.le_refl _))
      by_cases hlen : i < xs.length
      · obtain ⟨ad, rfl, _, hcell⟩ := HR.out.strAt hlen
        have HK : Hid (hasK xs t = decide (xs[i] = t)) := by show _ = _; unfold hasK; rw [HN.out, List.getElem?_eq_getElem hlen]
        have k2 : (0 : Int) ≤ i := by omega
        have k3 : (i : Int) < xs.length := by omega
        have HNX := Lib.hid (fun W => isNaN_any xs[i] W)
        generalize xs[i] = x at *
        clear HI
        rcases strEqForms x t with ⟨e1, e2⟩ | ⟨e1, e2⟩
        · go_wp2_with fail
          go_ret2
          exact ⟨by unfold GotSearch; rw [HN.out, HK.out, decide_eq_true e2.out]; rfl, rfl⟩
        · go_wp2_with fail
          refine (HNX.out _).mono ?_
          rintro e w' ⟨rfl, rfl⟩
          go_wp2_with fail
          go_ret2
          exact ⟨by unfold GotSearch; rw [HN.out, HK.out, decide_eq_false e2.out]; rfl, rfl⟩
      · have HK : Hid (hasK xs t = false) := by show _ = _; unfold hasK; rw [HN.out, List.getElem?_eq_none (by omega)]
        clear HI
        go_wp2_with fail
        go_ret2
        exact ⟨by unfold GotSearch; rw [HN.out, HK.out]; rfl, rfl⟩

end Go.Proofs.YtjedmpkjopgklaaGreatDoor
