/- The number at the beginning of a text: plain functions on bytes, and that the two ways of reading it agree. No program in sight. -/
namespace Go.Proofs.YtllamjgloilioaaGreatDoor.NM

def sgn (c : UInt8) : Bool := c = 43 || c = 45
def dg (c : UInt8) : Bool := decide (48 ≤ c.toNat ∧ c.toNat ≤ 57)
def dv (c : UInt8) : Nat := c.toNat - 48

theorem dv_le {c : UInt8} (h : dg c = true) : dv c ≤ 9 := by simp [dg] at h; unfold dv; omega

/-- Is the number of minus marks at the beginning odd? -/
def neg : List UInt8 → Bool
  | [] => false
  | c :: r => if c = 45 then !neg r else if c = 43 then neg r else false

def afterSign (l : List UInt8) : List UInt8 := l.dropWhile sgn
def digs (l : List UInt8) : List UInt8 := l.takeWhile dg
def afterDigs (l : List UInt8) : List UInt8 := l.dropWhile dg

/-- The value of digits behind a number. -/
def val (a : Nat) (ds : List UInt8) : Nat := ds.foldl (fun a c => 10 * a + dv c) a

theorem val_nil (a : Nat) : val a [] = a := by unfold val; rw [List.foldl_nil]
theorem val_cons (a : Nat) (c : UInt8) (r : List UInt8) : val a (c :: r) = val (10 * a + dv c) r := by unfold val; rw [List.foldl_cons]
theorem val_append : ∀ (x : List UInt8) (a : Nat) (y : List UInt8), val a (x ++ y) = val (val a x) y
  | [], a, y => by rw [List.nil_append, val_nil]
  | c :: r, a, y => by rw [List.cons_append, val_cons, val_cons]; exact val_append r _ y
theorem val_ge : ∀ (ds : List UInt8) (a : Nat), a ≤ val a ds
  | [], a => Nat.le_refl _
  | c :: r, a => by rw [val_cons]; have := val_ge r (10 * a + dv c); omega

theorem val_mono : ∀ (ds : List UInt8) (a b : Nat), a ≤ b → val a ds ≤ val b ds
  | [], a, b, h => h
  | c :: r, a, b, h => by rw [val_cons, val_cons]; exact val_mono r _ _ (by omega)

theorem val_split : ∀ (ds : List UInt8) (a : Nat), val a ds = a * 10 ^ ds.length + val 0 ds
  | [], a => by simp [val_nil]
  | c :: r, a => by
    rw [val_cons, val_cons, val_split r (10 * a + dv c), val_split r (10 * 0 + dv c), List.length_cons, Nat.pow_succ]
    rw [Nat.add_mul, Nat.mul_zero, Nat.zero_add]
    have : 10 * a * 10 ^ r.length = a * (10 ^ r.length * 10) := by
      rw [Nat.mul_comm 10 a, Nat.mul_assoc, Nat.mul_comm 10 (10 ^ r.length)]
    omega

/-- Digits alone have a value below the power of ten. -/
theorem val_lt : ∀ (ds : List UInt8), (∀ c ∈ ds, dg c = true) → val 0 ds < 10 ^ ds.length
  | [], _ => by simp [val_nil]
  | c :: r, h => by
    rw [val_cons, val_split, List.length_cons, Nat.pow_succ]
    have h1 := val_lt r (fun x hx => h x (List.mem_cons_of_mem _ hx))
    have h2 := dv_le (h c List.mem_cons_self)
    have h3 : (10 * 0 + dv c) * 10 ^ r.length ≤ 9 * 10 ^ r.length := Nat.mul_le_mul_right _ (by omega)
    omega

/-- The program's way: digit by digit, at most the greatest number. -/
def scaled : Int → List UInt8 → Int
  | n, [] => n
  | n, c :: r => if (999999999999999999 - (dv c : Int)) / 10 < n then 999999999999999999 else scaled (10 * n + dv c) r

theorem scaled_eq : ∀ (ds : List UInt8) (a : Nat), (∀ c ∈ ds, dg c = true) → a ≤ 999999999999999999 → scaled a ds = min (val a ds : Nat) 999999999999999999
  | [], a, _, h => by simp only [scaled, val_nil]; omega
  | c :: r, a, hd, h => by
    have h2 := dv_le (hd c List.mem_cons_self)
    have hr : ∀ x ∈ r, dg x = true := fun x hx => hd x (List.mem_cons_of_mem _ hx)
    unfold scaled
    rw [val_cons]
    by_cases hc : (999999999999999999 - (dv c : Int)) / 10 < (a : Int)
    · rw [if_pos hc]
      have := val_ge r (10 * a + dv c)
      omega
    · rw [if_neg hc]
      have := scaled_eq r (10 * a + dv c) hr (by omega)
      rw [← this]
      congr 1

/-- The reference's way, in front of the point. -/
def whole : Int → List UInt8 → Int
  | n, [] => n
  | n, c :: r => if dg c then whole (if 10 * n + dv c ≤ 1000000000000 then 10 * n + dv c else 1000000000000) r else n

theorem whole_eq : ∀ (l : List UInt8) (a : Nat), a ≤ 1000000000000 → whole a l = min (val a (digs l) : Nat) 1000000000000
  | [], a, h => by simp only [whole, digs, List.takeWhile_nil, val_nil]; omega
  | c :: r, a, h => by
    unfold whole
    cases hc : dg c
    · simp only [digs, List.takeWhile_cons, hc, Bool.false_eq_true, if_false, val_nil]; omega
    · simp only [digs, List.takeWhile_cons, hc, if_true, val_cons]
      by_cases h1 : 10 * (a : Int) + dv c ≤ 1000000000000
      · rw [if_pos h1]
        have := whole_eq r (10 * a + dv c) (by omega)
        rw [digs] at this
        rw [← this]; congr 1
      · rw [if_neg h1]
        have h2 := whole_eq r 1000000000000 (Nat.le_refl _)
        rw [digs] at h2
        have h3 := val_ge (r.takeWhile dg) (10 * a + dv c)
        have h4 := val_ge (r.takeWhile dg) 1000000000000
        have e : ((1000000000000 : Nat) : Int) = 1000000000000 := rfl
        rw [e] at h2
        rw [h2]
        omega

/-- .. and behind it: each digit with its unit. -/
def frac : Int → Int → List UInt8 → Int
  | n, _, [] => n
  | n, u, c :: r => if dg c then frac (n + dv c * u) (u / 10) r else n

/-- The first k digits of the fraction, noughts behind. -/
def fracVal : Nat → List UInt8 → Nat
  | 0, _ => 0
  | _ + 1, [] => 0
  | k + 1, c :: r => if dg c then dv c * 10 ^ k + fracVal k r else 0

theorem frac_zero : ∀ (l : List UInt8) (n : Int), frac n 0 l = n
  | [], n => rfl
  | c :: r, n => by
    unfold frac
    split
    · have := frac_zero r n
      simpa using this
    · rfl

theorem pow_div (k : Nat) : ((10 ^ (k + 1) : Nat) : Int) / 10 = ((10 ^ k : Nat) : Int) := by
  rw [Nat.pow_succ]; omega

theorem frac_eq : ∀ (k : Nat) (l : List UInt8) (n : Int), frac n ((10 ^ k : Nat) : Int) l = n + fracVal (k + 1) l
  | k, [], n => by simp [frac, fracVal]
  | 0, c :: r, n => by
    unfold frac fracVal
    split
    · have : ((10 ^ 0 : Nat) : Int) / 10 = 0 := by decide
      rw [this, frac_zero]; simp [fracVal]
    · simp
  | k + 1, c :: r, n => by
    unfold frac fracVal
    split
    · rw [pow_div, frac_eq k r]
      simp only [Int.natCast_add, Int.natCast_mul]; omega
    · simp

/-- Six digits of a fraction: those that are there, and noughts. -/
theorem six_eq : ∀ (k : Nat) (l : List UInt8), val 0 ((digs l ++ List.replicate k 48).take k) = fracVal k l
  | 0, l => by simp [fracVal, val_nil]
  | k + 1, [] => by
    have : ∀ j, val 0 (List.replicate j (48 : UInt8)) = 0 := by
      intro j
      induction j with
      | zero => exact val_nil 0
      | succ j ih => rw [List.replicate_succ, val_cons]; exact ih
    simp [digs, fracVal, this]
  | k + 1, c :: r => by
    unfold fracVal
    cases hc : dg c
    · have : ∀ j, val 0 (List.replicate j (48 : UInt8)) = 0 := by
        intro j
        induction j with
        | zero => exact val_nil 0
        | succ j ih => rw [List.replicate_succ, val_cons]; exact ih
      simp [digs, hc, this]
    · have ih := six_eq k r
      simp only [digs, List.takeWhile_cons, hc, if_true, List.cons_append, List.take_succ_cons, val_cons]
      rw [val_split]
      have e : (List.takeWhile dg r ++ List.replicate (k + 1) 48).take k = (digs r ++ List.replicate k 48).take k := by
        rw [digs, List.replicate_succ', ← List.append_assoc, List.take_append_of_le_length]
        simp
      rw [e, ih]
      have : ((digs r ++ List.replicate k (48 : UInt8)).take k).length = k := by simp
      rw [this, Nat.mul_zero, Nat.zero_add]

/-- The size of the number that a text begins with, its sign taken off. -/
def mag (l : List UInt8) : Int :=
  let rest := afterDigs l
  let f := match rest with | c :: r => if c = 46 then fracVal 6 r else 0 | [] => 0
  min ((val 0 (digs l) * 1000000 + f : Nat) : Int) 999999999999999999

def numOf (l : List UInt8) : Int := if neg l then - mag (afterSign l) else mag (afterSign l)

theorem digs_all (l : List UInt8) : ∀ c ∈ digs l, dg c = true := by
  intro c h
  unfold digs at h
  induction l with
  | nil => simp at h
  | cons x r ih =>
    rw [List.takeWhile_cons] at h
    split at h
    · rcases List.mem_cons.1 h with rfl | h
      · assumption
      · exact ih h
    · simp at h

theorem fracVal_lt : ∀ (k : Nat) (l : List UInt8), fracVal k l < 10 ^ k
  | 0, l => by simp [fracVal]
  | k + 1, [] => by simp [fracVal]; exact Nat.pos_of_ne_zero (by simp)
  | k + 1, c :: r => by
    unfold fracVal
    split
    · rename_i h
      have h1 := fracVal_lt k r
      have h2 := dv_le h
      have h3 : dv c * 10 ^ k ≤ 9 * 10 ^ k := Nat.mul_le_mul_right _ h2
      rw [Nat.pow_succ]; omega
    · exact Nat.pos_of_ne_zero (by simp)

/-- The program's sum: the digits in front of the point, and six behind it. -/
theorem prog_mag (l fr : List UInt8) (hf : fr = (match afterDigs l with | c :: r => if c = 46 then digs r else [] | [] => [])) :
    scaled 0 (digs l ++ (fr ++ List.replicate 6 48).take 6) = mag l := by
  have hz : ∀ c ∈ List.replicate 6 (48 : UInt8), dg c = true := by
    intro c h; rw [List.eq_of_mem_replicate h]; decide
  have hfd : ∀ c ∈ fr, dg c = true := by
    subst hf
    cases afterDigs l with
    | nil => intro c h; cases h
    | cons x r =>
      intro c h
      simp only at h
      split at h
      · exact digs_all r c h
      · cases h
  have hd : ∀ c ∈ digs l ++ (fr ++ List.replicate 6 48).take 6, dg c = true := by
    intro c h
    rcases List.mem_append.1 h with h | h
    · exact digs_all l c h
    · rcases List.mem_append.1 (List.mem_of_mem_take h) with h | h
      · exact hfd c h
      · exact hz c h
  have h := scaled_eq _ 0 hd (by omega)
  have e0 : ((0 : Nat) : Int) = 0 := rfl
  rw [e0] at h
  rw [h, val_append, val_split]
  have hl : ((fr ++ List.replicate 6 (48 : UInt8)).take 6).length = 6 := by simp
  rw [hl]
  unfold mag
  have hv : val 0 ((fr ++ List.replicate 6 48).take 6) = (match afterDigs l with | c :: r => if c = 46 then fracVal 6 r else 0 | [] => 0) := by
    subst hf
    cases afterDigs l with
    | nil => exact six_eq 6 []
    | cons x r =>
      simp only
      split
      · exact six_eq 6 r
      · exact six_eq 6 []
  simp only
  rw [hv]
  have hp : (10 : Nat) ^ 6 = 1000000 := rfl
  rw [hp]
  omega

/-- The reference's sum. -/
theorem ref_mag (l : List UInt8) (n2 : Int) (h2 : n2 = min (whole 0 l * 1000000) 1000000000000000000) (f : Nat) (hf : f = (match afterDigs l with | c :: r => if c = 46 then fracVal 6 r else 0 | [] => 0)) :
    min (n2 + f) 999999999999999999 = mag l := by
  have h := whole_eq l 0 (by omega)
  have e0 : ((0 : Nat) : Int) = 0 := rfl
  rw [e0] at h
  have hfl : f < 1000000 := by
    rw [hf]
    cases afterDigs l with
    | nil => decide
    | cons x r =>
      simp only
      split
      · exact fracVal_lt 6 r
      · decide
  unfold mag
  simp only
  rw [← hf]
  rw [h] at h2
  omega

theorem take_while_eq (p : UInt8 → Bool) (l : List UInt8) : l.take (l.length - (l.dropWhile p).length) = l.takeWhile p := by
  have h : l = l.takeWhile p ++ l.dropWhile p := (List.takeWhile_append_dropWhile).symm
  have hl : l.length = (l.takeWhile p).length + (l.dropWhile p).length := by
    have := congrArg List.length h; rwa [List.length_append] at this
  have e : l.length - (l.dropWhile p).length = (l.takeWhile p).length := by omega
  rw [e]
  have h2 : (l.takeWhile p ++ l.dropWhile p).take (l.takeWhile p).length = l.takeWhile p := List.take_left
  rwa [← h] at h2

theorem neg_count : ∀ (l : List UInt8), neg l = decide ((l.takeWhile sgn).count 45 % 2 = 1)
  | [] => rfl
  | c :: r => by
    have ih := neg_count r
    unfold neg
    by_cases h1 : c = 45
    · subst h1
      have hs : sgn 45 = true := rfl
      rw [if_pos rfl, ih, List.takeWhile_cons, hs, if_pos rfl, List.count_cons_self]
      by_cases h2 : (r.takeWhile sgn).count 45 % 2 = 1
      · have h3 : ¬ ((r.takeWhile sgn).count 45 + 1) % 2 = 1 := by omega
        simp [h2, h3]
      · have h3 : ((r.takeWhile sgn).count 45 + 1) % 2 = 1 := by omega
        simp [h2, h3]
    · rw [if_neg h1]
      by_cases h2 : c = 43
      · subst h2
        have hs : sgn 43 = true := rfl
        rw [if_pos rfl, ih, List.takeWhile_cons, hs, if_pos rfl, List.count_cons_of_ne (by decide)]
      · rw [if_neg h2, List.takeWhile_cons]
        have hs : sgn c = false := by simp [sgn, h1, h2]
        rw [hs]; rfl

theorem digs_len (l : List UInt8) : (digs l).length = l.length - (afterDigs l).length := by
  have h : l = l.takeWhile dg ++ l.dropWhile dg := (List.takeWhile_append_dropWhile).symm
  have := congrArg List.length h
  rw [List.length_append] at this
  unfold digs afterDigs; omega

theorem take_digs (l : List UInt8) : l.take (digs l).length = digs l := by
  rw [digs_len]; exact take_while_eq dg l

theorem drop_digs (l : List UInt8) : l.drop (digs l).length = afterDigs l := by
  have h : l = digs l ++ afterDigs l := (List.takeWhile_append_dropWhile).symm
  have h2 : (digs l ++ afterDigs l).drop (digs l).length = afterDigs l := List.drop_left
  rwa [← h] at h2

theorem digs_le (l : List UInt8) : (digs l).length ≤ l.length := by rw [digs_len]; omega

theorem sgn_contains (c : UInt8) : [43, 45].contains c = sgn c := by
  simp [sgn]

theorem dg_contains (c : UInt8) : [48, 49, 50, 51, 52, 53, 54, 55, 56, 57].contains c = dg c := by
  have h : ∀ n : Nat, n < 256 → [48, 49, 50, 51, 52, 53, 54, 55, 56, 57].contains (UInt8.ofNat n) = decide (48 ≤ n ∧ n ≤ 57) := by decide +kernel
  have := h c.toNat (UInt8.toNat_lt c)
  rw [UInt8.ofNat_toNat] at this
  exact this

theorem mag_bd (l : List UInt8) : 0 ≤ mag l ∧ mag l ≤ 999999999999999999 := by
  unfold mag
  simp only
  omega

theorem numOf_bd (l : List UInt8) : -999999999999999999 ≤ numOf l ∧ numOf l ≤ 999999999999999999 := by
  have := mag_bd (afterSign l)
  unfold numOf; split <;> omega

end Go.Proofs.YtllamjgloilioaaGreatDoor.NM
