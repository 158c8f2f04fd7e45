/- SameSubs and SubsOk: the contracts of both sides, and the walks of the two laws. -/
import Derived.Test.YtdpcdedgpibdiaaStrs
import Derived.Test.YtdpcdedgpibdiaaSmall1
namespace Go.Proofs.Ytdpcdedgpibdiaa
open Go.RowKit
set_option linter.unusedVariables false

theorem StrsAt.on {w w' : World} {v : Value} {xs : List ByteArray} (h : StrsAt w w.heap.size v xs) (hb : Below w.heap.size w w') : StrsAt w' w'.heap.size v xs := (h.below hb).more hb.size

theorem SameSubs_any (v v2 : Value) (xs ys : List ByteArray) (w : World) (B : Nat) (h : StrsAt w B v xs) (h2 : StrsAt w B v2 ys) (hl : xs.length ≤ 1048576) :
    Calls Try.prog 30 #[v, v2] w fun e w' => e = .returned (.bool (decide (xs = ys))) ∧ ∃ n, w' = w.drewN n := by
  go_enter Try.func30, Try.ntmps30
  go_wp2_with (go_at_call 55; refine (slicesEqual_any _ _ xs ys _ B h h2 hl).mono ?_; rintro e w' ⟨rfl, n, rfl⟩)
  go_ret
  exact ⟨rfl, _, rfl⟩

theorem sSameSubs_any (v v2 : Value) (xs ys : List ByteArray) (w : World) (B : Nat) (h : StrsAt w B v xs) (h2 : StrsAt w B v2 ys) (hl : xs.length ≤ 1048576) :
    Calls Try.prog 28 #[v, v2] w fun e w' => e = .returned (.bool (decide (xs = ys))) ∧ ∃ n, w' = w.drewN n := by
  go_enter Try.func28, Try.ntmps28
  go_wp2_with (go_at_call 54; refine (l02Same_any _ _ xs ys _ B h h2 hl).mono ?_; rintro e w' ⟨rfl, n, rfl⟩)
  go_ret
  exact ⟨rfl, _, rfl⟩

theorem SameSubs_walk (v0 : Value) (xs0 : List ByteArray) (v1 : Value) (xs1 : List ByteArray) (w : World) (h0 : StrsAt w w.heap.size v0 xs0) (l0 : xs0.length ≤ maxLen) (z0 : ∀ x ∈ xs0, x.size ≤ maxLen) (h1 : StrsAt w w.heap.size v1 xs1) (l1 : xs1.length ≤ maxLen) (z1 : ∀ x ∈ xs1, x.size ≤ maxLen) :
    Calls Try.prog 9 #[v0, v1] w fun e w' => e = .returned (.bool true) ∧ Below w.heap.size w w' := by
  have Z0 := Lib.hid z0; clear z0
  have Z1 := Lib.hid z1; clear z1
  go_enter Try.func9, Try.ntmps9
  go_wp2_with fail
  refine (szStringS_ex v0 xs0 1048576 _ _ h0 (by omega) (by omega) l0 Z0.out).mono ?_
  rintro e w' ⟨q, rfl, rfl, q1, q2, hq⟩
  have Q := Lib.hid hq; clear hq
  by_cases q0 : q < 0
  · go_wp2_with fail
    go_ret
    exact ⟨rfl, below_refl _⟩
  have s0 : xs0.length ≤ 1048576 := by have := Q.out (by omega); omega
  go_wp2_with fail
  refine (szStringS_ex v1 xs1 q _ _ h1 (by omega) (by omega) l1 Z1.out).mono ?_
  rintro e w' ⟨p, rfl, rfl, p1, p2, hp⟩
  have P := Lib.hid hp; clear hp
  by_cases p0 : p < 0
  · go_wp2_with fail
    go_ret
    exact ⟨rfl, below_refl _⟩
  have s1 : xs1.length ≤ 1048576 := by have := P.out (by omega); omega
  clear Q P Z0 Z1
  go_wp2_with fail
  refine (toStringS_any v0 xs0 _ _ h0 (Nat.le_refl _) s0).mono ?_
  rintro e wa ⟨va, rfl, ha, ba⟩
  have hA := ha.at_; clear ha
  have h1a := h1.on ba
  go_wp2_with fail
  refine (toStringS_any v1 xs1 _ _ h1a (Nat.le_refl _) s1).mono ?_
  rintro e wb ⟨vb, rfl, hb, bb⟩
  have hB := hb.at_; clear hb
  have hAb := hA.on bb
  go_wp2_with fail
  refine (sSameSubs_any va vb xs0 xs1 _ _ hAb hB s0).mono ?_
  rintro e w' ⟨rfl, n, rfl⟩
  have B2 : Below w.heap.size w (wb.drewN n) := below_trans (below_trans ba bb) (below_drewN _ _)
  clear hA h1a hB hAb
  have h0c := h0.on B2
  have h1c := h1.on B2
  go_wp2_with fail
  refine (toStringS_any v0 xs0 _ _ h0c (Nat.le_refl _) s0).mono ?_
  rintro e wc ⟨x0, rfl, hx0, bc⟩
  have X0 := hx0.at_; clear hx0
  have h1d := h1c.on bc
  go_wp2_with fail
  refine (toStringS_any v1 xs1 _ _ h1d (Nat.le_refl _) s1).mono ?_
  rintro e wd ⟨x1, rfl, hx1, bd⟩
  have X1 := hx1.at_; clear hx1
  have X0d := X0.on bd
  clear X0
  go_wp2_with fail
  refine (SameSubs_any x0 x1 xs0 xs1 _ _ X0d X1 s0).mono ?_
  rintro e w' ⟨rfl, m, rfl⟩
  have B3 : Below w.heap.size w (wd.drewN m) := below_trans B2 (below_trans (below_trans bc bd) (below_drewN _ _))
  have X0e := X0d.on (below_drewN wd m)
  have X1e := X1.on (below_drewN wd m)
  have h0e := h0.on B3
  clear X0d X1 h0c h1c h1d
  go_wp2_with fail
  refine (toStringS_any v0 xs0 _ _ h0e (Nat.le_refl _) s0).mono ?_
  rintro e we ⟨y0, rfl, hy0, be⟩
  have Y0 := hy0.at_; clear hy0
  have X0f := X0e.on be
  have X1f := X1e.on be
  go_wp2_with fail
  refine (eqStringS_any x0 y0 xs0 xs0 _ _ X0f Y0 s0).mono ?_
  rintro e w' ⟨rfl, k, rfl⟩
  have B4 : Below w.heap.size w (we.drewN k) := below_trans B3 (below_trans be (below_drewN _ _))
  have X1g := X1f.on (below_drewN we k)
  have h1g := h1.on B4
  clear X0f Y0 X0e X1e X1f h0e
  go_wp2_with fail
  refine (toStringS_any v1 xs1 _ _ h1g (Nat.le_refl _) s1).mono ?_
  rintro e wf ⟨y1, rfl, hy1, bf⟩
  have Y1 := hy1.at_; clear hy1
  have X1h := X1g.on bf
  go_wp2_with fail
  refine (eqStringS_any x1 y1 xs1 xs1 _ _ X1h Y1 s1).mono ?_
  rintro e w' ⟨rfl, k2, rfl⟩
  go_wp2_with fail
  go_ret
  exact ⟨rfl, below_trans B4 (below_trans bf (below_drewN _ _))⟩

def subOkB (s : ByteArray) : Bool := decide (1 ≤ s.size ∧ s.size ≤ 24)

def subsOkB (xs : List ByteArray) : Bool := decide (xs.length ≤ 4) && xs.all subOkB

theorem l02Sub_b (s : ByteArray) (w : World) (hs : s.size ≤ 1048576) : Calls Try.prog 75 #[.string s] w fun e w' => e = .returned (.bool (subOkB s)) ∧ w = w' := l02Sub_any s w hs

theorem SubOk_b (s : ByteArray) (w : World) (hs : s.size ≤ 1048576) : Calls Try.prog 59 #[.string s] w fun e w' => e = .returned (.bool (subOkB s)) ∧ w = w' := SubOk_any s w hs

theorem l02Subs_any (v : Value) (xs : List ByteArray) (w : World) (B : Nat) (h : StrsAt w B v xs) (hl : xs.length ≤ 1048576) (hz : ∀ x ∈ xs, x.size ≤ 1048576) :
    Calls Try.prog 56 #[v] w fun e w' => e = .returned (.bool (subsOkB xs)) ∧ w = w' := by
  obtain ⟨A, c, rfl, hc, hr⟩ := h
  have Z := Lib.hid hz; clear hz
  by_cases h4 : 4 < xs.length
  · go_enter Try.func56, Try.ntmps56
    go_wp2
    go_ret
    exact ⟨ret_bool (by simp [subsOkB]; omega), rfl⟩
  · go_enter Try.func56, Try.ntmps56
    go_wp2
    go_loop [3] (fun i => ∃ k : Nat, k ≤ xs.length ∧ i = .int .i64 k ∧ subsOkB xs = (xs.drop k).all subOkB) (fun i => xs.length - (intOf i).toNat)
    case atStart => exact ⟨0, Nat.zero_le _, rfl, by simp [subsOkB]; omega⟩
    case round =>
      obtain ⟨k, hk, rfl, hinv⟩ := hrel
      have HI := Lib.hid hinv; clear hinv
      by_cases hlt : k < xs.length
      · obtain ⟨ad, rfl, _, hcell⟩ := hr.strAt hlt
        have HD := Lib.hid (List.drop_eq_getElem_cons hlt)
        have hzx := Z.out _ (List.getElem_mem hlt)
        generalize xs[k] = x at *
        cases hb : subOkB x
        all_goals
          go_wp2_with (go_at_call 75; refine (l02Sub_b _ _ hzx).mono ?_; rintro e w' ⟨rfl, rfl⟩)
        · go_ret
          exact ⟨ret_bool (by rw [HI.out, HD.out]; simp [hb]), rfl⟩
        · exact ⟨⟨k + 1, by omega, by go_num, by rw [HI.out, HD.out]; simp [hb]⟩, by simp [intOf]; omega⟩
      · go_wp2
        go_ret
        exact ⟨ret_bool (by rw [HI.out, List.drop_eq_nil_of_le (by omega)]; rfl), rfl⟩

theorem SubsOk1_any (s : ByteArray) (w : World) (hs : s.size ≤ 1048576) : Calls Try.prog 58 #[.string s] w fun e w' => e = .returned (.bool (!subOkB s)) ∧ w = w' := by
  go_enter Try.func58, Try.ntmps58
  go_wp2_with (go_at_call 59; refine (SubOk_b _ _ hs).mono ?_; rintro e w' ⟨rfl, rfl⟩)
  go_ret
  exact ⟨rfl, rfl⟩

/-- slices.IndexFunc at a predicate that only reads: where the first element that meets it lies, or -1. -/
def idxP (p : ByteArray → Bool) : List ByteArray → Int
  | [] => -1
  | x :: r => if p x then 0 else if idxP p r < 0 then -1 else idxP p r + 1

theorem idxP_ge (p : ByteArray → Bool) : ∀ xs, -1 ≤ idxP p xs
  | [] => by simp [idxP]
  | x :: r => by
    have := idxP_ge p r
    unfold idxP
    split
    · omega
    · split <;> omega

theorem idxP_any (p : ByteArray → Bool) : ∀ xs, decide (0 ≤ idxP p xs) = xs.any p
  | [] => by simp [idxP]
  | x :: r => by
    have h := idxP_any p r
    unfold idxP
    cases hp : p x
    · simp only [List.any_cons, hp, Bool.false_or, ← h, Bool.false_eq_true, if_false]
      by_cases hi : idxP p r < 0
      · rw [if_pos hi]; simp; omega
      · rw [if_neg hi]; simp; omega
    · simp [hp]

theorem IndexFunc_SubsOk1 (p : ByteArray → Bool) (v : Value) (xs : List ByteArray) (w : World) (B : Nat) (h : StrsAt w B v xs) (hl : xs.length ≤ 1048576)
    (hp : ∀ x ∈ xs, Calls Try.prog 58 #[.string x] w fun e w' => e = .returned (.bool (p x)) ∧ w = w') :
    Calls Try.prog 76 #[v, .func (.func 58) #[] #[]] w fun e w' => e = .returned (.int .i64 (idxP p xs)) ∧ w = w' := by
  obtain ⟨A, c, rfl, hc, hr⟩ := h
  have HP := Lib.hid hp; clear hp
  go_enter Try.func76, Try.ntmps76
  go_wp2
  go_loop [5, 8] (fun _ i => ∃ k : Nat, k ≤ xs.length ∧ i = .int .i64 k ∧ idxP p xs = if idxP p (xs.drop k) < 0 then -1 else idxP p (xs.drop k) + k) (fun _ i => xs.length - (intOf i).toNat)
  case atStart => exact ⟨0, Nat.zero_le _, rfl, by have := idxP_ge p xs; simp; omega⟩
  case round =>
    obtain ⟨k, hk, rfl, hinv⟩ := hrel
    have HI := Lib.hid hinv; clear hinv
    by_cases hlt : k < xs.length
    · obtain ⟨ad, rfl, _, hcell⟩ := hr.strAt hlt
      have HD := Lib.hid (List.drop_eq_getElem_cons hlt)
      have HX := Lib.hid (HP.out _ (List.getElem_mem hlt))
      generalize xs[k] = x at *
      go_wp2_with fail
      refine HX.out.mono ?_
      rintro e w' ⟨rfl, rfl⟩
      cases hb : p x
      · go_wp2_with fail
        refine ⟨⟨k + 1, by omega, by go_num, ?_⟩, by simp [intOf]; omega⟩
        rw [HI.out, HD.out]
        have := idxP_ge p (xs.drop (k + 1))
        simp only [idxP, hb, Bool.false_eq_true, if_false]
        generalize idxP p (xs.drop (k + 1)) = z at *
        by_cases hz : z < 0
        · rw [if_pos hz, if_pos hz, if_pos (by omega)]
        · rw [if_neg hz, if_neg hz, if_neg (by omega)]; omega
      · go_wp2_with fail
        go_ret
        exact ⟨ret_int (by rw [HI.out, HD.out]; simp [idxP, hb]), rfl⟩
    · go_wp2
      go_ret
      exact ⟨ret_int (by rw [HI.out, List.drop_eq_nil_of_le (by omega)]; rfl), rfl⟩

theorem ContainsFunc_SubsOk1 (p : ByteArray → Bool) (v : Value) (xs : List ByteArray) (w : World) (B : Nat) (h : StrsAt w B v xs) (hl : xs.length ≤ 1048576)
    (hp : ∀ x ∈ xs, Calls Try.prog 58 #[.string x] w fun e w' => e = .returned (.bool (p x)) ∧ w = w') :
    Calls Try.prog 57 #[v, .func (.func 58) #[] #[]] w fun e w' => e = .returned (.bool (xs.any p)) ∧ w = w' := by
  have HI := Lib.hid (IndexFunc_SubsOk1 p v xs w B h hl hp)
  clear hp
  go_enter Try.func57, Try.ntmps57
  go_wp2_with fail
  refine HI.out.mono ?_
  rintro e w' ⟨rfl, rfl⟩
  go_wp2_with fail
  go_ret
  exact ⟨ret_bool (idxP_any p xs), rfl⟩

theorem SubsOk_any (v : Value) (xs : List ByteArray) (w : World) (B : Nat) (h : StrsAt w B v xs) (hl : xs.length ≤ 1048576) (hz : ∀ x ∈ xs, x.size ≤ 1048576) :
    Calls Try.prog 33 #[v] w fun e w' => e = .returned (.bool (subsOkB xs)) ∧ w = w' := by
  have HC := Lib.hid (ContainsFunc_SubsOk1 (fun s => !subOkB s) v xs w B h hl (fun x hx => SubsOk1_any x w (hz x hx)))
  clear hz
  obtain ⟨A, c, rfl, hc, hr⟩ := h
  have HV : Hid (subsOkB xs = (decide (xs.length ≤ 4) && !(xs.any fun s => !subOkB s))) := by
    show subsOkB xs = _
    unfold subsOkB; congr 1; rw [List.all_eq_not_any_not]
  by_cases h4 : xs.length ≤ 4
  · go_enter Try.func33, Try.ntmps33
    go_wp2_with fail
    refine HC.out.mono ?_
    rintro e w' ⟨rfl, rfl⟩
    go_wp2_with fail
    go_ret
    exact ⟨ret_bool (by rw [HV.out]; simp [h4]), rfl⟩
  · go_enter Try.func33, Try.ntmps33
    go_wp2_with fail
    go_ret
    exact ⟨ret_bool (by rw [HV.out]; simp [h4]), rfl⟩

theorem sSubsOk_any (v : Value) (xs : List ByteArray) (w : World) (B : Nat) (h : StrsAt w B v xs) (hl : xs.length ≤ 1048576) (hz : ∀ x ∈ xs, x.size ≤ 1048576) :
    Calls Try.prog 32 #[v] w fun e w' => e = .returned (.bool (subsOkB xs)) ∧ w = w' := by
  have HC := Lib.hid (l02Subs_any v xs w B h hl hz)
  clear hz
  go_enter Try.func32, Try.ntmps32
  go_wp2_with fail
  refine HC.out.mono ?_
  rintro e w' ⟨rfl, rfl⟩
  go_wp2_with fail
  go_ret
  exact ⟨rfl, rfl⟩

theorem SubsOk_walk (v0 : Value) (xs0 : List ByteArray) (w : World) (h0 : StrsAt w w.heap.size v0 xs0) (l0 : xs0.length ≤ maxLen) (z0 : ∀ x ∈ xs0, x.size ≤ maxLen) :
    Calls Try.prog 10 #[v0] w fun e w' => e = .returned (.bool true) ∧ Below w.heap.size w w' := by
  have Z0 := Lib.hid z0; clear z0
  go_enter Try.func10, Try.ntmps10
  go_wp2_with fail
  refine (szStringS_ex v0 xs0 1048576 _ _ h0 (by omega) (by omega) l0 Z0.out).mono ?_
  rintro e w' ⟨q, rfl, rfl, q1, q2, hq⟩
  have Q := Lib.hid hq; clear hq
  by_cases q0 : q < 0
  · go_wp2_with fail
    go_ret
    exact ⟨rfl, below_refl _⟩
  have s0 : xs0.length ≤ 1048576 := by have := Q.out (by omega); omega
  have z0 : ∀ x ∈ xs0, x.size ≤ 1048576 := fun x hx => by have := Q.out (by omega); have := size_le_total hx; omega
  clear Z0
  have Z0 := Lib.hid z0; clear z0
  clear Q
  go_wp2_with fail
  refine (toStringS_any v0 xs0 _ _ h0 (Nat.le_refl _) s0).mono ?_
  rintro e wa ⟨va, rfl, ha, ba⟩
  have hA := ha.at_; clear ha
  go_wp2_with fail
  refine (sSubsOk_any va xs0 _ _ hA s0 Z0.out).mono ?_
  rintro e w' ⟨rfl, rfl⟩
  clear hA
  have h0c := h0.on ba
  go_wp2_with fail
  refine (toStringS_any v0 xs0 _ _ h0c (Nat.le_refl _) s0).mono ?_
  rintro e wc ⟨x0, rfl, hx0, bc⟩
  have X0 := hx0.at_; clear hx0
  go_wp2_with fail
  refine (SubsOk_any x0 xs0 _ _ X0 s0 Z0.out).mono ?_
  rintro e w' ⟨rfl, rfl⟩
  have B3 : Below w.heap.size w wc := below_trans ba bc
  have h0e := h0.on B3
  clear h0c
  go_wp2_with fail
  refine (toStringS_any v0 xs0 _ _ h0e (Nat.le_refl _) s0).mono ?_
  rintro e we ⟨y0, rfl, hy0, be⟩
  have Y0 := hy0.at_; clear hy0
  have X0f := X0.on be
  go_wp2_with fail
  refine (eqStringS_any x0 y0 xs0 xs0 _ _ X0f Y0 s0).mono ?_
  rintro e w' ⟨rfl, k, rfl⟩
  go_wp2_with fail
  go_ret
  exact ⟨rfl, below_trans B3 (below_trans be (below_drewN _ _))⟩

end Go.Proofs.Ytdpcdedgpibdiaa
