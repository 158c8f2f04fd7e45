/- SameSubs and SubsOk: the contracts of both sides, and the walks of the two laws. -/
import Derived.Test.YtdpcdedgpibdiaaStrs
import Derived.Test.YtdpcdedgpibdiaaSmall1
namespace Go.Proofs.Ytdpcdedgpibdiaa
open Go.RowKit
set_option linter.unusedVariables false

theorem StrsAt.on {w w' : World} {v : Value} {xs : List ByteArray} (h : StrsAt w w.heap.size v xs) (hb : Below w.heap.size w w') : StrsAt w' w'.heap.size v xs := (h.below hb).more hb.size

theorem SameSubs_any (v v2 : Value) (xs ys : List ByteArray) (w : World) (B : Nat) (h : StrsAt w B v xs) (h2 : StrsAt w B v2 ys) (hl : xs.length ≤ 1048576) :
    Calls Try.prog 30 #[v, v2] w fun e w' => e = .returned (.bool (decide (xs = ys))) ∧ ∃ n, w' = w.drewN n := by
  go_enter Try.func30, Try.ntmps30
  go_wp2_with (go_at_call 55; refine (slicesEqual_any _ _ xs ys _ B h h2 hl).mono ?_; rintro e w' ⟨rfl, n, rfl⟩)
  go_ret
  exact ⟨rfl, _, rfl⟩

theorem sSameSubs_any (v v2 : Value) (xs ys : List ByteArray) (w : World) (B : Nat) (h : StrsAt w B v xs) (h2 : StrsAt w B v2 ys) (hl : xs.length ≤ 1048576) :
    Calls Try.prog 28 #[v, v2] w fun e w' => e = .returned (.bool (decide (xs = ys))) ∧ ∃ n, w' = w.drewN n := by
  go_enter Try.func28, Try.ntmps28
  go_wp2_with (go_at_call 54; refine (l02Same_any _ _ xs ys _ B h h2 hl).mono ?_; rintro e w' ⟨rfl, n, rfl⟩)
  go_ret
  exact ⟨rfl, _, rfl⟩

theorem SameSubs_walk (v0 : Value) (xs0 : List ByteArray) (v1 : Value) (xs1 : List ByteArray) (w : World) (h0 : StrsAt w w.heap.size v0 xs0) (l0 : xs0.length ≤ maxLen) (z0 : ∀ x ∈ xs0, x.size ≤ maxLen) (h1 : StrsAt w w.heap.size v1 xs1) (l1 : xs1.length ≤ maxLen) (z1 : ∀ x ∈ xs1, x.size ≤ maxLen) :
    Calls Try.prog 9 #[v0, v1] w fun e w' => e = .returned (.bool true) ∧ Below w.heap.size w w' := by
  have Z0 := Lib.hid z0; clear z0
  have Z1 := Lib.hid z1; clear z1
  go_enter Try.func9, Try.ntmps9
  go_wp2_with fail
  refine (szStringS_ex v0 xs0 1048576 _ _ h0 (by omega) (by omega) l0 Z0.out).mono ?_
  rintro e w' ⟨q, rfl, rfl, q1, q2, hq⟩
  have Q := Lib.hid hq; clear hq
  by_cases q0 : q < 0
  · go_wp2_with fail
    go_ret
    exact ⟨rfl, below_refl _⟩
  have s0 : xs0.length ≤ 1048576 := by have := Q.out (by omega); omega
  go_wp2_with fail
  refine (szStringS_ex v1 xs1 q _ _ h1 (by omega) (by omega) l1 Z1.out).mono ?_
  rintro e w' ⟨p, rfl, rfl, p1, p2, hp⟩
  have P := Lib.hid hp; clear hp
  by_cases p0 : p < 0
  · go_wp2_with fail
    go_ret
    exact ⟨rfl, below_refl _⟩
  have s1 : xs1.length ≤ 1048576 := by have := P.out (by omega); omega
  clear Q P Z0 Z1
  go_wp2_with fail
  refine (toStringS_any v0 xs0 _ _ h0 (Nat.le_refl _) s0).mono ?_
  rintro e wa ⟨va, rfl, ha, ba⟩
  have hA := ha.at_; clear ha
  have h1a := h1.on ba
  go_wp2_with fail
  refine (toStringS_any v1 xs1 _ _ h1a (Nat.le_refl _) s1).mono ?_
  rintro e wb ⟨vb, rfl, hb, bb⟩
  have hB := hb.at_; clear hb
  have hAb := hA.on bb
  go_wp2_with fail
  refine (sSameSubs_any va vb xs0 xs1 _ _ hAb hB s0).mono ?_
  rintro e w' ⟨rfl, n, rfl⟩
  have B2 : Below w.heap.size w (wb.drewN n) := below_trans (below_trans ba bb) (below_drewN _ _)
  clear hA h1a hB hAb
  have h0c := h0.on B2
  have h1c := h1.on B2
  go_wp2_with fail
  refine (toStringS_any v0 xs0 _ _ h0c (Nat.le_refl _) s0).mono ?_
  rintro e wc ⟨x0, rfl, hx0, bc⟩
  have X0 := hx0.at_; clear hx0
  have h1d := h1c.on bc
  go_wp2_with fail
  refine (toStringS_any v1 xs1 _ _ h1d (Nat.le_refl _) s1).mono ?_
  rintro e wd ⟨x1, rfl, hx1, bd⟩
  have X1 := hx1.at_; clear hx1
  have X0d := X0.on bd
  clear X0
  go_wp2_with fail
  refine (SameSubs_any x0 x1 xs0 xs1 _ _ X0d X1 s0).mono ?_
  rintro e w' ⟨rfl, m, rfl⟩
  have B3 : Below w.heap.size w (wd.drewN m) := below_trans B2 (below_trans (below_trans bc bd) (below_drewN _ _))
  have X0e := X0d.on (below_drewN wd m)
  have X1e := X1.on (below_drewN wd m)
  have h0e := h0.on B3
  clear X0d X1 h0c h1c h1d
  go_wp2_with fail
  refine (toStringS_any v0 xs0 _ _ h0e (Nat.le_refl _) s0).mono ?_
  rintro e we ⟨y0, rfl, hy0, be⟩
  have Y0 := hy0.at_; clear hy0
  have X0f := X0e.on be
  have X1f := X1e.on be
  go_wp2_with fail
  refine (eqStringS_any x0 y0 xs0 xs0 _ _ X0f Y0 s0).mono ?_
  rintro e w' ⟨rfl, k, rfl⟩
  have B4 : Below w.heap.size w (we.drewN k) := below_trans B3 (below_trans be (below_drewN _ _))
  have X1g := X1f.on (below_drewN we k)
  have h1g := h1.on B4
  clear X0f Y0 X0e X1e X1f h0e
  go_wp2_with fail
  refine (toStringS_any v1 xs1 _ _ h1g (Nat.le_refl _) s1).mono ?_
  rintro e wf ⟨y1, rfl, hy1, bf⟩
  have Y1 := hy1.at_; clear hy1
  have X1h := X1g.on bf
  go_wp2_with fail
  refine (eqStringS_any x1 y1 xs1 xs1 _ _ X1h Y1 s1).mono ?_
  rintro e w' ⟨rfl, k2, rfl⟩
  go_wp2_with fail
  go_ret
  exact ⟨rfl, below_trans B4 (below_trans bf (below_drewN _ _))⟩

end Go.Proofs.Ytdpcdedgpibdiaa
