/- The law of KillNode. -/
import Derived.Test.YtllamjgloilioaaGreatDoorKnSpec
import Derived.Test.YtllamjgloilioaaGreatDoorSzSum
namespace Go.Proofs.YtllamjgloilioaaGreatDoor
open Go.RowKit Go.ChangeShapes Go.WideShapes Go.ChangeAt Go.Deep
set_option linter.unusedVariables false
set_option linter.unusedSimpArgs false

theorem cnt_dat {a b : List NodeV} (h : a.map NodeV.dat = b.map NodeV.dat) : cnt a = cnt b := by
  have : ∀ l : List NodeV, cnt l = ((l.map NodeV.dat).map fun d => d.2.1.length + 2).sum := fun l => by unfold cnt; rw [List.map_map]; rfl
  rw [this, this, h]

theorem Touch.strsB {g h B : Nat} {w w' : World} (ht : Touch g h w w') (hB : h ≤ B) {v : Value} {xs : List ByteArray} (hs : Strs w B v xs) : Strs w' B v xs := by
  refine ⟨hs.1, ?_⟩
  rcases hs.2 with hn | ⟨k, cap, cur, hv, hk, hh, rest⟩
  · exact .inl hn
  · exact .inr ⟨k, cap, cur, hv, hk, by rw [ht.2 k (by omega) (Array.getElem?_eq_some_iff.1 hh).1]; exact hh, rest⟩

theorem cnt_sub {K ns : List NodeV} (h : K.Sublist ns) : cnt K ≤ cnt ns := by
  induction h with
  | slnil => exact Nat.le_refl _
  | cons a _ ih => simp only [cnt, List.map_cons, List.sum_cons] at *; omega
  | cons_cons a _ ih => simp only [cnt, List.map_cons, List.sum_cons] at *; omega

theorem TreeIn.touch {g h o : Nat} {w w' : World} {v : Value} (h0 : TreeIn w o v) (ht : Touch g h w w') (hB : h ≤ o) : TreeIn w' o v := (ht.2 o hB h0.lt).trans h0

/-- The marks from 1 on lie in the tree. -/
def Held (w : World) (B : Nat) (v : Value) (xs : List NodeV) : Prop :=
  (v = .slice none 0 0 ∧ xs = []) ∨ ∃ g c, v = .slice (some ⟨g, 0, none⟩) xs.length c ∧ NodesOn B w g c (mkNodes 1 xs)

theorem Held.on {w w' : World} {B : Nat} {v : Value} {xs : List NodeV} (h : Held w B v xs) (hb : Below w.heap.size w w') : Held w' B v xs := by
  rcases h with h | ⟨g, c, e, h⟩
  · exact .inl h
  · exact .inr ⟨g, c, e, h.on hb⟩

theorem markTree_nil (w : World) : Calls Tryz.prog 12 #[.agg #[.slice none 0 0], .int .i64 1] w fun e w' => e = .returned (.int .i64 1) ∧ Below w.heap.size w w' := by
  have hba : Below w.heap.size w (w.alloc (.cells #[.slice none 0 0] 30)) := Joins.below_alloc1 w _
  have HM : Hid (∀ W, Calls Tryz.prog 25 #[.slice none 0 0, .int .i64 1] W fun e w' => e = .returned (.int .i64 1) ∧ w' = W) := fun W => by
    go_enter Tryz.func25, Tryz.ntmps25
    go_wp2_with fail
    go_loopw [1, 5] (fun q i wr => q = .int .i64 1 ∧ i = .int .i64 0 ∧ wr = W) (fun _ _ _ => 0)
    case atStart => exact ⟨rfl, rfl, rfl⟩
    case round =>
      obtain ⟨rfl, rfl, rfl⟩ := hrel
      go_wp2_with fail
      go_ret
      exact ⟨rfl, rfl⟩
  go_enter Tryz.func12, Tryz.ntmps12
  go_wp2_with fail
  refine (HM.out _).mono ?_
  rintro e w1 ⟨rfl, rfl⟩
  go_wp2_with fail
  go_ret
  exact ⟨rfl, hba⟩

theorem heldTree_nil (w : World) : Calls Tryz.prog 14 #[.agg #[.slice none 0 0], .int .i64 1] w fun e w' => e = .returned (.int .i64 1) ∧ Below w.heap.size w w' := by
  have hba : Below w.heap.size w (w.alloc (.cells #[.slice none 0 0] 30)) := Joins.below_alloc1 w _
  have HM : Hid (∀ W, Calls Tryz.prog 27 #[.slice none 0 0, .int .i64 1] W fun e w' => e = .returned (.int .i64 1) ∧ w' = W) := fun W => by
    go_enter Tryz.func27, Tryz.ntmps27
    go_wp2_with fail
    go_loopw [1, 5] (fun q i wr => q = .int .i64 1 ∧ i = .int .i64 0 ∧ wr = W) (fun _ _ _ => 0)
    case atStart => exact ⟨rfl, rfl, rfl⟩
    case round =>
      obtain ⟨rfl, rfl, rfl⟩ := hrel
      go_wp2_with fail
      go_ret
      exact ⟨rfl, rfl⟩
  go_enter Tryz.func14, Tryz.ntmps14
  go_wp2_with fail
  refine (HM.out _).mono ?_
  rintro e w1 ⟨rfl, rfl⟩
  go_wp2_with fail
  go_ret
  exact ⟨rfl, hba⟩

theorem markTree_nown (v : Value) (xs : List NodeV) (B hB : Nat) (w : World) (h : NOwn w B v xs) (hb : B ≤ w.heap.size) (h1 : ∀ b, v.ownBlock = some b → b < hB) (h2 : ∀ x ∈ xs, ∀ b, x.row = some b → b < hB) (hk : (cnt xs : Int) ≤ 9000000) (hl : (xs.length : Int) ≤ 1048576) :
    Calls Tryz.prog 12 #[.agg #[v], .int .i64 1] w fun e w' => e = .returned (.int .i64 (1 + cnt xs)) ∧ Held w' B v xs ∧ Touch B hB w w' := by
  rcases h.form with ⟨rfl, rfl⟩ | ⟨g, c, rfl, hg, _⟩
  · exact (markTree_nil w).mono fun e w' ⟨he, hb'⟩ => ⟨by rw [he]; rfl, .inl ⟨rfl, rfl⟩, Touch.below hb' hb⟩
  · refine (markTree_on B g c c hB xs w h.on_ h.2.2 (fun r hr b hb => ?_) (h1 g rfl) hk hl).mono fun e w' ⟨he, hn, ht⟩ => ⟨he, .inr ⟨g, c, rfl, hn⟩, ht⟩
    obtain ⟨x, hx, rfl⟩ := List.mem_map.1 hr
    exact h2 x hx b hb

theorem heldTree_nown (v : Value) (xs : List NodeV) (B : Nat) (w : World) (h : Held w B v xs) (hk : (cnt xs : Int) ≤ 9000000) (hl : (xs.length : Int) ≤ 1048576) :
    Calls Tryz.prog 14 #[.agg #[v], .int .i64 1] w fun e w' => e = .returned (.int .i64 (1 + cnt xs)) ∧ Below w.heap.size w w' := by
  rcases h with ⟨rfl, rfl⟩ | ⟨g, c, rfl, hn⟩
  · exact (heldTree_nil w).mono fun e w' ⟨he, hb'⟩ => ⟨by rw [he]; rfl, hb'⟩
  · exact heldTree_on B g c c xs w hn hk hl

end Go.Proofs.YtllamjgloilioaaGreatDoor
