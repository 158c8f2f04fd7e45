/- KillNode: the closure of kill, slices.IndexFunc and slices.DeleteFunc over nodes. -/
import Derived.Test.YtllamjgloilioaaGreatDoorKnTree
import Derived.Lib.SliceRun
namespace Go.Proofs.YtllamjgloilioaaGreatDoor
open Go.RowKit Go.ChangeShapes Go.WideShapes Go.ChangeAt Go.Deep
set_option linter.unusedVariables false

/-- What the closure holds: a name and a list in boxes bn and bs, neither of them block g; the list lies below B. -/
structure Env (w : World) (B bn bs : Nat) (name : ByteArray) (v2 : Value) (ys : List ByteArray) : Prop where
  le : B ≤ w.heap.size
  at_ : StrsAt w B v2 ys
  cn : w.cell? ⟨bn, 0, none⟩ = some (.string name)
  cs : w.cell? ⟨bs, 0, none⟩ = some v2

theorem Env.grown {w w' : World} {B bn bs : Nat} {name : ByteArray} {v2 : Value} {ys : List ByteArray} {row : Option Nat} (h : Env w B bn bs name v2 ys) (hg : w.grownBy w' row) (hr : ∀ k, row = some k → B ≤ k) (h1 : some bn ≠ row) (h2 : some bs ≠ row) : Env w' B bn bs name v2 ys :=
  ⟨Nat.le_trans h.le hg.size, h.at_.below ((Below.refl B w).grown hg h.le hr), hg.cell h.cn h1, hg.cell h.cs h2⟩

theorem Env.on {w w' : World} {B bn bs : Nat} {name : ByteArray} {v2 : Value} {ys : List ByteArray} (h : Env w B bn bs name v2 ys) (hb : Below w.heap.size w w') : Env w' B bn bs name v2 ys :=
  h.grown (grown_below hb none) (fun _ e => by cases e) (by simp) (by simp)

theorem Env.all {w : World} {B bn bs : Nat} {name : ByteArray} {v2 : Value} {ys : List ByteArray} (h : Env w B bn bs name v2 ys) : StrsAt w w.heap.size v2 ys := h.at_.more h.le

set_option maxRecDepth 8000 in
theorem killClo_any (x : NodeV) (B bn bs : Nat) (name : ByteArray) (v2 : Value) (ys : List ByteArray) (w : World) (h : x.At w) (hok : x.Ok 1048576) (he : Env w B bn bs name v2 ys) (hl2 : ys.length ≤ 1048576) :
    Calls Tryz.prog 42 #[.agg x.cells, .pointer (some ⟨bn, 0, none⟩), .pointer (some ⟨bs, 0, none⟩)] w fun e w' => e = .returned (.bool (inB x name ys)) ∧ Below w.heap.size w w' := by
  have hba : Below w.heap.size w (w.alloc (.cells x.cells 50)) := Joins.below_alloc1 w _
  have HQ := Lib.hid (atOrBelow_any x name v2 ys _ (h.on hba) hok ((he.on hba).all) hl2)
  have hcn := he.cn
  have hcs := he.cs
  have hcn1 := (he.on hba).cn
  have hcs1 := (he.on hba).cs
  obtain ⟨A2, c2, hv2, _, _⟩ := he.all
  subst hv2
  obtain ⟨A, c, hsv, _, _⟩ := id h.1
  generalize inB x name ys = R at *
  obtain ⟨nm, sv, xs, value⟩ := x
  replace hsv : sv = .slice A xs.length c := hsv
  subst hsv
  simp only [NodeV.cells] at *
  have HBA := Lib.hid hba
  clear h hok he hba
  go_enter Tryz.func42, Tryz.ntmps42
  go_wp2_with fail
  refine HQ.out.mono ?_
  rintro e w1 ⟨rfl, b1⟩
  have HB := Lib.hid (below_trans HBA.out b1); clear b1
  go_wp2_with fail
  go_ret
  exact ⟨rfl, HB.out⟩

/-- The first node that p finds. -/
def FirstN (p : NodeV → Bool) (ns : List NodeV) (z : Int) : Prop :=
  (z = -1 ∧ ∀ x ∈ ns, p x = false) ∨ ∃ pre x post, ns = pre ++ x :: post ∧ (∀ y ∈ pre, p y = false) ∧ p x = true ∧ z = pre.length

set_option maxRecDepth 8000 in
theorem IndexNodes_any (v : Value) (ns : List NodeV) (B bn bs : Nat) (name : ByteArray) (v2 : Value) (ys : List ByteArray) (w : World) (h : NodesAt w v ns) (hl : ns.length ≤ 1048576) (hok : ∀ x ∈ ns, x.Ok 1048576) (he : Env w B bn bs name v2 ys) (hl2 : ys.length ≤ 1048576) :
    Calls Tryz.prog 60 #[v, .func (.func 42) #[] #[.pointer (some ⟨bn, 0, none⟩), .pointer (some ⟨bs, 0, none⟩)]] w fun e w' => (∃ z : Int, e = .returned (.int .i64 z) ∧ Hid (FirstN (fun x => inB x name ys) ns z)) ∧ Below w.heap.size w w' := by
  have H := Lib.hid h
  have HOK := Lib.hid hok; clear hok
  have HE := Lib.hid he; clear he
  obtain ⟨A, c, rfl, hc, _⟩ := h
  go_enter Tryz.func60, Tryz.ntmps60
  go_wp2
  go_loopw [5, 8] (fun _ i wr => ∃ k : Nat, k ≤ ns.length ∧ i = .int .i64 k ∧ Hid (∀ y ∈ ns.take k, inB y name ys = false) ∧ Below w.heap.size w wr) (fun _ i _ => ns.length - (intOf i).toNat)
  case atStart => exact ⟨0, Nat.zero_le _, rfl, fun y hy => by simp at hy, below_refl _⟩
  case round =>
    obtain ⟨k, hk, rfl, HI, hbel⟩ := hrel
    by_cases hlt : k < ns.length
    · have HB := Lib.hid hbel
      obtain ⟨ad, rfl, hbl, hat, a0, a1, a2⟩ := (H.out.on hbel).get hlt
      have HC := Lib.hid (killClo_any ns[k] B bn bs name v2 ys wr hat (HOK.out _ (List.getElem_mem hlt)) (HE.out.on hbel) hl2)
      have HTK := Lib.hid (List.take_succ_eq_append_getElem hlt)
      have HSP : Hid (ns = ns.take k ++ ns[k] :: ns.drop (k + 1)) := by
        show _ = _
        rw [← List.drop_eq_getElem_cons hlt, List.take_append_drop]
      have HTL : Hid ((ns.take k).length = k) := by show _ = _; simp; omega
      clear hbel
      generalize ns[k] = x at *
      obtain ⟨R, hR⟩ : ∃ R, inB x name ys = R := ⟨_, rfl⟩
      rw [hR] at HC
      have HR := Lib.hid hR; clear hR
      obtain ⟨nm, sv, xs, value⟩ := x
      obtain ⟨Ax, cx, hsx, _, _⟩ := id hat.1
      replace hsx : sv = .slice Ax xs.length cx := hsx
      subst hsx
      simp only [NodeV.cells] at *
      clear hat
      go_wp2_with fail
      refine HC.out.mono ?_
      rintro e w2 ⟨rfl, b2⟩
      have HB2 := Lib.hid (below_trans HB.out b2); clear b2
      cases R
      · go_wp2_with fail
        refine ⟨⟨k + 1, by omega, by go_num, ?_, HB2.out⟩, by simp [intOf]; omega⟩
        intro y hy
        rw [HTK.out] at hy
        rcases List.mem_append.1 hy with hy | hy
        · exact HI.out y hy
        · rw [List.mem_singleton] at hy; subst hy; exact HR.out
      · go_wp2_with fail
        go_ret
        exact ⟨⟨_, rfl, .inr ⟨_, _, _, HSP.out, HI.out, HR.out, by rw [HTL.out]⟩⟩, HB2.out⟩
    · have hkn : k = ns.length := by omega
      rw [hkn, List.take_length] at HI
      go_wp2
      go_ret
      exact ⟨⟨-1, rfl, .inl ⟨rfl, HI.out⟩⟩, hbel⟩

end Go.Proofs.YtllamjgloilioaaGreatDoor
