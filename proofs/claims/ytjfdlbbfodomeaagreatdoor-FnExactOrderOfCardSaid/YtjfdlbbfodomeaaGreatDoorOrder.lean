/- OrderOf: both sides. -/
import Derived.Test.YtjfdlbbfodomeaaGreatDoorData
import Derived.Test.YtjfdlbbfodomeaaGreatDoorForms
import Derived.Deep.QuietTactic
import Derived.BigQuiet
namespace Go.Proofs.YtjfdlbbfodomeaaGreatDoor
open Go.RowKit Go.ChangeShapes Go.WideShapes Go.ChangeAt Go.Deep
set_option linter.unusedVariables false

/-- Is x on the level, and what stands there. -/
def onLev (name : ByteArray) (zs : List ByteArray) (x : NodeV) : Bool := decide (x.name = name) && (decide (zs.length + 1 ≤ x.subs.length) && decide (x.subs.take zs.length = zs))

def pick (back : Bool) (last best s : ByteArray) : ByteArray :=
  if back = true then (if ((decide (last.size = 0) || bef s last) && (decide (best.size = 0) || bef best s)) = true then s else best)
  else (if ((decide (last.size = 0) || bef last s) && (decide (best.size = 0) || bef s best)) = true then s else best)

def ordStep (back : Bool) (name : ByteArray) (zs : List ByteArray) (last best : ByteArray) (x : NodeV) : ByteArray :=
  if onLev name zs x = true then pick back last best ((x.subs[zs.length]?).getD ⟨#[]⟩) else best

def ordGo (back : Bool) (name : ByteArray) (zs : List ByteArray) (last : ByteArray) : ByteArray → List NodeV → ByteArray
  | best, [] => best
  | best, x :: r => ordGo back name zs last (ordStep back name zs last best x) r

theorem ordGo_none (back : Bool) (name : ByteArray) (zs : List ByteArray) (last : ByteArray) : ∀ (ns : List NodeV) (best : ByteArray), (∀ x ∈ ns, x.subs.length ≤ zs.length) → ordGo back name zs last best ns = best
  | [], _, _ => rfl
  | x :: r, best, h => by
    have h1 := h x (by simp)
    have e : ordStep back name zs last best x = best := by
      unfold ordStep onLev
      rw [decide_eq_false (show ¬ zs.length + 1 ≤ x.subs.length by omega)]; simp
    show ordGo back name zs last (ordStep back name zs last best x) r = best
    rw [e]
    exact ordGo_none back name zs last r best (fun y hy => h y (by simp [hy]))

theorem treeGo_subs : ∀ (ns : List NodeV) (p : Option NodeV), treeGo p ns = true → ∀ x ∈ ns, x.subs.length ≤ 4
  | [], _, _, x, hx => by cases hx
  | y :: r, p, h, x, hx => by
    unfold treeGo at h
    rw [Bool.and_eq_true, Bool.and_eq_true] at h
    rcases List.mem_cons.1 hx with rfl | hx
    · have h1 := h.1.1
      unfold nodeOkB at h1
      rw [Bool.and_eq_true] at h1
      exact (subsOk_len (locOk_parts h1.1).2).1
    · exact treeGo_subs r _ h.2 x hx

theorem treeOk_subs {ns : List NodeV} (h : treeOkB ns = true) : ∀ x ∈ ns, x.subs.length ≤ 4 := by
  unfold treeOkB at h
  rw [Bool.and_eq_true] at h
  exact treeGo_subs ns none h.2

/-- What both sides answer for a list that ends in l. -/
def ordB (ns : List NodeV) (name : ByteArray) (zs : List ByteArray) (l : ByteArray) (back : Bool) : ByteArray := if (treeOkB ns && (nameOk name && ordS zs l)) = true then ordGo back name zs l ⟨#[]⟩ ns else ⟨#[]⟩

theorem ordB_I (ns : List NodeV) (name : ByteArray) (zs : List ByteArray) (l : ByteArray) (back : Bool) : (if (treeOkB ns && (nameOk name && ordI zs l)) = true then ordGo back name zs l ⟨#[]⟩ ns else ⟨#[]⟩) = ordB ns name zs l back := by
  unfold ordB
  by_cases h : zs.length ≤ 3
  · rw [ord_eq zs l h]
  · rw [ordS_long zs l h]
    simp only [Bool.and_false, Bool.false_eq_true, if_false]
    split
    · rename_i hc
      rw [Bool.and_eq_true] at hc
      exact ordGo_none back name zs l ns _ (fun x hx => by have := treeOk_subs hc.1 x hx; omega)
    · rfl

theorem onLev_dat {x y : NodeV} (h : x.dat = y.dat) (name : ByteArray) (zs : List ByteArray) : onLev name zs x = onLev name zs y := by
  obtain ⟨h1, h2, h3⟩ := NodeV.dat_eq h
  unfold onLev; rw [h1, h2]

theorem ordGo_dat (back : Bool) (name : ByteArray) (zs : List ByteArray) (last : ByteArray) : ∀ (a b : List NodeV) (m : ByteArray), a.map NodeV.dat = b.map NodeV.dat → ordGo back name zs last m a = ordGo back name zs last m b
  | [], [], _, _ => rfl
  | [], y :: b, _, h => by simp at h
  | x :: a, [], _, h => by simp at h
  | x :: a, y :: b, m, h => by
    simp only [List.map_cons, List.cons.injEq] at h
    have e : ordStep back name zs last m x = ordStep back name zs last m y := by
      unfold ordStep; rw [onLev_dat h.1, (NodeV.dat_eq h.1).2.1]
    show ordGo back name zs last (ordStep back name zs last m x) a = ordGo back name zs last (ordStep back name zs last m y) b
    rw [e]
    exact ordGo_dat back name zs last a b _ h.2

theorem ordB_dat {a b : List NodeV} (h : a.map NodeV.dat = b.map NodeV.dat) (name : ByteArray) (zs : List ByteArray) (l : ByteArray) (back : Bool) : ordB a name zs l back = ordB b name zs l back := by
  unfold ordB; rw [treeOkB_dat h, ordGo_dat back name zs l a b _ h]

theorem sBefore_any (a b : ByteArray) (w : World) (ha : a.size ≤ 1048576) (hb : b.size ≤ 1048576) : Calls Tryz.prog 119 #[.string a, .string b] w fun e w' => e = .returned (.bool (bef a b)) ∧ Below w.heap.size w w' := by
  go_enter Tryz.func119, Tryz.ntmps119
  go_wp2_with fail
  refine (l02Before_any a b _ ha hb).mono ?_
  rintro e w1 ⟨rfl, b1⟩
  go_wp2_with fail
  go_ret
  exact ⟨rfl, b1⟩


end Go.Proofs.YtjfdlbbfodomeaaGreatDoor
