/- PureFun: each side at every name, and the law. -/
import Derived.Test.YtkoagpeeohmokaaGreatDoorFun8
import Derived.Test.YtkoagpeeohmokaaGreatDoorOpenStrs
namespace Go.Proofs.YtkoagpeeohmokaaGreatDoor
open Go.RowKit
set_option linter.unusedVariables false

theorem get0 {xs : List ByteArray} (h : 1 ≤ xs.length) : ∃ x0, xs[0]? = some x0 := ⟨xs[0], List.getElem?_eq_getElem (by omega)⟩

theorem get1 {xs : List ByteArray} (h : 2 ≤ xs.length) : ∃ x1, xs[1]? = some x1 := ⟨xs[1], List.getElem?_eq_getElem (by omega)⟩

theorem pureB_cases {s : ByteArray} (h : pureB s = true) : s = ⟨#[65]⟩ ∨ s = ⟨#[67]⟩ ∨ s = ⟨#[69]⟩ ∨ s = ⟨#[70]⟩ ∨ s = ⟨#[74]⟩ ∨ s = ⟨#[76]⟩ ∨ s = ⟨#[80]⟩ ∨ s = ⟨#[84, 82]⟩ ∨ s = ⟨#[82, 69]⟩ := by
  unfold pureB pureNames at h
  simp only [List.any_cons, List.any_nil, Bool.or_false, Bool.or_eq_true, decide_eq_true_eq] at h
  rcases h with h | h | h | h | h | h | h | h | h
  · exact .inl h.symm
  · exact .inr (.inl h.symm)
  · exact .inr (.inr (.inl h.symm))
  · exact .inr (.inr (.inr (.inl h.symm)))
  · exact .inr (.inr (.inr (.inr (.inl h.symm))))
  · exact .inr (.inr (.inr (.inr (.inr (.inl h.symm)))))
  · exact .inr (.inr (.inr (.inr (.inr (.inr (.inl h.symm))))))
  · exact .inr (.inr (.inr (.inr (.inr (.inr (.inr (.inl h.symm)))))))
  · exact .inr (.inr (.inr (.inr (.inr (.inr (.inr (.inr h.symm)))))))

/-- The least number of arguments. -/
def loOf (s : ByteArray) : Int := (funArgs s).1

def hiOf (s : ByteArray) : Int := (funArgs s).2.1

theorem pf_all (s : ByteArray) (v : Value) (xs : List ByteArray) (hp : pureB s = true) (hlo : loOf s ≤ xs.length) (w : World) (hT : T10 w) (hml : ML w) (h : StrsAt w w.heap.size v xs) (hl : xs.length ≤ 1048576) (hz : ∀ x ∈ xs, x.size ≤ 1048576) :
    Calls Tryz.prog 29 #[.string s, v] w fun e w' => GotStr (funL s xs) e ∧ Below w.heap.size w w' := by
  rcases pureB_cases hp with rfl | rfl | rfl | rfl | rfl | rfl | rfl | rfl | rfl
  · obtain ⟨x0, g0⟩ := get0 (show 1 ≤ xs.length by have : loOf ⟨#[65]⟩ = 1 := rfl; omega)
    have e : funL ⟨#[65]⟩ xs = numeralL (asciiV x0 (argV xs 1 1)) := by show numeralL (asciiV (xs[0]?.getD ⟨#[]⟩) _) = _; rw [g0]; rfl
    rw [e]; exact pfA_at v xs x0 g0 w hT h hl hz
  · exact pfC v xs w h hl hz
  · obtain ⟨x0, g0⟩ := get0 (show 1 ≤ xs.length by have : loOf ⟨#[69]⟩ = 1 := rfl; omega)
    have e : funL ⟨#[69]⟩ xs = extL x0 xs := by show extL (xs[0]?.getD ⟨#[]⟩) _ = _; rw [g0]; rfl
    rw [e]; exact pfE v xs x0 g0 w h hl hz
  · obtain ⟨x0, g0⟩ := get0 (show 1 ≤ xs.length by have : loOf ⟨#[70]⟩ = 2 := rfl; omega)
    obtain ⟨x1, g1⟩ := get1 (show 2 ≤ xs.length by have : loOf ⟨#[70]⟩ = 2 := rfl; omega)
    have e : funL ⟨#[70]⟩ xs = numeralL (findOf x0 x1 (argV xs 2 1)) := by show numeralL (findOf (xs[0]?.getD ⟨#[]⟩) (xs[1]?.getD ⟨#[]⟩) _) = _; rw [g0, g1]; rfl
    rw [e]; exact pfF v xs x0 x1 g0 g1 w hT hml h hl hz
  · obtain ⟨x0, g0⟩ := get0 (show 1 ≤ xs.length by have : loOf ⟨#[74]⟩ = 2 := rfl; omega)
    obtain ⟨x1, g1⟩ := get1 (show 2 ≤ xs.length by have : loOf ⟨#[74]⟩ = 2 := rfl; omega)
    have e : funL ⟨#[74]⟩ xs = justL x0 (wholeV x1) := by show justL (xs[0]?.getD ⟨#[]⟩) (wholeV (xs[1]?.getD ⟨#[]⟩)) = _; rw [g0, g1]; rfl
    rw [e]; exact pfJ v xs x0 x1 g0 g1 w h hl hz
  · obtain ⟨x0, g0⟩ := get0 (show 1 ≤ xs.length by have : loOf ⟨#[76]⟩ = 1 := rfl; omega)
    have e : funL ⟨#[76]⟩ xs = lenL x0 (xs[1]?.getD ⟨#[]⟩) xs := by show lenL (xs[0]?.getD ⟨#[]⟩) _ _ = _; rw [g0]; rfl
    rw [e]; exact pfL v xs x0 g0 w hT hml h hl hz
  · obtain ⟨x0, g0⟩ := get0 (show 1 ≤ xs.length by have : loOf ⟨#[80]⟩ = 2 := rfl; omega)
    obtain ⟨x1, g1⟩ := get1 (show 2 ≤ xs.length by have : loOf ⟨#[80]⟩ = 2 := rfl; omega)
    have e : funL ⟨#[80]⟩ xs = pieL x0 x1 xs := by show pieL (xs[0]?.getD ⟨#[]⟩) (xs[1]?.getD ⟨#[]⟩) _ = _; rw [g0, g1]; rfl
    rw [e]; exact pfP v xs x0 x1 g0 g1 w hml h hl hz
  · obtain ⟨x0, g0⟩ := get0 (show 1 ≤ xs.length by have : loOf ⟨#[84, 82]⟩ = 2 := rfl; omega)
    obtain ⟨x1, g1⟩ := get1 (show 2 ≤ xs.length by have : loOf ⟨#[84, 82]⟩ = 2 := rfl; omega)
    have e : funL ⟨#[84, 82]⟩ xs = trans (sfx x0 0) (sfx x1 0) (sfx (trToL xs) 0) := by show trans (sfx (xs[0]?.getD ⟨#[]⟩) 0) (sfx (xs[1]?.getD ⟨#[]⟩) 0) _ = _; rw [g0, g1]; rfl
    rw [e]; exact pfTR v xs x0 x1 g0 g1 w h hl hz
  · obtain ⟨x0, g0⟩ := get0 (show 1 ≤ xs.length by have : loOf ⟨#[82, 69]⟩ = 1 := rfl; omega)
    have e : funL ⟨#[82, 69]⟩ xs = x0.data.toList.reverse := by show (xs[0]?.getD (⟨#[]⟩ : ByteArray)).data.toList.reverse = _; rw [g0]; rfl
    rw [e]; exact pfRE v xs x0 g0 w h hl hz

theorem cut_small {L : List UInt8} (h : L.length ≤ 64) : cutRes L = (L, 0) := if_neg (by omega)

theorem long_le {xs : List ByteArray} (h : xs.any long64 = false) {k : Nat} {x : ByteArray} (hk : xs[k]? = some x) : x.size ≤ 64 := by
  rw [List.any_eq_false] at h
  have := h x (mem_of_get hk)
  unfold long64 at this
  simp at this
  exact this

theorem fun_len (s : ByteArray) (xs : List ByteArray) (hp : pureB s = true) (hlo : loOf s ≤ xs.length) (hhi : (xs.length : Int) ≤ hiOf s) (hlg : xs.any long64 = false) (hl : xs.length ≤ 1048576) (hj : s ≠ ⟨#[74]⟩) : (funL s xs).length ≤ 64 := by
  rcases pureB_cases hp with rfl | rfl | rfl | rfl | rfl | rfl | rfl | rfl | rfl
  · have := asciiV_bd (xs[0]?.getD ⟨#[]⟩) (argV xs 1 1)
    exact numeralL_le _ (by omega) (by omega)
  · have h8 : hiOf ⟨#[67]⟩ = 8 := rfl
    have := charL_le xs
    show (charL xs).length ≤ 64
    omega
  · obtain ⟨x0, g0⟩ := get0 (show 1 ≤ xs.length by have : loOf ⟨#[69]⟩ = 1 := rfl; omega)
    have := extL_le x0 xs
    have := long_le hlg g0
    show (extL (xs[0]?.getD ⟨#[]⟩) xs).length ≤ 64
    rw [g0]; show (extL x0 xs).length ≤ 64; omega
  · obtain ⟨x0, g0⟩ := get0 (show 1 ≤ xs.length by have : loOf ⟨#[70]⟩ = 2 := rfl; omega)
    obtain ⟨x1, g1⟩ := get1 (show 2 ≤ xs.length by have : loOf ⟨#[70]⟩ = 2 := rfl; omega)
    have := findOf_bd x0 x1 (argV xs 2 1)
    have := long_le hlg g0
    have := long_le hlg g1
    show (numeralL (findOf (xs[0]?.getD ⟨#[]⟩) (xs[1]?.getD ⟨#[]⟩) (argV xs 2 1))).length ≤ 64
    rw [g0, g1]
    exact numeralL_le _ (by show _ ≤ findOf x0 x1 _; omega) (by show findOf x0 x1 _ ≤ _; omega)
  · exact absurd rfl hj
  · obtain ⟨x0, g0⟩ := get0 (show 1 ≤ xs.length by have : loOf ⟨#[76]⟩ = 1 := rfl; omega)
    have := long_le hlg g0
    show (lenL (xs[0]?.getD ⟨#[]⟩) (xs[1]?.getD ⟨#[]⟩) xs).length ≤ 64
    rw [g0]
    exact lenL_le x0 _ _ (by omega)
  · obtain ⟨x0, g0⟩ := get0 (show 1 ≤ xs.length by have : loOf ⟨#[80]⟩ = 2 := rfl; omega)
    have := pieL_le x0 (xs[1]?.getD ⟨#[]⟩) xs
    have := long_le hlg g0
    show (pieL (xs[0]?.getD ⟨#[]⟩) (xs[1]?.getD ⟨#[]⟩) xs).length ≤ 64
    rw [g0]; show (pieL x0 _ xs).length ≤ 64; omega
  · obtain ⟨x0, g0⟩ := get0 (show 1 ≤ xs.length by have : loOf ⟨#[84, 82]⟩ = 2 := rfl; omega)
    have := trans_le (sfx x0 0) (sfx (xs[1]?.getD ⟨#[]⟩) 0) (sfx (trToL xs) 0)
    have := long_le hlg g0
    have e : (sfx x0 0).length = x0.size := by rw [sfx_zero, ← ba_size]
    show (trans (sfx (xs[0]?.getD ⟨#[]⟩) 0) (sfx (xs[1]?.getD ⟨#[]⟩) 0) (sfx (trToL xs) 0)).length ≤ 64
    rw [g0]; show (trans (sfx x0 0) _ _).length ≤ 64; omega
  · obtain ⟨x0, g0⟩ := get0 (show 1 ≤ xs.length by have : loOf ⟨#[82, 69]⟩ = 1 := rfl; omega)
    have := long_le hlg g0
    show ((xs[0]?.getD (⟨#[]⟩ : ByteArray)).data.toList.reverse).length ≤ 64
    rw [g0]; show (x0.data.toList.reverse).length ≤ 64
    rw [List.length_reverse, ← ba_size]; omega

theorem sf_all (s : ByteArray) (v : Value) (xs : List ByteArray) (hp : pureB s = true) (hlo : loOf s ≤ xs.length) (hhi : (xs.length : Int) ≤ hiOf s) (hlg : xs.any long64 = false) (w : World) (h : StrsAt w w.heap.size v xs) (hl : xs.length ≤ 1048576) (hz : ∀ x ∈ xs, x.size ≤ 1048576) :
    Calls Tryz.prog 24 #[.string s, v] w fun e w' => GotFun (cutRes (funL s xs)) e ∧ Below w.heap.size w w' := by
  by_cases hj : s = ⟨#[74]⟩
  · subst hj
    obtain ⟨x0, g0⟩ := get0 (show 1 ≤ xs.length by have : loOf ⟨#[74]⟩ = 2 := rfl; omega)
    obtain ⟨x1, g1⟩ := get1 (show 2 ≤ xs.length by have : loOf ⟨#[74]⟩ = 2 := rfl; omega)
    have e : funL ⟨#[74]⟩ xs = justL x0 (wholeV x1) := by show justL (xs[0]?.getD ⟨#[]⟩) (wholeV (xs[1]?.getD ⟨#[]⟩)) = _; rw [g0, g1]; rfl
    rw [e]; exact sfJ v xs x0 x1 g0 g1 w h hl hz
  rw [cut_small (fun_len s xs hp hlo hhi hlg hl hj)]
  clear hhi hlg
  rcases pureB_cases hp with rfl | rfl | rfl | rfl | rfl | rfl | rfl | rfl | rfl
  · obtain ⟨x0, g0⟩ := get0 (show 1 ≤ xs.length by have : loOf ⟨#[65]⟩ = 1 := rfl; omega)
    have e : funL ⟨#[65]⟩ xs = numeralL (asciiV x0 (argV xs 1 1)) := by show numeralL (asciiV (xs[0]?.getD ⟨#[]⟩) _) = _; rw [g0]; rfl
    rw [e]; exact sfA v xs x0 g0 w h hl hz _ rfl
  · exact sfC v xs w h hl hz
  · obtain ⟨x0, g0⟩ := get0 (show 1 ≤ xs.length by have : loOf ⟨#[69]⟩ = 1 := rfl; omega)
    have e : funL ⟨#[69]⟩ xs = extL x0 xs := by show extL (xs[0]?.getD ⟨#[]⟩) _ = _; rw [g0]; rfl
    rw [e]; exact sfE v xs x0 g0 w h hl hz _ rfl
  · obtain ⟨x0, g0⟩ := get0 (show 1 ≤ xs.length by have : loOf ⟨#[70]⟩ = 2 := rfl; omega)
    obtain ⟨x1, g1⟩ := get1 (show 2 ≤ xs.length by have : loOf ⟨#[70]⟩ = 2 := rfl; omega)
    have e : funL ⟨#[70]⟩ xs = numeralL (findOf x0 x1 (argV xs 2 1)) := by show numeralL (findOf (xs[0]?.getD ⟨#[]⟩) (xs[1]?.getD ⟨#[]⟩) _) = _; rw [g0, g1]; rfl
    rw [e]; exact sfF v xs x0 x1 g0 g1 w h hl hz
  · exact absurd rfl hj
  · obtain ⟨x0, g0⟩ := get0 (show 1 ≤ xs.length by have : loOf ⟨#[76]⟩ = 1 := rfl; omega)
    have e : funL ⟨#[76]⟩ xs = lenL x0 (xs[1]?.getD ⟨#[]⟩) xs := by show lenL (xs[0]?.getD ⟨#[]⟩) _ _ = _; rw [g0]; rfl
    rw [e]; exact sfL v xs x0 g0 w h hl hz
  · obtain ⟨x0, g0⟩ := get0 (show 1 ≤ xs.length by have : loOf ⟨#[80]⟩ = 2 := rfl; omega)
    obtain ⟨x1, g1⟩ := get1 (show 2 ≤ xs.length by have : loOf ⟨#[80]⟩ = 2 := rfl; omega)
    have e : funL ⟨#[80]⟩ xs = pieL x0 x1 xs := by show pieL (xs[0]?.getD ⟨#[]⟩) (xs[1]?.getD ⟨#[]⟩) _ = _; rw [g0, g1]; rfl
    rw [e]; exact sfP v xs x0 x1 g0 g1 w h hl hz
  · obtain ⟨x0, g0⟩ := get0 (show 1 ≤ xs.length by have : loOf ⟨#[84, 82]⟩ = 2 := rfl; omega)
    obtain ⟨x1, g1⟩ := get1 (show 2 ≤ xs.length by have : loOf ⟨#[84, 82]⟩ = 2 := rfl; omega)
    have e : funL ⟨#[84, 82]⟩ xs = trans (sfx x0 0) (sfx x1 0) (sfx (trToL xs) 0) := by show trans (sfx (xs[0]?.getD ⟨#[]⟩) 0) (sfx (xs[1]?.getD ⟨#[]⟩) 0) _ = _; rw [g0, g1]; rfl
    rw [e]; exact sfTR v xs x0 x1 g0 g1 w h hl hz
  · obtain ⟨x0, g0⟩ := get0 (show 1 ≤ xs.length by have : loOf ⟨#[82, 69]⟩ = 1 := rfl; omega)
    have e : funL ⟨#[82, 69]⟩ xs = x0.data.toList.reverse := by show (xs[0]?.getD (⟨#[]⟩ : ByteArray)).data.toList.reverse = _; rw [g0]; rfl
    rw [e]; exact sfRE v xs x0 g0 w h hl hz

theorem funL_len (s : ByteArray) (xs : List ByteArray) (hp : pureB s = true) (hlo : loOf s ≤ xs.length) (hl : xs.length ≤ 1048576) (hz : ∀ x ∈ xs, x.size ≤ 1048576) : (funL s xs).length ≤ 9223372036854775807 := by
  rcases pureB_cases hp with rfl | rfl | rfl | rfl | rfl | rfl | rfl | rfl | rfl
  · have := asciiV_bd (xs[0]?.getD ⟨#[]⟩) (argV xs 1 1)
    have := numeralL_le _ (show -100000000000 ≤ asciiV (xs[0]?.getD ⟨#[]⟩) (argV xs 1 1) by omega) (by omega)
    show (numeralL (asciiV (xs[0]?.getD ⟨#[]⟩) (argV xs 1 1))).length ≤ _
    omega
  · have := charL_le xs
    show (charL xs).length ≤ _
    omega
  · obtain ⟨x0, g0⟩ := get0 (show 1 ≤ xs.length by have : loOf ⟨#[69]⟩ = 1 := rfl; omega)
    have := extL_le x0 xs
    have := hz x0 (mem_of_get g0)
    show (extL (xs[0]?.getD ⟨#[]⟩) xs).length ≤ _
    rw [g0]; show (extL x0 xs).length ≤ _; omega
  · obtain ⟨x0, g0⟩ := get0 (show 1 ≤ xs.length by have : loOf ⟨#[70]⟩ = 2 := rfl; omega)
    obtain ⟨x1, g1⟩ := get1 (show 2 ≤ xs.length by have : loOf ⟨#[70]⟩ = 2 := rfl; omega)
    have := findOf_bd x0 x1 (argV xs 2 1)
    have := hz x0 (mem_of_get g0)
    have := hz x1 (mem_of_get g1)
    have := numeralL_le (findOf x0 x1 (argV xs 2 1)) (by omega) (by omega)
    show (numeralL (findOf (xs[0]?.getD ⟨#[]⟩) (xs[1]?.getD ⟨#[]⟩) (argV xs 2 1))).length ≤ _
    rw [g0, g1]; show (numeralL (findOf x0 x1 (argV xs 2 1))).length ≤ _
    omega
  · obtain ⟨x0, g0⟩ := get0 (show 1 ≤ xs.length by have : loOf ⟨#[74]⟩ = 2 := rfl; omega)
    have := hz x0 (mem_of_get g0)
    have := justN_le x0 (wholeV (xs[1]?.getD ⟨#[]⟩))
    show (justL (xs[0]?.getD ⟨#[]⟩) (wholeV (xs[1]?.getD ⟨#[]⟩))).length ≤ _
    rw [g0]; show (justL x0 _).length ≤ _
    unfold justL
    rw [List.length_append, List.length_replicate, ← ba_size]; omega
  · obtain ⟨x0, g0⟩ := get0 (show 1 ≤ xs.length by have : loOf ⟨#[76]⟩ = 1 := rfl; omega)
    have := lenL_le x0 (xs[1]?.getD ⟨#[]⟩) xs (hz x0 (mem_of_get g0))
    show (lenL (xs[0]?.getD ⟨#[]⟩) (xs[1]?.getD ⟨#[]⟩) xs).length ≤ _
    rw [g0]; show (lenL x0 _ xs).length ≤ _; omega
  · obtain ⟨x0, g0⟩ := get0 (show 1 ≤ xs.length by have : loOf ⟨#[80]⟩ = 2 := rfl; omega)
    have := pieL_le x0 (xs[1]?.getD ⟨#[]⟩) xs
    have := hz x0 (mem_of_get g0)
    show (pieL (xs[0]?.getD ⟨#[]⟩) (xs[1]?.getD ⟨#[]⟩) xs).length ≤ _
    rw [g0]; show (pieL x0 _ xs).length ≤ _; omega
  · obtain ⟨x0, g0⟩ := get0 (show 1 ≤ xs.length by have : loOf ⟨#[84, 82]⟩ = 2 := rfl; omega)
    have := trans_le (sfx x0 0) (sfx (xs[1]?.getD ⟨#[]⟩) 0) (sfx (trToL xs) 0)
    have := hz x0 (mem_of_get g0)
    have e : (sfx x0 0).length = x0.size := by rw [sfx_zero, ← ba_size]
    show (trans (sfx (xs[0]?.getD ⟨#[]⟩) 0) (sfx (xs[1]?.getD ⟨#[]⟩) 0) (sfx (trToL xs) 0)).length ≤ _
    rw [g0]; show (trans (sfx x0 0) _ _).length ≤ _; omega
  · obtain ⟨x0, g0⟩ := get0 (show 1 ≤ xs.length by have : loOf ⟨#[82, 69]⟩ = 1 := rfl; omega)
    have := hz x0 (mem_of_get g0)
    show ((xs[0]?.getD (⟨#[]⟩ : ByteArray)).data.toList.reverse).length ≤ _
    rw [g0]; show (x0.data.toList.reverse).length ≤ _
    rw [List.length_reverse, ← ba_size]; omega

theorem funRes_no {lo hi : Int} {xs : List ByteArray} (b : Bool) (L L' : List UInt8) (h : (b && decide (lo ≤ (xs.length : Int) ∧ (xs.length : Int) ≤ hi)) = false) : funRes b lo hi xs L = funRes b lo hi xs L' := by
  unfold funRes; rw [if_pos h, if_pos h]

theorem PureFun_any (s : ByteArray) (v : Value) (xs : List ByteArray) (w : World) (hT : T10 w) (hml : ML w) (h : StrsAt w w.heap.size v xs) (hl : xs.length ≤ 1048576) (hz : ∀ x ∈ xs, x.size ≤ 1048576) :
    Calls Tryz.prog 9 #[.string s, v] w fun e w' => GotFun (funV s xs) e ∧ Below w.heap.size w w' := by
  by_cases hb : (pureB s && decide (loOf s ≤ (xs.length : Int) ∧ (xs.length : Int) ≤ hiOf s)) = true
  · obtain ⟨h1, h2⟩ := lenBool xs _ _ _ hb
    have h3 := of_decide_eq_true h2
    exact PureFun_core s v xs w (loOf s) (hiOf s) (funArgs s).2.2 (pureB s) (funL s xs) h hl hz (fun W => FunArgs_any s W) (fun W => isPure_any s W)
      (fun _ W hB => pf_all s v xs h1 h3.1 W (hT.below hB) (hml.below hB) (h.on hB) hl hz) (funL_len s xs h1 h3.1 hl hz)
  · have hb' : (pureB s && decide (loOf s ≤ (xs.length : Int) ∧ (xs.length : Int) ≤ hiOf s)) = false := by simpa using hb
    have := PureFun_core s v xs w (loOf s) (hiOf s) (funArgs s).2.2 (pureB s) [] h hl hz (fun W => FunArgs_any s W) (fun W => isPure_any s W) (fun hc => absurd hc hb) (by simp)
    rw [funRes_no (pureB s) [] (funL s xs) hb'] at this
    exact this

set_option maxRecDepth 8000 in
theorem sPureFun_core (name : ByteArray) (v : Value) (xs : List ByteArray) (w : World) (lo hi : Int) (ok b : Bool) (L : List UInt8) (hok : b = true → ok = true) (h : StrsAt w w.heap.size v xs) (hl : xs.length ≤ 1048576) (hz : ∀ x ∈ xs, x.size ≤ 1048576)
    (HF : Hid (∀ W, Calls Tryz.prog 21 #[.string name] W fun e w' => e = .returned (.tuple #[.int .i64 lo, .int .i64 hi, .bool ok]) ∧ W = w'))
    (HP : Hid (∀ W, Calls Tryz.prog 22 #[.string name] W fun e w' => e = .returned (.bool b) ∧ Below W.heap.size W w'))
    (HL : Hid ((b && decide (lo ≤ (xs.length : Int) ∧ (xs.length : Int) ≤ hi)) = true → xs.any long64 = false → ∀ W, Below w.heap.size w W → Calls Tryz.prog 24 #[.string name, v] W fun e w' => GotFun (cutRes L) e ∧ Below W.heap.size W w')) :
    Calls Tryz.prog 7 #[.string name, v] w fun e w' => GotFun (funRes b lo hi xs L) e ∧ Below w.heap.size w w' := by
  have H := Lib.hid h
  have HV : Hid (funRes b lo hi xs L = if (b && decide (lo ≤ (xs.length : Int) ∧ (xs.length : Int) ≤ hi)) = false then ([], 2) else if xs.any long64 then ([], 1) else cutRes L) := rfl
  obtain ⟨A, c, rfl, _, _⟩ := h
  generalize funRes b lo hi xs L = V at *
  have Z := Lib.hid hz; clear hz
  cases b
  · have HE := Lib.hid (HV.out.trans (if_pos rfl))
    clear HL HV hok
    cases ok
    · go_enter Tryz.func7, Tryz.ntmps7
      go_wp2_with fail
      refine (HF.out _).mono ?_
      rintro e w' ⟨rfl, rfl⟩
      go_wp2_with fail
      go_ret2
      exact ⟨⟨_, _, rfl, HE.out.symm⟩, below_refl _⟩
    · go_enter Tryz.func7, Tryz.ntmps7
      go_wp2_with fail
      refine (HF.out _).mono ?_
      rintro e w' ⟨rfl, rfl⟩
      go_wp2_with fail
      refine (HP.out _).mono ?_
      rintro e w1 ⟨rfl, b1⟩
      go_wp2_with fail
      go_ret2
      exact ⟨⟨_, _, rfl, HE.out.symm⟩, b1⟩
  have hok1 := hok rfl
  subst hok1
  clear hok
  obtain ⟨D, hD⟩ : ∃ D : Bool, decide (lo ≤ (xs.length : Int) ∧ (xs.length : Int) ≤ hi) = D := ⟨_, rfl⟩
  rw [hD] at HV HL
  have HW : Hid (∀ W, Calls Tryz.prog 23 #[.int .i64 xs.length, .int .i64 lo, .int .i64 hi] W fun e w' => e = .returned (.bool D) ∧ W = w') := fun W => by
    rw [← hD]; exact l00InD_any _ _ _ W
  clear hD
  cases D
  · have HE := Lib.hid (HV.out.trans (if_pos rfl))
    clear HL HV
    go_enter Tryz.func7, Tryz.ntmps7
    go_wp2_with fail
    refine (HF.out _).mono ?_
    rintro e w' ⟨rfl, rfl⟩
    go_wp2_with fail
    refine (HP.out _).mono ?_
    rintro e w1 ⟨rfl, b1⟩
    have HB1 := Lib.hid b1; clear b1
    go_wp2_with fail
    refine (HW.out _).mono ?_
    rintro e w' ⟨rfl, rfl⟩
    go_wp2_with fail
    go_ret2
    exact ⟨⟨_, _, rfl, HE.out.symm⟩, HB1.out⟩
  have HV2 := Lib.hid (HV.out.trans (if_neg (by decide)))
  have HL2 := Lib.hid (HL.out rfl)
  clear HV HL
  go_enter Tryz.func7, Tryz.ntmps7
  go_wp2_with fail
  refine (HF.out _).mono ?_
  rintro e w' ⟨rfl, rfl⟩
  go_wp2_with fail
  refine (HP.out _).mono ?_
  rintro e w1 ⟨rfl, b1⟩
  have HB1 := Lib.hid b1; clear b1
  go_wp2_with fail
  refine (HW.out _).mono ?_
  rintro e w' ⟨rfl, rfl⟩
  go_wp2_with fail
  go_loop [9] (fun i => ∃ k : Nat, k ≤ xs.length ∧ i = .int .i64 k ∧ Hid (xs.any long64 = (xs.drop k).any long64)) (fun i => xs.length - (intOf i).toNat)
  case atStart => exact ⟨0, Nat.zero_le _, rfl, rfl⟩
  case round =>
    obtain ⟨k, hk, rfl, HI⟩ := hrel
    by_cases hlt : k < xs.length
    · obtain ⟨ad, rfl, hc⟩ := (H.out.on HB1.out).at0 hlt
      have HD := Lib.hid (List.drop_eq_getElem_cons hlt)
      have hx := Z.out _ (List.getElem_mem hlt)
      generalize xs[k] = x at *
      by_cases h64 : 64 < x.size
      · have HT : Hid (xs.any long64 = true) := by show _ = _; rw [HI.out, HD.out, List.any_cons, show long64 x = true from decide_eq_true h64, Bool.true_or]
        go_wp2_with fail
        go_ret2
        exact ⟨⟨_, _, rfl, by rw [HV2.out, HT.out]; rfl⟩, HB1.out⟩
      · have HT : Hid (xs.any long64 = (xs.drop (k + 1)).any long64) := by show _ = _; rw [HI.out, HD.out, List.any_cons, show long64 x = false from decide_eq_false h64, Bool.false_or]
        go_wp2_with fail
        exact ⟨⟨k + 1, by omega, by go_num, HT.out⟩, by simp [intOf]; omega⟩
    · have HT : Hid (xs.any long64 = false) := by show _ = _; rw [HI.out, List.drop_eq_nil_of_le (by omega)]; rfl
      go_wp2_with fail
      refine (HL2.out HT.out _ HB1.out).mono ?_
      rintro e w2 ⟨⟨r, cc, rfl, hr⟩, b2⟩
      have HR := Lib.hid hr; clear hr
      have HB2 := Lib.hid (below_trans HB1.out b2); clear b2
      go_wp2_with fail
      go_ret2
      exact ⟨⟨_, _, rfl, by rw [HV2.out, HT.out]; exact HR.out⟩, HB2.out⟩

theorem pure_ok {s : ByteArray} (h : pureB s = true) : (funArgs s).2.2 = true := by
  rcases pureB_cases h with rfl | rfl | rfl | rfl | rfl | rfl | rfl | rfl | rfl <;> rfl

theorem sPureFun_any (s : ByteArray) (v : Value) (xs : List ByteArray) (w : World) (h : StrsAt w w.heap.size v xs) (hl : xs.length ≤ 1048576) (hz : ∀ x ∈ xs, x.size ≤ 1048576) :
    Calls Tryz.prog 7 #[.string s, v] w fun e w' => GotFun (funV s xs) e ∧ Below w.heap.size w w' := by
  by_cases hb : (pureB s && decide (loOf s ≤ (xs.length : Int) ∧ (xs.length : Int) ≤ hiOf s)) = true
  · obtain ⟨h1, h2⟩ := lenBool xs _ _ _ hb
    have h3 := of_decide_eq_true h2
    exact sPureFun_core s v xs w (loOf s) (hiOf s) (funArgs s).2.2 (pureB s) (funL s xs) pure_ok h hl hz (fun W => l10Args_any s W) (fun W => l10Pure_any s W)
      (fun _ hlg W hB => sf_all s v xs h1 h3.1 h3.2 hlg W (h.on hB) hl hz)
  · have hb' : (pureB s && decide (loOf s ≤ (xs.length : Int) ∧ (xs.length : Int) ≤ hiOf s)) = false := by simpa using hb
    have := sPureFun_core s v xs w (loOf s) (hiOf s) (funArgs s).2.2 (pureB s) [] pure_ok h hl hz (fun W => l10Args_any s W) (fun W => l10Pure_any s W) (fun hc => absurd hc hb)
    rw [funRes_no (pureB s) [] (funL s xs) hb'] at this
    exact this

set_option maxRecDepth 8000 in
theorem PureFun_walk (s : ByteArray) (hs : s.size ≤ maxLen) (v1 : Value) (xs1 : List ByteArray) (w : World) (h1 : StrsAt w w.heap.size v1 xs1) (l1 : xs1.length ≤ maxLen) (z1 : ∀ x ∈ xs1, x.size ≤ maxLen) (hL : laidMetH Tryz.prog Rows.fnExactPureFunRow.laid w) (hsh : w.ShapedOpen Tryz.prog) :
    Calls Tryz.prog 3 #[.string s, v1] w fun e w' => e = .returned (.bool true) ∧ Below w.heap.size w w' := by
  have HT := Lib.hid (T10.of_laid hL); clear hL
  have HM := Lib.hid (ML.of_shaped hsh); clear hsh
  have Z0 := Lib.hid z1; clear z1
  unfold maxLen at hs
  by_cases hs1 : s.size ≤ 1048576
  rotate_left
  · go_enter Tryz.func3, Tryz.ntmps3
    go_wp2_with fail
    go_ret
    exact ⟨rfl, below_refl _⟩
  go_enter Tryz.func3, Tryz.ntmps3
  go_wp2_with fail
  refine (szStringS_ex v1 xs1 1048576 _ _ h1 (by omega) (by omega) l1 Z0.out).mono ?_
  rintro e w' ⟨q, rfl, rfl, q1, q2, hq⟩
  have Q := Lib.hid hq; clear hq
  by_cases q0 : q < 0
  · go_wp2_with fail
    go_ret
    exact ⟨rfl, below_refl _⟩
  have s0 : xs1.length ≤ 1048576 := by have := Q.out (by omega); omega
  have z0 : ∀ x ∈ xs1, x.size ≤ 1048576 := fun x hx => by have := Q.out (by omega); have := size_le_total hx; omega
  clear Z0
  have Z0 := Lib.hid z0; clear z0
  clear Q
  go_wp2_with fail
  refine (toStringS_any v1 xs1 _ _ h1 (Nat.le_refl _) s0).mono ?_
  rintro e wa ⟨va, rfl, ha, ba⟩
  have hA := ha.at_; clear ha
  have h1a := h1.on ba
  go_wp2_with fail
  refine (sPureFun_any s va xs1 _ hA s0 Z0.out).mono ?_
  rintro e wb ⟨⟨r1, c1, rfl, hr1⟩, bb⟩
  have HR1 := Lib.hid hr1; clear hr1
  have B1 := Lib.hid (below_trans ba bb); clear ba
  have h1b := h1a.on bb
  clear hA h1a bb
  go_wp2_with fail
  refine (toStringS_any v1 xs1 _ _ h1b (Nat.le_refl _) s0).mono ?_
  rintro e wc ⟨x0, rfl, hx0, bc⟩
  have X0 := hx0.at_; clear hx0
  have B2 := Lib.hid (below_trans B1.out bc)
  clear h1b B1 bc
  go_wp2_with fail
  refine (PureFun_any s x0 xs1 _ (HT.out.below B2.out) (HM.out.below B2.out) X0 s0 Z0.out).mono ?_
  rintro e wd ⟨⟨r2, c2, rfl, hr2⟩, bd⟩
  have he := HR1.out.trans hr2.symm
  obtain rfl : r1 = r2 := ba_ext (congrArg Prod.fst he)
  obtain rfl : c1 = c2 := congrArg Prod.snd he
  have B3 := Lib.hid (below_trans B2.out bd)
  have X1 := X0.on bd
  have h1d := h1.on B3.out
  clear X0 B2 bd he hr2
  go_wp2_with fail
  refine (toStringS_any v1 xs1 _ _ h1d (Nat.le_refl _) s0).mono ?_
  rintro e we ⟨y0, rfl, hy0, be⟩
  have Y0 := hy0.at_; clear hy0
  have X2 := X1.on be
  have B4 := Lib.hid (below_trans B3.out be)
  clear X1 h1d B3 be
  go_wp2_with fail
  refine (eqStringS_any x0 y0 xs1 xs1 _ _ X2 Y0 s0).mono ?_
  rintro e w' ⟨rfl, k, rfl⟩
  go_wp2_with fail
  go_ret
  exact ⟨rfl, below_trans B4.out (below_drewN _ _)⟩

end Go.Proofs.YtkoagpeeohmokaaGreatDoor
