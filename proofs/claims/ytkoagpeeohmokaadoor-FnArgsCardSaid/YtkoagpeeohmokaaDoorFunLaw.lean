/- PureFun: each side at every name, and the law. -/
import Derived.Test.YtkoagpeeohmokaaDoorFun8
import Derived.Test.YtkoagpeeohmokaaDoorOpenStrs
namespace Go.Proofs.YtkoagpeeohmokaaDoor
open Go.RowKit
set_option linter.unusedVariables false

theorem get0 {xs : List ByteArray} (h : 1 ≤ xs.length) : ∃ x0, xs[0]? = some x0 := ⟨xs[0], List.getElem?_eq_getElem (by omega)⟩

theorem get1 {xs : List ByteArray} (h : 2 ≤ xs.length) : ∃ x1, xs[1]? = some x1 := ⟨xs[1], List.getElem?_eq_getElem (by omega)⟩

theorem pureB_cases {s : ByteArray} (h : pureB s = true) : s = ⟨#[65]⟩ ∨ s = ⟨#[67]⟩ ∨ s = ⟨#[69]⟩ ∨ s = ⟨#[70]⟩ ∨ s = ⟨#[74]⟩ ∨ s = ⟨#[76]⟩ ∨ s = ⟨#[80]⟩ ∨ s = ⟨#[84, 82]⟩ ∨ s = ⟨#[82, 69]⟩ := by
  unfold pureB pureNames at h
  simp only [List.any_cons, List.any_nil, Bool.or_false, Bool.or_eq_true, decide_eq_true_eq] at h
  rcases h with h | h | h | h | h | h | h | h | h
  · exact .inl h.symm
  · exact .inr (.inl h.symm)
  · exact .inr (.inr (.inl h.symm))
  · exact .inr (.inr (.inr (.inl h.symm)))
  · exact .inr (.inr (.inr (.inr (.inl h.symm))))
  · exact .inr (.inr (.inr (.inr (.inr (.inl h.symm)))))
  · exact .inr (.inr (.inr (.inr (.inr (.inr (.inl h.symm))))))
  · exact .inr (.inr (.inr (.inr (.inr (.inr (.inr (.inl h.symm)))))))
  · exact .inr (.inr (.inr (.inr (.inr (.inr (.inr (.inr h.symm)))))))

/-- The least number of arguments. -/
def loOf (s : ByteArray) : Int := (funArgs s).1

def hiOf (s : ByteArray) : Int := (funArgs s).2.1

theorem pf_all (s : ByteArray) (v : Value) (xs : List ByteArray) (hp : pureB s = true) (hlo : loOf s ≤ xs.length) (w : World) (hT : T10 w) (hml : ML w) (h : StrsAt w w.heap.size v xs) (hl : xs.length ≤ 1048576) (hz : ∀ x ∈ xs, x.size ≤ 1048576) :
    Calls Tryd.prog 33 #[.string s, v] w fun e w' => GotStr (funL s xs) e ∧ Below w.heap.size w w' := by
  rcases pureB_cases hp with rfl | rfl | rfl | rfl | rfl | rfl | rfl | rfl | rfl
  · obtain ⟨x0, g0⟩ := get0 (show 1 ≤ xs.length by have : loOf ⟨#[65]⟩ = 1 := rfl; omega)
    have e : funL ⟨#[65]⟩ xs = numeralL (asciiV x0 (argV xs 1 1)) := by show numeralL (asciiV (xs[0]?.getD ⟨#[]⟩) _) = _; rw [g0]; rfl
    rw [e]; exact pfA_at v xs x0 g0 w hT h hl hz
  · exact pfC v xs w h hl hz
  · obtain ⟨x0, g0⟩ := get0 (show 1 ≤ xs.length by have : loOf ⟨#[69]⟩ = 1 := rfl; omega)
    have e : funL ⟨#[69]⟩ xs = extL x0 xs := by show extL (xs[0]?.getD ⟨#[]⟩) _ = _; rw [g0]; rfl
    rw [e]; exact pfE v xs x0 g0 w h hl hz
  · obtain ⟨x0, g0⟩ := get0 (show 1 ≤ xs.length by have : loOf ⟨#[70]⟩ = 2 := rfl; omega)
    obtain ⟨x1, g1⟩ := get1 (show 2 ≤ xs.length by have : loOf ⟨#[70]⟩ = 2 := rfl; omega)
    have e : funL ⟨#[70]⟩ xs = numeralL (findOf x0 x1 (argV xs 2 1)) := by show numeralL (findOf (xs[0]?.getD ⟨#[]⟩) (xs[1]?.getD ⟨#[]⟩) _) = _; rw [g0, g1]; rfl
    rw [e]; exact pfF v xs x0 x1 g0 g1 w hT hml h hl hz
  · obtain ⟨x0, g0⟩ := get0 (show 1 ≤ xs.length by have : loOf ⟨#[74]⟩ = 2 := rfl; omega)
    obtain ⟨x1, g1⟩ := get1 (show 2 ≤ xs.length by have : loOf ⟨#[74]⟩ = 2 := rfl; omega)
    have e : funL ⟨#[74]⟩ xs = justL x0 (wholeV x1) := by show justL (xs[0]?.getD ⟨#[]⟩) (wholeV (xs[1]?.getD ⟨#[]⟩)) = _; rw [g0, g1]; rfl
    rw [e]; exact pfJ v xs x0 x1 g0 g1 w h hl hz
  · obtain ⟨x0, g0⟩ := get0 (show 1 ≤ xs.length by have : loOf ⟨#[76]⟩ = 1 := rfl; omega)
    have e : funL ⟨#[76]⟩ xs = lenL x0 (xs[1]?.getD ⟨#[]⟩) xs := by show lenL (xs[0]?.getD ⟨#[]⟩) _ _ = _; rw [g0]; rfl
    rw [e]; exact pfL v xs x0 g0 w hT hml h hl hz
  · obtain ⟨x0, g0⟩ := get0 (show 1 ≤ xs.length by have : loOf ⟨#[80]⟩ = 2 := rfl; omega)
    obtain ⟨x1, g1⟩ := get1 (show 2 ≤ xs.length by have : loOf ⟨#[80]⟩ = 2 := rfl; omega)
    have e : funL ⟨#[80]⟩ xs = pieL x0 x1 xs := by show pieL (xs[0]?.getD ⟨#[]⟩) (xs[1]?.getD ⟨#[]⟩) _ = _; rw [g0, g1]; rfl
    rw [e]; exact pfP v xs x0 x1 g0 g1 w hml h hl hz
  · obtain ⟨x0, g0⟩ := get0 (show 1 ≤ xs.length by have : loOf ⟨#[84, 82]⟩ = 2 := rfl; omega)
    obtain ⟨x1, g1⟩ := get1 (show 2 ≤ xs.length by have : loOf ⟨#[84, 82]⟩ = 2 := rfl; omega)
    have e : funL ⟨#[84, 82]⟩ xs = trans (sfx x0 0) (sfx x1 0) (sfx (trToL xs) 0) := by show trans (sfx (xs[0]?.getD ⟨#[]⟩) 0) (sfx (xs[1]?.getD ⟨#[]⟩) 0) _ = _; rw [g0, g1]; rfl
    rw [e]; exact pfTR v xs x0 x1 g0 g1 w h hl hz
  · obtain ⟨x0, g0⟩ := get0 (show 1 ≤ xs.length by have : loOf ⟨#[82, 69]⟩ = 1 := rfl; omega)
    have e : funL ⟨#[82, 69]⟩ xs = x0.data.toList.reverse := by show (xs[0]?.getD (⟨#[]⟩ : ByteArray)).data.toList.reverse = _; rw [g0]; rfl
    rw [e]; exact pfRE v xs x0 g0 w h hl hz

theorem cut_small {L : List UInt8} (h : L.length ≤ 64) : cutRes L = (L, 0) := if_neg (by omega)

theorem long_le {xs : List ByteArray} (h : xs.any long64 = false) {k : Nat} {x : ByteArray} (hk : xs[k]? = some x) : x.size ≤ 64 := by
  rw [List.any_eq_false] at h
  have := h x (mem_of_get hk)
  unfold long64 at this
  simp at this
  exact this

theorem fun_len (s : ByteArray) (xs : List ByteArray) (hp : pureB s = true) (hlo : loOf s ≤ xs.length) (hhi : (xs.length : Int) ≤ hiOf s) (hlg : xs.any long64 = false) (hl : xs.length ≤ 1048576) (hj : s ≠ ⟨#[74]⟩) : (funL s xs).length ≤ 64 := by
  rcases pureB_cases hp with rfl | rfl | rfl | rfl | rfl | rfl | rfl | rfl | rfl
  · have := asciiV_bd (xs[0]?.getD ⟨#[]⟩) (argV xs 1 1)
    exact numeralL_le _ (by omega) (by omega)
  · have h8 : hiOf ⟨#[67]⟩ = 8 := rfl
    have := charL_le xs
    show (charL xs).length ≤ 64
    omega
  · obtain ⟨x0, g0⟩ := get0 (show 1 ≤ xs.length by have : loOf ⟨#[69]⟩ = 1 := rfl; omega)
    have := extL_le x0 xs
    have := long_le hlg g0
    show (extL (xs[0]?.getD ⟨#[]⟩) xs).length ≤ 64
    rw [g0]; show (extL x0 xs).length ≤ 64; omega
  · obtain ⟨x0, g0⟩ := get0 (show 1 ≤ xs.length by have : loOf ⟨#[70]⟩ = 2 := rfl; omega)
    obtain ⟨x1, g1⟩ := get1 (show 2 ≤ xs.length by have : loOf ⟨#[70]⟩ = 2 := rfl; omega)
    have := findOf_bd x0 x1 (argV xs 2 1)
    have := long_le hlg g0
    have := long_le hlg g1
    show (numeralL (findOf (xs[0]?.getD ⟨#[]⟩) (xs[1]?.getD ⟨#[]⟩) (argV xs 2 1))).length ≤ 64
    rw [g0, g1]
    exact numeralL_le _ (by show _ ≤ findOf x0 x1 _; omega) (by show findOf x0 x1 _ ≤ _; omega)
  · exact absurd rfl hj
  · obtain ⟨x0, g0⟩ := get0 (show 1 ≤ xs.length by have : loOf ⟨#[76]⟩ = 1 := rfl; omega)
    have := long_le hlg g0
    show (lenL (xs[0]?.getD ⟨#[]⟩) (xs[1]?.getD ⟨#[]⟩) xs).length ≤ 64
    rw [g0]
    exact lenL_le x0 _ _ (by omega)
  · obtain ⟨x0, g0⟩ := get0 (show 1 ≤ xs.length by have : loOf ⟨#[80]⟩ = 2 := rfl; omega)
    have := pieL_le x0 (xs[1]?.getD ⟨#[]⟩) xs
    have := long_le hlg g0
    show (pieL (xs[0]?.getD ⟨#[]⟩) (xs[1]?.getD ⟨#[]⟩) xs).length ≤ 64
    rw [g0]; show (pieL x0 _ xs).length ≤ 64; omega
  · obtain ⟨x0, g0⟩ := get0 (show 1 ≤ xs.length by have : loOf ⟨#[84, 82]⟩ = 2 := rfl; omega)
    have := trans_le (sfx x0 0) (sfx (xs[1]?.getD ⟨#[]⟩) 0) (sfx (trToL xs) 0)
    have := long_le hlg g0
    have e : (sfx x0 0).length = x0.size := by rw [sfx_zero, ← ba_size]
    show (trans (sfx (xs[0]?.getD ⟨#[]⟩) 0) (sfx (xs[1]?.getD ⟨#[]⟩) 0) (sfx (trToL xs) 0)).length ≤ 64
    rw [g0]; show (trans (sfx x0 0) _ _).length ≤ 64; omega
  · obtain ⟨x0, g0⟩ := get0 (show 1 ≤ xs.length by have : loOf ⟨#[82, 69]⟩ = 1 := rfl; omega)
    have := long_le hlg g0
    show ((xs[0]?.getD (⟨#[]⟩ : ByteArray)).data.toList.reverse).length ≤ 64
    rw [g0]; show (x0.data.toList.reverse).length ≤ 64
    rw [List.length_reverse, ← ba_size]; omega

theorem funL_len (s : ByteArray) (xs : List ByteArray) (hp : pureB s = true) (hlo : loOf s ≤ xs.length) (hl : xs.length ≤ 1048576) (hz : ∀ x ∈ xs, x.size ≤ 1048576) : (funL s xs).length ≤ 9223372036854775807 := by
  rcases pureB_cases hp with rfl | rfl | rfl | rfl | rfl | rfl | rfl | rfl | rfl
  · have := asciiV_bd (xs[0]?.getD ⟨#[]⟩) (argV xs 1 1)
    have := numeralL_le _ (show -100000000000 ≤ asciiV (xs[0]?.getD ⟨#[]⟩) (argV xs 1 1) by omega) (by omega)
    show (numeralL (asciiV (xs[0]?.getD ⟨#[]⟩) (argV xs 1 1))).length ≤ _
    omega
  · have := charL_le xs
    show (charL xs).length ≤ _
    omega
  · obtain ⟨x0, g0⟩ := get0 (show 1 ≤ xs.length by have : loOf ⟨#[69]⟩ = 1 := rfl; omega)
    have := extL_le x0 xs
    have := hz x0 (mem_of_get g0)
    show (extL (xs[0]?.getD ⟨#[]⟩) xs).length ≤ _
    rw [g0]; show (extL x0 xs).length ≤ _; omega
  · obtain ⟨x0, g0⟩ := get0 (show 1 ≤ xs.length by have : loOf ⟨#[70]⟩ = 2 := rfl; omega)
    obtain ⟨x1, g1⟩ := get1 (show 2 ≤ xs.length by have : loOf ⟨#[70]⟩ = 2 := rfl; omega)
    have := findOf_bd x0 x1 (argV xs 2 1)
    have := hz x0 (mem_of_get g0)
    have := hz x1 (mem_of_get g1)
    have := numeralL_le (findOf x0 x1 (argV xs 2 1)) (by omega) (by omega)
    show (numeralL (findOf (xs[0]?.getD ⟨#[]⟩) (xs[1]?.getD ⟨#[]⟩) (argV xs 2 1))).length ≤ _
    rw [g0, g1]; show (numeralL (findOf x0 x1 (argV xs 2 1))).length ≤ _
    omega
  · obtain ⟨x0, g0⟩ := get0 (show 1 ≤ xs.length by have : loOf ⟨#[74]⟩ = 2 := rfl; omega)
    have := hz x0 (mem_of_get g0)
    have := justN_le x0 (wholeV (xs[1]?.getD ⟨#[]⟩))
    show (justL (xs[0]?.getD ⟨#[]⟩) (wholeV (xs[1]?.getD ⟨#[]⟩))).length ≤ _
    rw [g0]; show (justL x0 _).length ≤ _
    unfold justL
    rw [List.length_append, List.length_replicate, ← ba_size]; omega
  · obtain ⟨x0, g0⟩ := get0 (show 1 ≤ xs.length by have : loOf ⟨#[76]⟩ = 1 := rfl; omega)
    have := lenL_le x0 (xs[1]?.getD ⟨#[]⟩) xs (hz x0 (mem_of_get g0))
    show (lenL (xs[0]?.getD ⟨#[]⟩) (xs[1]?.getD ⟨#[]⟩) xs).length ≤ _
    rw [g0]; show (lenL x0 _ xs).length ≤ _; omega
  · obtain ⟨x0, g0⟩ := get0 (show 1 ≤ xs.length by have : loOf ⟨#[80]⟩ = 2 := rfl; omega)
    have := pieL_le x0 (xs[1]?.getD ⟨#[]⟩) xs
    have := hz x0 (mem_of_get g0)
    show (pieL (xs[0]?.getD ⟨#[]⟩) (xs[1]?.getD ⟨#[]⟩) xs).length ≤ _
    rw [g0]; show (pieL x0 _ xs).length ≤ _; omega
  · obtain ⟨x0, g0⟩ := get0 (show 1 ≤ xs.length by have : loOf ⟨#[84, 82]⟩ = 2 := rfl; omega)
    have := trans_le (sfx x0 0) (sfx (xs[1]?.getD ⟨#[]⟩) 0) (sfx (trToL xs) 0)
    have := hz x0 (mem_of_get g0)
    have e : (sfx x0 0).length = x0.size := by rw [sfx_zero, ← ba_size]
    show (trans (sfx (xs[0]?.getD ⟨#[]⟩) 0) (sfx (xs[1]?.getD ⟨#[]⟩) 0) (sfx (trToL xs) 0)).length ≤ _
    rw [g0]; show (trans (sfx x0 0) _ _).length ≤ _; omega
  · obtain ⟨x0, g0⟩ := get0 (show 1 ≤ xs.length by have : loOf ⟨#[82, 69]⟩ = 1 := rfl; omega)
    have := hz x0 (mem_of_get g0)
    show ((xs[0]?.getD (⟨#[]⟩ : ByteArray)).data.toList.reverse).length ≤ _
    rw [g0]; show (x0.data.toList.reverse).length ≤ _
    rw [List.length_reverse, ← ba_size]; omega

theorem funRes_no {lo hi : Int} {xs : List ByteArray} (b : Bool) (L L' : List UInt8) (h : (b && decide (lo ≤ (xs.length : Int) ∧ (xs.length : Int) ≤ hi)) = false) : funRes b lo hi xs L = funRes b lo hi xs L' := by
  unfold funRes; rw [if_pos h, if_pos h]

theorem PureFun_any (s : ByteArray) (v : Value) (xs : List ByteArray) (w : World) (hT : T10 w) (hml : ML w) (h : StrsAt w w.heap.size v xs) (hl : xs.length ≤ 1048576) (hz : ∀ x ∈ xs, x.size ≤ 1048576) :
    Calls Tryd.prog 18 #[.string s, v] w fun e w' => GotFun (funV s xs) e ∧ Below w.heap.size w w' := by
  by_cases hb : (pureB s && decide (loOf s ≤ (xs.length : Int) ∧ (xs.length : Int) ≤ hiOf s)) = true
  · obtain ⟨h1, h2⟩ := lenBool xs _ _ _ hb
    have h3 := of_decide_eq_true h2
    exact PureFun_core s v xs w (loOf s) (hiOf s) (funArgs s).2.2 (pureB s) (funL s xs) h hl hz (fun W => FunArgs_any s W) (fun W => isPure_any s W)
      (fun _ W hB => pf_all s v xs h1 h3.1 W (hT.below hB) (hml.below hB) (h.on hB) hl hz) (funL_len s xs h1 h3.1 hl hz)
  · have hb' : (pureB s && decide (loOf s ≤ (xs.length : Int) ∧ (xs.length : Int) ≤ hiOf s)) = false := by simpa using hb
    have := PureFun_core s v xs w (loOf s) (hiOf s) (funArgs s).2.2 (pureB s) [] h hl hz (fun W => FunArgs_any s W) (fun W => isPure_any s W) (fun hc => absurd hc hb) (by simp)
    rw [funRes_no (pureB s) [] (funL s xs) hb'] at this
    exact this

theorem pure_ok {s : ByteArray} (h : pureB s = true) : (funArgs s).2.2 = true := by
  rcases pureB_cases h with rfl | rfl | rfl | rfl | rfl | rfl | rfl | rfl | rfl <;> rfl

end Go.Proofs.YtkoagpeeohmokaaDoor
