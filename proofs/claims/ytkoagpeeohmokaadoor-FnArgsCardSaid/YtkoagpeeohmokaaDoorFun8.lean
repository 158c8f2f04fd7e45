/- PureFun: both sides whole. -/
import Derived.Test.YtkoagpeeohmokaaDoorFun5
import Derived.Test.YtkoagpeeohmokaaDoorFun7
import Derived.Test.YtkoagpeeohmokaaDoorSmall2
namespace Go.Proofs.YtkoagpeeohmokaaDoor
open Go.RowKit
set_option linter.unusedVariables false

def pureNames : List ByteArray := [⟨#[65]⟩, ⟨#[67]⟩, ⟨#[69]⟩, ⟨#[70]⟩, ⟨#[74]⟩, ⟨#[76]⟩, ⟨#[80]⟩, ⟨#[84, 82]⟩, ⟨#[82, 69]⟩]

def pureB (s : ByteArray) : Bool := pureNames.any fun y => decide (y = s)

/-- What the function of a name gives. -/
def funL (s : ByteArray) (xs : List ByteArray) : List UInt8 :=
  let x0 := xs[0]?.getD ⟨#[]⟩
  let x1 := xs[1]?.getD ⟨#[]⟩
  match s.data.toList with
  | [65] => numeralL (asciiV x0 (argV xs 1 1))
  | [67] => charL xs
  | [69] => extL x0 xs
  | [70] => numeralL (findOf x0 x1 (argV xs 2 1))
  | [74] => justL x0 (wholeV x1)
  | [76] => lenL x0 x1 xs
  | [80] => pieL x0 x1 xs
  | [84, 82] => trans (sfx x0 0) (sfx x1 0) (sfx (trToL xs) 0)
  | _ => x0.data.toList.reverse

def funV (s : ByteArray) (xs : List ByteArray) : List UInt8 × Int := funRes (pureB s) (funArgs s).1 (funArgs s).2.1 xs (funL s xs)

theorem eqStr_cases (x y : ByteArray) : (decide (x = y) = true ∧ x = y) ∨ (decide (x = y) = false ∧ (x.toList == y.toList) = false ∧ (y.toList == x.toList) = false) := by
  by_cases h : x = y
  · exact .inl ⟨decide_eq_true h, h⟩
  · refine .inr ⟨decide_eq_false h, ?_, ?_⟩
    · rw [ba_toList, ba_toList]; exact beq_eq_false_iff_ne.2 (fun e => h (ba_ext e))
    · rw [ba_toList, ba_toList]; exact beq_eq_false_iff_ne.2 (fun e => h (ba_ext e).symm)

theorem IndexStr_any (s : ByteArray) (v : Value) (xs : List ByteArray) (w : World) (B : Nat) (h : StrsAt w B v xs) (hl : xs.length ≤ 1048576) :
    Calls Tryd.prog 88 #[v, .string s] w fun e w' => e = .returned (.int .i64 (idxP (fun y => decide (y = s)) xs)) ∧ w = w' := by
  obtain ⟨A, c, rfl, hc, hr⟩ := h
  go_enter Tryd.func88, Tryd.ntmps88
  go_wp2
  go_loop [5, 8] (fun _ i => ∃ k : Nat, k ≤ xs.length ∧ i = .int .i64 k ∧ Hid (idxP (fun y => decide (y = s)) xs = if idxP (fun y => decide (y = s)) (xs.drop k) < 0 then -1 else idxP (fun y => decide (y = s)) (xs.drop k) + k)) (fun _ i => xs.length - (intOf i).toNat)
  case atStart => exact ⟨0, Nat.zero_le _, rfl, by show _ = _; have := idxP_ge (fun y => decide (y = s)) xs; simp; omega⟩
  case round =>
    obtain ⟨k, hk, rfl, HI⟩ := hrel
    by_cases hlt : k < xs.length
    · obtain ⟨ad, rfl, _, hcell⟩ := hr.strAt hlt
      have HD := Lib.hid (List.drop_eq_getElem_cons hlt)
      generalize xs[k] = x at *
      rcases eqStr_cases x s with ⟨e1, e2⟩ | ⟨e1, e2, e3⟩
      · subst e2
        have HE : Hid (idxP (fun y => decide (y = x)) (xs.drop k) = 0) := by show _ = _; rw [HD.out, idxP]; exact if_pos e1
        clear e1
        go_wp2
        go_ret
        exact ⟨ret_int (by rw [HI.out, HE.out]; simp), rfl⟩
      · have HE : Hid (idxP (fun y => decide (y = s)) (xs.drop k) = if idxP (fun y => decide (y = s)) (xs.drop (k + 1)) < 0 then -1 else idxP (fun y => decide (y = s)) (xs.drop (k + 1)) + 1) := by
          show _ = _
          rw [HD.out, idxP, if_neg (by rw [e1]; decide)]
        have HG := Lib.hid (idxP_ge (fun y => decide (y = s)) (xs.drop (k + 1)))
        clear e1
        go_wp2
        refine ⟨⟨k + 1, by omega, by go_num, ?_⟩, by simp [intOf]; omega⟩
        show _ = _
        rw [HI.out, HE.out]
        have := HG.out
        generalize idxP (fun y => decide (y = s)) (xs.drop (k + 1)) = z at *
        by_cases hz : z < 0
        · rw [if_pos hz, if_pos (by omega), if_pos hz]
        · rw [if_neg hz, if_neg (by omega), if_neg (by omega)]; omega
    · go_wp2
      go_ret
      exact ⟨ret_int (by rw [HI.out, List.drop_eq_nil_of_le (by omega)]; rfl), rfl⟩

theorem ContainsStr_any (s : ByteArray) (v : Value) (xs : List ByteArray) (w : World) (B : Nat) (h : StrsAt w B v xs) (hl : xs.length ≤ 1048576) :
    Calls Tryd.prog 60 #[v, .string s] w fun e w' => e = .returned (.bool (xs.any fun y => decide (y = s))) ∧ w = w' := by
  have HI := Lib.hid (IndexStr_any s v xs w B h hl)
  have HA := Lib.hid (idxP_any (fun y => decide (y = s)) xs)
  generalize idxP (fun y => decide (y = s)) xs = z at *
  go_enter Tryd.func60, Tryd.ntmps60
  go_wp2_with fail
  refine HI.out.mono ?_
  rintro e w' ⟨rfl, rfl⟩
  go_wp2_with fail
  go_ret
  exact ⟨ret_bool HA.out, rfl⟩

set_option maxRecDepth 8000 in
theorem isPure_any (s : ByteArray) (w : World) : Calls Tryd.prog 30 #[.string s] w fun e w' => e = .returned (.bool (pureB s)) ∧ Below w.heap.size w w' := by
  have h : Strs (w.alloc (.cells #[.string ⟨#[65]⟩, .string ⟨#[67]⟩, .string ⟨#[69]⟩, .string ⟨#[70]⟩, .string ⟨#[74]⟩, .string ⟨#[76]⟩, .string ⟨#[80]⟩, .string ⟨#[84, 82]⟩, .string ⟨#[82, 69]⟩] 9)) w.heap.size (.slice (some ⟨w.heap.size, 0, none⟩) 9 9) pureNames := World.ownsRow_lit w #[.string ⟨#[65]⟩, .string ⟨#[67]⟩, .string ⟨#[69]⟩, .string ⟨#[70]⟩, .string ⟨#[74]⟩, .string ⟨#[76]⟩, .string ⟨#[80]⟩, .string ⟨#[84, 82]⟩, .string ⟨#[82, 69]⟩] 9 (Nat.le_refl _) (by unfold maxLen; omega) rfl
  have HC := Lib.hid (ContainsStr_any s _ pureNames _ _ h.at_ (by decide))
  have HV : Hid (pureB s = pureNames.any fun y => decide (y = s)) := rfl
  generalize (pureNames.any fun y => decide (y = s)) = R at *
  clear h
  go_enter Tryd.func30, Tryd.ntmps30
  go_wp2_with fail
  refine HC.out.mono ?_
  rintro e w' ⟨rfl, rfl⟩
  go_wp2_with fail
  go_ret
  exact ⟨ret_bool HV.out.symm, Joins.below_alloc1 w _⟩

theorem lenBool (xs : List ByteArray) (lo hi : Int) (b : Bool) (h : (b && decide (lo ≤ (xs.length : Int) ∧ (xs.length : Int) ≤ hi)) = true) : b = true ∧ decide (lo ≤ (xs.length : Int) ∧ (xs.length : Int) ≤ hi) = true := by
  rwa [Bool.and_eq_true] at h

set_option maxRecDepth 8000 in
theorem PureFun_core (name : ByteArray) (v : Value) (xs : List ByteArray) (w : World) (lo hi : Int) (ok b : Bool) (L : List UInt8) (h : StrsAt w w.heap.size v xs) (hl : xs.length ≤ 1048576) (hz : ∀ x ∈ xs, x.size ≤ 1048576)
    (HF : Hid (∀ W, Calls Tryd.prog 17 #[.string name] W fun e w' => e = .returned (.tuple #[.int .i64 lo, .int .i64 hi, .bool ok]) ∧ W = w'))
    (HP : Hid (∀ W, Calls Tryd.prog 30 #[.string name] W fun e w' => e = .returned (.bool b) ∧ Below W.heap.size W w'))
    (HL : Hid ((b && decide (lo ≤ (xs.length : Int) ∧ (xs.length : Int) ≤ hi)) = true → ∀ W, Below w.heap.size w W → Calls Tryd.prog 33 #[.string name, v] W fun e w' => GotStr L e ∧ Below W.heap.size W w')) (hL : L.length ≤ 9223372036854775807) :
    Calls Tryd.prog 18 #[.string name, v] w fun e w' => GotFun (funRes b lo hi xs L) e ∧ Below w.heap.size w w' := by
  have HLG : Hid (∀ W, Below w.heap.size w W → Calls Tryd.prog 32 #[v] W fun e w' => e = .returned (.bool (xs.any long64)) ∧ W = w') := fun W hb => long_any v xs W _ (h.on hb) hl hz
  have HV : Hid (funRes b lo hi xs L = if (b && decide (lo ≤ (xs.length : Int) ∧ (xs.length : Int) ≤ hi)) = false then ([], 2) else if xs.any long64 then ([], 1) else if 64 < L.length then ([], 4) else (L, 0)) := rfl
  obtain ⟨A, c, rfl, _, _⟩ := h
  generalize funRes b lo hi xs L = V at *
  generalize xs.any long64 = lg at *
  clear hz
  cases b
  · have HE := Lib.hid (HV.out.trans (if_pos rfl))
    clear HL HV
    go_enter Tryd.func18, Tryd.ntmps18
    go_wp2_with fail
    refine (HF.out _).mono ?_
    rintro e w' ⟨rfl, rfl⟩
    go_wp2_with fail
    refine (HP.out _).mono ?_
    rintro e w1 ⟨rfl, b1⟩
    go_wp2_with fail
    go_ret2
    exact ⟨⟨_, _, rfl, HE.out.symm⟩, b1⟩
  obtain ⟨D, hD⟩ : ∃ D : Bool, decide (lo ≤ (xs.length : Int) ∧ (xs.length : Int) ≤ hi) = D := ⟨_, rfl⟩
  rw [hD] at HV HL
  have HW : Hid (∀ W, Calls Tryd.prog 31 #[.int .i64 xs.length, .int .i64 lo, .int .i64 hi] W fun e w' => e = .returned (.bool D) ∧ W = w') := fun W => by
    rw [← hD]; exact withinD_any _ _ _ W
  clear hD
  cases D
  · have HE := Lib.hid (HV.out.trans (if_pos rfl))
    clear HL HV
    go_enter Tryd.func18, Tryd.ntmps18
    go_wp2_with fail
    refine (HF.out _).mono ?_
    rintro e w' ⟨rfl, rfl⟩
    go_wp2_with fail
    refine (HP.out _).mono ?_
    rintro e w1 ⟨rfl, b1⟩
    have HB1 := Lib.hid b1; clear b1
    go_wp2_with fail
    refine (HW.out _).mono ?_
    rintro e w' ⟨rfl, rfl⟩
    go_wp2_with fail
    go_ret2
    exact ⟨⟨_, _, rfl, HE.out.symm⟩, HB1.out⟩
  have HV2 := Lib.hid (HV.out.trans (if_neg (by decide)))
  have HL2 := Lib.hid (HL.out rfl)
  clear HV HL
  cases lg
  · have HV3 := Lib.hid (HV2.out.trans (if_neg (by decide)))
    clear HV2
    go_enter Tryd.func18, Tryd.ntmps18
    go_wp2_with fail
    refine (HF.out _).mono ?_
    rintro e w' ⟨rfl, rfl⟩
    go_wp2_with fail
    refine (HP.out _).mono ?_
    rintro e w1 ⟨rfl, b1⟩
    have HB1 := Lib.hid b1; clear b1
    go_wp2_with fail
    refine (HW.out _).mono ?_
    rintro e w' ⟨rfl, rfl⟩
    go_wp2_with fail
    refine (HLG.out _ HB1.out).mono ?_
    rintro e w' ⟨rfl, rfl⟩
    go_wp2_with fail
    refine (HL2.out _ HB1.out).mono ?_
    rintro e w2 ⟨⟨r, rfl, hr⟩, b2⟩
    have HB2 := Lib.hid (below_trans HB1.out b2); clear b2
    have hrz : r.size = L.length := by rw [ba_size, hr]
    have HR := Lib.hid hr; clear hr
    have hr9 : r.size ≤ 9223372036854775807 := by omega
    by_cases h64 : 64 < r.size
    · have HE := Lib.hid (HV3.out.trans (if_pos (by omega)))
      clear hrz HV3 hL
      go_wp2_with fail
      go_ret2
      exact ⟨⟨_, _, rfl, HE.out.symm⟩, HB2.out⟩
    · have HE := Lib.hid (HV3.out.trans (if_neg (by omega)))
      clear hrz HV3 hL
      go_wp2_with fail
      go_ret2
      exact ⟨⟨_, _, rfl, by rw [HE.out, HR.out]⟩, HB2.out⟩
  · have HE := Lib.hid (HV2.out.trans (if_pos rfl))
    clear HV2 HL2
    go_enter Tryd.func18, Tryd.ntmps18
    go_wp2_with fail
    refine (HF.out _).mono ?_
    rintro e w' ⟨rfl, rfl⟩
    go_wp2_with fail
    refine (HP.out _).mono ?_
    rintro e w1 ⟨rfl, b1⟩
    have HB1 := Lib.hid b1; clear b1
    go_wp2_with fail
    refine (HW.out _).mono ?_
    rintro e w' ⟨rfl, rfl⟩
    go_wp2_with fail
    refine (HLG.out _ HB1.out).mono ?_
    rintro e w' ⟨rfl, rfl⟩
    go_wp2_with fail
    go_ret2
    exact ⟨⟨_, _, rfl, HE.out.symm⟩, HB1.out⟩

end Go.Proofs.YtkoagpeeohmokaaDoor
