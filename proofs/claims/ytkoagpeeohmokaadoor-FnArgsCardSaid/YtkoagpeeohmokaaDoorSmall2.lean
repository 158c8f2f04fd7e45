/- impl.FunArgs and spec.l10Args: each returns funArgs of the name; impl.inCode and spec.l04In: each returns inCode; the walks of the two laws. -/
import Derived.Test.YtkoagpeeohmokaaDoorNames
namespace Go.Proofs.YtkoagpeeohmokaaDoor
open Go.RowKit
set_option linter.unusedVariables false

def funTab : List (List UInt8 × Int × Int) := [([65], 1, 2), ([71], 1, 2), ([76], 1, 2), ([79], 1, 2), ([67], 1, 8), ([69], 1, 3), ([70], 2, 3), ([84, 82], 2, 3), ([74], 2, 2), ([80], 2, 4), ([82, 69], 1, 1), ([68], 1, 1), ([81], 1, 1), ([83], 2, 16)]

def funArgs (s : ByteArray) : Int × Int × Bool := match funTab.find? (fun x => x.1 == s.data.toList) with | some x => (x.2.1, x.2.2, true) | none => (0, 0, false)

theorem funArgs_none (s : ByteArray) (h0 : s.data.toList ≠ [65]) (h1 : s.data.toList ≠ [71]) (h2 : s.data.toList ≠ [76]) (h3 : s.data.toList ≠ [79]) (h4 : s.data.toList ≠ [67]) (h5 : s.data.toList ≠ [69]) (h6 : s.data.toList ≠ [70]) (h7 : s.data.toList ≠ [84, 82]) (h8 : s.data.toList ≠ [74]) (h9 : s.data.toList ≠ [80]) (h10 : s.data.toList ≠ [82, 69]) (h11 : s.data.toList ≠ [68]) (h12 : s.data.toList ≠ [81]) (h13 : s.data.toList ≠ [83]) : funArgs s = (0, 0, false) := by
  unfold funArgs funTab
  simp only [List.find?_cons, List.find?_nil]
  simp [beq_eq_false_iff_ne.2 (Ne.symm h0), beq_eq_false_iff_ne.2 (Ne.symm h1), beq_eq_false_iff_ne.2 (Ne.symm h2), beq_eq_false_iff_ne.2 (Ne.symm h3), beq_eq_false_iff_ne.2 (Ne.symm h4), beq_eq_false_iff_ne.2 (Ne.symm h5), beq_eq_false_iff_ne.2 (Ne.symm h6), beq_eq_false_iff_ne.2 (Ne.symm h7), beq_eq_false_iff_ne.2 (Ne.symm h8), beq_eq_false_iff_ne.2 (Ne.symm h9), beq_eq_false_iff_ne.2 (Ne.symm h10), beq_eq_false_iff_ne.2 (Ne.symm h11), beq_eq_false_iff_ne.2 (Ne.symm h12), beq_eq_false_iff_ne.2 (Ne.symm h13)]

theorem FunArgs_any (s : ByteArray) (w : World) : Calls Tryd.prog 17 #[.string s] w fun e w' => e = .returned (.tuple #[.int .i64 (funArgs s).1, .int .i64 (funArgs s).2.1, .bool (funArgs s).2.2]) ∧ w = w' := by
  rcases strCase s [65] with rfl | ⟨h0, H0⟩
  · go_enter Tryd.func17, Tryd.ntmps17
    go_wp2
    go_ret3
    exact ⟨rfl, rfl⟩
  rcases strCase s [71] with rfl | ⟨h1, H1⟩
  · go_enter Tryd.func17, Tryd.ntmps17
    go_wp2
    go_ret3
    exact ⟨rfl, rfl⟩
  rcases strCase s [76] with rfl | ⟨h2, H2⟩
  · go_enter Tryd.func17, Tryd.ntmps17
    go_wp2
    go_ret3
    exact ⟨rfl, rfl⟩
  rcases strCase s [79] with rfl | ⟨h3, H3⟩
  · go_enter Tryd.func17, Tryd.ntmps17
    go_wp2
    go_ret3
    exact ⟨rfl, rfl⟩
  rcases strCase s [67] with rfl | ⟨h4, H4⟩
  · go_enter Tryd.func17, Tryd.ntmps17
    go_wp2
    go_ret3
    exact ⟨rfl, rfl⟩
  rcases strCase s [69] with rfl | ⟨h5, H5⟩
  · go_enter Tryd.func17, Tryd.ntmps17
    go_wp2
    go_ret3
    exact ⟨rfl, rfl⟩
  rcases strCase s [70] with rfl | ⟨h6, H6⟩
  · go_enter Tryd.func17, Tryd.ntmps17
    go_wp2
    go_ret3
    exact ⟨rfl, rfl⟩
  rcases strCase s [84, 82] with rfl | ⟨h7, H7⟩
  · go_enter Tryd.func17, Tryd.ntmps17
    go_wp2
    go_ret3
    exact ⟨rfl, rfl⟩
  rcases strCase s [74] with rfl | ⟨h8, H8⟩
  · go_enter Tryd.func17, Tryd.ntmps17
    go_wp2
    go_ret3
    exact ⟨rfl, rfl⟩
  rcases strCase s [80] with rfl | ⟨h9, H9⟩
  · go_enter Tryd.func17, Tryd.ntmps17
    go_wp2
    go_ret3
    exact ⟨rfl, rfl⟩
  rcases strCase s [82, 69] with rfl | ⟨h10, H10⟩
  · go_enter Tryd.func17, Tryd.ntmps17
    go_wp2
    go_ret3
    exact ⟨rfl, rfl⟩
  rcases strCase s [68] with rfl | ⟨h11, H11⟩
  · go_enter Tryd.func17, Tryd.ntmps17
    go_wp2
    go_ret3
    exact ⟨rfl, rfl⟩
  rcases strCase s [81] with rfl | ⟨h12, H12⟩
  · go_enter Tryd.func17, Tryd.ntmps17
    go_wp2
    go_ret3
    exact ⟨rfl, rfl⟩
  rcases strCase s [83] with rfl | ⟨h13, H13⟩
  · go_enter Tryd.func17, Tryd.ntmps17
    go_wp2
    go_ret3
    exact ⟨rfl, rfl⟩
  go_enter Tryd.func17, Tryd.ntmps17
  go_wp2
  go_ret3
  exact ⟨by rw [funArgs_none s H0.out H1.out H2.out H3.out H4.out H5.out H6.out H7.out H8.out H9.out H10.out H11.out H12.out H13.out]; rfl, rfl⟩

def inCodeB (code c : Nat) : Bool :=
  if code = 65 then isLet c else if code = 67 then decide (c < 32 ∨ c = 127) else if code = 69 then true else if code = 76 then decide (97 ≤ c ∧ c ≤ 122)
  else if code = 78 then isDig c else if code = 80 then (decide (32 ≤ c ∧ c < 127) && !isLet c && !isDig c) else if code = 85 then decide (65 ≤ c ∧ c ≤ 90) else false

theorem code_cases (code : Nat) : code = 65 ∨ code = 67 ∨ code = 69 ∨ code = 76 ∨ code = 78 ∨ code = 80 ∨ code = 85 ∨ (¬ code = 65 ∧ ¬ code = 67 ∧ ¬ code = 69 ∧ ¬ code = 76 ∧ ¬ code = 78 ∧ ¬ code = 80 ∧ ¬ code = 85) := by omega

end Go.Proofs.YtkoagpeeohmokaaDoor
