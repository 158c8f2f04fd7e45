/- impl.CodeWord and spec.CodeWord: each returns the word of the table; the walk of the law. -/
import Derived.Test.YthdnbdkofaaaeaaBase
namespace Go.Proofs.Ythdnbdkofaaaeaa
open Go.RowKit
set_option linter.unusedVariables false

def codeL : List ByteArray := [⟨#[111, 107]⟩, ⟨#[102, 111, 114, 109]⟩, ⟨#[114, 97, 110, 103, 101]⟩, ⟨#[110, 111, 110, 101]⟩, ⟨#[109, 97, 110, 121]⟩, ⟨#[115, 116, 97, 116, 101]⟩, ⟨#[112, 97, 114, 115, 101]⟩, ⟨#[110, 117, 109, 98, 101, 114]⟩, ⟨#[122, 101, 114, 111]⟩, ⟨#[117, 110, 100, 101, 102]⟩, ⟨#[110, 97, 107, 101, 100]⟩, ⟨#[108, 97, 98, 101, 108]⟩, ⟨#[100, 101, 112, 116, 104]⟩, ⟨#[102, 117, 101, 108]⟩, ⟨#[114, 101, 97, 100]⟩, ⟨#[115, 117, 109]⟩, ⟨#[108, 111, 99, 107]⟩, ⟨#[116, 114, 97, 110, 115]⟩]
def codeTab : List Value := [.string ⟨#[111, 107]⟩, .string ⟨#[102, 111, 114, 109]⟩, .string ⟨#[114, 97, 110, 103, 101]⟩, .string ⟨#[110, 111, 110, 101]⟩, .string ⟨#[109, 97, 110, 121]⟩, .string ⟨#[115, 116, 97, 116, 101]⟩, .string ⟨#[112, 97, 114, 115, 101]⟩, .string ⟨#[110, 117, 109, 98, 101, 114]⟩, .string ⟨#[122, 101, 114, 111]⟩, .string ⟨#[117, 110, 100, 101, 102]⟩, .string ⟨#[110, 97, 107, 101, 100]⟩, .string ⟨#[108, 97, 98, 101, 108]⟩, .string ⟨#[100, 101, 112, 116, 104]⟩, .string ⟨#[102, 117, 101, 108]⟩, .string ⟨#[114, 101, 97, 100]⟩, .string ⟨#[115, 117, 109]⟩, .string ⟨#[108, 111, 99, 107]⟩, .string ⟨#[116, 114, 97, 110, 115]⟩]
def codeWord (n : Int) : ByteArray := if 0 ≤ n then (codeL[n.toNat]?).getD ⟨#[]⟩ else ⟨#[]⟩

theorem codeTab_eq : codeTab = codeL.map Value.string := rfl

theorem codeTab_get (n : Int) (h0 : 0 ≤ n) (h1 : n ≤ 17) : codeTab[n.toNat]? = some (.string (codeWord n)) := by
  have hl : n.toNat < codeL.length := by show n.toNat < 18; omega
  rw [codeTab_eq, List.getElem?_map, List.getElem?_eq_getElem hl, codeWord, if_pos h0, List.getElem?_eq_getElem hl]; rfl

theorem codeWord_out (n : Int) (h : n < 0 ∨ 17 < n) : codeWord n = ⟨#[]⟩ := by
  unfold codeWord
  split
  · rw [List.getElem?_eq_none (by show 18 ≤ n.toNat; omega)]; rfl
  · rfl

theorem CodeWord_any (n : Int) (w : World) : Calls Try.prog 15 #[.int .i64 n] w fun e w' => e = .returned (.string (codeWord n)) ∧ Below w.heap.size w w' := by
  by_cases h0 : 0 ≤ n
  · by_cases h1 : n ≤ 17
    · have hr := codeTab_get n h0 h1
      unfold codeTab at hr
      go_enter Try.func15, Try.ntmps15
      go_wp2
      go_ret
      exact ⟨rfl, (Below.refl _ _).alloc (Nat.le_refl _) _⟩
    · have HR : Hid (codeWord n = ⟨#[]⟩) := codeWord_out n (by omega)
      go_enter Try.func15, Try.ntmps15
      go_wp2
      go_ret
      exact ⟨ret_str HR.out.symm, (Below.refl _ _).alloc (Nat.le_refl _) _⟩
  · have HR : Hid (codeWord n = ⟨#[]⟩) := codeWord_out n (by omega)
    go_enter Try.func15, Try.ntmps15
    go_wp2
    go_ret
    exact ⟨ret_str HR.out.symm, (Below.refl _ _).alloc (Nat.le_refl _) _⟩

theorem sCodeWord_any (n : Int) (w : World) : Calls Try.prog 14 #[.int .i64 n] w fun e w' => e = .returned (.string (codeWord n)) ∧ Below w.heap.size w w' := by
  by_cases h0 : 0 ≤ n
  · by_cases h1 : n ≤ 17
    · have hr := codeTab_get n h0 h1
      unfold codeTab at hr
      go_enter Try.func14, Try.ntmps14
      go_wp2
      go_ret
      exact ⟨rfl, (Below.refl _ _).alloc (Nat.le_refl _) _⟩
    · have HR : Hid (codeWord n = ⟨#[]⟩) := codeWord_out n (by omega)
      go_enter Try.func14, Try.ntmps14
      go_wp2
      go_ret
      exact ⟨ret_str HR.out.symm, (Below.refl _ _).alloc (Nat.le_refl _) _⟩
  · have HR : Hid (codeWord n = ⟨#[]⟩) := codeWord_out n (by omega)
    go_enter Try.func14, Try.ntmps14
    go_wp2
    go_ret
    exact ⟨ret_str HR.out.symm, (Below.refl _ _).alloc (Nat.le_refl _) _⟩

theorem CodeWord_walk (n : Int) (hn : (Lit.int .i64 n).wf = true) (w : World) : Calls Try.prog 6 #[.int .i64 n] w fun e w' => e = .returned (.bool true) ∧ Below w.heap.size w w' := by
  clear hn
  go_enter Try.func6, Try.ntmps6
  go_wp2_with (first | (go_at_call 14; refine (sCodeWord_any _ _).mono ?_; rintro e w1 ⟨rfl, hb1⟩) | (go_at_call 15; refine (CodeWord_any _ _).mono ?_; rintro e w2 ⟨rfl, hb2⟩))
  go_ret
  exact ⟨rfl, below_trans hb1 hb2⟩
end Go.Proofs.Ythdnbdkofaaaeaa
