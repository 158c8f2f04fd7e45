/-
  No cell of these rows narrows 'for every input' (looked for: loops, veiled, ifaces, maps, wideKeys, modest, calm, conditions, laid).
  DERIVED. THE GIVEN ROWS OF THIS SEAT. 5 by the template 'for every input the law returns true; each argument reads behind the call as it read before'; 0 by the template 'total and deterministic' (their statements: YtbmdjipkfabnhaaTotals.lean).
  GIVEN WITH THE SEED: the statements are not yours to turn. If you find one false, say at which input.
  Laid BY PROGRAM, IN A SANDBOX (cutbox-rows.mjs): the forced cells as the released guide's own fill.sh prints them over the translation 09e143a43acf9c2e… (all of the seat's roots in one cut). By AI agents, Wed Nov 11 2026. No macro, syntax, notation, axiom, sorry.
-/
import Derived.Test.YtbmdjipkfabnhaaChecked
import GoSem.Claim
import GoSem.ClaimJoined
import GoSem.ClaimMapViews
import Derived.JoinedTies
import Derived.KernelRfl
namespace Go.Proofs.Ytbmdjipkfabnhaa
/- THE CELL 'sum', in the pinned program and in every row, IS THE sha256 OF THE DUMP (.gsa) THAT YtbmdjipkfabnhaaProg.lean LOADS. Nothing in Lean hashes anything: it is a label: what it is worth is what the hold of that sum in a sandbox is worth. -/
noncomputable def Try.pinned : Pinned := { name := "ytbmdjipkfabnhaa", sum := "09e143a43acf9c2ebc04aeed2ca1f74909ad308d1d1d99cec6e97c988192d033", checked := Try.checked }
namespace Rows
def none {H : Type} : Left H := { results := [], args := [] }

/-- 'laws.FnExactNewLocals': WHATEVER THE INPUT: true; the input reads as it did. -/
def fnExactNewLocalsSpec : ChangeSpec := { name := "fnExactNewLocals", fn := fun _ => fun
  | [] => { results := [.lit (.bool true)], args := [] }
  | _ => none }
def fnExactNewLocalsRow : OpenClaim := { program := "ytbmdjipkfabnhaa", sum := "09e143a43acf9c2ebc04aeed2ca1f74909ad308d1d1d99cec6e97c988192d033", func := "loop.example/g00874/laws.FnExactNewLocals", spec := "fnExactNewLocals", apart := false }
def FnExactNewLocalsSaid : Prop := fnExactNewLocalsRow.holds Try.pinned (OpenSpec.ofChange fnExactNewLocalsSpec)

/-- ITS FALSE NEIGHBOUR: 'it returns false'. Refute it at one input. -/
def fnExactNewLocalsWrong : ChangeSpec := { name := "fnExactNewLocals", fn := fun _ => fun
  | [] => { results := [.lit (.bool false)], args := [] }
  | _ => none }
def FnExactNewLocalsWrongFalsely : Prop := fnExactNewLocalsRow.holds Try.pinned (OpenSpec.ofChange fnExactNewLocalsWrong)

/-- 'laws.FnExactChangeOk': WHATEVER THE INPUT: true; the input reads as it did. -/
def fnExactChangeOkSpec : ChangeSpec := { name := "fnExactChangeOk", fn := fun _ => fun
  | [d] => { results := [.lit (.bool true)], args := [d] }
  | _ => none }
def fnExactChangeOkRow : OpenClaim := { program := "ytbmdjipkfabnhaa", sum := "09e143a43acf9c2ebc04aeed2ca1f74909ad308d1d1d99cec6e97c988192d033", func := "loop.example/g00874/laws.FnExactChangeOk", spec := "fnExactChangeOk", unfollowed := true, recurses := true, apart := false }
def FnExactChangeOkSaid : Prop := fnExactChangeOkRow.holds Try.pinned (OpenSpec.ofChange fnExactChangeOkSpec)

/-- ITS FALSE NEIGHBOUR: 'it returns false'. Refute it at one input. -/
def fnExactChangeOkWrong : ChangeSpec := { name := "fnExactChangeOk", fn := fun _ => fun
  | [d] => { results := [.lit (.bool false)], args := [d] }
  | _ => none }
def FnExactChangeOkWrongFalsely : Prop := fnExactChangeOkRow.holds Try.pinned (OpenSpec.ofChange fnExactChangeOkWrong)

/-- 'laws.FnExactSamePage': WHATEVER THE INPUT: true; the input reads as it did. -/
def fnExactSamePageSpec : ChangeSpec := { name := "fnExactSamePage", fn := fun _ => fun
  | [d1, d2] => { results := [.lit (.bool true)], args := [d1, d2] }
  | _ => none }
def fnExactSamePageRow : OpenClaim := { program := "ytbmdjipkfabnhaa", sum := "09e143a43acf9c2ebc04aeed2ca1f74909ad308d1d1d99cec6e97c988192d033", func := "loop.example/g00874/laws.FnExactSamePage", spec := "fnExactSamePage", apart := false }
def FnExactSamePageSaid : Prop := fnExactSamePageRow.holds Try.pinned (OpenSpec.ofChange fnExactSamePageSpec)

/-- ITS FALSE NEIGHBOUR: 'it returns false'. Refute it at one input. -/
def fnExactSamePageWrong : ChangeSpec := { name := "fnExactSamePage", fn := fun _ => fun
  | [d1, d2] => { results := [.lit (.bool false)], args := [d1, d2] }
  | _ => none }
def FnExactSamePageWrongFalsely : Prop := fnExactSamePageRow.holds Try.pinned (OpenSpec.ofChange fnExactSamePageWrong)

/-- 'laws.FnExactSameEvents': WHATEVER THE INPUT: true; the input reads as it did. -/
def fnExactSameEventsSpec : ChangeSpec := { name := "fnExactSameEvents", fn := fun _ => fun
  | [d1, d2] => { results := [.lit (.bool true)], args := [d1, d2] }
  | _ => none }
def fnExactSameEventsRow : OpenClaim := { program := "ytbmdjipkfabnhaa", sum := "09e143a43acf9c2ebc04aeed2ca1f74909ad308d1d1d99cec6e97c988192d033", func := "loop.example/g00874/laws.FnExactSameEvents", spec := "fnExactSameEvents", unfollowed := true, recurses := true, apart := false }
def FnExactSameEventsSaid : Prop := fnExactSameEventsRow.holds Try.pinned (OpenSpec.ofChange fnExactSameEventsSpec)

/-- ITS FALSE NEIGHBOUR: 'it returns false'. Refute it at one input. -/
def fnExactSameEventsWrong : ChangeSpec := { name := "fnExactSameEvents", fn := fun _ => fun
  | [d1, d2] => { results := [.lit (.bool false)], args := [d1, d2] }
  | _ => none }
def FnExactSameEventsWrongFalsely : Prop := fnExactSameEventsRow.holds Try.pinned (OpenSpec.ofChange fnExactSameEventsWrong)

/-- 'laws.FnExactSameTree': WHATEVER THE INPUT: true; the input reads as it did. -/
def fnExactSameTreeSpec : ChangeSpec := { name := "fnExactSameTree", fn := fun _ => fun
  | [d1, d2] => { results := [.lit (.bool true)], args := [d1, d2] }
  | _ => none }
def fnExactSameTreeRow : OpenClaim := { program := "ytbmdjipkfabnhaa", sum := "09e143a43acf9c2ebc04aeed2ca1f74909ad308d1d1d99cec6e97c988192d033", func := "loop.example/g00874/laws.FnExactSameTree", spec := "fnExactSameTree", unfollowed := true, recurses := true, apart := false }
def FnExactSameTreeSaid : Prop := fnExactSameTreeRow.holds Try.pinned (OpenSpec.ofChange fnExactSameTreeSpec)

/-- ITS FALSE NEIGHBOUR: 'it returns false'. Refute it at one input. -/
def fnExactSameTreeWrong : ChangeSpec := { name := "fnExactSameTree", fn := fun _ => fun
  | [d1, d2] => { results := [.lit (.bool false)], args := [d1, d2] }
  | _ => none }
def FnExactSameTreeWrongFalsely : Prop := fnExactSameTreeRow.holds Try.pinned (OpenSpec.ofChange fnExactSameTreeWrong)

/- THE SECOND FORM. 'bulk': how many values and letters a reading holds, each counted each time it is reached (what is shared counts as often as it is met; a slice's spare places count too). A statement '..UptoSaid' is the law's where the arguments, and the package variables that the reading takes, are together of bulk at most 1048576: NARROWER than '..Said'. Prove '..Said' where nothing that the law and all that it calls make is longer than what came in: it says more and counts as full. Else prove '..UptoSaid'. A law counts once. -/
mutual
def uptoBulk {H : Type} : DataW H → Nat
  | .lit (.string bytes) => bytes.length + 1
  | .lit _ => 1
  | .nil => 1
  | .ptr d => uptoBulk d + 1
  | .slice elems spare => uptoBulkAll elems + uptoBulkAll spare + 1
  | .agg parts => uptoBulkAll parts + 1
  | .iface _ d => uptoBulk d + 1
  | .map entries => uptoBulkEntries entries + 1
  | .held _ => 1
def uptoBulkAll {H : Type} : List (DataW H) → Nat
  | [] => 0
  | d :: r => uptoBulk d + uptoBulkAll r
def uptoBulkEntries {H : Type} : List (Lit × DataW H) → Nat
  | [] => 0
  | x :: r => uptoBulkEntry x + uptoBulkEntries r
def uptoBulkEntry {H : Type} : Lit × DataW H → Nat
  | (.string bytes, d) => bytes.length + uptoBulk d + 1
  | (_, d) => uptoBulk d + 1
 end
def uptoSmall : (H : Type) → List (DataW H) → Bool := fun _ ds => decide (uptoBulkAll ds ≤ 1048576)
def OpenSpec.upto (s : _root_.Go.ChangeSpec) : _root_.Go.OpenSpec := { _root_.Go.OpenSpec.ofChange s with cond := some uptoSmall }

/-- 'laws.FnExactNewLocals', WHERE WHAT IT READS IS OF BULK AT MOST 1048576: true; the input reads as it did. -/
def fnExactNewLocalsUptoRow : OpenClaim := { program := "ytbmdjipkfabnhaa", sum := "09e143a43acf9c2ebc04aeed2ca1f74909ad308d1d1d99cec6e97c988192d033", func := "loop.example/g00874/laws.FnExactNewLocals", spec := "fnExactNewLocals", apart := false, narrowed := true }
def FnExactNewLocalsUptoSaid : Prop := fnExactNewLocalsUptoRow.holds Try.pinned (OpenSpec.upto fnExactNewLocalsSpec)

/-- 'laws.FnExactChangeOk', WHERE WHAT IT READS IS OF BULK AT MOST 1048576: true; the input reads as it did. -/
def fnExactChangeOkUptoRow : OpenClaim := { program := "ytbmdjipkfabnhaa", sum := "09e143a43acf9c2ebc04aeed2ca1f74909ad308d1d1d99cec6e97c988192d033", func := "loop.example/g00874/laws.FnExactChangeOk", spec := "fnExactChangeOk", unfollowed := true, recurses := true, apart := false, narrowed := true }
def FnExactChangeOkUptoSaid : Prop := fnExactChangeOkUptoRow.holds Try.pinned (OpenSpec.upto fnExactChangeOkSpec)

/-- 'laws.FnExactSamePage', WHERE WHAT IT READS IS OF BULK AT MOST 1048576: true; the input reads as it did. -/
def fnExactSamePageUptoRow : OpenClaim := { program := "ytbmdjipkfabnhaa", sum := "09e143a43acf9c2ebc04aeed2ca1f74909ad308d1d1d99cec6e97c988192d033", func := "loop.example/g00874/laws.FnExactSamePage", spec := "fnExactSamePage", apart := false, narrowed := true }
def FnExactSamePageUptoSaid : Prop := fnExactSamePageUptoRow.holds Try.pinned (OpenSpec.upto fnExactSamePageSpec)

/-- 'laws.FnExactSameEvents', WHERE WHAT IT READS IS OF BULK AT MOST 1048576: true; the input reads as it did. -/
def fnExactSameEventsUptoRow : OpenClaim := { program := "ytbmdjipkfabnhaa", sum := "09e143a43acf9c2ebc04aeed2ca1f74909ad308d1d1d99cec6e97c988192d033", func := "loop.example/g00874/laws.FnExactSameEvents", spec := "fnExactSameEvents", unfollowed := true, recurses := true, apart := false, narrowed := true }
def FnExactSameEventsUptoSaid : Prop := fnExactSameEventsUptoRow.holds Try.pinned (OpenSpec.upto fnExactSameEventsSpec)

/-- 'laws.FnExactSameTree', WHERE WHAT IT READS IS OF BULK AT MOST 1048576: true; the input reads as it did. -/
def fnExactSameTreeUptoRow : OpenClaim := { program := "ytbmdjipkfabnhaa", sum := "09e143a43acf9c2ebc04aeed2ca1f74909ad308d1d1d99cec6e97c988192d033", func := "loop.example/g00874/laws.FnExactSameTree", spec := "fnExactSameTree", unfollowed := true, recurses := true, apart := false, narrowed := true }
def FnExactSameTreeUptoSaid : Prop := fnExactSameTreeUptoRow.holds Try.pinned (OpenSpec.upto fnExactSameTreeSpec)

end Rows
end Go.Proofs.Ytbmdjipkfabnhaa
