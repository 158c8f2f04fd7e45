/-
  No cell of these rows narrows 'for every input' (looked for: loops, veiled, ifaces, maps, wideKeys, modest, calm, conditions, laid).
  DERIVED. THE GIVEN ROWS OF THIS SEAT. 7 by the template 'for every input the law returns true; each argument reads behind the call as it read before'; 0 by the template 'total and deterministic' (their statements: YthdnbdkofaaaeaaTotals.lean).
  GIVEN WITH THE SEED: the statements are not yours to turn. If you find one false, say at which input.
  Laid BY PROGRAM, IN A SANDBOX (cutbox-rows.mjs): the forced cells as the released guide's own fill.sh prints them over the translation 3b103b53b28c57c1… (all of the seat's roots in one cut). By AI agents, Wed Nov 11 2026. No macro, syntax, notation, axiom, sorry.
-/
import Derived.Test.YthdnbdkofaaaeaaChecked
import GoSem.Claim
import GoSem.ClaimJoined
import GoSem.ClaimMapViews
import Derived.JoinedTies
import Derived.KernelRfl
namespace Go.Proofs.Ythdnbdkofaaaeaa
/- THE CELL 'sum', in the pinned program and in every row, IS THE sha256 OF THE DUMP (.gsa) THAT YthdnbdkofaaaeaaProg.lean LOADS. Nothing in Lean hashes anything: it is a label: what it is worth is what the hold of that sum in a sandbox is worth. -/
noncomputable def Try.pinned : Pinned := { name := "ythdnbdkofaaaeaa", sum := "3b103b53b28c57c101e0ef9158edf4dd5e0816a84ac0ab6c90427216b6d0f9c0", checked := Try.checked }
namespace Rows
def none {H : Type} : Left H := { results := [], args := [] }

/-- 'laws.FnExactConstants': WHATEVER THE INPUT: true; the input reads as it did. -/
def fnExactConstantsSpec : ChangeSpec := { name := "fnExactConstants", fn := fun _ => fun
  | [] => { results := [.lit (.bool true)], args := [] }
  | _ => none }
def fnExactConstantsRow : OpenClaim := { program := "ythdnbdkofaaaeaa", sum := "3b103b53b28c57c101e0ef9158edf4dd5e0816a84ac0ab6c90427216b6d0f9c0", func := "loop.example/g00874/laws.FnExactConstants", spec := "fnExactConstants", apart := false }
def FnExactConstantsSaid : Prop := fnExactConstantsRow.holds Try.pinned (OpenSpec.ofChange fnExactConstantsSpec)

/-- ITS FALSE NEIGHBOUR: 'it returns false'. Refute it at one input. -/
def fnExactConstantsWrong : ChangeSpec := { name := "fnExactConstants", fn := fun _ => fun
  | [] => { results := [.lit (.bool false)], args := [] }
  | _ => none }
def FnExactConstantsWrongFalsely : Prop := fnExactConstantsRow.holds Try.pinned (OpenSpec.ofChange fnExactConstantsWrong)

/-- 'laws.FnExactSubOk': WHATEVER THE INPUT: true; the input reads as it did. -/
def fnExactSubOkSpec : ChangeSpec := { name := "fnExactSubOk", fn := fun _ => fun
  | [d] => { results := [.lit (.bool true)], args := [d] }
  | _ => none }
def fnExactSubOkRow : OpenClaim := { program := "ythdnbdkofaaaeaa", sum := "3b103b53b28c57c101e0ef9158edf4dd5e0816a84ac0ab6c90427216b6d0f9c0", func := "loop.example/g00874/laws.FnExactSubOk", spec := "fnExactSubOk", apart := false }
def FnExactSubOkSaid : Prop := fnExactSubOkRow.holds Try.pinned (OpenSpec.ofChange fnExactSubOkSpec)

/-- ITS FALSE NEIGHBOUR: 'it returns false'. Refute it at one input. -/
def fnExactSubOkWrong : ChangeSpec := { name := "fnExactSubOk", fn := fun _ => fun
  | [d] => { results := [.lit (.bool false)], args := [d] }
  | _ => none }
def FnExactSubOkWrongFalsely : Prop := fnExactSubOkRow.holds Try.pinned (OpenSpec.ofChange fnExactSubOkWrong)

/-- 'laws.FnExactShared': WHATEVER THE INPUT: true; the input reads as it did. -/
def fnExactSharedSpec : ChangeSpec := { name := "fnExactShared", fn := fun _ => fun
  | [d1, d2] => { results := [.lit (.bool true)], args := [d1, d2] }
  | _ => none }
def fnExactSharedRow : OpenClaim := { program := "ythdnbdkofaaaeaa", sum := "3b103b53b28c57c101e0ef9158edf4dd5e0816a84ac0ab6c90427216b6d0f9c0", func := "loop.example/g00874/laws.FnExactShared", spec := "fnExactShared", apart := false }
def FnExactSharedSaid : Prop := fnExactSharedRow.holds Try.pinned (OpenSpec.ofChange fnExactSharedSpec)

/-- ITS FALSE NEIGHBOUR: 'it returns false'. Refute it at one input. -/
def fnExactSharedWrong : ChangeSpec := { name := "fnExactShared", fn := fun _ => fun
  | [d1, d2] => { results := [.lit (.bool false)], args := [d1, d2] }
  | _ => none }
def FnExactSharedWrongFalsely : Prop := fnExactSharedRow.holds Try.pinned (OpenSpec.ofChange fnExactSharedWrong)

/-- 'laws.FnExactCodeWord': WHATEVER THE INPUT: true; the input reads as it did. -/
def fnExactCodeWordSpec : ChangeSpec := { name := "fnExactCodeWord", fn := fun _ => fun
  | [d] => { results := [.lit (.bool true)], args := [d] }
  | _ => none }
def fnExactCodeWordRow : OpenClaim := { program := "ythdnbdkofaaaeaa", sum := "3b103b53b28c57c101e0ef9158edf4dd5e0816a84ac0ab6c90427216b6d0f9c0", func := "loop.example/g00874/laws.FnExactCodeWord", spec := "fnExactCodeWord", apart := false }
def FnExactCodeWordSaid : Prop := fnExactCodeWordRow.holds Try.pinned (OpenSpec.ofChange fnExactCodeWordSpec)

/-- ITS FALSE NEIGHBOUR: 'it returns false'. Refute it at one input. -/
def fnExactCodeWordWrong : ChangeSpec := { name := "fnExactCodeWord", fn := fun _ => fun
  | [d] => { results := [.lit (.bool false)], args := [d] }
  | _ => none }
def FnExactCodeWordWrongFalsely : Prop := fnExactCodeWordRow.holds Try.pinned (OpenSpec.ofChange fnExactCodeWordWrong)

/-- 'laws.FnExactNameOk': WHATEVER THE INPUT: true; the input reads as it did. -/
def fnExactNameOkSpec : ChangeSpec := { name := "fnExactNameOk", fn := fun _ => fun
  | [d] => { results := [.lit (.bool true)], args := [d] }
  | _ => none }
def fnExactNameOkRow : OpenClaim := { program := "ythdnbdkofaaaeaa", sum := "3b103b53b28c57c101e0ef9158edf4dd5e0816a84ac0ab6c90427216b6d0f9c0", func := "loop.example/g00874/laws.FnExactNameOk", spec := "fnExactNameOk", apart := false }
def FnExactNameOkSaid : Prop := fnExactNameOkRow.holds Try.pinned (OpenSpec.ofChange fnExactNameOkSpec)

/-- ITS FALSE NEIGHBOUR: 'it returns false'. Refute it at one input. -/
def fnExactNameOkWrong : ChangeSpec := { name := "fnExactNameOk", fn := fun _ => fun
  | [d] => { results := [.lit (.bool false)], args := [d] }
  | _ => none }
def FnExactNameOkWrongFalsely : Prop := fnExactNameOkRow.holds Try.pinned (OpenSpec.ofChange fnExactNameOkWrong)

/-- 'laws.FnExactExtractOf': WHATEVER THE INPUT: true; the input reads as it did. -/
def fnExactExtractOfSpec : ChangeSpec := { name := "fnExactExtractOf", fn := fun _ => fun
  | [d1, d2, d3] => { results := [.lit (.bool true)], args := [d1, d2, d3] }
  | _ => none }
def fnExactExtractOfRow : OpenClaim := { program := "ythdnbdkofaaaeaa", sum := "3b103b53b28c57c101e0ef9158edf4dd5e0816a84ac0ab6c90427216b6d0f9c0", func := "loop.example/g00874/laws.FnExactExtractOf", spec := "fnExactExtractOf", apart := false }
def FnExactExtractOfSaid : Prop := fnExactExtractOfRow.holds Try.pinned (OpenSpec.ofChange fnExactExtractOfSpec)

/-- ITS FALSE NEIGHBOUR: 'it returns false'. Refute it at one input. -/
def fnExactExtractOfWrong : ChangeSpec := { name := "fnExactExtractOf", fn := fun _ => fun
  | [d1, d2, d3] => { results := [.lit (.bool false)], args := [d1, d2, d3] }
  | _ => none }
def FnExactExtractOfWrongFalsely : Prop := fnExactExtractOfRow.holds Try.pinned (OpenSpec.ofChange fnExactExtractOfWrong)

/-- 'laws.FnExactTranslateOf': WHATEVER THE INPUT: true; the input reads as it did. -/
def fnExactTranslateOfSpec : ChangeSpec := { name := "fnExactTranslateOf", fn := fun _ => fun
  | [d1, d2, d3] => { results := [.lit (.bool true)], args := [d1, d2, d3] }
  | _ => none }
def fnExactTranslateOfRow : OpenClaim := { program := "ythdnbdkofaaaeaa", sum := "3b103b53b28c57c101e0ef9158edf4dd5e0816a84ac0ab6c90427216b6d0f9c0", func := "loop.example/g00874/laws.FnExactTranslateOf", spec := "fnExactTranslateOf", inPlace := ["internal/bytealg.IndexByteString"], apart := false }
def FnExactTranslateOfSaid : Prop := fnExactTranslateOfRow.holds Try.pinned (OpenSpec.ofChange fnExactTranslateOfSpec)

/-- ITS FALSE NEIGHBOUR: 'it returns false'. Refute it at one input. -/
def fnExactTranslateOfWrong : ChangeSpec := { name := "fnExactTranslateOf", fn := fun _ => fun
  | [d1, d2, d3] => { results := [.lit (.bool false)], args := [d1, d2, d3] }
  | _ => none }
def FnExactTranslateOfWrongFalsely : Prop := fnExactTranslateOfRow.holds Try.pinned (OpenSpec.ofChange fnExactTranslateOfWrong)

/- THE SECOND FORM. 'bulk': how many values and letters a reading holds, each counted each time it is reached (what is shared counts as often as it is met; a slice's spare places count too). A statement '..UptoSaid' is the law's where the arguments, and the package variables that the reading takes, are together of bulk at most 1048576: NARROWER than '..Said'. Prove '..Said' where nothing that the law and all that it calls make is longer than what came in: it says more and counts as full. Else prove '..UptoSaid'. A law counts once. -/
mutual
def uptoBulk {H : Type} : DataW H → Nat
  | .lit (.string bytes) => bytes.length + 1
  | .lit _ => 1
  | .nil => 1
  | .ptr d => uptoBulk d + 1
  | .slice elems spare => uptoBulkAll elems + uptoBulkAll spare + 1
  | .agg parts => uptoBulkAll parts + 1
  | .iface _ d => uptoBulk d + 1
  | .map entries => uptoBulkEntries entries + 1
  | .held _ => 1
def uptoBulkAll {H : Type} : List (DataW H) → Nat
  | [] => 0
  | d :: r => uptoBulk d + uptoBulkAll r
def uptoBulkEntries {H : Type} : List (Lit × DataW H) → Nat
  | [] => 0
  | x :: r => uptoBulkEntry x + uptoBulkEntries r
def uptoBulkEntry {H : Type} : Lit × DataW H → Nat
  | (.string bytes, d) => bytes.length + uptoBulk d + 1
  | (_, d) => uptoBulk d + 1
 end
def uptoSmall : (H : Type) → List (DataW H) → Bool := fun _ ds => decide (uptoBulkAll ds ≤ 1048576)
def OpenSpec.upto (s : _root_.Go.ChangeSpec) : _root_.Go.OpenSpec := { _root_.Go.OpenSpec.ofChange s with cond := some uptoSmall }

/-- 'laws.FnExactConstants', WHERE WHAT IT READS IS OF BULK AT MOST 1048576: true; the input reads as it did. -/
def fnExactConstantsUptoRow : OpenClaim := { program := "ythdnbdkofaaaeaa", sum := "3b103b53b28c57c101e0ef9158edf4dd5e0816a84ac0ab6c90427216b6d0f9c0", func := "loop.example/g00874/laws.FnExactConstants", spec := "fnExactConstants", apart := false, narrowed := true }
def FnExactConstantsUptoSaid : Prop := fnExactConstantsUptoRow.holds Try.pinned (OpenSpec.upto fnExactConstantsSpec)

/-- 'laws.FnExactSubOk', WHERE WHAT IT READS IS OF BULK AT MOST 1048576: true; the input reads as it did. -/
def fnExactSubOkUptoRow : OpenClaim := { program := "ythdnbdkofaaaeaa", sum := "3b103b53b28c57c101e0ef9158edf4dd5e0816a84ac0ab6c90427216b6d0f9c0", func := "loop.example/g00874/laws.FnExactSubOk", spec := "fnExactSubOk", apart := false, narrowed := true }
def FnExactSubOkUptoSaid : Prop := fnExactSubOkUptoRow.holds Try.pinned (OpenSpec.upto fnExactSubOkSpec)

/-- 'laws.FnExactShared', WHERE WHAT IT READS IS OF BULK AT MOST 1048576: true; the input reads as it did. -/
def fnExactSharedUptoRow : OpenClaim := { program := "ythdnbdkofaaaeaa", sum := "3b103b53b28c57c101e0ef9158edf4dd5e0816a84ac0ab6c90427216b6d0f9c0", func := "loop.example/g00874/laws.FnExactShared", spec := "fnExactShared", apart := false, narrowed := true }
def FnExactSharedUptoSaid : Prop := fnExactSharedUptoRow.holds Try.pinned (OpenSpec.upto fnExactSharedSpec)

/-- 'laws.FnExactCodeWord', WHERE WHAT IT READS IS OF BULK AT MOST 1048576: true; the input reads as it did. -/
def fnExactCodeWordUptoRow : OpenClaim := { program := "ythdnbdkofaaaeaa", sum := "3b103b53b28c57c101e0ef9158edf4dd5e0816a84ac0ab6c90427216b6d0f9c0", func := "loop.example/g00874/laws.FnExactCodeWord", spec := "fnExactCodeWord", apart := false, narrowed := true }
def FnExactCodeWordUptoSaid : Prop := fnExactCodeWordUptoRow.holds Try.pinned (OpenSpec.upto fnExactCodeWordSpec)

/-- 'laws.FnExactNameOk', WHERE WHAT IT READS IS OF BULK AT MOST 1048576: true; the input reads as it did. -/
def fnExactNameOkUptoRow : OpenClaim := { program := "ythdnbdkofaaaeaa", sum := "3b103b53b28c57c101e0ef9158edf4dd5e0816a84ac0ab6c90427216b6d0f9c0", func := "loop.example/g00874/laws.FnExactNameOk", spec := "fnExactNameOk", apart := false, narrowed := true }
def FnExactNameOkUptoSaid : Prop := fnExactNameOkUptoRow.holds Try.pinned (OpenSpec.upto fnExactNameOkSpec)

/-- 'laws.FnExactExtractOf', WHERE WHAT IT READS IS OF BULK AT MOST 1048576: true; the input reads as it did. -/
def fnExactExtractOfUptoRow : OpenClaim := { program := "ythdnbdkofaaaeaa", sum := "3b103b53b28c57c101e0ef9158edf4dd5e0816a84ac0ab6c90427216b6d0f9c0", func := "loop.example/g00874/laws.FnExactExtractOf", spec := "fnExactExtractOf", apart := false, narrowed := true }
def FnExactExtractOfUptoSaid : Prop := fnExactExtractOfUptoRow.holds Try.pinned (OpenSpec.upto fnExactExtractOfSpec)

/-- 'laws.FnExactTranslateOf', WHERE WHAT IT READS IS OF BULK AT MOST 1048576: true; the input reads as it did. -/
def fnExactTranslateOfUptoRow : OpenClaim := { program := "ythdnbdkofaaaeaa", sum := "3b103b53b28c57c101e0ef9158edf4dd5e0816a84ac0ab6c90427216b6d0f9c0", func := "loop.example/g00874/laws.FnExactTranslateOf", spec := "fnExactTranslateOf", inPlace := ["internal/bytealg.IndexByteString"], apart := false, narrowed := true }
def FnExactTranslateOfUptoSaid : Prop := fnExactTranslateOfUptoRow.holds Try.pinned (OpenSpec.upto fnExactTranslateOfSpec)

end Rows
end Go.Proofs.Ythdnbdkofaaaeaa
