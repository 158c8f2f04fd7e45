/-
  No cell of these rows narrows 'for every input' (looked for: loops, veiled, ifaces, maps, wideKeys, modest, calm, conditions, laid).
  DERIVED. THE GIVEN ROWS OF THIS SEAT. 12 by the template 'for every input the law returns true; each argument reads behind the call as it read before'; 0 by the template 'total and deterministic' (their statements: YtdpcdedgpibdiaaTotals.lean).
  GIVEN WITH THE SEED: the statements are not yours to turn. If you find one false, say at which input.
  Laid BY PROGRAM, IN A SANDBOX (cutbox-rows.mjs): the forced cells as the released guide's own fill.sh prints them over the translation 76628fc6d9754c25… (all of the seat's roots in one cut). By AI agents, Wed Nov 11 2026. No macro, syntax, notation, axiom, sorry.
-/
import Derived.Test.YtdpcdedgpibdiaaChecked
import GoSem.Claim
import GoSem.ClaimJoined
import GoSem.ClaimMapViews
import Derived.JoinedTies
import Derived.KernelRfl
namespace Go.Proofs.Ytdpcdedgpibdiaa
/- THE CELL 'sum', in the pinned program and in every row, IS THE sha256 OF THE DUMP (.gsa) THAT YtdpcdedgpibdiaaProg.lean LOADS. Nothing in Lean hashes anything: it is a label: what it is worth is what the hold of that sum in a sandbox is worth. -/
noncomputable def Try.pinned : Pinned := { name := "ytdpcdedgpibdiaa", sum := "76628fc6d9754c25949143c7f569ce6dc2cf3e8c0ff5c2707c4683481c4267de", checked := Try.checked }
namespace Rows
def none {H : Type} : Left H := { results := [], args := [] }

/-- 'laws.FnExactModNum': WHATEVER THE INPUT: true; the input reads as it did. -/
def fnExactModNumSpec : ChangeSpec := { name := "fnExactModNum", fn := fun _ => fun
  | [d1, d2] => { results := [.lit (.bool true)], args := [d1, d2] }
  | _ => none }
def fnExactModNumRow : OpenClaim := { program := "ytdpcdedgpibdiaa", sum := "76628fc6d9754c25949143c7f569ce6dc2cf3e8c0ff5c2707c4683481c4267de", func := "loop.example/g00874/laws.FnExactModNum", spec := "fnExactModNum", apart := false }
def FnExactModNumSaid : Prop := fnExactModNumRow.holds Try.pinned (OpenSpec.ofChange fnExactModNumSpec)

/-- ITS FALSE NEIGHBOUR: 'it returns false'. Refute it at one input. -/
def fnExactModNumWrong : ChangeSpec := { name := "fnExactModNum", fn := fun _ => fun
  | [d1, d2] => { results := [.lit (.bool false)], args := [d1, d2] }
  | _ => none }
def FnExactModNumWrongFalsely : Prop := fnExactModNumRow.holds Try.pinned (OpenSpec.ofChange fnExactModNumWrong)

/-- 'laws.FnExactAddNum': WHATEVER THE INPUT: true; the input reads as it did. -/
def fnExactAddNumSpec : ChangeSpec := { name := "fnExactAddNum", fn := fun _ => fun
  | [d1, d2] => { results := [.lit (.bool true)], args := [d1, d2] }
  | _ => none }
def fnExactAddNumRow : OpenClaim := { program := "ytdpcdedgpibdiaa", sum := "76628fc6d9754c25949143c7f569ce6dc2cf3e8c0ff5c2707c4683481c4267de", func := "loop.example/g00874/laws.FnExactAddNum", spec := "fnExactAddNum", apart := false }
def FnExactAddNumSaid : Prop := fnExactAddNumRow.holds Try.pinned (OpenSpec.ofChange fnExactAddNumSpec)

/-- ITS FALSE NEIGHBOUR: 'it returns false'. Refute it at one input. -/
def fnExactAddNumWrong : ChangeSpec := { name := "fnExactAddNum", fn := fun _ => fun
  | [d1, d2] => { results := [.lit (.bool false)], args := [d1, d2] }
  | _ => none }
def FnExactAddNumWrongFalsely : Prop := fnExactAddNumRow.holds Try.pinned (OpenSpec.ofChange fnExactAddNumWrong)

/-- 'laws.FnExactSubNum': WHATEVER THE INPUT: true; the input reads as it did. -/
def fnExactSubNumSpec : ChangeSpec := { name := "fnExactSubNum", fn := fun _ => fun
  | [d1, d2] => { results := [.lit (.bool true)], args := [d1, d2] }
  | _ => none }
def fnExactSubNumRow : OpenClaim := { program := "ytdpcdedgpibdiaa", sum := "76628fc6d9754c25949143c7f569ce6dc2cf3e8c0ff5c2707c4683481c4267de", func := "loop.example/g00874/laws.FnExactSubNum", spec := "fnExactSubNum", apart := false }
def FnExactSubNumSaid : Prop := fnExactSubNumRow.holds Try.pinned (OpenSpec.ofChange fnExactSubNumSpec)

/-- ITS FALSE NEIGHBOUR: 'it returns false'. Refute it at one input. -/
def fnExactSubNumWrong : ChangeSpec := { name := "fnExactSubNum", fn := fun _ => fun
  | [d1, d2] => { results := [.lit (.bool false)], args := [d1, d2] }
  | _ => none }
def FnExactSubNumWrongFalsely : Prop := fnExactSubNumRow.holds Try.pinned (OpenSpec.ofChange fnExactSubNumWrong)

/-- 'laws.FnExactFunArgs': WHATEVER THE INPUT: true; the input reads as it did. -/
def fnExactFunArgsSpec : ChangeSpec := { name := "fnExactFunArgs", fn := fun _ => fun
  | [d] => { results := [.lit (.bool true)], args := [d] }
  | _ => none }
def fnExactFunArgsRow : OpenClaim := { program := "ytdpcdedgpibdiaa", sum := "76628fc6d9754c25949143c7f569ce6dc2cf3e8c0ff5c2707c4683481c4267de", func := "loop.example/g00874/laws.FnExactFunArgs", spec := "fnExactFunArgs", apart := false }
def FnExactFunArgsSaid : Prop := fnExactFunArgsRow.holds Try.pinned (OpenSpec.ofChange fnExactFunArgsSpec)

/-- ITS FALSE NEIGHBOUR: 'it returns false'. Refute it at one input. -/
def fnExactFunArgsWrong : ChangeSpec := { name := "fnExactFunArgs", fn := fun _ => fun
  | [d] => { results := [.lit (.bool false)], args := [d] }
  | _ => none }
def FnExactFunArgsWrongFalsely : Prop := fnExactFunArgsRow.holds Try.pinned (OpenSpec.ofChange fnExactFunArgsWrong)

/-- 'laws.FnExactIntDiv': WHATEVER THE INPUT: true; the input reads as it did. -/
def fnExactIntDivSpec : ChangeSpec := { name := "fnExactIntDiv", fn := fun _ => fun
  | [d1, d2] => { results := [.lit (.bool true)], args := [d1, d2] }
  | _ => none }
def fnExactIntDivRow : OpenClaim := { program := "ytdpcdedgpibdiaa", sum := "76628fc6d9754c25949143c7f569ce6dc2cf3e8c0ff5c2707c4683481c4267de", func := "loop.example/g00874/laws.FnExactIntDiv", spec := "fnExactIntDiv", apart := false }
def FnExactIntDivSaid : Prop := fnExactIntDivRow.holds Try.pinned (OpenSpec.ofChange fnExactIntDivSpec)

/-- ITS FALSE NEIGHBOUR: 'it returns false'. Refute it at one input. -/
def fnExactIntDivWrong : ChangeSpec := { name := "fnExactIntDiv", fn := fun _ => fun
  | [d1, d2] => { results := [.lit (.bool false)], args := [d1, d2] }
  | _ => none }
def FnExactIntDivWrongFalsely : Prop := fnExactIntDivRow.holds Try.pinned (OpenSpec.ofChange fnExactIntDivWrong)

/-- 'laws.FnExactInCode': WHATEVER THE INPUT: true; the input reads as it did. -/
def fnExactInCodeSpec : ChangeSpec := { name := "fnExactInCode", fn := fun _ => fun
  | [d1, d2] => { results := [.lit (.bool true)], args := [d1, d2] }
  | _ => none }
def fnExactInCodeRow : OpenClaim := { program := "ytdpcdedgpibdiaa", sum := "76628fc6d9754c25949143c7f569ce6dc2cf3e8c0ff5c2707c4683481c4267de", func := "loop.example/g00874/laws.FnExactInCode", spec := "fnExactInCode", apart := false }
def FnExactInCodeSaid : Prop := fnExactInCodeRow.holds Try.pinned (OpenSpec.ofChange fnExactInCodeSpec)

/-- ITS FALSE NEIGHBOUR: 'it returns false'. Refute it at one input. -/
def fnExactInCodeWrong : ChangeSpec := { name := "fnExactInCode", fn := fun _ => fun
  | [d1, d2] => { results := [.lit (.bool false)], args := [d1, d2] }
  | _ => none }
def FnExactInCodeWrongFalsely : Prop := fnExactInCodeRow.holds Try.pinned (OpenSpec.ofChange fnExactInCodeWrong)

/-- 'laws.FnExactSameSubs': WHATEVER THE INPUT: true; the input reads as it did. -/
def fnExactSameSubsSpec : ChangeSpec := { name := "fnExactSameSubs", fn := fun _ => fun
  | [d1, d2] => { results := [.lit (.bool true)], args := [d1, d2] }
  | _ => none }
def fnExactSameSubsRow : OpenClaim := { program := "ytdpcdedgpibdiaa", sum := "76628fc6d9754c25949143c7f569ce6dc2cf3e8c0ff5c2707c4683481c4267de", func := "loop.example/g00874/laws.FnExactSameSubs", spec := "fnExactSameSubs", apart := false }
def FnExactSameSubsSaid : Prop := fnExactSameSubsRow.holds Try.pinned (OpenSpec.ofChange fnExactSameSubsSpec)

/-- ITS FALSE NEIGHBOUR: 'it returns false'. Refute it at one input. -/
def fnExactSameSubsWrong : ChangeSpec := { name := "fnExactSameSubs", fn := fun _ => fun
  | [d1, d2] => { results := [.lit (.bool false)], args := [d1, d2] }
  | _ => none }
def FnExactSameSubsWrongFalsely : Prop := fnExactSameSubsRow.holds Try.pinned (OpenSpec.ofChange fnExactSameSubsWrong)

/-- 'laws.FnExactSubsOk': WHATEVER THE INPUT: true; the input reads as it did. -/
def fnExactSubsOkSpec : ChangeSpec := { name := "fnExactSubsOk", fn := fun _ => fun
  | [d] => { results := [.lit (.bool true)], args := [d] }
  | _ => none }
def fnExactSubsOkRow : OpenClaim := { program := "ytdpcdedgpibdiaa", sum := "76628fc6d9754c25949143c7f569ce6dc2cf3e8c0ff5c2707c4683481c4267de", func := "loop.example/g00874/laws.FnExactSubsOk", spec := "fnExactSubsOk", unfollowed := true, recurses := true, apart := false }
def FnExactSubsOkSaid : Prop := fnExactSubsOkRow.holds Try.pinned (OpenSpec.ofChange fnExactSubsOkSpec)

/-- ITS FALSE NEIGHBOUR: 'it returns false'. Refute it at one input. -/
def fnExactSubsOkWrong : ChangeSpec := { name := "fnExactSubsOk", fn := fun _ => fun
  | [d] => { results := [.lit (.bool false)], args := [d] }
  | _ => none }
def FnExactSubsOkWrongFalsely : Prop := fnExactSubsOkRow.holds Try.pinned (OpenSpec.ofChange fnExactSubsOkWrong)

/-- 'laws.FnExactUnquoteText': WHATEVER THE INPUT: true; the input reads as it did. -/
def fnExactUnquoteTextSpec : ChangeSpec := { name := "fnExactUnquoteText", fn := fun _ => fun
  | [d] => { results := [.lit (.bool true)], args := [d] }
  | _ => none }
def fnExactUnquoteTextRow : OpenClaim := { program := "ytdpcdedgpibdiaa", sum := "76628fc6d9754c25949143c7f569ce6dc2cf3e8c0ff5c2707c4683481c4267de", func := "loop.example/g00874/laws.FnExactUnquoteText", spec := "fnExactUnquoteText", inPlace := ["internal/abi.NoEscape"], apart := false }
def FnExactUnquoteTextSaid : Prop := fnExactUnquoteTextRow.holds Try.pinned (OpenSpec.ofChange fnExactUnquoteTextSpec)

/-- ITS FALSE NEIGHBOUR: 'it returns false'. Refute it at one input. -/
def fnExactUnquoteTextWrong : ChangeSpec := { name := "fnExactUnquoteText", fn := fun _ => fun
  | [d] => { results := [.lit (.bool false)], args := [d] }
  | _ => none }
def FnExactUnquoteTextWrongFalsely : Prop := fnExactUnquoteTextRow.holds Try.pinned (OpenSpec.ofChange fnExactUnquoteTextWrong)

/-- 'laws.FnExactFindOf': WHATEVER THE INPUT: true; the input reads as it did. -/
def fnExactFindOfSpec : ChangeSpec := { name := "fnExactFindOf", fn := fun _ => fun
  | [d1, d2, d3] => { results := [.lit (.bool true)], args := [d1, d2, d3] }
  | _ => none }
def fnExactFindOfRow : OpenClaim := { program := "ytdpcdedgpibdiaa", sum := "76628fc6d9754c25949143c7f569ce6dc2cf3e8c0ff5c2707c4683481c4267de", func := "loop.example/g00874/laws.FnExactFindOf", spec := "fnExactFindOf", inPlace := ["internal/bytealg.IndexByteString", "internal/bytealg.IndexString"], named := ["internal/bytealg.MaxLen"], apart := false }
def FnExactFindOfSaid : Prop := fnExactFindOfRow.holds Try.pinned (OpenSpec.ofChange fnExactFindOfSpec)

/-- ITS FALSE NEIGHBOUR: 'it returns false'. Refute it at one input. -/
def fnExactFindOfWrong : ChangeSpec := { name := "fnExactFindOf", fn := fun _ => fun
  | [d1, d2, d3] => { results := [.lit (.bool false)], args := [d1, d2, d3] }
  | _ => none }
def FnExactFindOfWrongFalsely : Prop := fnExactFindOfRow.holds Try.pinned (OpenSpec.ofChange fnExactFindOfWrong)

/-- 'laws.FnExactMulNum': WHATEVER THE INPUT: true; the input reads as it did. -/
def fnExactMulNumSpec : ChangeSpec := { name := "fnExactMulNum", fn := fun _ => fun
  | [d1, d2] => { results := [.lit (.bool true)], args := [d1, d2] }
  | _ => none }
def fnExactMulNumRow : OpenClaim := { program := "ytdpcdedgpibdiaa", sum := "76628fc6d9754c25949143c7f569ce6dc2cf3e8c0ff5c2707c4683481c4267de", func := "loop.example/g00874/laws.FnExactMulNum", spec := "fnExactMulNum", named := ["math/bits.divideError", "math/bits.overflowError"], apart := false }
def FnExactMulNumSaid : Prop := fnExactMulNumRow.holds Try.pinned (OpenSpec.ofChange fnExactMulNumSpec)

/-- ITS FALSE NEIGHBOUR: 'it returns false'. Refute it at one input. -/
def fnExactMulNumWrong : ChangeSpec := { name := "fnExactMulNum", fn := fun _ => fun
  | [d1, d2] => { results := [.lit (.bool false)], args := [d1, d2] }
  | _ => none }
def FnExactMulNumWrongFalsely : Prop := fnExactMulNumRow.holds Try.pinned (OpenSpec.ofChange fnExactMulNumWrong)

/-- 'laws.FnExactDivNum': WHATEVER THE INPUT: true; the input reads as it did. -/
def fnExactDivNumSpec : ChangeSpec := { name := "fnExactDivNum", fn := fun _ => fun
  | [d1, d2] => { results := [.lit (.bool true)], args := [d1, d2] }
  | _ => none }
def fnExactDivNumRow : OpenClaim := { program := "ytdpcdedgpibdiaa", sum := "76628fc6d9754c25949143c7f569ce6dc2cf3e8c0ff5c2707c4683481c4267de", func := "loop.example/g00874/laws.FnExactDivNum", spec := "fnExactDivNum", named := ["math/bits.divideError", "math/bits.overflowError"], apart := false }
def FnExactDivNumSaid : Prop := fnExactDivNumRow.holds Try.pinned (OpenSpec.ofChange fnExactDivNumSpec)

/-- ITS FALSE NEIGHBOUR: 'it returns false'. Refute it at one input. -/
def fnExactDivNumWrong : ChangeSpec := { name := "fnExactDivNum", fn := fun _ => fun
  | [d1, d2] => { results := [.lit (.bool false)], args := [d1, d2] }
  | _ => none }
def FnExactDivNumWrongFalsely : Prop := fnExactDivNumRow.holds Try.pinned (OpenSpec.ofChange fnExactDivNumWrong)

/- THE SECOND FORM. 'bulk': how many values and letters a reading holds, each counted each time it is reached (what is shared counts as often as it is met; a slice's spare places count too). A statement '..UptoSaid' is the law's where the arguments, and the package variables that the reading takes, are together of bulk at most 1048576: NARROWER than '..Said'. Prove '..Said' where nothing that the law and all that it calls make is longer than what came in: it says more and counts as full. Else prove '..UptoSaid'. A law counts once. -/
mutual
def uptoBulk {H : Type} : DataW H → Nat
  | .lit (.string bytes) => bytes.length + 1
  | .lit _ => 1
  | .nil => 1
  | .ptr d => uptoBulk d + 1
  | .slice elems spare => uptoBulkAll elems + uptoBulkAll spare + 1
  | .agg parts => uptoBulkAll parts + 1
  | .iface _ d => uptoBulk d + 1
  | .map entries => uptoBulkEntries entries + 1
  | .held _ => 1
def uptoBulkAll {H : Type} : List (DataW H) → Nat
  | [] => 0
  | d :: r => uptoBulk d + uptoBulkAll r
def uptoBulkEntries {H : Type} : List (Lit × DataW H) → Nat
  | [] => 0
  | x :: r => uptoBulkEntry x + uptoBulkEntries r
def uptoBulkEntry {H : Type} : Lit × DataW H → Nat
  | (.string bytes, d) => bytes.length + uptoBulk d + 1
  | (_, d) => uptoBulk d + 1
 end
def uptoSmall : (H : Type) → List (DataW H) → Bool := fun _ ds => decide (uptoBulkAll ds ≤ 1048576)
def OpenSpec.upto (s : _root_.Go.ChangeSpec) : _root_.Go.OpenSpec := { _root_.Go.OpenSpec.ofChange s with cond := some uptoSmall }

/-- 'laws.FnExactModNum', WHERE WHAT IT READS IS OF BULK AT MOST 1048576: true; the input reads as it did. -/
def fnExactModNumUptoRow : OpenClaim := { program := "ytdpcdedgpibdiaa", sum := "76628fc6d9754c25949143c7f569ce6dc2cf3e8c0ff5c2707c4683481c4267de", func := "loop.example/g00874/laws.FnExactModNum", spec := "fnExactModNum", apart := false, narrowed := true }
def FnExactModNumUptoSaid : Prop := fnExactModNumUptoRow.holds Try.pinned (OpenSpec.upto fnExactModNumSpec)

/-- 'laws.FnExactAddNum', WHERE WHAT IT READS IS OF BULK AT MOST 1048576: true; the input reads as it did. -/
def fnExactAddNumUptoRow : OpenClaim := { program := "ytdpcdedgpibdiaa", sum := "76628fc6d9754c25949143c7f569ce6dc2cf3e8c0ff5c2707c4683481c4267de", func := "loop.example/g00874/laws.FnExactAddNum", spec := "fnExactAddNum", apart := false, narrowed := true }
def FnExactAddNumUptoSaid : Prop := fnExactAddNumUptoRow.holds Try.pinned (OpenSpec.upto fnExactAddNumSpec)

/-- 'laws.FnExactSubNum', WHERE WHAT IT READS IS OF BULK AT MOST 1048576: true; the input reads as it did. -/
def fnExactSubNumUptoRow : OpenClaim := { program := "ytdpcdedgpibdiaa", sum := "76628fc6d9754c25949143c7f569ce6dc2cf3e8c0ff5c2707c4683481c4267de", func := "loop.example/g00874/laws.FnExactSubNum", spec := "fnExactSubNum", apart := false, narrowed := true }
def FnExactSubNumUptoSaid : Prop := fnExactSubNumUptoRow.holds Try.pinned (OpenSpec.upto fnExactSubNumSpec)

/-- 'laws.FnExactFunArgs', WHERE WHAT IT READS IS OF BULK AT MOST 1048576: true; the input reads as it did. -/
def fnExactFunArgsUptoRow : OpenClaim := { program := "ytdpcdedgpibdiaa", sum := "76628fc6d9754c25949143c7f569ce6dc2cf3e8c0ff5c2707c4683481c4267de", func := "loop.example/g00874/laws.FnExactFunArgs", spec := "fnExactFunArgs", apart := false, narrowed := true }
def FnExactFunArgsUptoSaid : Prop := fnExactFunArgsUptoRow.holds Try.pinned (OpenSpec.upto fnExactFunArgsSpec)

/-- 'laws.FnExactIntDiv', WHERE WHAT IT READS IS OF BULK AT MOST 1048576: true; the input reads as it did. -/
def fnExactIntDivUptoRow : OpenClaim := { program := "ytdpcdedgpibdiaa", sum := "76628fc6d9754c25949143c7f569ce6dc2cf3e8c0ff5c2707c4683481c4267de", func := "loop.example/g00874/laws.FnExactIntDiv", spec := "fnExactIntDiv", apart := false, narrowed := true }
def FnExactIntDivUptoSaid : Prop := fnExactIntDivUptoRow.holds Try.pinned (OpenSpec.upto fnExactIntDivSpec)

/-- 'laws.FnExactInCode', WHERE WHAT IT READS IS OF BULK AT MOST 1048576: true; the input reads as it did. -/
def fnExactInCodeUptoRow : OpenClaim := { program := "ytdpcdedgpibdiaa", sum := "76628fc6d9754c25949143c7f569ce6dc2cf3e8c0ff5c2707c4683481c4267de", func := "loop.example/g00874/laws.FnExactInCode", spec := "fnExactInCode", apart := false, narrowed := true }
def FnExactInCodeUptoSaid : Prop := fnExactInCodeUptoRow.holds Try.pinned (OpenSpec.upto fnExactInCodeSpec)

/-- 'laws.FnExactSameSubs', WHERE WHAT IT READS IS OF BULK AT MOST 1048576: true; the input reads as it did. -/
def fnExactSameSubsUptoRow : OpenClaim := { program := "ytdpcdedgpibdiaa", sum := "76628fc6d9754c25949143c7f569ce6dc2cf3e8c0ff5c2707c4683481c4267de", func := "loop.example/g00874/laws.FnExactSameSubs", spec := "fnExactSameSubs", apart := false, narrowed := true }
def FnExactSameSubsUptoSaid : Prop := fnExactSameSubsUptoRow.holds Try.pinned (OpenSpec.upto fnExactSameSubsSpec)

/-- 'laws.FnExactSubsOk', WHERE WHAT IT READS IS OF BULK AT MOST 1048576: true; the input reads as it did. -/
def fnExactSubsOkUptoRow : OpenClaim := { program := "ytdpcdedgpibdiaa", sum := "76628fc6d9754c25949143c7f569ce6dc2cf3e8c0ff5c2707c4683481c4267de", func := "loop.example/g00874/laws.FnExactSubsOk", spec := "fnExactSubsOk", unfollowed := true, recurses := true, apart := false, narrowed := true }
def FnExactSubsOkUptoSaid : Prop := fnExactSubsOkUptoRow.holds Try.pinned (OpenSpec.upto fnExactSubsOkSpec)

/-- 'laws.FnExactUnquoteText', WHERE WHAT IT READS IS OF BULK AT MOST 1048576: true; the input reads as it did. -/
def fnExactUnquoteTextUptoRow : OpenClaim := { program := "ytdpcdedgpibdiaa", sum := "76628fc6d9754c25949143c7f569ce6dc2cf3e8c0ff5c2707c4683481c4267de", func := "loop.example/g00874/laws.FnExactUnquoteText", spec := "fnExactUnquoteText", inPlace := ["internal/abi.NoEscape"], apart := false, narrowed := true }
def FnExactUnquoteTextUptoSaid : Prop := fnExactUnquoteTextUptoRow.holds Try.pinned (OpenSpec.upto fnExactUnquoteTextSpec)

/-- 'laws.FnExactFindOf', WHERE WHAT IT READS IS OF BULK AT MOST 1048576: true; the input reads as it did. -/
def fnExactFindOfUptoRow : OpenClaim := { program := "ytdpcdedgpibdiaa", sum := "76628fc6d9754c25949143c7f569ce6dc2cf3e8c0ff5c2707c4683481c4267de", func := "loop.example/g00874/laws.FnExactFindOf", spec := "fnExactFindOf", inPlace := ["internal/bytealg.IndexByteString", "internal/bytealg.IndexString"], named := ["internal/bytealg.MaxLen"], apart := false, narrowed := true }
def FnExactFindOfUptoSaid : Prop := fnExactFindOfUptoRow.holds Try.pinned (OpenSpec.upto fnExactFindOfSpec)

/-- 'laws.FnExactMulNum', WHERE WHAT IT READS IS OF BULK AT MOST 1048576: true; the input reads as it did. -/
def fnExactMulNumUptoRow : OpenClaim := { program := "ytdpcdedgpibdiaa", sum := "76628fc6d9754c25949143c7f569ce6dc2cf3e8c0ff5c2707c4683481c4267de", func := "loop.example/g00874/laws.FnExactMulNum", spec := "fnExactMulNum", named := ["math/bits.divideError", "math/bits.overflowError"], apart := false, narrowed := true }
def FnExactMulNumUptoSaid : Prop := fnExactMulNumUptoRow.holds Try.pinned (OpenSpec.upto fnExactMulNumSpec)

/-- 'laws.FnExactDivNum', WHERE WHAT IT READS IS OF BULK AT MOST 1048576: true; the input reads as it did. -/
def fnExactDivNumUptoRow : OpenClaim := { program := "ytdpcdedgpibdiaa", sum := "76628fc6d9754c25949143c7f569ce6dc2cf3e8c0ff5c2707c4683481c4267de", func := "loop.example/g00874/laws.FnExactDivNum", spec := "fnExactDivNum", named := ["math/bits.divideError", "math/bits.overflowError"], apart := false, narrowed := true }
def FnExactDivNumUptoSaid : Prop := fnExactDivNumUptoRow.holds Try.pinned (OpenSpec.upto fnExactDivNumSpec)

end Rows
end Go.Proofs.Ytdpcdedgpibdiaa
