/-
  DERIVED. GIVEN WITH THE SEED: THE CARDS: each row of YtkoagpeeohmokaaGreatDoorRows.lean that lists a variable, with what it lists TIED to the program's text (the seventh form; the later family's looks); each row that meets fmt, with fmt's text TOLD by the authors' own Lean function (tested against real Go, not proved from fmt's source: count such statements apart). THE CARD IS WHAT COUNTS. Prove the row's statement (the work); the ties are given (YtkoagpeeohmokaaGreatDoorTie.lean); close each card by the builder's one call (the guide's Derived/Test/ToyasCard.lean, 'card_holds'). Laid BY PROGRAM, IN A SANDBOX (cutbox-door.mjs). By AI agents, Wed Nov 11 2026. No macro, syntax, notation, axiom, sorry.
-/
import Derived.Test.YtkoagpeeohmokaaGreatDoorRows
import GoSem.ClaimSeven
namespace Go.Proofs.YtkoagpeeohmokaaGreatDoor
namespace Rows

/-- THE TIED CARD OF 'laws.FnExactPureFun'. -/
def fnExactPureFunCard : Claim7 := { stood := { row := fnExactPureFunRow, standIns := [], harness := (true, "b5d6e42cdf0499daa8d4e86dce9eed080ffee739b049bb4f0c495430a9a39989"), looks := false }, kinds := [], alts := [], laidByText := true, laidKinds := [.data, .data, .data, .data, .pinned], laidTests := true, laidLooks := .later }
def FnExactPureFunCardSaid : Prop := Claim7.holds Tryz.pinned (.plain (OpenSpec.ofChange fnExactPureFunSpec)) fnExactPureFunCard

/-- THE TIED CARD OF 'laws.FnExactKillNode'. -/
def fnExactKillNodeCard : Claim7 := { stood := { row := fnExactKillNodeRow, standIns := [], harness := (true, "b5d6e42cdf0499daa8d4e86dce9eed080ffee739b049bb4f0c495430a9a39989"), looks := false }, kinds := [], alts := [], laidByText := true, laidKinds := [.data, .data, .data, .data, .pinned], laidTests := true, laidLooks := .later }
def FnExactKillNodeCardSaid : Prop := Claim7.holds Tryz.pinned (.plain (OpenSpec.ofChange fnExactKillNodeSpec)) fnExactKillNodeCard

/-- THE TIED CARD OF 'laws.FnExactBinOp'. -/
def fnExactBinOpCard : Claim7 := { stood := { row := fnExactBinOpRow, standIns := [], harness := (true, "b5d6e42cdf0499daa8d4e86dce9eed080ffee739b049bb4f0c495430a9a39989"), looks := false }, kinds := [], alts := [], laidByText := true, laidKinds := [.data, .data, .data, .data, .pinned], laidTests := true, laidLooks := .later }
def FnExactBinOpCardSaid : Prop := Claim7.holds Tryz.pinned (.plain (OpenSpec.ofChange fnExactBinOpSpec)) fnExactBinOpCard

/-- THE SECOND FORM's CARD OF 'laws.FnExactPureFun'. -/
def fnExactPureFunUptoCard : Claim7 := { stood := { row := fnExactPureFunUptoRow, standIns := [], harness := (true, "b5d6e42cdf0499daa8d4e86dce9eed080ffee739b049bb4f0c495430a9a39989"), looks := false }, kinds := [], alts := [], laidByText := true, laidKinds := [.data, .data, .data, .data, .pinned], laidTests := true, laidLooks := .later }
def FnExactPureFunUptoCardSaid : Prop := Claim7.holds Tryz.pinned (.plain (OpenSpec.upto fnExactPureFunSpec)) fnExactPureFunUptoCard

/-- THE SECOND FORM's CARD OF 'laws.FnExactKillNode'. -/
def fnExactKillNodeUptoCard : Claim7 := { stood := { row := fnExactKillNodeUptoRow, standIns := [], harness := (true, "b5d6e42cdf0499daa8d4e86dce9eed080ffee739b049bb4f0c495430a9a39989"), looks := false }, kinds := [], alts := [], laidByText := true, laidKinds := [.data, .data, .data, .data, .pinned], laidTests := true, laidLooks := .later }
def FnExactKillNodeUptoCardSaid : Prop := Claim7.holds Tryz.pinned (.plain (OpenSpec.upto fnExactKillNodeSpec)) fnExactKillNodeUptoCard

/-- THE SECOND FORM's CARD OF 'laws.FnExactBinOp'. -/
def fnExactBinOpUptoCard : Claim7 := { stood := { row := fnExactBinOpUptoRow, standIns := [], harness := (true, "b5d6e42cdf0499daa8d4e86dce9eed080ffee739b049bb4f0c495430a9a39989"), looks := false }, kinds := [], alts := [], laidByText := true, laidKinds := [.data, .data, .data, .data, .pinned], laidTests := true, laidLooks := .later }
def FnExactBinOpUptoCardSaid : Prop := Claim7.holds Tryz.pinned (.plain (OpenSpec.upto fnExactBinOpSpec)) fnExactBinOpUptoCard
end Rows
end Go.Proofs.YtkoagpeeohmokaaGreatDoor
