/-
  DERIVED. GIVEN WITH THE SEED: THE CARDS: each row of YtllamjgloilioaaGreatDoorRows.lean that lists a variable, with what it lists TIED to the program's text (the seventh form; the later family's looks); each row that meets fmt, with fmt's text TOLD by the authors' own Lean function (tested against real Go, not proved from fmt's source: count such statements apart). THE CARD IS WHAT COUNTS. Prove the row's statement (the work); the ties are given (YtllamjgloilioaaGreatDoorTie.lean); close each card by the builder's one call (the guide's Derived/Test/ToyasCard.lean, 'card_holds'). Laid BY PROGRAM, IN A SANDBOX (cutbox-door.mjs). By AI agents, Wed Nov 11 2026. No macro, syntax, notation, axiom, sorry.
-/
import Derived.Test.YtllamjgloilioaaGreatDoorRows
import GoSem.ClaimSeven
namespace Go.Proofs.YtllamjgloilioaaGreatDoor
namespace Rows

/-- THE TIED CARD OF 'laws.FnExactKillNode'. -/
def fnExactKillNodeCard : Claim7 := { stood := { row := fnExactKillNodeRow, standIns := [], harness := (true, "8329b5df7ead63a30a3057c139d4fe09a3ed54804205fdeb39b88769635dd677"), looks := false }, kinds := [], alts := [], laidByText := true, laidKinds := [.data, .data, .data, .data, .pinned], laidTests := true, laidLooks := .later }
def FnExactKillNodeCardSaid : Prop := Claim7.holds Tryz.pinned (.plain (OpenSpec.ofChange fnExactKillNodeSpec)) fnExactKillNodeCard

/-- THE SECOND FORM's CARD OF 'laws.FnExactKillNode'. -/
def fnExactKillNodeUptoCard : Claim7 := { stood := { row := fnExactKillNodeUptoRow, standIns := [], harness := (true, "8329b5df7ead63a30a3057c139d4fe09a3ed54804205fdeb39b88769635dd677"), looks := false }, kinds := [], alts := [], laidByText := true, laidKinds := [.data, .data, .data, .data, .pinned], laidTests := true, laidLooks := .later }
def FnExactKillNodeUptoCardSaid : Prop := Claim7.holds Tryz.pinned (.plain (OpenSpec.upto fnExactKillNodeSpec)) fnExactKillNodeUptoCard
end Rows
end Go.Proofs.YtllamjgloilioaaGreatDoor
