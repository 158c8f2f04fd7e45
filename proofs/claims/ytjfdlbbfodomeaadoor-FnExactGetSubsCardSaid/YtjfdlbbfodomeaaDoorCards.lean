/-
  DERIVED. GIVEN WITH THE SEED: THE CARDS: each row of YtjfdlbbfodomeaaDoorRows.lean that lists a variable, with what it lists TIED to the program's text (the seventh form; the later family's looks); each row that meets fmt, with fmt's text TOLD by the authors' own Lean function (tested against real Go, not proved from fmt's source: count such statements apart). THE CARD IS WHAT COUNTS. Prove the row's statement (the work); the ties are given (YtjfdlbbfodomeaaDoorTie.lean); close each card by the builder's one call (the guide's Derived/Test/ToyasCard.lean, 'card_holds'). Laid BY PROGRAM, IN A SANDBOX (cutbox-door.mjs). By AI agents, Wed Nov 11 2026. No macro, syntax, notation, axiom, sorry.
-/
import Derived.Test.YtjfdlbbfodomeaaDoorRows
import GoSem.ClaimSeven
namespace Go.Proofs.YtjfdlbbfodomeaaDoor
namespace Rows

/-- THE TIED CARD OF 'laws.FnExactGetSubs'. -/
def fnExactGetSubsCard : Claim7 := { stood := { row := fnExactGetSubsRow, standIns := [], harness := (true, "24c6f9b1a12cce80ee6e0486d00aee4aa7a2dca477112a19c71406a12b2674b0"), looks := false }, kinds := [], alts := [], laidByText := true, laidKinds := [.data, .data, .data, .data, .pinned], laidTests := true, laidLooks := .later }
def FnExactGetSubsCardSaid : Prop := Claim7.holds Tryd.pinned (.plain (OpenSpec.ofChange fnExactGetSubsSpec)) fnExactGetSubsCard

/-- THE SECOND FORM's CARD OF 'laws.FnExactGetSubs'. -/
def fnExactGetSubsUptoCard : Claim7 := { stood := { row := fnExactGetSubsUptoRow, standIns := [], harness := (true, "24c6f9b1a12cce80ee6e0486d00aee4aa7a2dca477112a19c71406a12b2674b0"), looks := false }, kinds := [], alts := [], laidByText := true, laidKinds := [.data, .data, .data, .data, .pinned], laidTests := true, laidLooks := .later }
def FnExactGetSubsUptoCardSaid : Prop := Claim7.holds Tryd.pinned (.plain (OpenSpec.upto fnExactGetSubsSpec)) fnExactGetSubsUptoCard
end Rows
end Go.Proofs.YtjfdlbbfodomeaaDoor
