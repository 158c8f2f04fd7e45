/-
  DERIVED. GIVEN WITH THE SEED: THE CARDS: each row of YtcjlokojppicnaaDoorRows.lean that lists a variable, with what it lists TIED to the program's text (the seventh form; the later family's looks); each row that meets fmt, with fmt's text TOLD by the authors' own Lean function (tested against real Go, not proved from fmt's source: count such statements apart). THE CARD IS WHAT COUNTS. Prove the row's statement (the work); the ties are given (YtcjlokojppicnaaDoorTie.lean); close each card by the builder's one call (the guide's Derived/Test/ToyasCard.lean, 'card_holds'). Laid BY PROGRAM, IN A SANDBOX (cutbox-door.mjs). By AI agents, Wed Nov 11 2026. No macro, syntax, notation, axiom, sorry.
-/
import Derived.Test.YtcjlokojppicnaaDoorRows
import GoSem.ClaimSeven
namespace Go.Proofs.YtcjlokojppicnaaDoor
namespace Rows

/-- THE TIED CARD OF 'laws.FnExactPatternText'. -/
def fnExactPatternTextCard : Claim7 := { stood := { row := fnExactPatternTextRow, standIns := [], harness := (true, "40e2987e811de9f32fdba20e8b418f016c1385577e186c8680651bbb7c723591"), looks := false }, kinds := [], alts := [], laidByText := true, laidKinds := [.data, .data, .data, .data, .pinned], laidTests := true, laidLooks := .later }
def FnExactPatternTextCardSaid : Prop := Claim7.holds Tryd.pinned (.plain (OpenSpec.ofChange fnExactPatternTextSpec)) fnExactPatternTextCard

/-- THE SECOND FORM's CARD OF 'laws.FnExactPatternText'. -/
def fnExactPatternTextUptoCard : Claim7 := { stood := { row := fnExactPatternTextUptoRow, standIns := [], harness := (true, "40e2987e811de9f32fdba20e8b418f016c1385577e186c8680651bbb7c723591"), looks := false }, kinds := [], alts := [], laidByText := true, laidKinds := [.data, .data, .data, .data, .pinned], laidTests := true, laidLooks := .later }
def FnExactPatternTextUptoCardSaid : Prop := Claim7.holds Tryd.pinned (.plain (OpenSpec.upto fnExactPatternTextSpec)) fnExactPatternTextUptoCard
end Rows
end Go.Proofs.YtcjlokojppicnaaDoor
