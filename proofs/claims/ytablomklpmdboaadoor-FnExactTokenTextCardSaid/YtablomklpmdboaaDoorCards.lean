/-
  DERIVED. GIVEN WITH THE SEED: THE CARDS: each row of YtablomklpmdboaaDoorRows.lean that lists a variable, with what it lists TIED to the program's text (the seventh form; the later family's looks); each row that meets fmt, with fmt's text TOLD by the authors' own Lean function (tested against real Go, not proved from fmt's source: count such statements apart). THE CARD IS WHAT COUNTS. Prove the row's statement (the work); the ties are given (YtablomklpmdboaaDoorTie.lean); close each card by the builder's one call (the guide's Derived/Test/ToyasCard.lean, 'card_holds'). Laid BY PROGRAM, IN A SANDBOX (cutbox-door.mjs). By AI agents, Wed Nov 11 2026. No macro, syntax, notation, axiom, sorry.
-/
import Derived.Test.YtablomklpmdboaaDoorRows
import GoSem.ClaimSeven
namespace Go.Proofs.YtablomklpmdboaaDoor
namespace Rows

/-- THE TIED CARD OF 'laws.FnExactLengthOf'. -/
def fnExactLengthOfCard : Claim7 := { stood := { row := fnExactLengthOfRow, standIns := [], harness := (true, "aea37d8a2929d3c7ad8fd6dd60db68f96aae26332b20f5ecb844a68ad42ab2b3"), looks := false }, kinds := [], alts := [], laidByText := true, laidKinds := [.data, .pinned], laidTests := true, laidLooks := .later }
def FnExactLengthOfCardSaid : Prop := Claim7.holds Tryd.pinned (.plain (OpenSpec.ofChange fnExactLengthOfSpec)) fnExactLengthOfCard

/-- THE TIED CARD OF 'laws.FnExactQuoteText'. -/
def fnExactQuoteTextCard : Claim7 := { stood := { row := fnExactQuoteTextRow, standIns := [], harness := (true, "aea37d8a2929d3c7ad8fd6dd60db68f96aae26332b20f5ecb844a68ad42ab2b3"), looks := false }, kinds := [], alts := [], laidByText := true, laidKinds := [.data, .pinned], laidTests := true, laidLooks := .later }
def FnExactQuoteTextCardSaid : Prop := Claim7.holds Tryd.pinned (.plain (OpenSpec.ofChange fnExactQuoteTextSpec)) fnExactQuoteTextCard

/-- THE TIED CARD OF 'laws.FnExactTokenText'. -/
def fnExactTokenTextCard : Claim7 := { stood := { row := fnExactTokenTextRow, standIns := [], harness := (true, "aea37d8a2929d3c7ad8fd6dd60db68f96aae26332b20f5ecb844a68ad42ab2b3"), looks := false }, kinds := [], alts := [], laidByText := true, laidKinds := [.data, .pinned], laidTests := true, laidLooks := .later }
def FnExactTokenTextCardSaid : Prop := Claim7.holds Tryd.pinned (.plain (OpenSpec.ofChange fnExactTokenTextSpec)) fnExactTokenTextCard

/-- THE TIED CARD OF 'laws.FnExactPieceOf'. -/
def fnExactPieceOfCard : Claim7 := { stood := { row := fnExactPieceOfRow, standIns := [], harness := (true, "aea37d8a2929d3c7ad8fd6dd60db68f96aae26332b20f5ecb844a68ad42ab2b3"), looks := false }, kinds := [], alts := [], laidByText := true, laidKinds := [.data, .pinned], laidTests := true, laidLooks := .later }
def FnExactPieceOfCardSaid : Prop := Claim7.holds Tryd.pinned (.plain (OpenSpec.ofChange fnExactPieceOfSpec)) fnExactPieceOfCard

/-- THE TIED CARD OF 'laws.FnExactNumOf'. -/
def fnExactNumOfCard : Claim7 := { stood := { row := fnExactNumOfRow, standIns := [], harness := (true, "aea37d8a2929d3c7ad8fd6dd60db68f96aae26332b20f5ecb844a68ad42ab2b3"), looks := false }, kinds := [], alts := [], laidByText := true, laidKinds := [.data, .pinned], laidTests := true, laidLooks := .later }
def FnExactNumOfCardSaid : Prop := Claim7.holds Tryd.pinned (.plain (OpenSpec.ofChange fnExactNumOfSpec)) fnExactNumOfCard

/-- THE TIED CARD OF 'laws.FnExactTruth'. -/
def fnExactTruthCard : Claim7 := { stood := { row := fnExactTruthRow, standIns := [], harness := (true, "aea37d8a2929d3c7ad8fd6dd60db68f96aae26332b20f5ecb844a68ad42ab2b3"), looks := false }, kinds := [], alts := [], laidByText := true, laidKinds := [.data, .pinned], laidTests := true, laidLooks := .later }
def FnExactTruthCardSaid : Prop := Claim7.holds Tryd.pinned (.plain (OpenSpec.ofChange fnExactTruthSpec)) fnExactTruthCard

/-- THE TIED CARD OF 'laws.FnExactNumText'. -/
def fnExactNumTextCard : Claim7 := { stood := { row := fnExactNumTextRow, standIns := [], harness := (true, "aea37d8a2929d3c7ad8fd6dd60db68f96aae26332b20f5ecb844a68ad42ab2b3"), looks := false }, kinds := [], alts := [], laidByText := true, laidKinds := [.data, .data, .data, .data, .pinned], laidTests := true, laidLooks := .later }
def FnExactNumTextCardSaid : Prop := Claim7.holds Tryd.pinned (.plain (OpenSpec.ofChange fnExactNumTextSpec)) fnExactNumTextCard

/-- THE TIED CARD OF 'laws.FnExactTokens'. -/
def fnExactTokensCard : Claim7 := { stood := { row := fnExactTokensRow, standIns := [], harness := (true, "aea37d8a2929d3c7ad8fd6dd60db68f96aae26332b20f5ecb844a68ad42ab2b3"), looks := false }, kinds := [], alts := [], laidByText := true, laidKinds := [.data, .pinned], laidTests := true, laidLooks := .later }
def FnExactTokensCardSaid : Prop := Claim7.holds Tryd.pinned (.plain (OpenSpec.ofChange fnExactTokensSpec)) fnExactTokensCard

/-- THE TIED CARD OF 'laws.FnExactIsCanon'. -/
def fnExactIsCanonCard : Claim7 := { stood := { row := fnExactIsCanonRow, standIns := [], harness := (true, "aea37d8a2929d3c7ad8fd6dd60db68f96aae26332b20f5ecb844a68ad42ab2b3"), looks := false }, kinds := [], alts := [], laidByText := true, laidKinds := [.data, .data, .data, .data, .pinned], laidTests := true, laidLooks := .later }
def FnExactIsCanonCardSaid : Prop := Claim7.holds Tryd.pinned (.plain (OpenSpec.ofChange fnExactIsCanonSpec)) fnExactIsCanonCard

/-- THE TIED CARD OF 'laws.FnExactBefore'. -/
def fnExactBeforeCard : Claim7 := { stood := { row := fnExactBeforeRow, standIns := [], harness := (true, "aea37d8a2929d3c7ad8fd6dd60db68f96aae26332b20f5ecb844a68ad42ab2b3"), looks := false }, kinds := [], alts := [], laidByText := true, laidKinds := [.data, .data, .data, .data, .pinned], laidTests := true, laidLooks := .later }
def FnExactBeforeCardSaid : Prop := Claim7.holds Tryd.pinned (.plain (OpenSpec.ofChange fnExactBeforeSpec)) fnExactBeforeCard

/-- THE TIED CARD OF 'laws.FnExactUnOp'. -/
def fnExactUnOpCard : Claim7 := { stood := { row := fnExactUnOpRow, standIns := [], harness := (true, "aea37d8a2929d3c7ad8fd6dd60db68f96aae26332b20f5ecb844a68ad42ab2b3"), looks := false }, kinds := [], alts := [], laidByText := true, laidKinds := [.data, .data, .data, .data, .pinned], laidTests := true, laidLooks := .later }
def FnExactUnOpCardSaid : Prop := Claim7.holds Tryd.pinned (.plain (OpenSpec.ofChange fnExactUnOpSpec)) fnExactUnOpCard

/-- THE SECOND FORM's CARD OF 'laws.FnExactLengthOf'. -/
def fnExactLengthOfUptoCard : Claim7 := { stood := { row := fnExactLengthOfUptoRow, standIns := [], harness := (true, "aea37d8a2929d3c7ad8fd6dd60db68f96aae26332b20f5ecb844a68ad42ab2b3"), looks := false }, kinds := [], alts := [], laidByText := true, laidKinds := [.data, .pinned], laidTests := true, laidLooks := .later }
def FnExactLengthOfUptoCardSaid : Prop := Claim7.holds Tryd.pinned (.plain (OpenSpec.upto fnExactLengthOfSpec)) fnExactLengthOfUptoCard

/-- THE SECOND FORM's CARD OF 'laws.FnExactQuoteText'. -/
def fnExactQuoteTextUptoCard : Claim7 := { stood := { row := fnExactQuoteTextUptoRow, standIns := [], harness := (true, "aea37d8a2929d3c7ad8fd6dd60db68f96aae26332b20f5ecb844a68ad42ab2b3"), looks := false }, kinds := [], alts := [], laidByText := true, laidKinds := [.data, .pinned], laidTests := true, laidLooks := .later }
def FnExactQuoteTextUptoCardSaid : Prop := Claim7.holds Tryd.pinned (.plain (OpenSpec.upto fnExactQuoteTextSpec)) fnExactQuoteTextUptoCard

/-- THE SECOND FORM's CARD OF 'laws.FnExactTokenText'. -/
def fnExactTokenTextUptoCard : Claim7 := { stood := { row := fnExactTokenTextUptoRow, standIns := [], harness := (true, "aea37d8a2929d3c7ad8fd6dd60db68f96aae26332b20f5ecb844a68ad42ab2b3"), looks := false }, kinds := [], alts := [], laidByText := true, laidKinds := [.data, .pinned], laidTests := true, laidLooks := .later }
def FnExactTokenTextUptoCardSaid : Prop := Claim7.holds Tryd.pinned (.plain (OpenSpec.upto fnExactTokenTextSpec)) fnExactTokenTextUptoCard

/-- THE SECOND FORM's CARD OF 'laws.FnExactPieceOf'. -/
def fnExactPieceOfUptoCard : Claim7 := { stood := { row := fnExactPieceOfUptoRow, standIns := [], harness := (true, "aea37d8a2929d3c7ad8fd6dd60db68f96aae26332b20f5ecb844a68ad42ab2b3"), looks := false }, kinds := [], alts := [], laidByText := true, laidKinds := [.data, .pinned], laidTests := true, laidLooks := .later }
def FnExactPieceOfUptoCardSaid : Prop := Claim7.holds Tryd.pinned (.plain (OpenSpec.upto fnExactPieceOfSpec)) fnExactPieceOfUptoCard

/-- THE SECOND FORM's CARD OF 'laws.FnExactNumOf'. -/
def fnExactNumOfUptoCard : Claim7 := { stood := { row := fnExactNumOfUptoRow, standIns := [], harness := (true, "aea37d8a2929d3c7ad8fd6dd60db68f96aae26332b20f5ecb844a68ad42ab2b3"), looks := false }, kinds := [], alts := [], laidByText := true, laidKinds := [.data, .pinned], laidTests := true, laidLooks := .later }
def FnExactNumOfUptoCardSaid : Prop := Claim7.holds Tryd.pinned (.plain (OpenSpec.upto fnExactNumOfSpec)) fnExactNumOfUptoCard

/-- THE SECOND FORM's CARD OF 'laws.FnExactTruth'. -/
def fnExactTruthUptoCard : Claim7 := { stood := { row := fnExactTruthUptoRow, standIns := [], harness := (true, "aea37d8a2929d3c7ad8fd6dd60db68f96aae26332b20f5ecb844a68ad42ab2b3"), looks := false }, kinds := [], alts := [], laidByText := true, laidKinds := [.data, .pinned], laidTests := true, laidLooks := .later }
def FnExactTruthUptoCardSaid : Prop := Claim7.holds Tryd.pinned (.plain (OpenSpec.upto fnExactTruthSpec)) fnExactTruthUptoCard

/-- THE SECOND FORM's CARD OF 'laws.FnExactNumText'. -/
def fnExactNumTextUptoCard : Claim7 := { stood := { row := fnExactNumTextUptoRow, standIns := [], harness := (true, "aea37d8a2929d3c7ad8fd6dd60db68f96aae26332b20f5ecb844a68ad42ab2b3"), looks := false }, kinds := [], alts := [], laidByText := true, laidKinds := [.data, .data, .data, .data, .pinned], laidTests := true, laidLooks := .later }
def FnExactNumTextUptoCardSaid : Prop := Claim7.holds Tryd.pinned (.plain (OpenSpec.upto fnExactNumTextSpec)) fnExactNumTextUptoCard

/-- THE SECOND FORM's CARD OF 'laws.FnExactTokens'. -/
def fnExactTokensUptoCard : Claim7 := { stood := { row := fnExactTokensUptoRow, standIns := [], harness := (true, "aea37d8a2929d3c7ad8fd6dd60db68f96aae26332b20f5ecb844a68ad42ab2b3"), looks := false }, kinds := [], alts := [], laidByText := true, laidKinds := [.data, .pinned], laidTests := true, laidLooks := .later }
def FnExactTokensUptoCardSaid : Prop := Claim7.holds Tryd.pinned (.plain (OpenSpec.upto fnExactTokensSpec)) fnExactTokensUptoCard

/-- THE SECOND FORM's CARD OF 'laws.FnExactIsCanon'. -/
def fnExactIsCanonUptoCard : Claim7 := { stood := { row := fnExactIsCanonUptoRow, standIns := [], harness := (true, "aea37d8a2929d3c7ad8fd6dd60db68f96aae26332b20f5ecb844a68ad42ab2b3"), looks := false }, kinds := [], alts := [], laidByText := true, laidKinds := [.data, .data, .data, .data, .pinned], laidTests := true, laidLooks := .later }
def FnExactIsCanonUptoCardSaid : Prop := Claim7.holds Tryd.pinned (.plain (OpenSpec.upto fnExactIsCanonSpec)) fnExactIsCanonUptoCard

/-- THE SECOND FORM's CARD OF 'laws.FnExactBefore'. -/
def fnExactBeforeUptoCard : Claim7 := { stood := { row := fnExactBeforeUptoRow, standIns := [], harness := (true, "aea37d8a2929d3c7ad8fd6dd60db68f96aae26332b20f5ecb844a68ad42ab2b3"), looks := false }, kinds := [], alts := [], laidByText := true, laidKinds := [.data, .data, .data, .data, .pinned], laidTests := true, laidLooks := .later }
def FnExactBeforeUptoCardSaid : Prop := Claim7.holds Tryd.pinned (.plain (OpenSpec.upto fnExactBeforeSpec)) fnExactBeforeUptoCard

/-- THE SECOND FORM's CARD OF 'laws.FnExactUnOp'. -/
def fnExactUnOpUptoCard : Claim7 := { stood := { row := fnExactUnOpUptoRow, standIns := [], harness := (true, "aea37d8a2929d3c7ad8fd6dd60db68f96aae26332b20f5ecb844a68ad42ab2b3"), looks := false }, kinds := [], alts := [], laidByText := true, laidKinds := [.data, .data, .data, .data, .pinned], laidTests := true, laidLooks := .later }
def FnExactUnOpUptoCardSaid : Prop := Claim7.holds Tryd.pinned (.plain (OpenSpec.upto fnExactUnOpSpec)) fnExactUnOpUptoCard
end Rows
end Go.Proofs.YtablomklpmdboaaDoor
