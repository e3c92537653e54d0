/-
  DERIVED. GIVEN WITH THE SEED: THE CARDS: each row of YtdchcnggjamifaaDoorRows.lean that lists a variable, with what it lists TIED to the program's text (the seventh form; the later family's looks); each row that meets fmt, with fmt's text TOLD by the authors' own Lean function (tested against real Go, not proved from fmt's source: count such statements apart). THE CARD IS WHAT COUNTS. Prove the row's statement (the work); the ties are given (YtdchcnggjamifaaDoorTie.lean); close each card by the builder's one call (the guide's Derived/Test/ToyasCard.lean, 'card_holds'). Laid BY PROGRAM, IN A SANDBOX (cutbox-door.mjs). By AI agents, Wed Nov 11 2026. No macro, syntax, notation, axiom, sorry.
-/
import Derived.Test.YtdchcnggjamifaaDoorRows
import GoSem.ClaimSeven
namespace Go.Proofs.YtdchcnggjamifaaDoor
namespace Rows

/-- THE TIED CARD OF 'imageeditorlaw01.NumDivides'. -/
def numDividesCard : Claim7 := { stood := { row := numDividesRow, standIns := [], harness := (true, "7ef9bf1c13804ce2bcdf2efe0dc8752bfac4b14e3a10bcef9fd1690bf41ac967"), looks := false }, kinds := [], alts := [], laidByText := true, laidKinds := [.data], laidTests := true, laidLooks := .later }
def NumDividesCardSaid : Prop := Claim7.holds Tryd.pinned (.plain (OpenSpec.ofChange numDividesSpec)) numDividesCard

/-- THE TIED CARD OF 'imageeditorlaw01.NumUnits'. -/
def numUnitsCard : Claim7 := { stood := { row := numUnitsRow, standIns := [], harness := (true, "7ef9bf1c13804ce2bcdf2efe0dc8752bfac4b14e3a10bcef9fd1690bf41ac967"), looks := false }, kinds := [], alts := [], laidByText := true, laidKinds := [.data], laidTests := true, laidLooks := .later }
def NumUnitsCardSaid : Prop := Claim7.holds Tryd.pinned (.plain (OpenSpec.ofChange numUnitsSpec)) numUnitsCard

/-- THE TIED CARD OF 'imageeditorlaw01.NumFixes'. -/
def numFixesCard : Claim7 := { stood := { row := numFixesRow, standIns := [], harness := (true, "7ef9bf1c13804ce2bcdf2efe0dc8752bfac4b14e3a10bcef9fd1690bf41ac967"), looks := false }, kinds := [], alts := [], laidByText := true, laidKinds := [.data], laidTests := true, laidLooks := .later }
def NumFixesCardSaid : Prop := Claim7.holds Tryd.pinned (.plain (OpenSpec.ofChange numFixesSpec)) numFixesCard

/-- THE TIED CARD OF 'imageeditorlaw01.NumRoots'. -/
def numRootsCard : Claim7 := { stood := { row := numRootsRow, standIns := [], harness := (true, "7ef9bf1c13804ce2bcdf2efe0dc8752bfac4b14e3a10bcef9fd1690bf41ac967"), looks := false }, kinds := [], alts := [], laidByText := true, laidKinds := [.data], laidTests := true, laidLooks := .later }
def NumRootsCardSaid : Prop := Claim7.holds Tryd.pinned (.plain (OpenSpec.ofChange numRootsSpec)) numRootsCard

/-- THE TIED CARD OF 'imageeditorlaw01.NumTurns'. -/
def numTurnsCard : Claim7 := { stood := { row := numTurnsRow, standIns := [], harness := (true, "7ef9bf1c13804ce2bcdf2efe0dc8752bfac4b14e3a10bcef9fd1690bf41ac967"), looks := false }, kinds := [], alts := [], laidByText := true, laidKinds := [.data], laidTests := true, laidLooks := .later }
def NumTurnsCardSaid : Prop := Claim7.holds Tryd.pinned (.plain (OpenSpec.ofChange numTurnsSpec)) numTurnsCard

/-- THE TIED CARD OF 'imageeditorlaw01.NumQuotients'. -/
def numQuotientsCard : Claim7 := { stood := { row := numQuotientsRow, standIns := [], harness := (true, "7ef9bf1c13804ce2bcdf2efe0dc8752bfac4b14e3a10bcef9fd1690bf41ac967"), looks := false }, kinds := [], alts := [], laidByText := true, laidKinds := [.data], laidTests := true, laidLooks := .later }
def NumQuotientsCardSaid : Prop := Claim7.holds Tryd.pinned (.plain (OpenSpec.ofChange numQuotientsSpec)) numQuotientsCard

/-- THE TIED CARD OF 'imageeditorlaw01.NumInverts'. -/
def numInvertsCard : Claim7 := { stood := { row := numInvertsRow, standIns := [], harness := (true, "7ef9bf1c13804ce2bcdf2efe0dc8752bfac4b14e3a10bcef9fd1690bf41ac967"), looks := false }, kinds := [], alts := [], laidByText := true, laidKinds := [.data], laidTests := true, laidLooks := .later }
def NumInvertsCardSaid : Prop := Claim7.holds Tryd.pinned (.plain (OpenSpec.ofChange numInvertsSpec)) numInvertsCard

/-- THE TIED CARD OF 'imageeditorlaw01.NumSquares'. -/
def numSquaresCard : Claim7 := { stood := { row := numSquaresRow, standIns := [], harness := (true, "7ef9bf1c13804ce2bcdf2efe0dc8752bfac4b14e3a10bcef9fd1690bf41ac967"), looks := false }, kinds := [], alts := [], laidByText := true, laidKinds := [.data], laidTests := true, laidLooks := .later }
def NumSquaresCardSaid : Prop := Claim7.holds Tryd.pinned (.plain (OpenSpec.ofChange numSquaresSpec)) numSquaresCard

/-- THE TIED CARD OF 'imageeditorlaw01.NumCircles'. -/
def numCirclesCard : Claim7 := { stood := { row := numCirclesRow, standIns := [], harness := (true, "7ef9bf1c13804ce2bcdf2efe0dc8752bfac4b14e3a10bcef9fd1690bf41ac967"), looks := false }, kinds := [], alts := [], laidByText := true, laidKinds := [.data], laidTests := true, laidLooks := .later }
def NumCirclesCardSaid : Prop := Claim7.holds Tryd.pinned (.plain (OpenSpec.ofChange numCirclesSpec)) numCirclesCard

/-- THE SECOND FORM's CARD OF 'imageeditorlaw01.NumDivides'. -/
def numDividesUptoCard : Claim7 := { stood := { row := numDividesUptoRow, standIns := [], harness := (true, "7ef9bf1c13804ce2bcdf2efe0dc8752bfac4b14e3a10bcef9fd1690bf41ac967"), looks := false }, kinds := [], alts := [], laidByText := true, laidKinds := [.data], laidTests := true, laidLooks := .later }
def NumDividesUptoCardSaid : Prop := Claim7.holds Tryd.pinned (.plain (OpenSpec.upto numDividesSpec)) numDividesUptoCard

/-- THE SECOND FORM's CARD OF 'imageeditorlaw01.NumUnits'. -/
def numUnitsUptoCard : Claim7 := { stood := { row := numUnitsUptoRow, standIns := [], harness := (true, "7ef9bf1c13804ce2bcdf2efe0dc8752bfac4b14e3a10bcef9fd1690bf41ac967"), looks := false }, kinds := [], alts := [], laidByText := true, laidKinds := [.data], laidTests := true, laidLooks := .later }
def NumUnitsUptoCardSaid : Prop := Claim7.holds Tryd.pinned (.plain (OpenSpec.upto numUnitsSpec)) numUnitsUptoCard

/-- THE SECOND FORM's CARD OF 'imageeditorlaw01.NumFixes'. -/
def numFixesUptoCard : Claim7 := { stood := { row := numFixesUptoRow, standIns := [], harness := (true, "7ef9bf1c13804ce2bcdf2efe0dc8752bfac4b14e3a10bcef9fd1690bf41ac967"), looks := false }, kinds := [], alts := [], laidByText := true, laidKinds := [.data], laidTests := true, laidLooks := .later }
def NumFixesUptoCardSaid : Prop := Claim7.holds Tryd.pinned (.plain (OpenSpec.upto numFixesSpec)) numFixesUptoCard

/-- THE SECOND FORM's CARD OF 'imageeditorlaw01.NumRoots'. -/
def numRootsUptoCard : Claim7 := { stood := { row := numRootsUptoRow, standIns := [], harness := (true, "7ef9bf1c13804ce2bcdf2efe0dc8752bfac4b14e3a10bcef9fd1690bf41ac967"), looks := false }, kinds := [], alts := [], laidByText := true, laidKinds := [.data], laidTests := true, laidLooks := .later }
def NumRootsUptoCardSaid : Prop := Claim7.holds Tryd.pinned (.plain (OpenSpec.upto numRootsSpec)) numRootsUptoCard

/-- THE SECOND FORM's CARD OF 'imageeditorlaw01.NumTurns'. -/
def numTurnsUptoCard : Claim7 := { stood := { row := numTurnsUptoRow, standIns := [], harness := (true, "7ef9bf1c13804ce2bcdf2efe0dc8752bfac4b14e3a10bcef9fd1690bf41ac967"), looks := false }, kinds := [], alts := [], laidByText := true, laidKinds := [.data], laidTests := true, laidLooks := .later }
def NumTurnsUptoCardSaid : Prop := Claim7.holds Tryd.pinned (.plain (OpenSpec.upto numTurnsSpec)) numTurnsUptoCard

/-- THE SECOND FORM's CARD OF 'imageeditorlaw01.NumQuotients'. -/
def numQuotientsUptoCard : Claim7 := { stood := { row := numQuotientsUptoRow, standIns := [], harness := (true, "7ef9bf1c13804ce2bcdf2efe0dc8752bfac4b14e3a10bcef9fd1690bf41ac967"), looks := false }, kinds := [], alts := [], laidByText := true, laidKinds := [.data], laidTests := true, laidLooks := .later }
def NumQuotientsUptoCardSaid : Prop := Claim7.holds Tryd.pinned (.plain (OpenSpec.upto numQuotientsSpec)) numQuotientsUptoCard

/-- THE SECOND FORM's CARD OF 'imageeditorlaw01.NumInverts'. -/
def numInvertsUptoCard : Claim7 := { stood := { row := numInvertsUptoRow, standIns := [], harness := (true, "7ef9bf1c13804ce2bcdf2efe0dc8752bfac4b14e3a10bcef9fd1690bf41ac967"), looks := false }, kinds := [], alts := [], laidByText := true, laidKinds := [.data], laidTests := true, laidLooks := .later }
def NumInvertsUptoCardSaid : Prop := Claim7.holds Tryd.pinned (.plain (OpenSpec.upto numInvertsSpec)) numInvertsUptoCard

/-- THE SECOND FORM's CARD OF 'imageeditorlaw01.NumSquares'. -/
def numSquaresUptoCard : Claim7 := { stood := { row := numSquaresUptoRow, standIns := [], harness := (true, "7ef9bf1c13804ce2bcdf2efe0dc8752bfac4b14e3a10bcef9fd1690bf41ac967"), looks := false }, kinds := [], alts := [], laidByText := true, laidKinds := [.data], laidTests := true, laidLooks := .later }
def NumSquaresUptoCardSaid : Prop := Claim7.holds Tryd.pinned (.plain (OpenSpec.upto numSquaresSpec)) numSquaresUptoCard

/-- THE SECOND FORM's CARD OF 'imageeditorlaw01.NumCircles'. -/
def numCirclesUptoCard : Claim7 := { stood := { row := numCirclesUptoRow, standIns := [], harness := (true, "7ef9bf1c13804ce2bcdf2efe0dc8752bfac4b14e3a10bcef9fd1690bf41ac967"), looks := false }, kinds := [], alts := [], laidByText := true, laidKinds := [.data], laidTests := true, laidLooks := .later }
def NumCirclesUptoCardSaid : Prop := Claim7.holds Tryd.pinned (.plain (OpenSpec.upto numCirclesSpec)) numCirclesUptoCard
end Rows
end Go.Proofs.YtdchcnggjamifaaDoor
