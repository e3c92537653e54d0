/-
  DERIVED. GIVEN WITH THE SEED: THE CARDS: each row of YtflopcogalknhaaDoorRows.lean that lists a variable, with what it lists TIED to the program's text (the seventh form; the later family's looks); each row that meets fmt, with fmt's text TOLD by the authors' own Lean function (tested against real Go, not proved from fmt's source: count such statements apart). THE CARD IS WHAT COUNTS. Prove the row's statement (the work); the ties are given (YtflopcogalknhaaDoorTie.lean); close each card by the builder's one call (the guide's Derived/Test/ToyasCard.lean, 'card_holds'). Laid BY PROGRAM, IN A SANDBOX (cutbox-door.mjs). By AI agents, Wed Nov 11 2026. No macro, syntax, notation, axiom, sorry.
-/
import Derived.Test.YtflopcogalknhaaDoorRows
import GoSem.ClaimSeven
namespace Go.Proofs.YtflopcogalknhaaDoor
namespace Rows

/-- THE TIED CARD OF 'imageeditorlaw21.StrokeOutlines'. -/
def strokeOutlinesCard : Claim7 := { stood := { row := strokeOutlinesRow, standIns := [], harness := (true, "be33f99c9abda2ea7c20e69cb92bc745bad37e2e73a7561dc8991f93a18b8dc1"), looks := false }, kinds := [], alts := [], laidByText := true, laidKinds := [.data], laidTests := true, laidLooks := .later }
def StrokeOutlinesCardSaid : Prop := Claim7.holds Tryd.pinned (.plain (OpenSpec.ofChange strokeOutlinesSpec)) strokeOutlinesCard

/-- THE TIED CARD OF 'imageeditorlaw21.StrokeDashes'. -/
def strokeDashesCard : Claim7 := { stood := { row := strokeDashesRow, standIns := [], harness := (true, "be33f99c9abda2ea7c20e69cb92bc745bad37e2e73a7561dc8991f93a18b8dc1"), looks := false }, kinds := [], alts := [], laidByText := true, laidKinds := [.data], laidTests := true, laidLooks := .later }
def StrokeDashesCardSaid : Prop := Claim7.holds Tryd.pinned (.plain (OpenSpec.ofChange strokeDashesSpec)) strokeDashesCard

/-- THE TIED CARD OF 'imageeditorlaw21.StrokePositive'. -/
def strokePositiveCard : Claim7 := { stood := { row := strokePositiveRow, standIns := [], harness := (true, "be33f99c9abda2ea7c20e69cb92bc745bad37e2e73a7561dc8991f93a18b8dc1"), looks := false }, kinds := [], alts := [], laidByText := true, laidKinds := [.data], laidTests := true, laidLooks := .later }
def StrokePositiveCardSaid : Prop := Claim7.holds Tryd.pinned (.plain (OpenSpec.ofChange strokePositiveSpec)) strokePositiveCard

/-- THE TIED CARD OF 'imageeditorlaw21.StrokeStraight'. -/
def strokeStraightCard : Claim7 := { stood := { row := strokeStraightRow, standIns := [], harness := (true, "be33f99c9abda2ea7c20e69cb92bc745bad37e2e73a7561dc8991f93a18b8dc1"), looks := false }, kinds := [], alts := [], laidByText := true, laidKinds := [.data], laidTests := true, laidLooks := .later }
def StrokeStraightCardSaid : Prop := Claim7.holds Tryd.pinned (.plain (OpenSpec.ofChange strokeStraightSpec)) strokeStraightCard

/-- THE TIED CARD OF 'imageeditorlaw21.StrokeMoves'. -/
def strokeMovesCard : Claim7 := { stood := { row := strokeMovesRow, standIns := [], harness := (true, "be33f99c9abda2ea7c20e69cb92bc745bad37e2e73a7561dc8991f93a18b8dc1"), looks := false }, kinds := [], alts := [], laidByText := true, laidKinds := [.data], laidTests := true, laidLooks := .later }
def StrokeMovesCardSaid : Prop := Claim7.holds Tryd.pinned (.plain (OpenSpec.ofChange strokeMovesSpec)) strokeMovesCard

/-- THE TIED CARD OF 'imageeditorlaw21.StrokeUnits'. -/
def strokeUnitsCard : Claim7 := { stood := { row := strokeUnitsRow, standIns := [], harness := (true, "be33f99c9abda2ea7c20e69cb92bc745bad37e2e73a7561dc8991f93a18b8dc1"), looks := false }, kinds := [], alts := [], laidByText := true, laidKinds := [.data], laidTests := true, laidLooks := .later }
def StrokeUnitsCardSaid : Prop := Claim7.holds Tryd.pinned (.plain (OpenSpec.ofChange strokeUnitsSpec)) strokeUnitsCard

/-- THE SECOND FORM's CARD OF 'imageeditorlaw21.StrokeOutlines'. -/
def strokeOutlinesUptoCard : Claim7 := { stood := { row := strokeOutlinesUptoRow, standIns := [], harness := (true, "be33f99c9abda2ea7c20e69cb92bc745bad37e2e73a7561dc8991f93a18b8dc1"), looks := false }, kinds := [], alts := [], laidByText := true, laidKinds := [.data], laidTests := true, laidLooks := .later }
def StrokeOutlinesUptoCardSaid : Prop := Claim7.holds Tryd.pinned (.plain (OpenSpec.upto strokeOutlinesSpec)) strokeOutlinesUptoCard

/-- THE SECOND FORM's CARD OF 'imageeditorlaw21.StrokeDashes'. -/
def strokeDashesUptoCard : Claim7 := { stood := { row := strokeDashesUptoRow, standIns := [], harness := (true, "be33f99c9abda2ea7c20e69cb92bc745bad37e2e73a7561dc8991f93a18b8dc1"), looks := false }, kinds := [], alts := [], laidByText := true, laidKinds := [.data], laidTests := true, laidLooks := .later }
def StrokeDashesUptoCardSaid : Prop := Claim7.holds Tryd.pinned (.plain (OpenSpec.upto strokeDashesSpec)) strokeDashesUptoCard

/-- THE SECOND FORM's CARD OF 'imageeditorlaw21.StrokePositive'. -/
def strokePositiveUptoCard : Claim7 := { stood := { row := strokePositiveUptoRow, standIns := [], harness := (true, "be33f99c9abda2ea7c20e69cb92bc745bad37e2e73a7561dc8991f93a18b8dc1"), looks := false }, kinds := [], alts := [], laidByText := true, laidKinds := [.data], laidTests := true, laidLooks := .later }
def StrokePositiveUptoCardSaid : Prop := Claim7.holds Tryd.pinned (.plain (OpenSpec.upto strokePositiveSpec)) strokePositiveUptoCard

/-- THE SECOND FORM's CARD OF 'imageeditorlaw21.StrokeStraight'. -/
def strokeStraightUptoCard : Claim7 := { stood := { row := strokeStraightUptoRow, standIns := [], harness := (true, "be33f99c9abda2ea7c20e69cb92bc745bad37e2e73a7561dc8991f93a18b8dc1"), looks := false }, kinds := [], alts := [], laidByText := true, laidKinds := [.data], laidTests := true, laidLooks := .later }
def StrokeStraightUptoCardSaid : Prop := Claim7.holds Tryd.pinned (.plain (OpenSpec.upto strokeStraightSpec)) strokeStraightUptoCard

/-- THE SECOND FORM's CARD OF 'imageeditorlaw21.StrokeMoves'. -/
def strokeMovesUptoCard : Claim7 := { stood := { row := strokeMovesUptoRow, standIns := [], harness := (true, "be33f99c9abda2ea7c20e69cb92bc745bad37e2e73a7561dc8991f93a18b8dc1"), looks := false }, kinds := [], alts := [], laidByText := true, laidKinds := [.data], laidTests := true, laidLooks := .later }
def StrokeMovesUptoCardSaid : Prop := Claim7.holds Tryd.pinned (.plain (OpenSpec.upto strokeMovesSpec)) strokeMovesUptoCard

/-- THE SECOND FORM's CARD OF 'imageeditorlaw21.StrokeUnits'. -/
def strokeUnitsUptoCard : Claim7 := { stood := { row := strokeUnitsUptoRow, standIns := [], harness := (true, "be33f99c9abda2ea7c20e69cb92bc745bad37e2e73a7561dc8991f93a18b8dc1"), looks := false }, kinds := [], alts := [], laidByText := true, laidKinds := [.data], laidTests := true, laidLooks := .later }
def StrokeUnitsUptoCardSaid : Prop := Claim7.holds Tryd.pinned (.plain (OpenSpec.upto strokeUnitsSpec)) strokeUnitsUptoCard
end Rows
end Go.Proofs.YtflopcogalknhaaDoor
