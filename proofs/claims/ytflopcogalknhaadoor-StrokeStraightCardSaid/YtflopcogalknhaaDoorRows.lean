/-
  NARROWER THAN 'FOR EVERY INPUT', by the rows' own cells (each row's printed sentence says how): StrokeOutlines: laid · StrokeDashes: laid · StrokePositive: laid · StrokeStraight: laid · StrokeMoves: laid · StrokeUnits: laid.
  DERIVED. THE GIVEN ROWS OF THIS SEAT. 6 by the template 'for every input the law returns true; each argument reads behind the call as it read before'; 0 by the template 'total and deterministic' (their statements: YtflopcogalknhaaDoorTotals.lean).
  GIVEN WITH THE SEED: the statements are not yours to turn. If you find one false, say at which input.
  Laid BY PROGRAM, IN A SANDBOX (cutbox-rows.mjs): the forced cells as the released guide's own fill.sh prints them over the translation 1420e357c157b581… (all of the seat's roots in one cut). By AI agents, Wed Nov 11 2026. No macro, syntax, notation, axiom, sorry.
-/
import Derived.Test.YtflopcogalknhaaDoorChecked
import GoSem.Claim
import GoSem.ClaimJoined
import GoSem.ClaimMapViews
import Derived.JoinedTies
import Derived.KernelRfl
namespace Go.Proofs.YtflopcogalknhaaDoor
/- THE CELL 'sum', in the pinned program and in every row, IS THE sha256 OF THE DUMP (.gsa) THAT YtflopcogalknhaaDoorProg.lean LOADS. Nothing in Lean hashes anything: it is a label: what it is worth is what the hold of that sum in a sandbox is worth. -/
noncomputable def Tryd.pinned : Pinned := { name := "ytflopcogalknhaadoor", sum := "1420e357c157b581b00f1c11fab3400d19568f86d31bdda92277179865d679ae", checked := Tryd.checked }
namespace Rows
def none {H : Type} : Left H := { results := [], args := [] }

/- WHAT THE LISTED PACKAGE-LEVEL VARIABLES READ AS WHEN THE CALL BEGINS. Each datum BY PROGRAM (the guide's laid-datum.mjs) off the statement by which the dump's own 'gosem.cut.vars' lays the variable. In a bare row this is a premise. The card (YtflopcogalknhaaDoorCards.lean) ties it to the program's text. -/
def laid_imageeditor_num_sines {H : Type} : DataW H := .agg [.lit (.int .i64 0), .lit (.int .i64 1608), .lit (.int .i64 3216), .lit (.int .i64 4821), .lit (.int .i64 6424), .lit (.int .i64 8022), .lit (.int .i64 9616), .lit (.int .i64 11204), .lit (.int .i64 12785), .lit (.int .i64 14359), .lit (.int .i64 15924), .lit (.int .i64 17479), .lit (.int .i64 19024), .lit (.int .i64 20557), .lit (.int .i64 22078), .lit (.int .i64 23586), .lit (.int .i64 25080), .lit (.int .i64 26558), .lit (.int .i64 28020), .lit (.int .i64 29466), .lit (.int .i64 30893), .lit (.int .i64 32303), .lit (.int .i64 33692), .lit (.int .i64 35062), .lit (.int .i64 36410), .lit (.int .i64 37736), .lit (.int .i64 39040), .lit (.int .i64 40320), .lit (.int .i64 41576), .lit (.int .i64 42806), .lit (.int .i64 44011), .lit (.int .i64 45190), .lit (.int .i64 46341), .lit (.int .i64 47464), .lit (.int .i64 48559), .lit (.int .i64 49624), .lit (.int .i64 50660), .lit (.int .i64 51665), .lit (.int .i64 52639), .lit (.int .i64 53581), .lit (.int .i64 54491), .lit (.int .i64 55368), .lit (.int .i64 56212), .lit (.int .i64 57022), .lit (.int .i64 57798), .lit (.int .i64 58538), .lit (.int .i64 59244), .lit (.int .i64 59914), .lit (.int .i64 60547), .lit (.int .i64 61145), .lit (.int .i64 61705), .lit (.int .i64 62228), .lit (.int .i64 62714), .lit (.int .i64 63162), .lit (.int .i64 63572), .lit (.int .i64 63944), .lit (.int .i64 64277), .lit (.int .i64 64571), .lit (.int .i64 64827), .lit (.int .i64 65043), .lit (.int .i64 65220), .lit (.int .i64 65358), .lit (.int .i64 65457), .lit (.int .i64 65516), .lit (.int .i64 65536)]

/-- 'imageeditorlaw21.StrokeOutlines': WHATEVER THE INPUT: true; the input reads as it did. -/
def strokeOutlinesSpec : ChangeSpec := { name := "strokeOutlines", fn := fun _ => fun
  | [d1, d2, d3, d4, d5] => { results := [.lit (.bool true)], args := [d1, d2, d3, d4, d5] }
  | _ => none }
def strokeOutlinesRow : OpenClaim := { program := "ytflopcogalknhaadoor", sum := "1420e357c157b581b00f1c11fab3400d19568f86d31bdda92277179865d679ae", func := "imageeditor/imageeditorlaw21.StrokeOutlines", spec := "strokeOutlines", inPlace := ["math/bits.Add64"], unfollowed := true, recurses := true, named := ["imageeditor/num.sines"], apart := false, laid := [("imageeditor/num.sines", laid_imageeditor_num_sines)] }
def StrokeOutlinesSaid : Prop := strokeOutlinesRow.holds Tryd.pinned (OpenSpec.ofChange strokeOutlinesSpec)

/-- ITS FALSE NEIGHBOUR: 'it returns false'. Refute it at one input. -/
def strokeOutlinesWrong : ChangeSpec := { name := "strokeOutlines", fn := fun _ => fun
  | [d1, d2, d3, d4, d5] => { results := [.lit (.bool false)], args := [d1, d2, d3, d4, d5] }
  | _ => none }
def StrokeOutlinesWrongFalsely : Prop := strokeOutlinesRow.holds Tryd.pinned (OpenSpec.ofChange strokeOutlinesWrong)

/-- 'imageeditorlaw21.StrokeDashes': WHATEVER THE INPUT: true; the input reads as it did. -/
def strokeDashesSpec : ChangeSpec := { name := "strokeDashes", fn := fun _ => fun
  | [d1, d2, d3, d4] => { results := [.lit (.bool true)], args := [d1, d2, d3, d4] }
  | _ => none }
def strokeDashesRow : OpenClaim := { program := "ytflopcogalknhaadoor", sum := "1420e357c157b581b00f1c11fab3400d19568f86d31bdda92277179865d679ae", func := "imageeditor/imageeditorlaw21.StrokeDashes", spec := "strokeDashes", inPlace := ["math/bits.Add64"], unfollowed := true, recurses := true, named := ["imageeditor/num.sines"], apart := false, laid := [("imageeditor/num.sines", laid_imageeditor_num_sines)] }
def StrokeDashesSaid : Prop := strokeDashesRow.holds Tryd.pinned (OpenSpec.ofChange strokeDashesSpec)

/-- ITS FALSE NEIGHBOUR: 'it returns false'. Refute it at one input. -/
def strokeDashesWrong : ChangeSpec := { name := "strokeDashes", fn := fun _ => fun
  | [d1, d2, d3, d4] => { results := [.lit (.bool false)], args := [d1, d2, d3, d4] }
  | _ => none }
def StrokeDashesWrongFalsely : Prop := strokeDashesRow.holds Tryd.pinned (OpenSpec.ofChange strokeDashesWrong)

/-- 'imageeditorlaw21.StrokePositive': WHATEVER THE INPUT: true; the input reads as it did. -/
def strokePositiveSpec : ChangeSpec := { name := "strokePositive", fn := fun _ => fun
  | [d1, d2, d3, d4, d5] => { results := [.lit (.bool true)], args := [d1, d2, d3, d4, d5] }
  | _ => none }
def strokePositiveRow : OpenClaim := { program := "ytflopcogalknhaadoor", sum := "1420e357c157b581b00f1c11fab3400d19568f86d31bdda92277179865d679ae", func := "imageeditor/imageeditorlaw21.StrokePositive", spec := "strokePositive", inPlace := ["math/bits.Add64"], unfollowed := true, recurses := true, named := ["imageeditor/num.sines"], apart := false, laid := [("imageeditor/num.sines", laid_imageeditor_num_sines)] }
def StrokePositiveSaid : Prop := strokePositiveRow.holds Tryd.pinned (OpenSpec.ofChange strokePositiveSpec)

/-- ITS FALSE NEIGHBOUR: 'it returns false'. Refute it at one input. -/
def strokePositiveWrong : ChangeSpec := { name := "strokePositive", fn := fun _ => fun
  | [d1, d2, d3, d4, d5] => { results := [.lit (.bool false)], args := [d1, d2, d3, d4, d5] }
  | _ => none }
def StrokePositiveWrongFalsely : Prop := strokePositiveRow.holds Tryd.pinned (OpenSpec.ofChange strokePositiveWrong)

/-- 'imageeditorlaw21.StrokeStraight': WHATEVER THE INPUT: true; the input reads as it did. -/
def strokeStraightSpec : ChangeSpec := { name := "strokeStraight", fn := fun _ => fun
  | [d1, d2, d3, d4, d5] => { results := [.lit (.bool true)], args := [d1, d2, d3, d4, d5] }
  | _ => none }
def strokeStraightRow : OpenClaim := { program := "ytflopcogalknhaadoor", sum := "1420e357c157b581b00f1c11fab3400d19568f86d31bdda92277179865d679ae", func := "imageeditor/imageeditorlaw21.StrokeStraight", spec := "strokeStraight", inPlace := ["math/bits.Add64"], unfollowed := true, recurses := true, named := ["imageeditor/num.sines"], apart := false, laid := [("imageeditor/num.sines", laid_imageeditor_num_sines)] }
def StrokeStraightSaid : Prop := strokeStraightRow.holds Tryd.pinned (OpenSpec.ofChange strokeStraightSpec)

/-- ITS FALSE NEIGHBOUR: 'it returns false'. Refute it at one input. -/
def strokeStraightWrong : ChangeSpec := { name := "strokeStraight", fn := fun _ => fun
  | [d1, d2, d3, d4, d5] => { results := [.lit (.bool false)], args := [d1, d2, d3, d4, d5] }
  | _ => none }
def StrokeStraightWrongFalsely : Prop := strokeStraightRow.holds Tryd.pinned (OpenSpec.ofChange strokeStraightWrong)

/-- 'imageeditorlaw21.StrokeMoves': WHATEVER THE INPUT: true; the input reads as it did. -/
def strokeMovesSpec : ChangeSpec := { name := "strokeMoves", fn := fun _ => fun
  | [d1, d2, d3, d4, d5, d6, d7] => { results := [.lit (.bool true)], args := [d1, d2, d3, d4, d5, d6, d7] }
  | _ => none }
def strokeMovesRow : OpenClaim := { program := "ytflopcogalknhaadoor", sum := "1420e357c157b581b00f1c11fab3400d19568f86d31bdda92277179865d679ae", func := "imageeditor/imageeditorlaw21.StrokeMoves", spec := "strokeMoves", inPlace := ["math/bits.Add64"], unfollowed := true, recurses := true, named := ["imageeditor/num.sines"], apart := false, laid := [("imageeditor/num.sines", laid_imageeditor_num_sines)] }
def StrokeMovesSaid : Prop := strokeMovesRow.holds Tryd.pinned (OpenSpec.ofChange strokeMovesSpec)

/-- ITS FALSE NEIGHBOUR: 'it returns false'. Refute it at one input. -/
def strokeMovesWrong : ChangeSpec := { name := "strokeMoves", fn := fun _ => fun
  | [d1, d2, d3, d4, d5, d6, d7] => { results := [.lit (.bool false)], args := [d1, d2, d3, d4, d5, d6, d7] }
  | _ => none }
def StrokeMovesWrongFalsely : Prop := strokeMovesRow.holds Tryd.pinned (OpenSpec.ofChange strokeMovesWrong)

/-- 'imageeditorlaw21.StrokeUnits': WHATEVER THE INPUT: true; the input reads as it did. -/
def strokeUnitsSpec : ChangeSpec := { name := "strokeUnits", fn := fun _ => fun
  | [d1, d2, d3] => { results := [.lit (.bool true)], args := [d1, d2, d3] }
  | _ => none }
def strokeUnitsRow : OpenClaim := { program := "ytflopcogalknhaadoor", sum := "1420e357c157b581b00f1c11fab3400d19568f86d31bdda92277179865d679ae", func := "imageeditor/imageeditorlaw21.StrokeUnits", spec := "strokeUnits", inPlace := ["math/bits.Add64"], unfollowed := true, recurses := true, named := ["imageeditor/num.sines"], apart := false, laid := [("imageeditor/num.sines", laid_imageeditor_num_sines)] }
def StrokeUnitsSaid : Prop := strokeUnitsRow.holds Tryd.pinned (OpenSpec.ofChange strokeUnitsSpec)

/-- ITS FALSE NEIGHBOUR: 'it returns false'. Refute it at one input. -/
def strokeUnitsWrong : ChangeSpec := { name := "strokeUnits", fn := fun _ => fun
  | [d1, d2, d3] => { results := [.lit (.bool false)], args := [d1, d2, d3] }
  | _ => none }
def StrokeUnitsWrongFalsely : Prop := strokeUnitsRow.holds Tryd.pinned (OpenSpec.ofChange strokeUnitsWrong)

/- THE SECOND FORM. 'bulk': how many values and letters a reading holds, each counted each time it is reached (what is shared counts as often as it is met; a slice's spare places count too). A statement '..UptoSaid' is the law's where the arguments, and the package variables that the reading takes, are together of bulk at most 1048576: NARROWER than '..Said'. Prove '..Said' where nothing that the law and all that it calls make is longer than what came in: it says more and counts as full. Else prove '..UptoSaid'. A law counts once. -/
mutual
def uptoBulk {H : Type} : DataW H → Nat
  | .lit (.string bytes) => bytes.length + 1
  | .lit _ => 1
  | .nil => 1
  | .ptr d => uptoBulk d + 1
  | .slice elems spare => uptoBulkAll elems + uptoBulkAll spare + 1
  | .agg parts => uptoBulkAll parts + 1
  | .iface _ d => uptoBulk d + 1
  | .map entries => uptoBulkEntries entries + 1
  | .held _ => 1
def uptoBulkAll {H : Type} : List (DataW H) → Nat
  | [] => 0
  | d :: r => uptoBulk d + uptoBulkAll r
def uptoBulkEntries {H : Type} : List (Lit × DataW H) → Nat
  | [] => 0
  | x :: r => uptoBulkEntry x + uptoBulkEntries r
def uptoBulkEntry {H : Type} : Lit × DataW H → Nat
  | (.string bytes, d) => bytes.length + uptoBulk d + 1
  | (_, d) => uptoBulk d + 1
 end
def uptoSmall : (H : Type) → List (DataW H) → Bool := fun _ ds => decide (uptoBulkAll ds ≤ 1048576)
def OpenSpec.upto (s : _root_.Go.ChangeSpec) : _root_.Go.OpenSpec := { _root_.Go.OpenSpec.ofChange s with cond := some uptoSmall }

/-- 'imageeditorlaw21.StrokeOutlines', WHERE WHAT IT READS IS OF BULK AT MOST 1048576: true; the input reads as it did. -/
def strokeOutlinesUptoRow : OpenClaim := { program := "ytflopcogalknhaadoor", sum := "1420e357c157b581b00f1c11fab3400d19568f86d31bdda92277179865d679ae", func := "imageeditor/imageeditorlaw21.StrokeOutlines", spec := "strokeOutlines", inPlace := ["math/bits.Add64"], unfollowed := true, recurses := true, named := ["imageeditor/num.sines"], apart := false, laid := [("imageeditor/num.sines", laid_imageeditor_num_sines)], narrowed := true }
def StrokeOutlinesUptoSaid : Prop := strokeOutlinesUptoRow.holds Tryd.pinned (OpenSpec.upto strokeOutlinesSpec)

/-- 'imageeditorlaw21.StrokeDashes', WHERE WHAT IT READS IS OF BULK AT MOST 1048576: true; the input reads as it did. -/
def strokeDashesUptoRow : OpenClaim := { program := "ytflopcogalknhaadoor", sum := "1420e357c157b581b00f1c11fab3400d19568f86d31bdda92277179865d679ae", func := "imageeditor/imageeditorlaw21.StrokeDashes", spec := "strokeDashes", inPlace := ["math/bits.Add64"], unfollowed := true, recurses := true, named := ["imageeditor/num.sines"], apart := false, laid := [("imageeditor/num.sines", laid_imageeditor_num_sines)], narrowed := true }
def StrokeDashesUptoSaid : Prop := strokeDashesUptoRow.holds Tryd.pinned (OpenSpec.upto strokeDashesSpec)

/-- 'imageeditorlaw21.StrokePositive', WHERE WHAT IT READS IS OF BULK AT MOST 1048576: true; the input reads as it did. -/
def strokePositiveUptoRow : OpenClaim := { program := "ytflopcogalknhaadoor", sum := "1420e357c157b581b00f1c11fab3400d19568f86d31bdda92277179865d679ae", func := "imageeditor/imageeditorlaw21.StrokePositive", spec := "strokePositive", inPlace := ["math/bits.Add64"], unfollowed := true, recurses := true, named := ["imageeditor/num.sines"], apart := false, laid := [("imageeditor/num.sines", laid_imageeditor_num_sines)], narrowed := true }
def StrokePositiveUptoSaid : Prop := strokePositiveUptoRow.holds Tryd.pinned (OpenSpec.upto strokePositiveSpec)

/-- 'imageeditorlaw21.StrokeStraight', WHERE WHAT IT READS IS OF BULK AT MOST 1048576: true; the input reads as it did. -/
def strokeStraightUptoRow : OpenClaim := { program := "ytflopcogalknhaadoor", sum := "1420e357c157b581b00f1c11fab3400d19568f86d31bdda92277179865d679ae", func := "imageeditor/imageeditorlaw21.StrokeStraight", spec := "strokeStraight", inPlace := ["math/bits.Add64"], unfollowed := true, recurses := true, named := ["imageeditor/num.sines"], apart := false, laid := [("imageeditor/num.sines", laid_imageeditor_num_sines)], narrowed := true }
def StrokeStraightUptoSaid : Prop := strokeStraightUptoRow.holds Tryd.pinned (OpenSpec.upto strokeStraightSpec)

/-- 'imageeditorlaw21.StrokeMoves', WHERE WHAT IT READS IS OF BULK AT MOST 1048576: true; the input reads as it did. -/
def strokeMovesUptoRow : OpenClaim := { program := "ytflopcogalknhaadoor", sum := "1420e357c157b581b00f1c11fab3400d19568f86d31bdda92277179865d679ae", func := "imageeditor/imageeditorlaw21.StrokeMoves", spec := "strokeMoves", inPlace := ["math/bits.Add64"], unfollowed := true, recurses := true, named := ["imageeditor/num.sines"], apart := false, laid := [("imageeditor/num.sines", laid_imageeditor_num_sines)], narrowed := true }
def StrokeMovesUptoSaid : Prop := strokeMovesUptoRow.holds Tryd.pinned (OpenSpec.upto strokeMovesSpec)

/-- 'imageeditorlaw21.StrokeUnits', WHERE WHAT IT READS IS OF BULK AT MOST 1048576: true; the input reads as it did. -/
def strokeUnitsUptoRow : OpenClaim := { program := "ytflopcogalknhaadoor", sum := "1420e357c157b581b00f1c11fab3400d19568f86d31bdda92277179865d679ae", func := "imageeditor/imageeditorlaw21.StrokeUnits", spec := "strokeUnits", inPlace := ["math/bits.Add64"], unfollowed := true, recurses := true, named := ["imageeditor/num.sines"], apart := false, laid := [("imageeditor/num.sines", laid_imageeditor_num_sines)], narrowed := true }
def StrokeUnitsUptoSaid : Prop := strokeUnitsUptoRow.holds Tryd.pinned (OpenSpec.upto strokeUnitsSpec)

end Rows
end Go.Proofs.YtflopcogalknhaaDoor
