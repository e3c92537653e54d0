/-
  NARROWER THAN 'FOR EVERY INPUT', by the rows' own cells (each row's printed sentence says how): NumDivides: laid · NumUnits: laid · NumFixes: laid · NumRoots: laid · NumTurns: laid · NumQuotients: laid · NumInverts: laid · NumSquares: laid · NumCircles: laid.
  DERIVED. THE GIVEN ROWS OF THIS SEAT. 9 by the template 'for every input the law returns true; each argument reads behind the call as it read before'; 0 by the template 'total and deterministic' (their statements: YtdchcnggjamifaaDoorTotals.lean).
  GIVEN WITH THE SEED: the statements are not yours to turn. If you find one false, say at which input.
  Laid BY PROGRAM, IN A SANDBOX (cutbox-rows.mjs): the forced cells as the released guide's own fill.sh prints them over the translation 49bbef6fcbd2f12d… (all of the seat's roots in one cut). By AI agents, Wed Nov 11 2026. No macro, syntax, notation, axiom, sorry.
-/
import Derived.Test.YtdchcnggjamifaaDoorChecked
import GoSem.Claim
import GoSem.ClaimJoined
import GoSem.ClaimMapViews
import Derived.JoinedTies
import Derived.KernelRfl
namespace Go.Proofs.YtdchcnggjamifaaDoor
/- THE CELL 'sum', in the pinned program and in every row, IS THE sha256 OF THE DUMP (.gsa) THAT YtdchcnggjamifaaDoorProg.lean LOADS. Nothing in Lean hashes anything: it is a label: what it is worth is what the hold of that sum in a sandbox is worth. -/
noncomputable def Tryd.pinned : Pinned := { name := "ytdchcnggjamifaadoor", sum := "49bbef6fcbd2f12d56b06a70422a426b5baff41e42c473cf5abd84c80f0ff1c9", checked := Tryd.checked }
namespace Rows
def none {H : Type} : Left H := { results := [], args := [] }

/- WHAT THE LISTED PACKAGE-LEVEL VARIABLES READ AS WHEN THE CALL BEGINS. Each datum BY PROGRAM (the guide's laid-datum.mjs) off the statement by which the dump's own 'gosem.cut.vars' lays the variable. In a bare row this is a premise. The card (YtdchcnggjamifaaDoorCards.lean) ties it to the program's text. -/
def laid_imageeditor_num_sines {H : Type} : DataW H := .agg [.lit (.int .i64 0), .lit (.int .i64 1608), .lit (.int .i64 3216), .lit (.int .i64 4821), .lit (.int .i64 6424), .lit (.int .i64 8022), .lit (.int .i64 9616), .lit (.int .i64 11204), .lit (.int .i64 12785), .lit (.int .i64 14359), .lit (.int .i64 15924), .lit (.int .i64 17479), .lit (.int .i64 19024), .lit (.int .i64 20557), .lit (.int .i64 22078), .lit (.int .i64 23586), .lit (.int .i64 25080), .lit (.int .i64 26558), .lit (.int .i64 28020), .lit (.int .i64 29466), .lit (.int .i64 30893), .lit (.int .i64 32303), .lit (.int .i64 33692), .lit (.int .i64 35062), .lit (.int .i64 36410), .lit (.int .i64 37736), .lit (.int .i64 39040), .lit (.int .i64 40320), .lit (.int .i64 41576), .lit (.int .i64 42806), .lit (.int .i64 44011), .lit (.int .i64 45190), .lit (.int .i64 46341), .lit (.int .i64 47464), .lit (.int .i64 48559), .lit (.int .i64 49624), .lit (.int .i64 50660), .lit (.int .i64 51665), .lit (.int .i64 52639), .lit (.int .i64 53581), .lit (.int .i64 54491), .lit (.int .i64 55368), .lit (.int .i64 56212), .lit (.int .i64 57022), .lit (.int .i64 57798), .lit (.int .i64 58538), .lit (.int .i64 59244), .lit (.int .i64 59914), .lit (.int .i64 60547), .lit (.int .i64 61145), .lit (.int .i64 61705), .lit (.int .i64 62228), .lit (.int .i64 62714), .lit (.int .i64 63162), .lit (.int .i64 63572), .lit (.int .i64 63944), .lit (.int .i64 64277), .lit (.int .i64 64571), .lit (.int .i64 64827), .lit (.int .i64 65043), .lit (.int .i64 65220), .lit (.int .i64 65358), .lit (.int .i64 65457), .lit (.int .i64 65516), .lit (.int .i64 65536)]

/-- 'imageeditorlaw01.NumDivides': WHATEVER THE INPUT: true; the input reads as it did. -/
def numDividesSpec : ChangeSpec := { name := "numDivides", fn := fun _ => fun
  | [d1, d2, d3] => { results := [.lit (.bool true)], args := [d1, d2, d3] }
  | _ => none }
def numDividesRow : OpenClaim := { program := "ytdchcnggjamifaadoor", sum := "49bbef6fcbd2f12d56b06a70422a426b5baff41e42c473cf5abd84c80f0ff1c9", func := "imageeditor/imageeditorlaw01.NumDivides", spec := "numDivides", inPlace := ["math/bits.Add64"], named := ["imageeditor/num.sines", "math/bits.divideError", "math/bits.overflowError"], apart := false, laid := [("imageeditor/num.sines", laid_imageeditor_num_sines)] }
def NumDividesSaid : Prop := numDividesRow.holds Tryd.pinned (OpenSpec.ofChange numDividesSpec)

/-- ITS FALSE NEIGHBOUR: 'it returns false'. Refute it at one input. -/
def numDividesWrong : ChangeSpec := { name := "numDivides", fn := fun _ => fun
  | [d1, d2, d3] => { results := [.lit (.bool false)], args := [d1, d2, d3] }
  | _ => none }
def NumDividesWrongFalsely : Prop := numDividesRow.holds Tryd.pinned (OpenSpec.ofChange numDividesWrong)

/-- 'imageeditorlaw01.NumUnits': WHATEVER THE INPUT: true; the input reads as it did. -/
def numUnitsSpec : ChangeSpec := { name := "numUnits", fn := fun _ => fun
  | [d1, d2, d3] => { results := [.lit (.bool true)], args := [d1, d2, d3] }
  | _ => none }
def numUnitsRow : OpenClaim := { program := "ytdchcnggjamifaadoor", sum := "49bbef6fcbd2f12d56b06a70422a426b5baff41e42c473cf5abd84c80f0ff1c9", func := "imageeditor/imageeditorlaw01.NumUnits", spec := "numUnits", inPlace := ["math/bits.Add64"], named := ["imageeditor/num.sines", "math/bits.divideError", "math/bits.overflowError"], apart := false, laid := [("imageeditor/num.sines", laid_imageeditor_num_sines)] }
def NumUnitsSaid : Prop := numUnitsRow.holds Tryd.pinned (OpenSpec.ofChange numUnitsSpec)

/-- ITS FALSE NEIGHBOUR: 'it returns false'. Refute it at one input. -/
def numUnitsWrong : ChangeSpec := { name := "numUnits", fn := fun _ => fun
  | [d1, d2, d3] => { results := [.lit (.bool false)], args := [d1, d2, d3] }
  | _ => none }
def NumUnitsWrongFalsely : Prop := numUnitsRow.holds Tryd.pinned (OpenSpec.ofChange numUnitsWrong)

/-- 'imageeditorlaw01.NumFixes': WHATEVER THE INPUT: true; the input reads as it did. -/
def numFixesSpec : ChangeSpec := { name := "numFixes", fn := fun _ => fun
  | [d1, d2] => { results := [.lit (.bool true)], args := [d1, d2] }
  | _ => none }
def numFixesRow : OpenClaim := { program := "ytdchcnggjamifaadoor", sum := "49bbef6fcbd2f12d56b06a70422a426b5baff41e42c473cf5abd84c80f0ff1c9", func := "imageeditor/imageeditorlaw01.NumFixes", spec := "numFixes", inPlace := ["math/bits.Add64"], named := ["math/bits.divideError", "math/bits.overflowError", "imageeditor/num.sines"], apart := false, laid := [("imageeditor/num.sines", laid_imageeditor_num_sines)] }
def NumFixesSaid : Prop := numFixesRow.holds Tryd.pinned (OpenSpec.ofChange numFixesSpec)

/-- ITS FALSE NEIGHBOUR: 'it returns false'. Refute it at one input. -/
def numFixesWrong : ChangeSpec := { name := "numFixes", fn := fun _ => fun
  | [d1, d2] => { results := [.lit (.bool false)], args := [d1, d2] }
  | _ => none }
def NumFixesWrongFalsely : Prop := numFixesRow.holds Tryd.pinned (OpenSpec.ofChange numFixesWrong)

/-- 'imageeditorlaw01.NumRoots': WHATEVER THE INPUT: true; the input reads as it did. -/
def numRootsSpec : ChangeSpec := { name := "numRoots", fn := fun _ => fun
  | [d1, d2, d3] => { results := [.lit (.bool true)], args := [d1, d2, d3] }
  | _ => none }
def numRootsRow : OpenClaim := { program := "ytdchcnggjamifaadoor", sum := "49bbef6fcbd2f12d56b06a70422a426b5baff41e42c473cf5abd84c80f0ff1c9", func := "imageeditor/imageeditorlaw01.NumRoots", spec := "numRoots", inPlace := ["math/bits.Add64"], named := ["imageeditor/num.sines", "math/bits.divideError", "math/bits.overflowError"], apart := false, laid := [("imageeditor/num.sines", laid_imageeditor_num_sines)] }
def NumRootsSaid : Prop := numRootsRow.holds Tryd.pinned (OpenSpec.ofChange numRootsSpec)

/-- ITS FALSE NEIGHBOUR: 'it returns false'. Refute it at one input. -/
def numRootsWrong : ChangeSpec := { name := "numRoots", fn := fun _ => fun
  | [d1, d2, d3] => { results := [.lit (.bool false)], args := [d1, d2, d3] }
  | _ => none }
def NumRootsWrongFalsely : Prop := numRootsRow.holds Tryd.pinned (OpenSpec.ofChange numRootsWrong)

/-- 'imageeditorlaw01.NumTurns': WHATEVER THE INPUT: true; the input reads as it did. -/
def numTurnsSpec : ChangeSpec := { name := "numTurns", fn := fun _ => fun
  | [d] => { results := [.lit (.bool true)], args := [d] }
  | _ => none }
def numTurnsRow : OpenClaim := { program := "ytdchcnggjamifaadoor", sum := "49bbef6fcbd2f12d56b06a70422a426b5baff41e42c473cf5abd84c80f0ff1c9", func := "imageeditor/imageeditorlaw01.NumTurns", spec := "numTurns", inPlace := ["math/bits.Add64"], named := ["imageeditor/num.sines", "math/bits.divideError", "math/bits.overflowError"], apart := false, laid := [("imageeditor/num.sines", laid_imageeditor_num_sines)] }
def NumTurnsSaid : Prop := numTurnsRow.holds Tryd.pinned (OpenSpec.ofChange numTurnsSpec)

/-- ITS FALSE NEIGHBOUR: 'it returns false'. Refute it at one input. -/
def numTurnsWrong : ChangeSpec := { name := "numTurns", fn := fun _ => fun
  | [d] => { results := [.lit (.bool false)], args := [d] }
  | _ => none }
def NumTurnsWrongFalsely : Prop := numTurnsRow.holds Tryd.pinned (OpenSpec.ofChange numTurnsWrong)

/-- 'imageeditorlaw01.NumQuotients': WHATEVER THE INPUT: true; the input reads as it did. -/
def numQuotientsSpec : ChangeSpec := { name := "numQuotients", fn := fun _ => fun
  | [d1, d2] => { results := [.lit (.bool true)], args := [d1, d2] }
  | _ => none }
def numQuotientsRow : OpenClaim := { program := "ytdchcnggjamifaadoor", sum := "49bbef6fcbd2f12d56b06a70422a426b5baff41e42c473cf5abd84c80f0ff1c9", func := "imageeditor/imageeditorlaw01.NumQuotients", spec := "numQuotients", inPlace := ["math/bits.Add64"], named := ["imageeditor/num.sines", "math/bits.divideError", "math/bits.overflowError"], apart := false, laid := [("imageeditor/num.sines", laid_imageeditor_num_sines)] }
def NumQuotientsSaid : Prop := numQuotientsRow.holds Tryd.pinned (OpenSpec.ofChange numQuotientsSpec)

/-- ITS FALSE NEIGHBOUR: 'it returns false'. Refute it at one input. -/
def numQuotientsWrong : ChangeSpec := { name := "numQuotients", fn := fun _ => fun
  | [d1, d2] => { results := [.lit (.bool false)], args := [d1, d2] }
  | _ => none }
def NumQuotientsWrongFalsely : Prop := numQuotientsRow.holds Tryd.pinned (OpenSpec.ofChange numQuotientsWrong)

/-- 'imageeditorlaw01.NumInverts': WHATEVER THE INPUT: true; the input reads as it did. -/
def numInvertsSpec : ChangeSpec := { name := "numInverts", fn := fun _ => fun
  | [d1, d2, d3] => { results := [.lit (.bool true)], args := [d1, d2, d3] }
  | _ => none }
def numInvertsRow : OpenClaim := { program := "ytdchcnggjamifaadoor", sum := "49bbef6fcbd2f12d56b06a70422a426b5baff41e42c473cf5abd84c80f0ff1c9", func := "imageeditor/imageeditorlaw01.NumInverts", spec := "numInverts", inPlace := ["math/bits.Add64"], named := ["imageeditor/num.sines", "math/bits.divideError", "math/bits.overflowError"], apart := false, laid := [("imageeditor/num.sines", laid_imageeditor_num_sines)] }
def NumInvertsSaid : Prop := numInvertsRow.holds Tryd.pinned (OpenSpec.ofChange numInvertsSpec)

/-- ITS FALSE NEIGHBOUR: 'it returns false'. Refute it at one input. -/
def numInvertsWrong : ChangeSpec := { name := "numInverts", fn := fun _ => fun
  | [d1, d2, d3] => { results := [.lit (.bool false)], args := [d1, d2, d3] }
  | _ => none }
def NumInvertsWrongFalsely : Prop := numInvertsRow.holds Tryd.pinned (OpenSpec.ofChange numInvertsWrong)

/-- 'imageeditorlaw01.NumSquares': WHATEVER THE INPUT: true; the input reads as it did. -/
def numSquaresSpec : ChangeSpec := { name := "numSquares", fn := fun _ => fun
  | [d1, d2, d3] => { results := [.lit (.bool true)], args := [d1, d2, d3] }
  | _ => none }
def numSquaresRow : OpenClaim := { program := "ytdchcnggjamifaadoor", sum := "49bbef6fcbd2f12d56b06a70422a426b5baff41e42c473cf5abd84c80f0ff1c9", func := "imageeditor/imageeditorlaw01.NumSquares", spec := "numSquares", inPlace := ["math/bits.Add64"], named := ["imageeditor/num.sines", "math/bits.divideError", "math/bits.overflowError"], apart := false, laid := [("imageeditor/num.sines", laid_imageeditor_num_sines)] }
def NumSquaresSaid : Prop := numSquaresRow.holds Tryd.pinned (OpenSpec.ofChange numSquaresSpec)

/-- ITS FALSE NEIGHBOUR: 'it returns false'. Refute it at one input. -/
def numSquaresWrong : ChangeSpec := { name := "numSquares", fn := fun _ => fun
  | [d1, d2, d3] => { results := [.lit (.bool false)], args := [d1, d2, d3] }
  | _ => none }
def NumSquaresWrongFalsely : Prop := numSquaresRow.holds Tryd.pinned (OpenSpec.ofChange numSquaresWrong)

/-- 'imageeditorlaw01.NumCircles': WHATEVER THE INPUT: true; the input reads as it did. -/
def numCirclesSpec : ChangeSpec := { name := "numCircles", fn := fun _ => fun
  | [d] => { results := [.lit (.bool true)], args := [d] }
  | _ => none }
def numCirclesRow : OpenClaim := { program := "ytdchcnggjamifaadoor", sum := "49bbef6fcbd2f12d56b06a70422a426b5baff41e42c473cf5abd84c80f0ff1c9", func := "imageeditor/imageeditorlaw01.NumCircles", spec := "numCircles", inPlace := ["math/bits.Add64"], named := ["imageeditor/num.sines", "math/bits.divideError", "math/bits.overflowError"], apart := false, laid := [("imageeditor/num.sines", laid_imageeditor_num_sines)] }
def NumCirclesSaid : Prop := numCirclesRow.holds Tryd.pinned (OpenSpec.ofChange numCirclesSpec)

/-- ITS FALSE NEIGHBOUR: 'it returns false'. Refute it at one input. -/
def numCirclesWrong : ChangeSpec := { name := "numCircles", fn := fun _ => fun
  | [d] => { results := [.lit (.bool false)], args := [d] }
  | _ => none }
def NumCirclesWrongFalsely : Prop := numCirclesRow.holds Tryd.pinned (OpenSpec.ofChange numCirclesWrong)

/- THE SECOND FORM. 'bulk': how many values and letters a reading holds, each counted each time it is reached (what is shared counts as often as it is met; a slice's spare places count too). A statement '..UptoSaid' is the law's where the arguments, and the package variables that the reading takes, are together of bulk at most 1048576: NARROWER than '..Said'. Prove '..Said' where nothing that the law and all that it calls make is longer than what came in: it says more and counts as full. Else prove '..UptoSaid'. A law counts once. -/
mutual
def uptoBulk {H : Type} : DataW H → Nat
  | .lit (.string bytes) => bytes.length + 1
  | .lit _ => 1
  | .nil => 1
  | .ptr d => uptoBulk d + 1
  | .slice elems spare => uptoBulkAll elems + uptoBulkAll spare + 1
  | .agg parts => uptoBulkAll parts + 1
  | .iface _ d => uptoBulk d + 1
  | .map entries => uptoBulkEntries entries + 1
  | .held _ => 1
def uptoBulkAll {H : Type} : List (DataW H) → Nat
  | [] => 0
  | d :: r => uptoBulk d + uptoBulkAll r
def uptoBulkEntries {H : Type} : List (Lit × DataW H) → Nat
  | [] => 0
  | x :: r => uptoBulkEntry x + uptoBulkEntries r
def uptoBulkEntry {H : Type} : Lit × DataW H → Nat
  | (.string bytes, d) => bytes.length + uptoBulk d + 1
  | (_, d) => uptoBulk d + 1
 end
def uptoSmall : (H : Type) → List (DataW H) → Bool := fun _ ds => decide (uptoBulkAll ds ≤ 1048576)
def OpenSpec.upto (s : _root_.Go.ChangeSpec) : _root_.Go.OpenSpec := { _root_.Go.OpenSpec.ofChange s with cond := some uptoSmall }

/-- 'imageeditorlaw01.NumDivides', WHERE WHAT IT READS IS OF BULK AT MOST 1048576: true; the input reads as it did. -/
def numDividesUptoRow : OpenClaim := { program := "ytdchcnggjamifaadoor", sum := "49bbef6fcbd2f12d56b06a70422a426b5baff41e42c473cf5abd84c80f0ff1c9", func := "imageeditor/imageeditorlaw01.NumDivides", spec := "numDivides", inPlace := ["math/bits.Add64"], named := ["imageeditor/num.sines", "math/bits.divideError", "math/bits.overflowError"], apart := false, laid := [("imageeditor/num.sines", laid_imageeditor_num_sines)], narrowed := true }
def NumDividesUptoSaid : Prop := numDividesUptoRow.holds Tryd.pinned (OpenSpec.upto numDividesSpec)

/-- 'imageeditorlaw01.NumUnits', WHERE WHAT IT READS IS OF BULK AT MOST 1048576: true; the input reads as it did. -/
def numUnitsUptoRow : OpenClaim := { program := "ytdchcnggjamifaadoor", sum := "49bbef6fcbd2f12d56b06a70422a426b5baff41e42c473cf5abd84c80f0ff1c9", func := "imageeditor/imageeditorlaw01.NumUnits", spec := "numUnits", inPlace := ["math/bits.Add64"], named := ["imageeditor/num.sines", "math/bits.divideError", "math/bits.overflowError"], apart := false, laid := [("imageeditor/num.sines", laid_imageeditor_num_sines)], narrowed := true }
def NumUnitsUptoSaid : Prop := numUnitsUptoRow.holds Tryd.pinned (OpenSpec.upto numUnitsSpec)

/-- 'imageeditorlaw01.NumFixes', WHERE WHAT IT READS IS OF BULK AT MOST 1048576: true; the input reads as it did. -/
def numFixesUptoRow : OpenClaim := { program := "ytdchcnggjamifaadoor", sum := "49bbef6fcbd2f12d56b06a70422a426b5baff41e42c473cf5abd84c80f0ff1c9", func := "imageeditor/imageeditorlaw01.NumFixes", spec := "numFixes", inPlace := ["math/bits.Add64"], named := ["math/bits.divideError", "math/bits.overflowError", "imageeditor/num.sines"], apart := false, laid := [("imageeditor/num.sines", laid_imageeditor_num_sines)], narrowed := true }
def NumFixesUptoSaid : Prop := numFixesUptoRow.holds Tryd.pinned (OpenSpec.upto numFixesSpec)

/-- 'imageeditorlaw01.NumRoots', WHERE WHAT IT READS IS OF BULK AT MOST 1048576: true; the input reads as it did. -/
def numRootsUptoRow : OpenClaim := { program := "ytdchcnggjamifaadoor", sum := "49bbef6fcbd2f12d56b06a70422a426b5baff41e42c473cf5abd84c80f0ff1c9", func := "imageeditor/imageeditorlaw01.NumRoots", spec := "numRoots", inPlace := ["math/bits.Add64"], named := ["imageeditor/num.sines", "math/bits.divideError", "math/bits.overflowError"], apart := false, laid := [("imageeditor/num.sines", laid_imageeditor_num_sines)], narrowed := true }
def NumRootsUptoSaid : Prop := numRootsUptoRow.holds Tryd.pinned (OpenSpec.upto numRootsSpec)

/-- 'imageeditorlaw01.NumTurns', WHERE WHAT IT READS IS OF BULK AT MOST 1048576: true; the input reads as it did. -/
def numTurnsUptoRow : OpenClaim := { program := "ytdchcnggjamifaadoor", sum := "49bbef6fcbd2f12d56b06a70422a426b5baff41e42c473cf5abd84c80f0ff1c9", func := "imageeditor/imageeditorlaw01.NumTurns", spec := "numTurns", inPlace := ["math/bits.Add64"], named := ["imageeditor/num.sines", "math/bits.divideError", "math/bits.overflowError"], apart := false, laid := [("imageeditor/num.sines", laid_imageeditor_num_sines)], narrowed := true }
def NumTurnsUptoSaid : Prop := numTurnsUptoRow.holds Tryd.pinned (OpenSpec.upto numTurnsSpec)

/-- 'imageeditorlaw01.NumQuotients', WHERE WHAT IT READS IS OF BULK AT MOST 1048576: true; the input reads as it did. -/
def numQuotientsUptoRow : OpenClaim := { program := "ytdchcnggjamifaadoor", sum := "49bbef6fcbd2f12d56b06a70422a426b5baff41e42c473cf5abd84c80f0ff1c9", func := "imageeditor/imageeditorlaw01.NumQuotients", spec := "numQuotients", inPlace := ["math/bits.Add64"], named := ["imageeditor/num.sines", "math/bits.divideError", "math/bits.overflowError"], apart := false, laid := [("imageeditor/num.sines", laid_imageeditor_num_sines)], narrowed := true }
def NumQuotientsUptoSaid : Prop := numQuotientsUptoRow.holds Tryd.pinned (OpenSpec.upto numQuotientsSpec)

/-- 'imageeditorlaw01.NumInverts', WHERE WHAT IT READS IS OF BULK AT MOST 1048576: true; the input reads as it did. -/
def numInvertsUptoRow : OpenClaim := { program := "ytdchcnggjamifaadoor", sum := "49bbef6fcbd2f12d56b06a70422a426b5baff41e42c473cf5abd84c80f0ff1c9", func := "imageeditor/imageeditorlaw01.NumInverts", spec := "numInverts", inPlace := ["math/bits.Add64"], named := ["imageeditor/num.sines", "math/bits.divideError", "math/bits.overflowError"], apart := false, laid := [("imageeditor/num.sines", laid_imageeditor_num_sines)], narrowed := true }
def NumInvertsUptoSaid : Prop := numInvertsUptoRow.holds Tryd.pinned (OpenSpec.upto numInvertsSpec)

/-- 'imageeditorlaw01.NumSquares', WHERE WHAT IT READS IS OF BULK AT MOST 1048576: true; the input reads as it did. -/
def numSquaresUptoRow : OpenClaim := { program := "ytdchcnggjamifaadoor", sum := "49bbef6fcbd2f12d56b06a70422a426b5baff41e42c473cf5abd84c80f0ff1c9", func := "imageeditor/imageeditorlaw01.NumSquares", spec := "numSquares", inPlace := ["math/bits.Add64"], named := ["imageeditor/num.sines", "math/bits.divideError", "math/bits.overflowError"], apart := false, laid := [("imageeditor/num.sines", laid_imageeditor_num_sines)], narrowed := true }
def NumSquaresUptoSaid : Prop := numSquaresUptoRow.holds Tryd.pinned (OpenSpec.upto numSquaresSpec)

/-- 'imageeditorlaw01.NumCircles', WHERE WHAT IT READS IS OF BULK AT MOST 1048576: true; the input reads as it did. -/
def numCirclesUptoRow : OpenClaim := { program := "ytdchcnggjamifaadoor", sum := "49bbef6fcbd2f12d56b06a70422a426b5baff41e42c473cf5abd84c80f0ff1c9", func := "imageeditor/imageeditorlaw01.NumCircles", spec := "numCircles", inPlace := ["math/bits.Add64"], named := ["imageeditor/num.sines", "math/bits.divideError", "math/bits.overflowError"], apart := false, laid := [("imageeditor/num.sines", laid_imageeditor_num_sines)], narrowed := true }
def NumCirclesUptoSaid : Prop := numCirclesUptoRow.holds Tryd.pinned (OpenSpec.upto numCirclesSpec)

end Rows
end Go.Proofs.YtdchcnggjamifaaDoor
