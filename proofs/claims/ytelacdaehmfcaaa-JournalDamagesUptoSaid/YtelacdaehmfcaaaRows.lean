/-
  No cell of these rows narrows 'for every input' (looked for: loops, veiled, ifaces, maps, wideKeys, modest, calm, conditions, laid).
  DERIVED. THE GIVEN ROWS OF THIS SEAT. 7 by the template 'for every input the law returns true; each argument reads behind the call as it read before'; 0 by the template 'total and deterministic' (their statements: YtelacdaehmfcaaaTotals.lean).
  GIVEN WITH THE SEED: the statements are not yours to turn. If you find one false, say at which input.
  Laid BY PROGRAM, IN A SANDBOX (cutbox-rows.mjs): the forced cells as the released guide's own fill.sh prints them over the translation bc507e235f1194f8… (all of the seat's roots in one cut). By AI agents, Wed Nov 11 2026. No macro, syntax, notation, axiom, sorry.
-/
import Derived.Test.YtelacdaehmfcaaaChecked
import GoSem.Claim
import GoSem.ClaimJoined
import GoSem.ClaimMapViews
import Derived.JoinedTies
import Derived.KernelRfl
namespace Go.Proofs.Ytelacdaehmfcaaa
/- THE CELL 'sum', in the pinned program and in every row, IS THE sha256 OF THE DUMP (.gsa) THAT YtelacdaehmfcaaaProg.lean LOADS. Nothing in Lean hashes anything: it is a label: what it is worth is what the hold of that sum in a sandbox is worth. -/
noncomputable def Try.pinned : Pinned := { name := "ytelacdaehmfcaaa", sum := "bc507e235f1194f8d321fc83ca2767947f8bd94d02dd3c3299bbd4d8557d7bec", checked := Try.checked }
namespace Rows
def none {H : Type} : Left H := { results := [], args := [] }

/-- 'imageeditorlaw44.JournalHeads': WHATEVER THE INPUT: true; the input reads as it did. -/
def journalHeadsSpec : ChangeSpec := { name := "journalHeads", fn := fun _ => fun
  | [d1, d2] => { results := [.lit (.bool true)], args := [d1, d2] }
  | _ => none }
def journalHeadsRow : OpenClaim := { program := "ytelacdaehmfcaaa", sum := "bc507e235f1194f8d321fc83ca2767947f8bd94d02dd3c3299bbd4d8557d7bec", func := "imageeditor/imageeditorlaw44.JournalHeads", spec := "journalHeads", apart := false }
def JournalHeadsSaid : Prop := journalHeadsRow.holds Try.pinned (OpenSpec.ofChange journalHeadsSpec)

/-- ITS FALSE NEIGHBOUR: 'it returns false'. Refute it at one input. -/
def journalHeadsWrong : ChangeSpec := { name := "journalHeads", fn := fun _ => fun
  | [d1, d2] => { results := [.lit (.bool false)], args := [d1, d2] }
  | _ => none }
def JournalHeadsWrongFalsely : Prop := journalHeadsRow.holds Try.pinned (OpenSpec.ofChange journalHeadsWrong)

/-- 'imageeditorlaw44.JournalAppends': WHATEVER THE INPUT: true; the input reads as it did. -/
def journalAppendsSpec : ChangeSpec := { name := "journalAppends", fn := fun _ => fun
  | [d1, d2] => { results := [.lit (.bool true)], args := [d1, d2] }
  | _ => none }
def journalAppendsRow : OpenClaim := { program := "ytelacdaehmfcaaa", sum := "bc507e235f1194f8d321fc83ca2767947f8bd94d02dd3c3299bbd4d8557d7bec", func := "imageeditor/imageeditorlaw44.JournalAppends", spec := "journalAppends", apart := false }
def JournalAppendsSaid : Prop := journalAppendsRow.holds Try.pinned (OpenSpec.ofChange journalAppendsSpec)

/-- ITS FALSE NEIGHBOUR: 'it returns false'. Refute it at one input. -/
def journalAppendsWrong : ChangeSpec := { name := "journalAppends", fn := fun _ => fun
  | [d1, d2] => { results := [.lit (.bool false)], args := [d1, d2] }
  | _ => none }
def JournalAppendsWrongFalsely : Prop := journalAppendsRow.holds Try.pinned (OpenSpec.ofChange journalAppendsWrong)

/-- 'imageeditorlaw44.JournalScans': WHATEVER THE INPUT: true; the input reads as it did. -/
def journalScansSpec : ChangeSpec := { name := "journalScans", fn := fun _ => fun
  | [d] => { results := [.lit (.bool true)], args := [d] }
  | _ => none }
def journalScansRow : OpenClaim := { program := "ytelacdaehmfcaaa", sum := "bc507e235f1194f8d321fc83ca2767947f8bd94d02dd3c3299bbd4d8557d7bec", func := "imageeditor/imageeditorlaw44.JournalScans", spec := "journalScans", apart := false }
def JournalScansSaid : Prop := journalScansRow.holds Try.pinned (OpenSpec.ofChange journalScansSpec)

/-- ITS FALSE NEIGHBOUR: 'it returns false'. Refute it at one input. -/
def journalScansWrong : ChangeSpec := { name := "journalScans", fn := fun _ => fun
  | [d] => { results := [.lit (.bool false)], args := [d] }
  | _ => none }
def JournalScansWrongFalsely : Prop := journalScansRow.holds Try.pinned (OpenSpec.ofChange journalScansWrong)

/-- 'imageeditorlaw44.JournalReturns': WHATEVER THE INPUT: true; the input reads as it did. -/
def journalReturnsSpec : ChangeSpec := { name := "journalReturns", fn := fun _ => fun
  | [d] => { results := [.lit (.bool true)], args := [d] }
  | _ => none }
def journalReturnsRow : OpenClaim := { program := "ytelacdaehmfcaaa", sum := "bc507e235f1194f8d321fc83ca2767947f8bd94d02dd3c3299bbd4d8557d7bec", func := "imageeditor/imageeditorlaw44.JournalReturns", spec := "journalReturns", apart := false }
def JournalReturnsSaid : Prop := journalReturnsRow.holds Try.pinned (OpenSpec.ofChange journalReturnsSpec)

/-- ITS FALSE NEIGHBOUR: 'it returns false'. Refute it at one input. -/
def journalReturnsWrong : ChangeSpec := { name := "journalReturns", fn := fun _ => fun
  | [d] => { results := [.lit (.bool false)], args := [d] }
  | _ => none }
def JournalReturnsWrongFalsely : Prop := journalReturnsRow.holds Try.pinned (OpenSpec.ofChange journalReturnsWrong)

/-- 'imageeditorlaw44.JournalCuts': WHATEVER THE INPUT: true; the input reads as it did. -/
def journalCutsSpec : ChangeSpec := { name := "journalCuts", fn := fun _ => fun
  | [d1, d2] => { results := [.lit (.bool true)], args := [d1, d2] }
  | _ => none }
def journalCutsRow : OpenClaim := { program := "ytelacdaehmfcaaa", sum := "bc507e235f1194f8d321fc83ca2767947f8bd94d02dd3c3299bbd4d8557d7bec", func := "imageeditor/imageeditorlaw44.JournalCuts", spec := "journalCuts", apart := false }
def JournalCutsSaid : Prop := journalCutsRow.holds Try.pinned (OpenSpec.ofChange journalCutsSpec)

/-- ITS FALSE NEIGHBOUR: 'it returns false'. Refute it at one input. -/
def journalCutsWrong : ChangeSpec := { name := "journalCuts", fn := fun _ => fun
  | [d1, d2] => { results := [.lit (.bool false)], args := [d1, d2] }
  | _ => none }
def JournalCutsWrongFalsely : Prop := journalCutsRow.holds Try.pinned (OpenSpec.ofChange journalCutsWrong)

/-- 'imageeditorlaw44.JournalGrows': WHATEVER THE INPUT: true; the input reads as it did. -/
def journalGrowsSpec : ChangeSpec := { name := "journalGrows", fn := fun _ => fun
  | [d1, d2] => { results := [.lit (.bool true)], args := [d1, d2] }
  | _ => none }
def journalGrowsRow : OpenClaim := { program := "ytelacdaehmfcaaa", sum := "bc507e235f1194f8d321fc83ca2767947f8bd94d02dd3c3299bbd4d8557d7bec", func := "imageeditor/imageeditorlaw44.JournalGrows", spec := "journalGrows", apart := false }
def JournalGrowsSaid : Prop := journalGrowsRow.holds Try.pinned (OpenSpec.ofChange journalGrowsSpec)

/-- ITS FALSE NEIGHBOUR: 'it returns false'. Refute it at one input. -/
def journalGrowsWrong : ChangeSpec := { name := "journalGrows", fn := fun _ => fun
  | [d1, d2] => { results := [.lit (.bool false)], args := [d1, d2] }
  | _ => none }
def JournalGrowsWrongFalsely : Prop := journalGrowsRow.holds Try.pinned (OpenSpec.ofChange journalGrowsWrong)

/-- 'imageeditorlaw44.JournalDamages': WHATEVER THE INPUT: true; the input reads as it did. -/
def journalDamagesSpec : ChangeSpec := { name := "journalDamages", fn := fun _ => fun
  | [d1, d2] => { results := [.lit (.bool true)], args := [d1, d2] }
  | _ => none }
def journalDamagesRow : OpenClaim := { program := "ytelacdaehmfcaaa", sum := "bc507e235f1194f8d321fc83ca2767947f8bd94d02dd3c3299bbd4d8557d7bec", func := "imageeditor/imageeditorlaw44.JournalDamages", spec := "journalDamages", apart := false }
def JournalDamagesSaid : Prop := journalDamagesRow.holds Try.pinned (OpenSpec.ofChange journalDamagesSpec)

/-- ITS FALSE NEIGHBOUR: 'it returns false'. Refute it at one input. -/
def journalDamagesWrong : ChangeSpec := { name := "journalDamages", fn := fun _ => fun
  | [d1, d2] => { results := [.lit (.bool false)], args := [d1, d2] }
  | _ => none }
def JournalDamagesWrongFalsely : Prop := journalDamagesRow.holds Try.pinned (OpenSpec.ofChange journalDamagesWrong)

/- THE SECOND FORM. 'bulk': how many values and letters a reading holds, each counted each time it is reached (what is shared counts as often as it is met; a slice's spare places count too). A statement '..UptoSaid' is the law's where the arguments, and the package variables that the reading takes, are together of bulk at most 1048576: NARROWER than '..Said'. Prove '..Said' where nothing that the law and all that it calls make is longer than what came in: it says more and counts as full. Else prove '..UptoSaid'. A law counts once. -/
mutual
def uptoBulk {H : Type} : DataW H → Nat
  | .lit (.string bytes) => bytes.length + 1
  | .lit _ => 1
  | .nil => 1
  | .ptr d => uptoBulk d + 1
  | .slice elems spare => uptoBulkAll elems + uptoBulkAll spare + 1
  | .agg parts => uptoBulkAll parts + 1
  | .iface _ d => uptoBulk d + 1
  | .map entries => uptoBulkEntries entries + 1
  | .held _ => 1
def uptoBulkAll {H : Type} : List (DataW H) → Nat
  | [] => 0
  | d :: r => uptoBulk d + uptoBulkAll r
def uptoBulkEntries {H : Type} : List (Lit × DataW H) → Nat
  | [] => 0
  | x :: r => uptoBulkEntry x + uptoBulkEntries r
def uptoBulkEntry {H : Type} : Lit × DataW H → Nat
  | (.string bytes, d) => bytes.length + uptoBulk d + 1
  | (_, d) => uptoBulk d + 1
 end
def uptoSmall : (H : Type) → List (DataW H) → Bool := fun _ ds => decide (uptoBulkAll ds ≤ 1048576)
def OpenSpec.upto (s : _root_.Go.ChangeSpec) : _root_.Go.OpenSpec := { _root_.Go.OpenSpec.ofChange s with cond := some uptoSmall }

/-- 'imageeditorlaw44.JournalHeads', WHERE WHAT IT READS IS OF BULK AT MOST 1048576: true; the input reads as it did. -/
def journalHeadsUptoRow : OpenClaim := { program := "ytelacdaehmfcaaa", sum := "bc507e235f1194f8d321fc83ca2767947f8bd94d02dd3c3299bbd4d8557d7bec", func := "imageeditor/imageeditorlaw44.JournalHeads", spec := "journalHeads", apart := false, narrowed := true }
def JournalHeadsUptoSaid : Prop := journalHeadsUptoRow.holds Try.pinned (OpenSpec.upto journalHeadsSpec)

/-- 'imageeditorlaw44.JournalAppends', WHERE WHAT IT READS IS OF BULK AT MOST 1048576: true; the input reads as it did. -/
def journalAppendsUptoRow : OpenClaim := { program := "ytelacdaehmfcaaa", sum := "bc507e235f1194f8d321fc83ca2767947f8bd94d02dd3c3299bbd4d8557d7bec", func := "imageeditor/imageeditorlaw44.JournalAppends", spec := "journalAppends", apart := false, narrowed := true }
def JournalAppendsUptoSaid : Prop := journalAppendsUptoRow.holds Try.pinned (OpenSpec.upto journalAppendsSpec)

/-- 'imageeditorlaw44.JournalScans', WHERE WHAT IT READS IS OF BULK AT MOST 1048576: true; the input reads as it did. -/
def journalScansUptoRow : OpenClaim := { program := "ytelacdaehmfcaaa", sum := "bc507e235f1194f8d321fc83ca2767947f8bd94d02dd3c3299bbd4d8557d7bec", func := "imageeditor/imageeditorlaw44.JournalScans", spec := "journalScans", apart := false, narrowed := true }
def JournalScansUptoSaid : Prop := journalScansUptoRow.holds Try.pinned (OpenSpec.upto journalScansSpec)

/-- 'imageeditorlaw44.JournalReturns', WHERE WHAT IT READS IS OF BULK AT MOST 1048576: true; the input reads as it did. -/
def journalReturnsUptoRow : OpenClaim := { program := "ytelacdaehmfcaaa", sum := "bc507e235f1194f8d321fc83ca2767947f8bd94d02dd3c3299bbd4d8557d7bec", func := "imageeditor/imageeditorlaw44.JournalReturns", spec := "journalReturns", apart := false, narrowed := true }
def JournalReturnsUptoSaid : Prop := journalReturnsUptoRow.holds Try.pinned (OpenSpec.upto journalReturnsSpec)

/-- 'imageeditorlaw44.JournalCuts', WHERE WHAT IT READS IS OF BULK AT MOST 1048576: true; the input reads as it did. -/
def journalCutsUptoRow : OpenClaim := { program := "ytelacdaehmfcaaa", sum := "bc507e235f1194f8d321fc83ca2767947f8bd94d02dd3c3299bbd4d8557d7bec", func := "imageeditor/imageeditorlaw44.JournalCuts", spec := "journalCuts", apart := false, narrowed := true }
def JournalCutsUptoSaid : Prop := journalCutsUptoRow.holds Try.pinned (OpenSpec.upto journalCutsSpec)

/-- 'imageeditorlaw44.JournalGrows', WHERE WHAT IT READS IS OF BULK AT MOST 1048576: true; the input reads as it did. -/
def journalGrowsUptoRow : OpenClaim := { program := "ytelacdaehmfcaaa", sum := "bc507e235f1194f8d321fc83ca2767947f8bd94d02dd3c3299bbd4d8557d7bec", func := "imageeditor/imageeditorlaw44.JournalGrows", spec := "journalGrows", apart := false, narrowed := true }
def JournalGrowsUptoSaid : Prop := journalGrowsUptoRow.holds Try.pinned (OpenSpec.upto journalGrowsSpec)

/-- 'imageeditorlaw44.JournalDamages', WHERE WHAT IT READS IS OF BULK AT MOST 1048576: true; the input reads as it did. -/
def journalDamagesUptoRow : OpenClaim := { program := "ytelacdaehmfcaaa", sum := "bc507e235f1194f8d321fc83ca2767947f8bd94d02dd3c3299bbd4d8557d7bec", func := "imageeditor/imageeditorlaw44.JournalDamages", spec := "journalDamages", apart := false, narrowed := true }
def JournalDamagesUptoSaid : Prop := journalDamagesUptoRow.holds Try.pinned (OpenSpec.upto journalDamagesSpec)

end Rows
end Go.Proofs.Ytelacdaehmfcaaa
