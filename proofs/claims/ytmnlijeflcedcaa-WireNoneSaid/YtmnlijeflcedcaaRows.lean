/-
  No cell of these rows narrows 'for every input' (looked for: loops, veiled, ifaces, maps, wideKeys, modest, calm, conditions, laid).
  DERIVED. THE GIVEN ROWS OF THIS SEAT. 6 by the template 'for every input the law returns true; each argument reads behind the call as it read before'; 0 by the template 'total and deterministic' (their statements: YtmnlijeflcedcaaTotals.lean).
  GIVEN WITH THE SEED: the statements are not yours to turn. If you find one false, say at which input.
  Laid BY PROGRAM, IN A SANDBOX (cutbox-rows.mjs): the forced cells as the released guide's own fill.sh prints them over the translation d9c2ade2257c080f… (all of the seat's roots in one cut). By AI agents, Wed Nov 11 2026. No macro, syntax, notation, axiom, sorry.
-/
import Derived.Test.YtmnlijeflcedcaaChecked
import GoSem.Claim
import GoSem.ClaimJoined
import GoSem.ClaimMapViews
import Derived.JoinedTies
import Derived.KernelRfl
namespace Go.Proofs.Ytmnlijeflcedcaa
/- THE CELL 'sum', in the pinned program and in every row, IS THE sha256 OF THE DUMP (.gsa) THAT YtmnlijeflcedcaaProg.lean LOADS. Nothing in Lean hashes anything: it is a label: what it is worth is what the hold of that sum in a sandbox is worth. -/
noncomputable def Try.pinned : Pinned := { name := "ytmnlijeflcedcaa", sum := "d9c2ade2257c080fc3fedf4268cd5fea729a30280c89fabaab2736e6b90916d5", checked := Try.checked }
namespace Rows
def none {H : Type} : Left H := { results := [], args := [] }

/-- 'imageeditorlaw04.WireWrites': WHATEVER THE INPUT: true; the input reads as it did. -/
def wireWritesSpec : ChangeSpec := { name := "wireWrites", fn := fun _ => fun
  | [d] => { results := [.lit (.bool true)], args := [d] }
  | _ => none }
def wireWritesRow : OpenClaim := { program := "ytmnlijeflcedcaa", sum := "d9c2ade2257c080fc3fedf4268cd5fea729a30280c89fabaab2736e6b90916d5", func := "imageeditor/imageeditorlaw04.WireWrites", spec := "wireWrites", apart := false }
def WireWritesSaid : Prop := wireWritesRow.holds Try.pinned (OpenSpec.ofChange wireWritesSpec)

/-- ITS FALSE NEIGHBOUR: 'it returns false'. Refute it at one input. -/
def wireWritesWrong : ChangeSpec := { name := "wireWrites", fn := fun _ => fun
  | [d] => { results := [.lit (.bool false)], args := [d] }
  | _ => none }
def WireWritesWrongFalsely : Prop := wireWritesRow.holds Try.pinned (OpenSpec.ofChange wireWritesWrong)

/-- 'imageeditorlaw04.WireReturns': WHATEVER THE INPUT: true; the input reads as it did. -/
def wireReturnsSpec : ChangeSpec := { name := "wireReturns", fn := fun _ => fun
  | [d] => { results := [.lit (.bool true)], args := [d] }
  | _ => none }
def wireReturnsRow : OpenClaim := { program := "ytmnlijeflcedcaa", sum := "d9c2ade2257c080fc3fedf4268cd5fea729a30280c89fabaab2736e6b90916d5", func := "imageeditor/imageeditorlaw04.WireReturns", spec := "wireReturns", apart := false }
def WireReturnsSaid : Prop := wireReturnsRow.holds Try.pinned (OpenSpec.ofChange wireReturnsSpec)

/-- ITS FALSE NEIGHBOUR: 'it returns false'. Refute it at one input. -/
def wireReturnsWrong : ChangeSpec := { name := "wireReturns", fn := fun _ => fun
  | [d] => { results := [.lit (.bool false)], args := [d] }
  | _ => none }
def WireReturnsWrongFalsely : Prop := wireReturnsRow.holds Try.pinned (OpenSpec.ofChange wireReturnsWrong)

/-- 'imageeditorlaw04.WireShortest': WHATEVER THE INPUT: true; the input reads as it did. -/
def wireShortestSpec : ChangeSpec := { name := "wireShortest", fn := fun _ => fun
  | [d] => { results := [.lit (.bool true)], args := [d] }
  | _ => none }
def wireShortestRow : OpenClaim := { program := "ytmnlijeflcedcaa", sum := "d9c2ade2257c080fc3fedf4268cd5fea729a30280c89fabaab2736e6b90916d5", func := "imageeditor/imageeditorlaw04.WireShortest", spec := "wireShortest", apart := false }
def WireShortestSaid : Prop := wireShortestRow.holds Try.pinned (OpenSpec.ofChange wireShortestSpec)

/-- ITS FALSE NEIGHBOUR: 'it returns false'. Refute it at one input. -/
def wireShortestWrong : ChangeSpec := { name := "wireShortest", fn := fun _ => fun
  | [d] => { results := [.lit (.bool false)], args := [d] }
  | _ => none }
def WireShortestWrongFalsely : Prop := wireShortestRow.holds Try.pinned (OpenSpec.ofChange wireShortestWrong)

/-- 'imageeditorlaw04.WirePrefixes': WHATEVER THE INPUT: true; the input reads as it did. -/
def wirePrefixesSpec : ChangeSpec := { name := "wirePrefixes", fn := fun _ => fun
  | [d1, d2] => { results := [.lit (.bool true)], args := [d1, d2] }
  | _ => none }
def wirePrefixesRow : OpenClaim := { program := "ytmnlijeflcedcaa", sum := "d9c2ade2257c080fc3fedf4268cd5fea729a30280c89fabaab2736e6b90916d5", func := "imageeditor/imageeditorlaw04.WirePrefixes", spec := "wirePrefixes", apart := false }
def WirePrefixesSaid : Prop := wirePrefixesRow.holds Try.pinned (OpenSpec.ofChange wirePrefixesSpec)

/-- ITS FALSE NEIGHBOUR: 'it returns false'. Refute it at one input. -/
def wirePrefixesWrong : ChangeSpec := { name := "wirePrefixes", fn := fun _ => fun
  | [d1, d2] => { results := [.lit (.bool false)], args := [d1, d2] }
  | _ => none }
def WirePrefixesWrongFalsely : Prop := wirePrefixesRow.holds Try.pinned (OpenSpec.ofChange wirePrefixesWrong)

/-- 'imageeditorlaw04.WireReads': WHATEVER THE INPUT: true; the input reads as it did. -/
def wireReadsSpec : ChangeSpec := { name := "wireReads", fn := fun _ => fun
  | [d1, d2] => { results := [.lit (.bool true)], args := [d1, d2] }
  | _ => none }
def wireReadsRow : OpenClaim := { program := "ytmnlijeflcedcaa", sum := "d9c2ade2257c080fc3fedf4268cd5fea729a30280c89fabaab2736e6b90916d5", func := "imageeditor/imageeditorlaw04.WireReads", spec := "wireReads", apart := false }
def WireReadsSaid : Prop := wireReadsRow.holds Try.pinned (OpenSpec.ofChange wireReadsSpec)

/-- ITS FALSE NEIGHBOUR: 'it returns false'. Refute it at one input. -/
def wireReadsWrong : ChangeSpec := { name := "wireReads", fn := fun _ => fun
  | [d1, d2] => { results := [.lit (.bool false)], args := [d1, d2] }
  | _ => none }
def WireReadsWrongFalsely : Prop := wireReadsRow.holds Try.pinned (OpenSpec.ofChange wireReadsWrong)

/-- 'imageeditorlaw04.WireNone': WHATEVER THE INPUT: true; the input reads as it did. -/
def wireNoneSpec : ChangeSpec := { name := "wireNone", fn := fun _ => fun
  | [d] => { results := [.lit (.bool true)], args := [d] }
  | _ => none }
def wireNoneRow : OpenClaim := { program := "ytmnlijeflcedcaa", sum := "d9c2ade2257c080fc3fedf4268cd5fea729a30280c89fabaab2736e6b90916d5", func := "imageeditor/imageeditorlaw04.WireNone", spec := "wireNone", apart := false }
def WireNoneSaid : Prop := wireNoneRow.holds Try.pinned (OpenSpec.ofChange wireNoneSpec)

/-- ITS FALSE NEIGHBOUR: 'it returns false'. Refute it at one input. -/
def wireNoneWrong : ChangeSpec := { name := "wireNone", fn := fun _ => fun
  | [d] => { results := [.lit (.bool false)], args := [d] }
  | _ => none }
def WireNoneWrongFalsely : Prop := wireNoneRow.holds Try.pinned (OpenSpec.ofChange wireNoneWrong)

/- THE SECOND FORM. 'bulk': how many values and letters a reading holds, each counted each time it is reached (what is shared counts as often as it is met; a slice's spare places count too). A statement '..UptoSaid' is the law's where the arguments, and the package variables that the reading takes, are together of bulk at most 1048576: NARROWER than '..Said'. Prove '..Said' where nothing that the law and all that it calls make is longer than what came in: it says more and counts as full. Else prove '..UptoSaid'. A law counts once. -/
mutual
def uptoBulk {H : Type} : DataW H → Nat
  | .lit (.string bytes) => bytes.length + 1
  | .lit _ => 1
  | .nil => 1
  | .ptr d => uptoBulk d + 1
  | .slice elems spare => uptoBulkAll elems + uptoBulkAll spare + 1
  | .agg parts => uptoBulkAll parts + 1
  | .iface _ d => uptoBulk d + 1
  | .map entries => uptoBulkEntries entries + 1
  | .held _ => 1
def uptoBulkAll {H : Type} : List (DataW H) → Nat
  | [] => 0
  | d :: r => uptoBulk d + uptoBulkAll r
def uptoBulkEntries {H : Type} : List (Lit × DataW H) → Nat
  | [] => 0
  | x :: r => uptoBulkEntry x + uptoBulkEntries r
def uptoBulkEntry {H : Type} : Lit × DataW H → Nat
  | (.string bytes, d) => bytes.length + uptoBulk d + 1
  | (_, d) => uptoBulk d + 1
 end
def uptoSmall : (H : Type) → List (DataW H) → Bool := fun _ ds => decide (uptoBulkAll ds ≤ 1048576)
def OpenSpec.upto (s : _root_.Go.ChangeSpec) : _root_.Go.OpenSpec := { _root_.Go.OpenSpec.ofChange s with cond := some uptoSmall }

/-- 'imageeditorlaw04.WireWrites', WHERE WHAT IT READS IS OF BULK AT MOST 1048576: true; the input reads as it did. -/
def wireWritesUptoRow : OpenClaim := { program := "ytmnlijeflcedcaa", sum := "d9c2ade2257c080fc3fedf4268cd5fea729a30280c89fabaab2736e6b90916d5", func := "imageeditor/imageeditorlaw04.WireWrites", spec := "wireWrites", apart := false, narrowed := true }
def WireWritesUptoSaid : Prop := wireWritesUptoRow.holds Try.pinned (OpenSpec.upto wireWritesSpec)

/-- 'imageeditorlaw04.WireReturns', WHERE WHAT IT READS IS OF BULK AT MOST 1048576: true; the input reads as it did. -/
def wireReturnsUptoRow : OpenClaim := { program := "ytmnlijeflcedcaa", sum := "d9c2ade2257c080fc3fedf4268cd5fea729a30280c89fabaab2736e6b90916d5", func := "imageeditor/imageeditorlaw04.WireReturns", spec := "wireReturns", apart := false, narrowed := true }
def WireReturnsUptoSaid : Prop := wireReturnsUptoRow.holds Try.pinned (OpenSpec.upto wireReturnsSpec)

/-- 'imageeditorlaw04.WireShortest', WHERE WHAT IT READS IS OF BULK AT MOST 1048576: true; the input reads as it did. -/
def wireShortestUptoRow : OpenClaim := { program := "ytmnlijeflcedcaa", sum := "d9c2ade2257c080fc3fedf4268cd5fea729a30280c89fabaab2736e6b90916d5", func := "imageeditor/imageeditorlaw04.WireShortest", spec := "wireShortest", apart := false, narrowed := true }
def WireShortestUptoSaid : Prop := wireShortestUptoRow.holds Try.pinned (OpenSpec.upto wireShortestSpec)

/-- 'imageeditorlaw04.WirePrefixes', WHERE WHAT IT READS IS OF BULK AT MOST 1048576: true; the input reads as it did. -/
def wirePrefixesUptoRow : OpenClaim := { program := "ytmnlijeflcedcaa", sum := "d9c2ade2257c080fc3fedf4268cd5fea729a30280c89fabaab2736e6b90916d5", func := "imageeditor/imageeditorlaw04.WirePrefixes", spec := "wirePrefixes", apart := false, narrowed := true }
def WirePrefixesUptoSaid : Prop := wirePrefixesUptoRow.holds Try.pinned (OpenSpec.upto wirePrefixesSpec)

/-- 'imageeditorlaw04.WireReads', WHERE WHAT IT READS IS OF BULK AT MOST 1048576: true; the input reads as it did. -/
def wireReadsUptoRow : OpenClaim := { program := "ytmnlijeflcedcaa", sum := "d9c2ade2257c080fc3fedf4268cd5fea729a30280c89fabaab2736e6b90916d5", func := "imageeditor/imageeditorlaw04.WireReads", spec := "wireReads", apart := false, narrowed := true }
def WireReadsUptoSaid : Prop := wireReadsUptoRow.holds Try.pinned (OpenSpec.upto wireReadsSpec)

/-- 'imageeditorlaw04.WireNone', WHERE WHAT IT READS IS OF BULK AT MOST 1048576: true; the input reads as it did. -/
def wireNoneUptoRow : OpenClaim := { program := "ytmnlijeflcedcaa", sum := "d9c2ade2257c080fc3fedf4268cd5fea729a30280c89fabaab2736e6b90916d5", func := "imageeditor/imageeditorlaw04.WireNone", spec := "wireNone", apart := false, narrowed := true }
def WireNoneUptoSaid : Prop := wireNoneUptoRow.holds Try.pinned (OpenSpec.upto wireNoneSpec)

end Rows
end Go.Proofs.Ytmnlijeflcedcaa
