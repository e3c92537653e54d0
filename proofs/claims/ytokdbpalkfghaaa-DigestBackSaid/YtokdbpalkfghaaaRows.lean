/-
  No cell of these rows narrows 'for every input' (looked for: loops, veiled, ifaces, maps, wideKeys, modest, calm, conditions, laid).
  DERIVED. THE GIVEN ROWS OF THIS SEAT. 7 by the template 'for every input the law returns true; each argument reads behind the call as it read before'; 0 by the template 'total and deterministic' (their statements: YtokdbpalkfghaaaTotals.lean).
  GIVEN WITH THE SEED: the statements are not yours to turn. If you find one false, say at which input.
  Laid BY PROGRAM, IN A SANDBOX (cutbox-rows.mjs): the forced cells as the released guide's own fill.sh prints them over the translation 567ae8beb4bc3fde… (all of the seat's roots in one cut). By AI agents, Wed Nov 11 2026. No macro, syntax, notation, axiom, sorry.
-/
import Derived.Test.YtokdbpalkfghaaaChecked
import GoSem.Claim
import GoSem.ClaimJoined
import GoSem.ClaimMapViews
import Derived.JoinedTies
import Derived.KernelRfl
namespace Go.Proofs.Ytokdbpalkfghaaa
/- THE CELL 'sum', in the pinned program and in every row, IS THE sha256 OF THE DUMP (.gsa) THAT YtokdbpalkfghaaaProg.lean LOADS. Nothing in Lean hashes anything: it is a label: what it is worth is what the hold of that sum in a sandbox is worth. -/
noncomputable def Try.pinned : Pinned := { name := "ytokdbpalkfghaaa", sum := "567ae8beb4bc3fde4e538ec59c938c243021236c07b35268ea8206b5107a265f", checked := Try.checked }
namespace Rows
def none {H : Type} : Left H := { results := [], args := [] }

/-- 'imageeditorlaw05.DigestSums': WHATEVER THE INPUT: true; the input reads as it did. -/
def digestSumsSpec : ChangeSpec := { name := "digestSums", fn := fun _ => fun
  | [d] => { results := [.lit (.bool true)], args := [d] }
  | _ => none }
def digestSumsRow : OpenClaim := { program := "ytokdbpalkfghaaa", sum := "567ae8beb4bc3fde4e538ec59c938c243021236c07b35268ea8206b5107a265f", func := "imageeditor/imageeditorlaw05.DigestSums", spec := "digestSums", apart := false }
def DigestSumsSaid : Prop := digestSumsRow.holds Try.pinned (OpenSpec.ofChange digestSumsSpec)

/-- ITS FALSE NEIGHBOUR: 'it returns false'. Refute it at one input. -/
def digestSumsWrong : ChangeSpec := { name := "digestSums", fn := fun _ => fun
  | [d] => { results := [.lit (.bool false)], args := [d] }
  | _ => none }
def DigestSumsWrongFalsely : Prop := digestSumsRow.holds Try.pinned (OpenSpec.ofChange digestSumsWrong)

/-- 'imageeditorlaw05.DigestFrames': WHATEVER THE INPUT: true; the input reads as it did. -/
def digestFramesSpec : ChangeSpec := { name := "digestFrames", fn := fun _ => fun
  | [d] => { results := [.lit (.bool true)], args := [d] }
  | _ => none }
def digestFramesRow : OpenClaim := { program := "ytokdbpalkfghaaa", sum := "567ae8beb4bc3fde4e538ec59c938c243021236c07b35268ea8206b5107a265f", func := "imageeditor/imageeditorlaw05.DigestFrames", spec := "digestFrames", apart := false }
def DigestFramesSaid : Prop := digestFramesRow.holds Try.pinned (OpenSpec.ofChange digestFramesSpec)

/-- ITS FALSE NEIGHBOUR: 'it returns false'. Refute it at one input. -/
def digestFramesWrong : ChangeSpec := { name := "digestFrames", fn := fun _ => fun
  | [d] => { results := [.lit (.bool false)], args := [d] }
  | _ => none }
def DigestFramesWrongFalsely : Prop := digestFramesRow.holds Try.pinned (OpenSpec.ofChange digestFramesWrong)

/-- 'imageeditorlaw05.DigestOpens': WHATEVER THE INPUT: true; the input reads as it did. -/
def digestOpensSpec : ChangeSpec := { name := "digestOpens", fn := fun _ => fun
  | [d] => { results := [.lit (.bool true)], args := [d] }
  | _ => none }
def digestOpensRow : OpenClaim := { program := "ytokdbpalkfghaaa", sum := "567ae8beb4bc3fde4e538ec59c938c243021236c07b35268ea8206b5107a265f", func := "imageeditor/imageeditorlaw05.DigestOpens", spec := "digestOpens", apart := false }
def DigestOpensSaid : Prop := digestOpensRow.holds Try.pinned (OpenSpec.ofChange digestOpensSpec)

/-- ITS FALSE NEIGHBOUR: 'it returns false'. Refute it at one input. -/
def digestOpensWrong : ChangeSpec := { name := "digestOpens", fn := fun _ => fun
  | [d] => { results := [.lit (.bool false)], args := [d] }
  | _ => none }
def DigestOpensWrongFalsely : Prop := digestOpensRow.holds Try.pinned (OpenSpec.ofChange digestOpensWrong)

/-- 'imageeditorlaw05.DigestBack': WHATEVER THE INPUT: true; the input reads as it did. -/
def digestBackSpec : ChangeSpec := { name := "digestBack", fn := fun _ => fun
  | [d1, d2] => { results := [.lit (.bool true)], args := [d1, d2] }
  | _ => none }
def digestBackRow : OpenClaim := { program := "ytokdbpalkfghaaa", sum := "567ae8beb4bc3fde4e538ec59c938c243021236c07b35268ea8206b5107a265f", func := "imageeditor/imageeditorlaw05.DigestBack", spec := "digestBack", apart := false }
def DigestBackSaid : Prop := digestBackRow.holds Try.pinned (OpenSpec.ofChange digestBackSpec)

/-- ITS FALSE NEIGHBOUR: 'it returns false'. Refute it at one input. -/
def digestBackWrong : ChangeSpec := { name := "digestBack", fn := fun _ => fun
  | [d1, d2] => { results := [.lit (.bool false)], args := [d1, d2] }
  | _ => none }
def DigestBackWrongFalsely : Prop := digestBackRow.holds Try.pinned (OpenSpec.ofChange digestBackWrong)

/-- 'imageeditorlaw05.DigestTold': WHATEVER THE INPUT: true; the input reads as it did. -/
def digestToldSpec : ChangeSpec := { name := "digestTold", fn := fun _ => fun
  | [d1, d2, d3] => { results := [.lit (.bool true)], args := [d1, d2, d3] }
  | _ => none }
def digestToldRow : OpenClaim := { program := "ytokdbpalkfghaaa", sum := "567ae8beb4bc3fde4e538ec59c938c243021236c07b35268ea8206b5107a265f", func := "imageeditor/imageeditorlaw05.DigestTold", spec := "digestTold", apart := false }
def DigestToldSaid : Prop := digestToldRow.holds Try.pinned (OpenSpec.ofChange digestToldSpec)

/-- ITS FALSE NEIGHBOUR: 'it returns false'. Refute it at one input. -/
def digestToldWrong : ChangeSpec := { name := "digestTold", fn := fun _ => fun
  | [d1, d2, d3] => { results := [.lit (.bool false)], args := [d1, d2, d3] }
  | _ => none }
def DigestToldWrongFalsely : Prop := digestToldRow.holds Try.pinned (OpenSpec.ofChange digestToldWrong)

/-- 'imageeditorlaw05.DigestLinear': WHATEVER THE INPUT: true; the input reads as it did. -/
def digestLinearSpec : ChangeSpec := { name := "digestLinear", fn := fun _ => fun
  | [d1, d2] => { results := [.lit (.bool true)], args := [d1, d2] }
  | _ => none }
def digestLinearRow : OpenClaim := { program := "ytokdbpalkfghaaa", sum := "567ae8beb4bc3fde4e538ec59c938c243021236c07b35268ea8206b5107a265f", func := "imageeditor/imageeditorlaw05.DigestLinear", spec := "digestLinear", apart := false }
def DigestLinearSaid : Prop := digestLinearRow.holds Try.pinned (OpenSpec.ofChange digestLinearSpec)

/-- ITS FALSE NEIGHBOUR: 'it returns false'. Refute it at one input. -/
def digestLinearWrong : ChangeSpec := { name := "digestLinear", fn := fun _ => fun
  | [d1, d2] => { results := [.lit (.bool false)], args := [d1, d2] }
  | _ => none }
def DigestLinearWrongFalsely : Prop := digestLinearRow.holds Try.pinned (OpenSpec.ofChange digestLinearWrong)

/-- 'imageeditorlaw05.DigestJoins': WHATEVER THE INPUT: true; the input reads as it did. -/
def digestJoinsSpec : ChangeSpec := { name := "digestJoins", fn := fun _ => fun
  | [d1, d2, d3] => { results := [.lit (.bool true)], args := [d1, d2, d3] }
  | _ => none }
def digestJoinsRow : OpenClaim := { program := "ytokdbpalkfghaaa", sum := "567ae8beb4bc3fde4e538ec59c938c243021236c07b35268ea8206b5107a265f", func := "imageeditor/imageeditorlaw05.DigestJoins", spec := "digestJoins", apart := false }
def DigestJoinsSaid : Prop := digestJoinsRow.holds Try.pinned (OpenSpec.ofChange digestJoinsSpec)

/-- ITS FALSE NEIGHBOUR: 'it returns false'. Refute it at one input. -/
def digestJoinsWrong : ChangeSpec := { name := "digestJoins", fn := fun _ => fun
  | [d1, d2, d3] => { results := [.lit (.bool false)], args := [d1, d2, d3] }
  | _ => none }
def DigestJoinsWrongFalsely : Prop := digestJoinsRow.holds Try.pinned (OpenSpec.ofChange digestJoinsWrong)

/- THE SECOND FORM. 'bulk': how many values and letters a reading holds, each counted each time it is reached (what is shared counts as often as it is met; a slice's spare places count too). A statement '..UptoSaid' is the law's where the arguments, and the package variables that the reading takes, are together of bulk at most 1048576: NARROWER than '..Said'. Prove '..Said' where nothing that the law and all that it calls make is longer than what came in: it says more and counts as full. Else prove '..UptoSaid'. A law counts once. -/
mutual
def uptoBulk {H : Type} : DataW H → Nat
  | .lit (.string bytes) => bytes.length + 1
  | .lit _ => 1
  | .nil => 1
  | .ptr d => uptoBulk d + 1
  | .slice elems spare => uptoBulkAll elems + uptoBulkAll spare + 1
  | .agg parts => uptoBulkAll parts + 1
  | .iface _ d => uptoBulk d + 1
  | .map entries => uptoBulkEntries entries + 1
  | .held _ => 1
def uptoBulkAll {H : Type} : List (DataW H) → Nat
  | [] => 0
  | d :: r => uptoBulk d + uptoBulkAll r
def uptoBulkEntries {H : Type} : List (Lit × DataW H) → Nat
  | [] => 0
  | x :: r => uptoBulkEntry x + uptoBulkEntries r
def uptoBulkEntry {H : Type} : Lit × DataW H → Nat
  | (.string bytes, d) => bytes.length + uptoBulk d + 1
  | (_, d) => uptoBulk d + 1
 end
def uptoSmall : (H : Type) → List (DataW H) → Bool := fun _ ds => decide (uptoBulkAll ds ≤ 1048576)
def OpenSpec.upto (s : _root_.Go.ChangeSpec) : _root_.Go.OpenSpec := { _root_.Go.OpenSpec.ofChange s with cond := some uptoSmall }

/-- 'imageeditorlaw05.DigestSums', WHERE WHAT IT READS IS OF BULK AT MOST 1048576: true; the input reads as it did. -/
def digestSumsUptoRow : OpenClaim := { program := "ytokdbpalkfghaaa", sum := "567ae8beb4bc3fde4e538ec59c938c243021236c07b35268ea8206b5107a265f", func := "imageeditor/imageeditorlaw05.DigestSums", spec := "digestSums", apart := false, narrowed := true }
def DigestSumsUptoSaid : Prop := digestSumsUptoRow.holds Try.pinned (OpenSpec.upto digestSumsSpec)

/-- 'imageeditorlaw05.DigestFrames', WHERE WHAT IT READS IS OF BULK AT MOST 1048576: true; the input reads as it did. -/
def digestFramesUptoRow : OpenClaim := { program := "ytokdbpalkfghaaa", sum := "567ae8beb4bc3fde4e538ec59c938c243021236c07b35268ea8206b5107a265f", func := "imageeditor/imageeditorlaw05.DigestFrames", spec := "digestFrames", apart := false, narrowed := true }
def DigestFramesUptoSaid : Prop := digestFramesUptoRow.holds Try.pinned (OpenSpec.upto digestFramesSpec)

/-- 'imageeditorlaw05.DigestOpens', WHERE WHAT IT READS IS OF BULK AT MOST 1048576: true; the input reads as it did. -/
def digestOpensUptoRow : OpenClaim := { program := "ytokdbpalkfghaaa", sum := "567ae8beb4bc3fde4e538ec59c938c243021236c07b35268ea8206b5107a265f", func := "imageeditor/imageeditorlaw05.DigestOpens", spec := "digestOpens", apart := false, narrowed := true }
def DigestOpensUptoSaid : Prop := digestOpensUptoRow.holds Try.pinned (OpenSpec.upto digestOpensSpec)

/-- 'imageeditorlaw05.DigestBack', WHERE WHAT IT READS IS OF BULK AT MOST 1048576: true; the input reads as it did. -/
def digestBackUptoRow : OpenClaim := { program := "ytokdbpalkfghaaa", sum := "567ae8beb4bc3fde4e538ec59c938c243021236c07b35268ea8206b5107a265f", func := "imageeditor/imageeditorlaw05.DigestBack", spec := "digestBack", apart := false, narrowed := true }
def DigestBackUptoSaid : Prop := digestBackUptoRow.holds Try.pinned (OpenSpec.upto digestBackSpec)

/-- 'imageeditorlaw05.DigestTold', WHERE WHAT IT READS IS OF BULK AT MOST 1048576: true; the input reads as it did. -/
def digestToldUptoRow : OpenClaim := { program := "ytokdbpalkfghaaa", sum := "567ae8beb4bc3fde4e538ec59c938c243021236c07b35268ea8206b5107a265f", func := "imageeditor/imageeditorlaw05.DigestTold", spec := "digestTold", apart := false, narrowed := true }
def DigestToldUptoSaid : Prop := digestToldUptoRow.holds Try.pinned (OpenSpec.upto digestToldSpec)

/-- 'imageeditorlaw05.DigestLinear', WHERE WHAT IT READS IS OF BULK AT MOST 1048576: true; the input reads as it did. -/
def digestLinearUptoRow : OpenClaim := { program := "ytokdbpalkfghaaa", sum := "567ae8beb4bc3fde4e538ec59c938c243021236c07b35268ea8206b5107a265f", func := "imageeditor/imageeditorlaw05.DigestLinear", spec := "digestLinear", apart := false, narrowed := true }
def DigestLinearUptoSaid : Prop := digestLinearUptoRow.holds Try.pinned (OpenSpec.upto digestLinearSpec)

/-- 'imageeditorlaw05.DigestJoins', WHERE WHAT IT READS IS OF BULK AT MOST 1048576: true; the input reads as it did. -/
def digestJoinsUptoRow : OpenClaim := { program := "ytokdbpalkfghaaa", sum := "567ae8beb4bc3fde4e538ec59c938c243021236c07b35268ea8206b5107a265f", func := "imageeditor/imageeditorlaw05.DigestJoins", spec := "digestJoins", apart := false, narrowed := true }
def DigestJoinsUptoSaid : Prop := digestJoinsUptoRow.holds Try.pinned (OpenSpec.upto digestJoinsSpec)

end Rows
end Go.Proofs.Ytokdbpalkfghaaa
