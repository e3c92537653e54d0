/-
  No cell of these rows narrows 'for every input' (looked for: loops, veiled, ifaces, maps, wideKeys, modest, calm, conditions, laid).
  DERIVED. THE GIVEN ROWS OF THIS SEAT. 7 by the template 'for every input the law returns true; each argument reads behind the call as it read before'; 0 by the template 'total and deterministic' (their statements: YtcighjeiimjbiaaTotals.lean).
  GIVEN WITH THE SEED: the statements are not yours to turn. If you find one false, say at which input.
  Laid BY PROGRAM, IN A SANDBOX (cutbox-rows.mjs): the forced cells as the released guide's own fill.sh prints them over the translation da82e2339519ec01… (all of the seat's roots in one cut). By AI agents, Wed Nov 11 2026. No macro, syntax, notation, axiom, sorry.
-/
import Derived.Test.YtcighjeiimjbiaaChecked
import GoSem.Claim
import GoSem.ClaimJoined
import GoSem.ClaimMapViews
import Derived.JoinedTies
import Derived.KernelRfl
namespace Go.Proofs.Ytcighjeiimjbiaa
/- THE CELL 'sum', in the pinned program and in every row, IS THE sha256 OF THE DUMP (.gsa) THAT YtcighjeiimjbiaaProg.lean LOADS. Nothing in Lean hashes anything: it is a label: what it is worth is what the hold of that sum in a sandbox is worth. -/
noncomputable def Try.pinned : Pinned := { name := "ytcighjeiimjbiaa", sum := "da82e2339519ec01eafe6e3ec000c9e4809a292b83796d5cf997071fc96dc750", checked := Try.checked }
namespace Rows
def none {H : Type} : Left H := { results := [], args := [] }

/-- 'imageeditorlaw09.ProfileIdentity': WHATEVER THE INPUT: true; the input reads as it did. -/
def profileIdentitySpec : ChangeSpec := { name := "profileIdentity", fn := fun _ => fun
  | [d1, d2] => { results := [.lit (.bool true)], args := [d1, d2] }
  | _ => none }
def profileIdentityRow : OpenClaim := { program := "ytcighjeiimjbiaa", sum := "da82e2339519ec01eafe6e3ec000c9e4809a292b83796d5cf997071fc96dc750", func := "imageeditor/imageeditorlaw09.ProfileIdentity", spec := "profileIdentity", unfollowed := true, recurses := true, named := ["math/bits.divideError", "math/bits.overflowError"], apart := false }
def ProfileIdentitySaid : Prop := profileIdentityRow.holds Try.pinned (OpenSpec.ofChange profileIdentitySpec)

/-- ITS FALSE NEIGHBOUR: 'it returns false'. Refute it at one input. -/
def profileIdentityWrong : ChangeSpec := { name := "profileIdentity", fn := fun _ => fun
  | [d1, d2] => { results := [.lit (.bool false)], args := [d1, d2] }
  | _ => none }
def ProfileIdentityWrongFalsely : Prop := profileIdentityRow.holds Try.pinned (OpenSpec.ofChange profileIdentityWrong)

/-- 'imageeditorlaw09.ProfileImages': WHATEVER THE INPUT: true; the input reads as it did. -/
def profileImagesSpec : ChangeSpec := { name := "profileImages", fn := fun _ => fun
  | [d1, d2, d3] => { results := [.lit (.bool true)], args := [d1, d2, d3] }
  | _ => none }
def profileImagesRow : OpenClaim := { program := "ytcighjeiimjbiaa", sum := "da82e2339519ec01eafe6e3ec000c9e4809a292b83796d5cf997071fc96dc750", func := "imageeditor/imageeditorlaw09.ProfileImages", spec := "profileImages", unfollowed := true, recurses := true, named := ["math/bits.divideError", "math/bits.overflowError"], apart := false }
def ProfileImagesSaid : Prop := profileImagesRow.holds Try.pinned (OpenSpec.ofChange profileImagesSpec)

/-- ITS FALSE NEIGHBOUR: 'it returns false'. Refute it at one input. -/
def profileImagesWrong : ChangeSpec := { name := "profileImages", fn := fun _ => fun
  | [d1, d2, d3] => { results := [.lit (.bool false)], args := [d1, d2, d3] }
  | _ => none }
def ProfileImagesWrongFalsely : Prop := profileImagesRow.holds Try.pinned (OpenSpec.ofChange profileImagesWrong)

/-- 'imageeditorlaw09.ProfileChecks': WHATEVER THE INPUT: true; the input reads as it did. -/
def profileChecksSpec : ChangeSpec := { name := "profileChecks", fn := fun _ => fun
  | [d1, d2] => { results := [.lit (.bool true)], args := [d1, d2] }
  | _ => none }
def profileChecksRow : OpenClaim := { program := "ytcighjeiimjbiaa", sum := "da82e2339519ec01eafe6e3ec000c9e4809a292b83796d5cf997071fc96dc750", func := "imageeditor/imageeditorlaw09.ProfileChecks", spec := "profileChecks", unfollowed := true, recurses := true, named := ["math/bits.divideError", "math/bits.overflowError"], apart := false }
def ProfileChecksSaid : Prop := profileChecksRow.holds Try.pinned (OpenSpec.ofChange profileChecksSpec)

/-- ITS FALSE NEIGHBOUR: 'it returns false'. Refute it at one input. -/
def profileChecksWrong : ChangeSpec := { name := "profileChecks", fn := fun _ => fun
  | [d1, d2] => { results := [.lit (.bool false)], args := [d1, d2] }
  | _ => none }
def ProfileChecksWrongFalsely : Prop := profileChecksRow.holds Try.pinned (OpenSpec.ofChange profileChecksWrong)

/-- 'imageeditorlaw09.ProfileColors': WHATEVER THE INPUT: true; the input reads as it did. -/
def profileColorsSpec : ChangeSpec := { name := "profileColors", fn := fun _ => fun
  | [d1, d2, d3] => { results := [.lit (.bool true)], args := [d1, d2, d3] }
  | _ => none }
def profileColorsRow : OpenClaim := { program := "ytcighjeiimjbiaa", sum := "da82e2339519ec01eafe6e3ec000c9e4809a292b83796d5cf997071fc96dc750", func := "imageeditor/imageeditorlaw09.ProfileColors", spec := "profileColors", unfollowed := true, recurses := true, named := ["math/bits.divideError", "math/bits.overflowError"], apart := false }
def ProfileColorsSaid : Prop := profileColorsRow.holds Try.pinned (OpenSpec.ofChange profileColorsSpec)

/-- ITS FALSE NEIGHBOUR: 'it returns false'. Refute it at one input. -/
def profileColorsWrong : ChangeSpec := { name := "profileColors", fn := fun _ => fun
  | [d1, d2, d3] => { results := [.lit (.bool false)], args := [d1, d2, d3] }
  | _ => none }
def ProfileColorsWrongFalsely : Prop := profileColorsRow.holds Try.pinned (OpenSpec.ofChange profileColorsWrong)

/-- 'imageeditorlaw09.ProfileConverts': WHATEVER THE INPUT: true; the input reads as it did. -/
def profileConvertsSpec : ChangeSpec := { name := "profileConverts", fn := fun _ => fun
  | [d1, d2, d3] => { results := [.lit (.bool true)], args := [d1, d2, d3] }
  | _ => none }
def profileConvertsRow : OpenClaim := { program := "ytcighjeiimjbiaa", sum := "da82e2339519ec01eafe6e3ec000c9e4809a292b83796d5cf997071fc96dc750", func := "imageeditor/imageeditorlaw09.ProfileConverts", spec := "profileConverts", unfollowed := true, recurses := true, named := ["math/bits.divideError", "math/bits.overflowError"], apart := false }
def ProfileConvertsSaid : Prop := profileConvertsRow.holds Try.pinned (OpenSpec.ofChange profileConvertsSpec)

/-- ITS FALSE NEIGHBOUR: 'it returns false'. Refute it at one input. -/
def profileConvertsWrong : ChangeSpec := { name := "profileConverts", fn := fun _ => fun
  | [d1, d2, d3] => { results := [.lit (.bool false)], args := [d1, d2, d3] }
  | _ => none }
def ProfileConvertsWrongFalsely : Prop := profileConvertsRow.holds Try.pinned (OpenSpec.ofChange profileConvertsWrong)

/-- 'imageeditorlaw09.ProfileParses': WHATEVER THE INPUT: true; the input reads as it did. -/
def profileParsesSpec : ChangeSpec := { name := "profileParses", fn := fun _ => fun
  | [d] => { results := [.lit (.bool true)], args := [d] }
  | _ => none }
def profileParsesRow : OpenClaim := { program := "ytcighjeiimjbiaa", sum := "da82e2339519ec01eafe6e3ec000c9e4809a292b83796d5cf997071fc96dc750", func := "imageeditor/imageeditorlaw09.ProfileParses", spec := "profileParses", unfollowed := true, recurses := true, named := ["math/bits.divideError", "math/bits.overflowError"], apart := false }
def ProfileParsesSaid : Prop := profileParsesRow.holds Try.pinned (OpenSpec.ofChange profileParsesSpec)

/-- ITS FALSE NEIGHBOUR: 'it returns false'. Refute it at one input. -/
def profileParsesWrong : ChangeSpec := { name := "profileParses", fn := fun _ => fun
  | [d] => { results := [.lit (.bool false)], args := [d] }
  | _ => none }
def ProfileParsesWrongFalsely : Prop := profileParsesRow.holds Try.pinned (OpenSpec.ofChange profileParsesWrong)

/-- 'imageeditorlaw09.ProfileReturns': WHATEVER THE INPUT: true; the input reads as it did. -/
def profileReturnsSpec : ChangeSpec := { name := "profileReturns", fn := fun _ => fun
  | [d1, d2] => { results := [.lit (.bool true)], args := [d1, d2] }
  | _ => none }
def profileReturnsRow : OpenClaim := { program := "ytcighjeiimjbiaa", sum := "da82e2339519ec01eafe6e3ec000c9e4809a292b83796d5cf997071fc96dc750", func := "imageeditor/imageeditorlaw09.ProfileReturns", spec := "profileReturns", unfollowed := true, recurses := true, named := ["math/bits.divideError", "math/bits.overflowError"], apart := false }
def ProfileReturnsSaid : Prop := profileReturnsRow.holds Try.pinned (OpenSpec.ofChange profileReturnsSpec)

/-- ITS FALSE NEIGHBOUR: 'it returns false'. Refute it at one input. -/
def profileReturnsWrong : ChangeSpec := { name := "profileReturns", fn := fun _ => fun
  | [d1, d2] => { results := [.lit (.bool false)], args := [d1, d2] }
  | _ => none }
def ProfileReturnsWrongFalsely : Prop := profileReturnsRow.holds Try.pinned (OpenSpec.ofChange profileReturnsWrong)

/- THE SECOND FORM. 'bulk': how many values and letters a reading holds, each counted each time it is reached (what is shared counts as often as it is met; a slice's spare places count too). A statement '..UptoSaid' is the law's where the arguments, and the package variables that the reading takes, are together of bulk at most 1048576: NARROWER than '..Said'. Prove '..Said' where nothing that the law and all that it calls make is longer than what came in: it says more and counts as full. Else prove '..UptoSaid'. A law counts once. -/
mutual
def uptoBulk {H : Type} : DataW H → Nat
  | .lit (.string bytes) => bytes.length + 1
  | .lit _ => 1
  | .nil => 1
  | .ptr d => uptoBulk d + 1
  | .slice elems spare => uptoBulkAll elems + uptoBulkAll spare + 1
  | .agg parts => uptoBulkAll parts + 1
  | .iface _ d => uptoBulk d + 1
  | .map entries => uptoBulkEntries entries + 1
  | .held _ => 1
def uptoBulkAll {H : Type} : List (DataW H) → Nat
  | [] => 0
  | d :: r => uptoBulk d + uptoBulkAll r
def uptoBulkEntries {H : Type} : List (Lit × DataW H) → Nat
  | [] => 0
  | x :: r => uptoBulkEntry x + uptoBulkEntries r
def uptoBulkEntry {H : Type} : Lit × DataW H → Nat
  | (.string bytes, d) => bytes.length + uptoBulk d + 1
  | (_, d) => uptoBulk d + 1
 end
def uptoSmall : (H : Type) → List (DataW H) → Bool := fun _ ds => decide (uptoBulkAll ds ≤ 1048576)
def OpenSpec.upto (s : _root_.Go.ChangeSpec) : _root_.Go.OpenSpec := { _root_.Go.OpenSpec.ofChange s with cond := some uptoSmall }

/-- 'imageeditorlaw09.ProfileIdentity', WHERE WHAT IT READS IS OF BULK AT MOST 1048576: true; the input reads as it did. -/
def profileIdentityUptoRow : OpenClaim := { program := "ytcighjeiimjbiaa", sum := "da82e2339519ec01eafe6e3ec000c9e4809a292b83796d5cf997071fc96dc750", func := "imageeditor/imageeditorlaw09.ProfileIdentity", spec := "profileIdentity", unfollowed := true, recurses := true, named := ["math/bits.divideError", "math/bits.overflowError"], apart := false, narrowed := true }
def ProfileIdentityUptoSaid : Prop := profileIdentityUptoRow.holds Try.pinned (OpenSpec.upto profileIdentitySpec)

/-- 'imageeditorlaw09.ProfileImages', WHERE WHAT IT READS IS OF BULK AT MOST 1048576: true; the input reads as it did. -/
def profileImagesUptoRow : OpenClaim := { program := "ytcighjeiimjbiaa", sum := "da82e2339519ec01eafe6e3ec000c9e4809a292b83796d5cf997071fc96dc750", func := "imageeditor/imageeditorlaw09.ProfileImages", spec := "profileImages", unfollowed := true, recurses := true, named := ["math/bits.divideError", "math/bits.overflowError"], apart := false, narrowed := true }
def ProfileImagesUptoSaid : Prop := profileImagesUptoRow.holds Try.pinned (OpenSpec.upto profileImagesSpec)

/-- 'imageeditorlaw09.ProfileChecks', WHERE WHAT IT READS IS OF BULK AT MOST 1048576: true; the input reads as it did. -/
def profileChecksUptoRow : OpenClaim := { program := "ytcighjeiimjbiaa", sum := "da82e2339519ec01eafe6e3ec000c9e4809a292b83796d5cf997071fc96dc750", func := "imageeditor/imageeditorlaw09.ProfileChecks", spec := "profileChecks", unfollowed := true, recurses := true, named := ["math/bits.divideError", "math/bits.overflowError"], apart := false, narrowed := true }
def ProfileChecksUptoSaid : Prop := profileChecksUptoRow.holds Try.pinned (OpenSpec.upto profileChecksSpec)

/-- 'imageeditorlaw09.ProfileColors', WHERE WHAT IT READS IS OF BULK AT MOST 1048576: true; the input reads as it did. -/
def profileColorsUptoRow : OpenClaim := { program := "ytcighjeiimjbiaa", sum := "da82e2339519ec01eafe6e3ec000c9e4809a292b83796d5cf997071fc96dc750", func := "imageeditor/imageeditorlaw09.ProfileColors", spec := "profileColors", unfollowed := true, recurses := true, named := ["math/bits.divideError", "math/bits.overflowError"], apart := false, narrowed := true }
def ProfileColorsUptoSaid : Prop := profileColorsUptoRow.holds Try.pinned (OpenSpec.upto profileColorsSpec)

/-- 'imageeditorlaw09.ProfileConverts', WHERE WHAT IT READS IS OF BULK AT MOST 1048576: true; the input reads as it did. -/
def profileConvertsUptoRow : OpenClaim := { program := "ytcighjeiimjbiaa", sum := "da82e2339519ec01eafe6e3ec000c9e4809a292b83796d5cf997071fc96dc750", func := "imageeditor/imageeditorlaw09.ProfileConverts", spec := "profileConverts", unfollowed := true, recurses := true, named := ["math/bits.divideError", "math/bits.overflowError"], apart := false, narrowed := true }
def ProfileConvertsUptoSaid : Prop := profileConvertsUptoRow.holds Try.pinned (OpenSpec.upto profileConvertsSpec)

/-- 'imageeditorlaw09.ProfileParses', WHERE WHAT IT READS IS OF BULK AT MOST 1048576: true; the input reads as it did. -/
def profileParsesUptoRow : OpenClaim := { program := "ytcighjeiimjbiaa", sum := "da82e2339519ec01eafe6e3ec000c9e4809a292b83796d5cf997071fc96dc750", func := "imageeditor/imageeditorlaw09.ProfileParses", spec := "profileParses", unfollowed := true, recurses := true, named := ["math/bits.divideError", "math/bits.overflowError"], apart := false, narrowed := true }
def ProfileParsesUptoSaid : Prop := profileParsesUptoRow.holds Try.pinned (OpenSpec.upto profileParsesSpec)

/-- 'imageeditorlaw09.ProfileReturns', WHERE WHAT IT READS IS OF BULK AT MOST 1048576: true; the input reads as it did. -/
def profileReturnsUptoRow : OpenClaim := { program := "ytcighjeiimjbiaa", sum := "da82e2339519ec01eafe6e3ec000c9e4809a292b83796d5cf997071fc96dc750", func := "imageeditor/imageeditorlaw09.ProfileReturns", spec := "profileReturns", unfollowed := true, recurses := true, named := ["math/bits.divideError", "math/bits.overflowError"], apart := false, narrowed := true }
def ProfileReturnsUptoSaid : Prop := profileReturnsUptoRow.holds Try.pinned (OpenSpec.upto profileReturnsSpec)

end Rows
end Go.Proofs.Ytcighjeiimjbiaa
