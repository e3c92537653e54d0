/-
  No cell of these rows narrows 'for every input' (looked for: loops, veiled, ifaces, maps, wideKeys, modest, calm, conditions, laid).
  DERIVED. THE GIVEN ROWS OF THIS SEAT. 6 by the template 'for every input the law returns true; each argument reads behind the call as it read before'; 0 by the template 'total and deterministic' (their statements: YtkdokipgakncjaaTotals.lean).
  GIVEN WITH THE SEED: the statements are not yours to turn. If you find one false, say at which input.
  Laid BY PROGRAM, IN A SANDBOX (cutbox-rows.mjs): the forced cells as the released guide's own fill.sh prints them over the translation 9b588b687679e4b4… (all of the seat's roots in one cut). By AI agents, Wed Nov 11 2026. No macro, syntax, notation, axiom, sorry.
-/
import Derived.Test.YtkdokipgakncjaaChecked
import GoSem.Claim
import GoSem.ClaimJoined
import GoSem.ClaimMapViews
import Derived.JoinedTies
import Derived.KernelRfl
namespace Go.Proofs.Ytkdokipgakncjaa
/- THE CELL 'sum', in the pinned program and in every row, IS THE sha256 OF THE DUMP (.gsa) THAT YtkdokipgakncjaaProg.lean LOADS. Nothing in Lean hashes anything: it is a label: what it is worth is what the hold of that sum in a sandbox is worth. -/
noncomputable def Try.pinned : Pinned := { name := "ytkdokipgakncjaa", sum := "9b588b687679e4b4678e0db350eb67af2ff97b428d41d64ee9af8ed3b9e4b96a", checked := Try.checked }
namespace Rows
def none {H : Type} : Left H := { results := [], args := [] }

/-- 'imageeditorlaw36.CacheRuns': WHATEVER THE INPUT: true; the input reads as it did. -/
def cacheRunsSpec : ChangeSpec := { name := "cacheRuns", fn := fun _ => fun
  | [d1, d2] => { results := [.lit (.bool true)], args := [d1, d2] }
  | _ => none }
def cacheRunsRow : OpenClaim := { program := "ytkdokipgakncjaa", sum := "9b588b687679e4b4678e0db350eb67af2ff97b428d41d64ee9af8ed3b9e4b96a", func := "imageeditor/imageeditorlaw36.CacheRuns", spec := "cacheRuns", plainKeys := false, apart := false }
def CacheRunsSaid : Prop := cacheRunsRow.holds Try.pinned (OpenSpec.ofChange cacheRunsSpec)

/-- ITS FALSE NEIGHBOUR: 'it returns false'. Refute it at one input. -/
def cacheRunsWrong : ChangeSpec := { name := "cacheRuns", fn := fun _ => fun
  | [d1, d2] => { results := [.lit (.bool false)], args := [d1, d2] }
  | _ => none }
def CacheRunsWrongFalsely : Prop := cacheRunsRow.holds Try.pinned (OpenSpec.ofChange cacheRunsWrong)

/-- 'imageeditorlaw36.CacheBudgets': WHATEVER THE INPUT: true; the input reads as it did. -/
def cacheBudgetsSpec : ChangeSpec := { name := "cacheBudgets", fn := fun _ => fun
  | [d1, d2] => { results := [.lit (.bool true)], args := [d1, d2] }
  | _ => none }
def cacheBudgetsRow : OpenClaim := { program := "ytkdokipgakncjaa", sum := "9b588b687679e4b4678e0db350eb67af2ff97b428d41d64ee9af8ed3b9e4b96a", func := "imageeditor/imageeditorlaw36.CacheBudgets", spec := "cacheBudgets", plainKeys := false, apart := false }
def CacheBudgetsSaid : Prop := cacheBudgetsRow.holds Try.pinned (OpenSpec.ofChange cacheBudgetsSpec)

/-- ITS FALSE NEIGHBOUR: 'it returns false'. Refute it at one input. -/
def cacheBudgetsWrong : ChangeSpec := { name := "cacheBudgets", fn := fun _ => fun
  | [d1, d2] => { results := [.lit (.bool false)], args := [d1, d2] }
  | _ => none }
def CacheBudgetsWrongFalsely : Prop := cacheBudgetsRow.holds Try.pinned (OpenSpec.ofChange cacheBudgetsWrong)

/-- 'imageeditorlaw36.CacheValues': WHATEVER THE INPUT: true; the input reads as it did. -/
def cacheValuesSpec : ChangeSpec := { name := "cacheValues", fn := fun _ => fun
  | [d1, d2] => { results := [.lit (.bool true)], args := [d1, d2] }
  | _ => none }
def cacheValuesRow : OpenClaim := { program := "ytkdokipgakncjaa", sum := "9b588b687679e4b4678e0db350eb67af2ff97b428d41d64ee9af8ed3b9e4b96a", func := "imageeditor/imageeditorlaw36.CacheValues", spec := "cacheValues", plainKeys := false, apart := false }
def CacheValuesSaid : Prop := cacheValuesRow.holds Try.pinned (OpenSpec.ofChange cacheValuesSpec)

/-- ITS FALSE NEIGHBOUR: 'it returns false'. Refute it at one input. -/
def cacheValuesWrong : ChangeSpec := { name := "cacheValues", fn := fun _ => fun
  | [d1, d2] => { results := [.lit (.bool false)], args := [d1, d2] }
  | _ => none }
def CacheValuesWrongFalsely : Prop := cacheValuesRow.holds Try.pinned (OpenSpec.ofChange cacheValuesWrong)

/-- 'imageeditorlaw36.CacheOrders': WHATEVER THE INPUT: true; the input reads as it did. -/
def cacheOrdersSpec : ChangeSpec := { name := "cacheOrders", fn := fun _ => fun
  | [d1, d2] => { results := [.lit (.bool true)], args := [d1, d2] }
  | _ => none }
def cacheOrdersRow : OpenClaim := { program := "ytkdokipgakncjaa", sum := "9b588b687679e4b4678e0db350eb67af2ff97b428d41d64ee9af8ed3b9e4b96a", func := "imageeditor/imageeditorlaw36.CacheOrders", spec := "cacheOrders", plainKeys := false, apart := false }
def CacheOrdersSaid : Prop := cacheOrdersRow.holds Try.pinned (OpenSpec.ofChange cacheOrdersSpec)

/-- ITS FALSE NEIGHBOUR: 'it returns false'. Refute it at one input. -/
def cacheOrdersWrong : ChangeSpec := { name := "cacheOrders", fn := fun _ => fun
  | [d1, d2] => { results := [.lit (.bool false)], args := [d1, d2] }
  | _ => none }
def CacheOrdersWrongFalsely : Prop := cacheOrdersRow.holds Try.pinned (OpenSpec.ofChange cacheOrdersWrong)

/-- 'imageeditorlaw36.CacheNone': WHATEVER THE INPUT: true; the input reads as it did. -/
def cacheNoneSpec : ChangeSpec := { name := "cacheNone", fn := fun _ => fun
  | [d] => { results := [.lit (.bool true)], args := [d] }
  | _ => none }
def cacheNoneRow : OpenClaim := { program := "ytkdokipgakncjaa", sum := "9b588b687679e4b4678e0db350eb67af2ff97b428d41d64ee9af8ed3b9e4b96a", func := "imageeditor/imageeditorlaw36.CacheNone", spec := "cacheNone", plainKeys := false, apart := false }
def CacheNoneSaid : Prop := cacheNoneRow.holds Try.pinned (OpenSpec.ofChange cacheNoneSpec)

/-- ITS FALSE NEIGHBOUR: 'it returns false'. Refute it at one input. -/
def cacheNoneWrong : ChangeSpec := { name := "cacheNone", fn := fun _ => fun
  | [d] => { results := [.lit (.bool false)], args := [d] }
  | _ => none }
def CacheNoneWrongFalsely : Prop := cacheNoneRow.holds Try.pinned (OpenSpec.ofChange cacheNoneWrong)

/-- 'imageeditorlaw36.CacheCopies': WHATEVER THE INPUT: true; the input reads as it did. -/
def cacheCopiesSpec : ChangeSpec := { name := "cacheCopies", fn := fun _ => fun
  | [d1, d2, d3] => { results := [.lit (.bool true)], args := [d1, d2, d3] }
  | _ => none }
def cacheCopiesRow : OpenClaim := { program := "ytkdokipgakncjaa", sum := "9b588b687679e4b4678e0db350eb67af2ff97b428d41d64ee9af8ed3b9e4b96a", func := "imageeditor/imageeditorlaw36.CacheCopies", spec := "cacheCopies", plainKeys := false, apart := false }
def CacheCopiesSaid : Prop := cacheCopiesRow.holds Try.pinned (OpenSpec.ofChange cacheCopiesSpec)

/-- ITS FALSE NEIGHBOUR: 'it returns false'. Refute it at one input. -/
def cacheCopiesWrong : ChangeSpec := { name := "cacheCopies", fn := fun _ => fun
  | [d1, d2, d3] => { results := [.lit (.bool false)], args := [d1, d2, d3] }
  | _ => none }
def CacheCopiesWrongFalsely : Prop := cacheCopiesRow.holds Try.pinned (OpenSpec.ofChange cacheCopiesWrong)

/- THE SECOND FORM. 'bulk': how many values and letters a reading holds, each counted each time it is reached (what is shared counts as often as it is met; a slice's spare places count too). A statement '..UptoSaid' is the law's where the arguments, and the package variables that the reading takes, are together of bulk at most 1048576: NARROWER than '..Said'. Prove '..Said' where nothing that the law and all that it calls make is longer than what came in: it says more and counts as full. Else prove '..UptoSaid'. A law counts once. -/
mutual
def uptoBulk {H : Type} : DataW H → Nat
  | .lit (.string bytes) => bytes.length + 1
  | .lit _ => 1
  | .nil => 1
  | .ptr d => uptoBulk d + 1
  | .slice elems spare => uptoBulkAll elems + uptoBulkAll spare + 1
  | .agg parts => uptoBulkAll parts + 1
  | .iface _ d => uptoBulk d + 1
  | .map entries => uptoBulkEntries entries + 1
  | .held _ => 1
def uptoBulkAll {H : Type} : List (DataW H) → Nat
  | [] => 0
  | d :: r => uptoBulk d + uptoBulkAll r
def uptoBulkEntries {H : Type} : List (Lit × DataW H) → Nat
  | [] => 0
  | x :: r => uptoBulkEntry x + uptoBulkEntries r
def uptoBulkEntry {H : Type} : Lit × DataW H → Nat
  | (.string bytes, d) => bytes.length + uptoBulk d + 1
  | (_, d) => uptoBulk d + 1
 end
def uptoSmall : (H : Type) → List (DataW H) → Bool := fun _ ds => decide (uptoBulkAll ds ≤ 1048576)
def OpenSpec.upto (s : _root_.Go.ChangeSpec) : _root_.Go.OpenSpec := { _root_.Go.OpenSpec.ofChange s with cond := some uptoSmall }

/-- 'imageeditorlaw36.CacheRuns', WHERE WHAT IT READS IS OF BULK AT MOST 1048576: true; the input reads as it did. -/
def cacheRunsUptoRow : OpenClaim := { program := "ytkdokipgakncjaa", sum := "9b588b687679e4b4678e0db350eb67af2ff97b428d41d64ee9af8ed3b9e4b96a", func := "imageeditor/imageeditorlaw36.CacheRuns", spec := "cacheRuns", plainKeys := false, apart := false, narrowed := true }
def CacheRunsUptoSaid : Prop := cacheRunsUptoRow.holds Try.pinned (OpenSpec.upto cacheRunsSpec)

/-- 'imageeditorlaw36.CacheBudgets', WHERE WHAT IT READS IS OF BULK AT MOST 1048576: true; the input reads as it did. -/
def cacheBudgetsUptoRow : OpenClaim := { program := "ytkdokipgakncjaa", sum := "9b588b687679e4b4678e0db350eb67af2ff97b428d41d64ee9af8ed3b9e4b96a", func := "imageeditor/imageeditorlaw36.CacheBudgets", spec := "cacheBudgets", plainKeys := false, apart := false, narrowed := true }
def CacheBudgetsUptoSaid : Prop := cacheBudgetsUptoRow.holds Try.pinned (OpenSpec.upto cacheBudgetsSpec)

/-- 'imageeditorlaw36.CacheValues', WHERE WHAT IT READS IS OF BULK AT MOST 1048576: true; the input reads as it did. -/
def cacheValuesUptoRow : OpenClaim := { program := "ytkdokipgakncjaa", sum := "9b588b687679e4b4678e0db350eb67af2ff97b428d41d64ee9af8ed3b9e4b96a", func := "imageeditor/imageeditorlaw36.CacheValues", spec := "cacheValues", plainKeys := false, apart := false, narrowed := true }
def CacheValuesUptoSaid : Prop := cacheValuesUptoRow.holds Try.pinned (OpenSpec.upto cacheValuesSpec)

/-- 'imageeditorlaw36.CacheOrders', WHERE WHAT IT READS IS OF BULK AT MOST 1048576: true; the input reads as it did. -/
def cacheOrdersUptoRow : OpenClaim := { program := "ytkdokipgakncjaa", sum := "9b588b687679e4b4678e0db350eb67af2ff97b428d41d64ee9af8ed3b9e4b96a", func := "imageeditor/imageeditorlaw36.CacheOrders", spec := "cacheOrders", plainKeys := false, apart := false, narrowed := true }
def CacheOrdersUptoSaid : Prop := cacheOrdersUptoRow.holds Try.pinned (OpenSpec.upto cacheOrdersSpec)

/-- 'imageeditorlaw36.CacheNone', WHERE WHAT IT READS IS OF BULK AT MOST 1048576: true; the input reads as it did. -/
def cacheNoneUptoRow : OpenClaim := { program := "ytkdokipgakncjaa", sum := "9b588b687679e4b4678e0db350eb67af2ff97b428d41d64ee9af8ed3b9e4b96a", func := "imageeditor/imageeditorlaw36.CacheNone", spec := "cacheNone", plainKeys := false, apart := false, narrowed := true }
def CacheNoneUptoSaid : Prop := cacheNoneUptoRow.holds Try.pinned (OpenSpec.upto cacheNoneSpec)

/-- 'imageeditorlaw36.CacheCopies', WHERE WHAT IT READS IS OF BULK AT MOST 1048576: true; the input reads as it did. -/
def cacheCopiesUptoRow : OpenClaim := { program := "ytkdokipgakncjaa", sum := "9b588b687679e4b4678e0db350eb67af2ff97b428d41d64ee9af8ed3b9e4b96a", func := "imageeditor/imageeditorlaw36.CacheCopies", spec := "cacheCopies", plainKeys := false, apart := false, narrowed := true }
def CacheCopiesUptoSaid : Prop := cacheCopiesUptoRow.holds Try.pinned (OpenSpec.upto cacheCopiesSpec)

end Rows
end Go.Proofs.Ytkdokipgakncjaa
