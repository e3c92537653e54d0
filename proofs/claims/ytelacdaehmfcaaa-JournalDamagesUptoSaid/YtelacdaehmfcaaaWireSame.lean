/-
  The law's own 'same' at two equal lists.
-/
import Derived.Test.YtelacdaehmfcaaaWireEx
namespace Go.Proofs.Ytelacdaehmfcaaa.WireRd
open Go.RowKit Go.Proofs.Ytelacdaehmfcaaa Go.Proofs.Ytelacdaehmfcaaa.WirePure

end Go.Proofs.Ytelacdaehmfcaaa.WireRd
