/-
  Layer 44's laws: a record that came in.
-/
import Derived.Test.YtelacdaehmfcaaaJouEx
import Derived.Test.YtelacdaehmfcaaaRJouAp
import Derived.Test.YtelacdaehmfcaaaFrame
import Derived.SizedLaws
import Derived.ChangeMaps5
import Derived.Lib.SmallJoins
namespace Go.Proofs.Ytelacdaehmfcaaa.JouL
open Go.RowKit Go.Proofs.Ytelacdaehmfcaaa Go.Proofs.Ytelacdaehmfcaaa.WirePure Go.Proofs.Ytelacdaehmfcaaa.DigPure Go.Proofs.Ytelacdaehmfcaaa.JouPure Go.Proofs.Ytelacdaehmfcaaa.JouC
open Go.ChangeShapes Go.WideShapes Go.ChangeAt Go.Joins

theorem cellsRec : Try.prog.cellsOf 23 = 3 := by kernel_rfl
/-- A record by value, opened. -/
theorem openRec {H : Type} {enc : TypeId × Value → H} {W : World} {r : Reach} {b0 : Nat} {v : Value} {d : DataW H} {p : List MemPlace} (hv : Value.okWide Try.prog W r b0 23 v) (h : DataW.Trod enc Try.prog W 0 (fun _ => true) true 23 v d p) :
    ∃ (k q : Int) (s : ByteArray) (x0 x1 : DataW H), v = .agg #[.int .i64 k, .int .i64 q, .string s] ∧ d = .agg [x0, x1, .lit (.string s.data.toList)] ∧ -9223372036854775808 ≤ k ∧ k ≤ 9223372036854775807 ∧ -9223372036854775808 ≤ q ∧ q ≤ 9223372036854775807 := by
  obtain ⟨c0, c1, c2, y0, y1, y2, m, rfl, rfl, rfl, hy0, hy1, hy2⟩ := open_agg3 Try.underlying23 (by kernel_rfl) cellsRec hv h
  obtain ⟨n, e0, rfl, w0⟩ := DataW.trod_int Try.underlying3 hy0
  obtain ⟨i, e1, rfl, w1⟩ := DataW.trod_int Try.underlying3 hy1
  obtain ⟨s, e2, rfl, w2⟩ := DataW.trod_string Try.underlying9 hy2
  simp only [List.cons.injEq, and_true] at e0 e1 e2
  subst e0 e1 e2
  have b0 := bounds_i64 w0
  have b1 := bounds_i64 w1
  exact ⟨n, i, s, _, _, rfl, rfl, b0.1, b0.2, b1.1, b1.2⟩

end Go.Proofs.Ytelacdaehmfcaaa.JouL
