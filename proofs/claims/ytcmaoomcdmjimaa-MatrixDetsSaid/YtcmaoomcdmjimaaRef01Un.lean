/-
  The reference of layer 1: unit values: products, quotients and values between two.
-/
import Derived.Test.YtcmaoomcdmjimaaRef01Fl
namespace Go.Proofs.Ytcmaoomcdmjimaa.Ref01
open Go.RowKit Go.Proofs.Ytcmaoomcdmjimaa Go.Proofs.Ytcmaoomcdmjimaa.NumPure
open Go.Proofs.Ytcmaoomcdmjimaa.Num (ret_int)

theorem div_is (a b d : Int) (h : d = dvr a b) (h0 : -9223372036854775808 ≤ a) (h1 : a ≤ 9223372036854775807) (g0 : -9223372036854775808 ≤ b) (g1 : b ≤ 9223372036854775807) (w : World) :
    Calls Try.prog 27 #[.int .i64 a, .int .i64 b] w fun e w' => e = .returned (.int .i64 d) ∧ ∃ n, w' = w.drewN n := by
  subst h
  exact div_any a b h0 h1 g0 g1 w
end Go.Proofs.Ytcmaoomcdmjimaa.Ref01
