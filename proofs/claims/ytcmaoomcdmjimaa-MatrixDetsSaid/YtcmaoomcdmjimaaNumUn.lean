/-
  Package num: unit values: products, quotients and values between two.
-/
import Derived.Test.YtcmaoomcdmjimaaNumFl
namespace Go.Proofs.Ytcmaoomcdmjimaa.Num
open Go.RowKit Go.Proofs.Ytcmaoomcdmjimaa Go.Proofs.Ytcmaoomcdmjimaa.NumPure

theorem div_is (a b d : Int) (h : d = dvr a b) (h0 : -9223372036854775808 ≤ a) (h1 : a ≤ 9223372036854775807) (g0 : -9223372036854775808 ≤ b) (g1 : b ≤ 9223372036854775807) (w : World) :
    Calls Try.prog 26 #[.int .i64 a, .int .i64 b] w fun e w' => e = .returned (.int .i64 d) ∧ w = w' := by
  subst h
  exact div_any a b h0 h1 g0 g1 w
theorem clamp_is (x lo hi c : Int) (h : c = clp x lo hi) (w : World) : Calls Try.prog 25 #[.int .i64 x, .int .i64 lo, .int .i64 hi] w fun e w' => e = .returned (.int .i64 c) ∧ w = w' := by
  subst h
  exact clamp_any x lo hi w

end Go.Proofs.Ytcmaoomcdmjimaa.Num
