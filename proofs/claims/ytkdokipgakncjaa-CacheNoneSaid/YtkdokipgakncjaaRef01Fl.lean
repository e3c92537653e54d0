/-
  The reference of layer 1: quotients rounded down and to the nearest integer, limits, unit values. What each function answers, for every input.
-/
import Derived.Test.YtkdokipgakncjaaNumFl
namespace Go.Proofs.Ytkdokipgakncjaa.Ref01
open Go.RowKit Go.Proofs.Ytkdokipgakncjaa Go.Proofs.Ytkdokipgakncjaa.NumPure Go.Proofs.Ytkdokipgakncjaa.Num

theorem abs_nat (a : Int) (h0 : -9223372036854775808 ≤ a) (h : a < 0) : IntKind.u64.wrap (-IntKind.u64.wrap a) = (a.natAbs : Int) := by
  simp only [IntKind.wrap_u64]
  omega
theorem abs_pos (a : Int) (h1 : a ≤ 9223372036854775807) (h : 0 ≤ a) : IntKind.u64.wrap a = (a.natAbs : Int) := by
  simp only [IntKind.wrap_u64]
  omega

theorem tmod_sign {a b : Int} (hb : b ≠ 0) (hm : a.tmod b ≠ 0) : decide (a.tmod b < 0) = decide (a < 0) := by
  by_cases h : a < 0
  · have := tmod_neg (a := a) (b := b) (by omega) hb
    simp [h]
    omega
  · have := tmod_pos (a := a) (b := b) (by omega) hb
    simp [h]
    omega

theorem clamp_any (x lo hi : Int) (w : World) : Calls Try.prog 24 #[.int .i64 x, .int .i64 lo, .int .i64 hi] w fun e w' => e = .returned (.int .i64 (clp x lo hi)) ∧ w = w' := by
  go_enter Try.func24, Try.ntmps24
  go_wp2
  all_goals
    go_ret
    exact ⟨ret_int (by unfold clp; omega), rfl⟩

end Go.Proofs.Ytkdokipgakncjaa.Ref01
