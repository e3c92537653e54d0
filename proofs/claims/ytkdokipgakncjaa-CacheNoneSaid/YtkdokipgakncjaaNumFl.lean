/-
  Package num: quotients rounded down and to the nearest integer, limits. What each function answers, for every input.
-/
import Derived.Test.YtkdokipgakncjaaWords
import Derived.Test.YtkdokipgakncjaaNumPure
import Derived.WalkKit
import Derived.WalkSpells
import Derived.WalkLawsBesides
import Derived.Outline
import Derived.Lib.Hide
import Derived.Deep.QuietTactic
import Derived.BigQuiet
namespace Go.Proofs.Ytkdokipgakncjaa.Num
open Go.RowKit Go.Proofs.Ytkdokipgakncjaa Go.Proofs.Ytkdokipgakncjaa.NumPure

theorem ret_int {k : IntKind} {a b : Int} (h : a = b) : Ending.returned (.int k a) = .returned (.int k b) := by rw [h]

/-- The least number by -1 is shut out: in the walk's own tests. -/
theorem notOver {a b : Int} (hx : ¬ (a = -9223372036854775808 ∧ b = -1)) : ((a == -9223372036854775808) = true ∧ (b == -1) = false) ∨ (a == -9223372036854775808) = false := by
  by_cases e : a = -9223372036854775808
  · exact .inl ⟨by simp [e], by simp; intro e2; exact hx ⟨e, e2⟩⟩
  · exact .inr (by simpa using e)

theorem wrap_sub {a x : Int} (h0 : -9223372036854775808 ≤ a - x) (h1 : a - x ≤ 9223372036854775807) : wrap64 (a - wrap64 x) = a - x := by
  unfold wrap64
  omega

/-- What is left by the quotient that was rounded down. -/
theorem rest_pos {a b : Int} (hb : 0 < b) : 0 ≤ a - b * a.fdiv b ∧ a - b * a.fdiv b < b := by
  have := fdiv_pos (a := a) hb
  omega
theorem rest_neg {a b : Int} (hb : b < 0) : a - b * a.fdiv b ≤ 0 ∧ b < a - b * a.fdiv b := by
  have := fdiv_neg (a := a) hb
  omega

/-- What the walk of Div needs: the quotient q, the rest r, and whether it is rounded up. -/
theorem div_parts (a b : Int) (h0 : -9223372036854775808 ≤ a) (h1 : a ≤ 9223372036854775807) (g0 : -9223372036854775808 ≤ b) (g1 : b ≤ 9223372036854775807) (hb : b ≠ 0) (hx : ¬ (a = -9223372036854775808 ∧ b = -1)) :
    ∃ q r : Int, q = flr a b ∧ wrap64 (a - wrap64 (b * q)) = r ∧ -9223372036854775808 ≤ q ∧ q ≤ 9223372036854775807 ∧ ((0 < b ∧ 0 ≤ r ∧ r < b) ∨ (b < 0 ∧ r ≤ 0 ∧ b < r)) ∧
      ((dvr a b = q + 1 ∧ q + 1 ≤ 9223372036854775807 ∧ (0 < b → b - r ≤ r) ∧ (b < 0 → r ≤ b - r)) ∨ (dvr a b = q ∧ (0 < b → r < b - r) ∧ (b < 0 → b - r < r))) := by
  refine ⟨flr a b, a - b * flr a b, rfl, ?_, (flr_in h0 h1).1, (flr_in h0 h1).2, ?_, ?_⟩
  · apply wrap_sub
    all_goals
      rw [flr_of hb hx]
      rcases Int.lt_or_gt_of_ne hb with h | h
      · have := rest_neg (a := a) h
        omega
      · have := rest_pos (a := a) h
        omega
  · rw [flr_of hb hx]
    rcases Int.lt_or_gt_of_ne hb with h | h
    · exact .inr ⟨h, rest_neg h⟩
    · exact .inl ⟨h, rest_pos h⟩
  · cases hu : up a b with
    | true =>
      have hi := up_in h0 h1 hb hu
      refine .inl ⟨dvr_up hb hx hu, by rw [flr_of hb hx]; exact hi.2, ?_, ?_⟩
      all_goals
        rw [flr_of hb hx]
        intro h
        simp only [up, decide_eq_true_eq] at hu
        omega
    | false =>
      refine .inr ⟨dvr_down hb hx hu, ?_, ?_⟩
      all_goals
        rw [flr_of hb hx]
        intro h
        simp only [up, decide_eq_false_iff_not] at hu
        omega

theorem clamp_any (x lo hi : Int) (w : World) : Calls Try.prog 23 #[.int .i64 x, .int .i64 lo, .int .i64 hi] w fun e w' => e = .returned (.int .i64 (clp x lo hi)) ∧ w = w' := by
  go_enter Try.func23, Try.ntmps23
  go_wp2
  all_goals
    go_ret
    exact ⟨ret_int (by unfold clp; omega), rfl⟩

end Go.Proofs.Ytkdokipgakncjaa.Num
