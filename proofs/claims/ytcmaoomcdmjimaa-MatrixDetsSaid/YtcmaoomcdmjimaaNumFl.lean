/-
  Package num: quotients rounded down and to the nearest integer, limits. What each function answers, for every input.
-/
import Derived.Test.YtcmaoomcdmjimaaWords
import Derived.Test.YtcmaoomcdmjimaaNumPure
import Derived.WalkKit
import Derived.WalkSpells
import Derived.WalkLawsBesides
import Derived.Outline
import Derived.Lib.Hide
import Derived.Deep.QuietTactic
import Derived.BigQuiet
namespace Go.Proofs.Ytcmaoomcdmjimaa.Num
open Go.RowKit Go.Proofs.Ytcmaoomcdmjimaa Go.Proofs.Ytcmaoomcdmjimaa.NumPure

theorem ret_int {k : IntKind} {a b : Int} (h : a = b) : Ending.returned (.int k a) = .returned (.int k b) := by rw [h]

/-- The least number by -1 is shut out: in the walk's own tests. -/
theorem notOver {a b : Int} (hx : ¬ (a = -9223372036854775808 ∧ b = -1)) : ((a == -9223372036854775808) = true ∧ (b == -1) = false) ∨ (a == -9223372036854775808) = false := by
  by_cases e : a = -9223372036854775808
  · exact .inl ⟨by simp [e], by simp; intro e2; exact hx ⟨e, e2⟩⟩
  · exact .inr (by simpa using e)

set_option maxHeartbeats 1000000 in
theorem floor_any (a b : Int) (h0 : -9223372036854775808 ≤ a) (h1 : a ≤ 9223372036854775807) (w : World) :
    Calls Try.prog 34 #[.int .i64 a, .int .i64 b] w fun e w' => e = .returned (.int .i64 (flr a b)) ∧ w = w' := by
  by_cases hb : b = 0
  · subst hb
    go_enter Try.func34, Try.ntmps34
    go_wp2
    go_ret
    exact ⟨ret_int (flr_zero a).symm, rfl⟩
  have tb : (b == 0) = false := by simpa using hb
  by_cases hx : a = -9223372036854775808 ∧ b = -1
  · obtain ⟨rfl, rfl⟩ := hx
    go_enter Try.func34, Try.ntmps34
    go_wp2
    go_ret
    exact ⟨ret_int flr_over.symm, rfl⟩
  have hq := tdiv_in h0 h1 hx
  obtain ⟨q0, q1⟩ := hq
  have hmin := notOver hx
  by_cases hm : a.tmod b = 0
  · have HF := Lib.hid (flr_keep hb hx (by simp [hm]))
    have tm : (a.tmod b != 0) = false := by simp [hm]
    clear hm hx
    rcases hmin with ⟨t1, t2⟩ | t1
    all_goals
      go_enter Try.func34, Try.ntmps34
      go_wp2
      go_ret
      exact ⟨ret_int HF.out.symm, rfl⟩
  · have tm : (a.tmod b != 0) = true := by simp [hm]
    by_cases hs : decide (a < 0) = decide (b < 0)
    · have HF := Lib.hid (flr_keep hb hx (by simp [hs]))
      have ts : (!(decide (a < 0) == decide (b < 0))) = false := by rw [hs]; simp
      clear hm hx hs
      rcases hmin with ⟨t1, t2⟩ | t1
      all_goals
        go_enter Try.func34, Try.ntmps34
        go_wp2
        go_ret
        exact ⟨ret_int HF.out.symm, rfl⟩
    · have HF := Lib.hid (flr_down hb hx hm hs)
      have hi := flr_in (b := b) h0 h1
      rw [HF.out] at hi
      have ts : (!(decide (a < 0) == decide (b < 0))) = true := by simpa using hs
      obtain ⟨q2, q3⟩ := hi
      clear hm hx hs
      rcases hmin with ⟨t1, t2⟩ | t1
      all_goals
        go_enter Try.func34, Try.ntmps34
        go_wp2
        go_ret
        exact ⟨ret_int HF.out.symm, rfl⟩

theorem wrap_sub {a x : Int} (h0 : -9223372036854775808 ≤ a - x) (h1 : a - x ≤ 9223372036854775807) : wrap64 (a - wrap64 x) = a - x := by
  unfold wrap64
  omega

/-- What is left by the quotient that was rounded down. -/
theorem rest_pos {a b : Int} (hb : 0 < b) : 0 ≤ a - b * a.fdiv b ∧ a - b * a.fdiv b < b := by
  have := fdiv_pos (a := a) hb
  omega
theorem rest_neg {a b : Int} (hb : b < 0) : a - b * a.fdiv b ≤ 0 ∧ b < a - b * a.fdiv b := by
  have := fdiv_neg (a := a) hb
  omega

/-- What the walk of Div needs: the quotient q, the rest r, and whether it is rounded up. -/
theorem div_parts (a b : Int) (h0 : -9223372036854775808 ≤ a) (h1 : a ≤ 9223372036854775807) (g0 : -9223372036854775808 ≤ b) (g1 : b ≤ 9223372036854775807) (hb : b ≠ 0) (hx : ¬ (a = -9223372036854775808 ∧ b = -1)) :
    ∃ q r : Int, q = flr a b ∧ wrap64 (a - wrap64 (b * q)) = r ∧ -9223372036854775808 ≤ q ∧ q ≤ 9223372036854775807 ∧ ((0 < b ∧ 0 ≤ r ∧ r < b) ∨ (b < 0 ∧ r ≤ 0 ∧ b < r)) ∧
      ((dvr a b = q + 1 ∧ q + 1 ≤ 9223372036854775807 ∧ (0 < b → b - r ≤ r) ∧ (b < 0 → r ≤ b - r)) ∨ (dvr a b = q ∧ (0 < b → r < b - r) ∧ (b < 0 → b - r < r))) := by
  refine ⟨flr a b, a - b * flr a b, rfl, ?_, (flr_in h0 h1).1, (flr_in h0 h1).2, ?_, ?_⟩
  · apply wrap_sub
    all_goals
      rw [flr_of hb hx]
      rcases Int.lt_or_gt_of_ne hb with h | h
      · have := rest_neg (a := a) h
        omega
      · have := rest_pos (a := a) h
        omega
  · rw [flr_of hb hx]
    rcases Int.lt_or_gt_of_ne hb with h | h
    · exact .inr ⟨h, rest_neg h⟩
    · exact .inl ⟨h, rest_pos h⟩
  · cases hu : up a b with
    | true =>
      have hi := up_in h0 h1 hb hu
      refine .inl ⟨dvr_up hb hx hu, by rw [flr_of hb hx]; exact hi.2, ?_, ?_⟩
      all_goals
        rw [flr_of hb hx]
        intro h
        simp only [up, decide_eq_true_eq] at hu
        omega
    | false =>
      refine .inr ⟨dvr_down hb hx hu, ?_, ?_⟩
      all_goals
        rw [flr_of hb hx]
        intro h
        simp only [up, decide_eq_false_iff_not] at hu
        omega

theorem floor_is (a b q : Int) (h0 : -9223372036854775808 ≤ a) (h1 : a ≤ 9223372036854775807) (hq : q = flr a b) (w : World) :
    Calls Try.prog 34 #[.int .i64 a, .int .i64 b] w fun e w' => e = .returned (.int .i64 q) ∧ w = w' := by
  subst hq
  exact floor_any a b h0 h1 w

set_option maxHeartbeats 2000000 in
theorem div_any (a b : Int) (h0 : -9223372036854775808 ≤ a) (h1 : a ≤ 9223372036854775807) (g0 : -9223372036854775808 ≤ b) (g1 : b ≤ 9223372036854775807) (w : World) :
    Calls Try.prog 26 #[.int .i64 a, .int .i64 b] w fun e w' => e = .returned (.int .i64 (dvr a b)) ∧ w = w' := by
  by_cases hb : b = 0
  · subst hb
    go_enter Try.func26, Try.ntmps26
    go_wp2
    go_ret
    exact ⟨ret_int (dvr_zero a).symm, rfl⟩
  have tb : (b == 0) = false := by simpa using hb
  by_cases hx : a = -9223372036854775808 ∧ b = -1
  · obtain ⟨rfl, rfl⟩ := hx
    go_enter Try.func26, Try.ntmps26
    go_wp2
    go_ret
    exact ⟨ret_int dvr_over.symm, rfl⟩
  have hmin := notOver hx
  obtain ⟨q, r, hq, hr, q0, q1, hs, hc⟩ := div_parts a b h0 h1 g0 g1 hb hx
  have HQ := Lib.hid hq
  clear hq hx
  rcases hs with ⟨hp, r0, r1⟩ | ⟨hp, r0, r1⟩
  all_goals
    rcases hc with ⟨hd, hi, hu, hv⟩ | ⟨hd, hu, hv⟩
    all_goals
      have HD := Lib.hid hd
      clear hd
      first | (have hl := hu hp; clear hu hv) | (have hl := hv hp; clear hu hv)
      rcases hmin with ⟨t1, t2⟩ | t1
      all_goals
        go_enter Try.func26, Try.ntmps26
        go_wp2_with (go_at_call 34; refine (floor_is a b q h0 h1 HQ.out _).mono ?_; rintro e w' ⟨rfl, rfl⟩)
        go_ret
        exact ⟨ret_int HD.out.symm, rfl⟩

theorem clamp_any (x lo hi : Int) (w : World) : Calls Try.prog 25 #[.int .i64 x, .int .i64 lo, .int .i64 hi] w fun e w' => e = .returned (.int .i64 (clp x lo hi)) ∧ w = w' := by
  go_enter Try.func25, Try.ntmps25
  go_wp2
  all_goals
    go_ret
    exact ⟨ret_int (by unfold clp; omega), rfl⟩

end Go.Proofs.Ytcmaoomcdmjimaa.Num
