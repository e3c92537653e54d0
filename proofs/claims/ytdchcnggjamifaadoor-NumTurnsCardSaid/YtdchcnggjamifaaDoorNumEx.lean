/-
  Package num: the examples of the chapter hold.
-/
import Derived.Test.YtdchcnggjamifaaDoorNumTn
import Derived.Test.YtdchcnggjamifaaDoorNumUn
import Derived.Test.YtdchcnggjamifaaDoorNumSq
namespace Go.Proofs.YtdchcnggjamifaaDoor.Num
open Go.RowKit Go.Proofs.YtdchcnggjamifaaDoor Go.Proofs.YtdchcnggjamifaaDoor.NumPure

theorem turn_is (z s c : Int) (hs : sinZ z = s) (hc : cosZ z = c) (w : World) (hT : Tab w) :
    Calls Tryd.prog 33 #[.int .i64 z] w fun e w' => e = .returned (.tuple #[.int .i64 s, .int .i64 c]) ∧ ∃ n, w' = w.drewN n := by
  subst hs hc
  exact turn_any z w hT
theorem mul_is (a b d : Int) (h : d = mulU a b) (w : World) : Calls Tryd.prog 19 #[.int .i64 a, .int .i64 b] w fun e w' => e = .returned (.int .i64 d) ∧ w = w' := by
  subst h
  exact mul_any a b w
theorem quo_is (a b d : Int) (h : d = quoU a b) (w : World) : Calls Tryd.prog 21 #[.int .i64 a, .int .i64 b] w fun e w' => e = .returned (.int .i64 d) ∧ w = w' := by
  subst h
  exact quo_any a b w
theorem lerp_is (a b t d : Int) (h : d = lerpU a b t) (w : World) : Calls Tryd.prog 23 #[.int .i64 a, .int .i64 b, .int .i64 t] w fun e w' => e = .returned (.int .i64 d) ∧ w = w' := by
  subst h
  exact lerp_any a b t w
theorem fixed_is (a b d : Int) (h : d = fixU a b) (h0 : -9223372036854775808 ≤ a) (h1 : a ≤ 9223372036854775807) (g0 : -9223372036854775808 ≤ b) (g1 : b ≤ 9223372036854775807) (w : World) : Calls Tryd.prog 25 #[.int .i64 a, .int .i64 b] w fun e w' => e = .returned (.int .i64 d) ∧ w = w' := by
  subst h
  exact fixed_any a b h0 h1 g0 g1 w
theorem ratio_is (a b d : Int) (h : d = ratU a b) (h0 : -9223372036854775808 ≤ a) (h1 : a ≤ 9223372036854775807) (g0 : -9223372036854775808 ≤ b) (g1 : b ≤ 9223372036854775807) (w : World) : Calls Tryd.prog 27 #[.int .i64 a, .int .i64 b] w fun e w' => e = .returned (.int .i64 d) ∧ ∃ n, w' = w.drewN n := by
  subst h
  exact ratio_any a b h0 h1 g0 g1 w
theorem sqrt_is (n d : Int) (h : d = sqrtU n) (h1 : n ≤ 9223372036854775807) (w : World) : Calls Tryd.prog 29 #[.int .i64 n] w fun e w' => e = .returned (.int .i64 d) ∧ w = w' := by
  subst h
  exact sqrt_any n h1 w
theorem hypot_is (a b d : Int) (h : d = hypU a b) (h0 : -9223372036854775808 ≤ a) (h1 : a ≤ 9223372036854775807) (g0 : -9223372036854775808 ≤ b) (g1 : b ≤ 9223372036854775807) (w : World) : Calls Tryd.prog 31 #[.int .i64 a, .int .i64 b] w fun e w' => e = .returned (.int .i64 d) ∧ w = w' := by
  subst h
  exact hypot_any a b h0 h1 g0 g1 w

set_option maxHeartbeats 2000000 in
set_option maxRecDepth 100000 in
theorem example_any (w : World) (hT : Tab w) : Calls Tryd.prog 18 #[] w fun e w' => e = .returned (.bool true) ∧ ∃ n, w' = w.drewN n := by
  have HT := Lib.hid hT
  clear hT
  go_enter Tryd.func18, Tryd.ntmps18
  go_wp2_with fail
  refine (turn_is 128 804 65526 (by decide +kernel) (by decide +kernel) _ HT.out).mono ?_
  rintro e w' ⟨rfl, n1, rfl⟩
  go_wp2_with fail
  refine (floor_is (-7) 2 (-4) (by decide) (by decide) (by decide +kernel) _).mono ?_
  rintro e w' ⟨rfl, rfl⟩
  go_wp2_with fail
  refine (div_is (-7) 2 (-3) (by decide +kernel) (by decide) (by decide) (by decide) (by decide) _).mono ?_
  rintro e w' ⟨rfl, rfl⟩
  go_wp2_with fail
  refine (div_is 7 (-2) (-3) (by decide +kernel) (by decide) (by decide) (by decide) (by decide) _).mono ?_
  rintro e w' ⟨rfl, rfl⟩
  go_wp2_with fail
  refine (div_is (-1) 2 0 (by decide +kernel) (by decide) (by decide) (by decide) (by decide) _).mono ?_
  rintro e w' ⟨rfl, rfl⟩
  go_wp2_with fail
  refine (div_is 1 2 1 (by decide +kernel) (by decide) (by decide) (by decide) (by decide) _).mono ?_
  rintro e w' ⟨rfl, rfl⟩
  go_wp2_with fail
  refine (mul_is 32768 32768 16384 (by decide +kernel) _).mono ?_
  rintro e w' ⟨rfl, rfl⟩
  go_wp2_with fail
  refine (quo_is 5 3 65535 (by decide +kernel) _).mono ?_
  rintro e w' ⟨rfl, rfl⟩
  go_wp2_with fail
  refine (lerp_is 0 10 32768 5 (by decide +kernel) _).mono ?_
  rintro e w' ⟨rfl, rfl⟩
  go_wp2_with fail
  refine (fixed_is 98304 98304 147456 (by decide +kernel) (by decide) (by decide) (by decide) (by decide) _).mono ?_
  rintro e w' ⟨rfl, rfl⟩
  go_wp2_with fail
  refine (ratio_is 1 3 21845 (by decide +kernel) (by decide) (by decide) (by decide) (by decide) _).mono ?_
  rintro e w' ⟨rfl, n2, rfl⟩
  go_wp2_with fail
  refine (ratio_is 1 (-2) (-32768) (by decide +kernel) (by decide) (by decide) (by decide) (by decide) _).mono ?_
  rintro e w' ⟨rfl, n3, rfl⟩
  go_wp2_with fail
  refine (sqrt_is 24 4 (by decide +kernel) (by decide) _).mono ?_
  rintro e w' ⟨rfl, rfl⟩
  go_wp2_with fail
  refine (hypot_is 3 (-4) 5 (by decide +kernel) (by decide) (by decide) (by decide) (by decide) _).mono ?_
  rintro e w' ⟨rfl, rfl⟩
  go_wp2
  go_ret
  exact ⟨rfl, _, rfl⟩

end Go.Proofs.YtdchcnggjamifaaDoor.Num
