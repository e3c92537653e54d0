/-
  The reference of layer 1: unit values: products, quotients and values between two.
-/
import Derived.Test.YtdchcnggjamifaaDoorRef01Fl
namespace Go.Proofs.YtdchcnggjamifaaDoor.Ref01
open Go.RowKit Go.Proofs.YtdchcnggjamifaaDoor Go.Proofs.YtdchcnggjamifaaDoor.NumPure
open Go.Proofs.YtdchcnggjamifaaDoor.Num (ret_int)

theorem unit_any (x : Int) (w : World) : Calls Tryd.prog 35 #[.int .i64 x] w fun e w' => e = .returned (.int .i64 (unt x)) ∧ w = w' := by
  go_enter Tryd.func35, Tryd.ntmps35
  go_wp2_with (go_at_call 17; refine (clamp_any _ _ _ _).mono ?_; rintro e w' ⟨rfl, rfl⟩)
  go_ret
  exact ⟨rfl, rfl⟩

theorem unit_is (x u : Int) (h : u = unt x) (w : World) : Calls Tryd.prog 35 #[.int .i64 x] w fun e w' => e = .returned (.int .i64 u) ∧ w = w' := by
  subst h
  exact unit_any x w
theorem div_is (a b d : Int) (h : d = dvr a b) (h0 : -9223372036854775808 ≤ a) (h1 : a ≤ 9223372036854775807) (g0 : -9223372036854775808 ≤ b) (g1 : b ≤ 9223372036854775807) (w : World) :
    Calls Tryd.prog 15 #[.int .i64 a, .int .i64 b] w fun e w' => e = .returned (.int .i64 d) ∧ ∃ n, w' = w.drewN n := by
  subst h
  exact div_any a b h0 h1 g0 g1 w
theorem clamp_is (x lo hi c : Int) (h : c = clp x lo hi) (w : World) : Calls Tryd.prog 17 #[.int .i64 x, .int .i64 lo, .int .i64 hi] w fun e w' => e = .returned (.int .i64 c) ∧ w = w' := by
  subst h
  exact clamp_any x lo hi w

theorem mul_any (a b : Int) (w : World) : Calls Tryd.prog 20 #[.int .i64 a, .int .i64 b] w fun e w' => e = .returned (.int .i64 (mulU a b)) ∧ ∃ n, w' = w.drewN n := by
  obtain ⟨x, hx⟩ : ∃ x, x = unt a := ⟨_, rfl⟩
  obtain ⟨y, hy⟩ : ∃ y, y = unt b := ⟨_, rfl⟩
  have bx := unt_in a
  have b1 := unt_in b
  rw [← hx] at bx
  rw [← hy] at b1
  obtain ⟨p0, p1⟩ := mul_bd bx.1 bx.2 b1.1 b1.2
  have HX := Lib.hid hx
  have HY := Lib.hid hy
  have HD : Hid (mulU a b = dvr (x * y) 65535) := by unfold mulU; rw [hx, hy]; rfl
  clear hx hy bx b1
  go_enter Tryd.func20, Tryd.ntmps20
  go_wp2_with fail
  refine (unit_is a x HX.out _).mono ?_
  rintro e w' ⟨rfl, rfl⟩
  go_wp2_with fail
  refine (unit_is b y HY.out _).mono ?_
  rintro e w' ⟨rfl, rfl⟩
  go_wp2_with fail
  refine (div_any (x * y) 65535 (by omega) (by omega) (by omega) (by omega) _).mono ?_
  rintro e w' ⟨rfl, n, rfl⟩
  go_wp2
  go_ret
  exact ⟨ret_int HD.out.symm, _, rfl⟩

theorem quo_any (a b : Int) (w : World) : Calls Tryd.prog 22 #[.int .i64 a, .int .i64 b] w fun e w' => e = .returned (.int .i64 (quoU a b)) ∧ ∃ n, w' = w.drewN n := by
  obtain ⟨x, hx⟩ : ∃ x, x = unt a := ⟨_, rfl⟩
  obtain ⟨y, hy⟩ : ∃ y, y = unt b := ⟨_, rfl⟩
  obtain ⟨x0, x1⟩ := unt_in a
  obtain ⟨y0, y1⟩ := unt_in b
  rw [← hx] at x0 x1
  rw [← hy] at y0 y1
  obtain ⟨d, hd⟩ : ∃ d, d = dvr (x * 65535) y := ⟨_, rfl⟩
  have HX := Lib.hid hx
  have HY := Lib.hid hy
  have HD := Lib.hid hd
  have HQ : Hid (quoU a b = min 65535 d) := by unfold quoU; rw [hd, hx, hy]; rfl
  clear hx hy hd
  by_cases hy0 : y = 0
  · subst hy0
    have HZ : Hid (quoU a b = 0) := by rw [HQ.out, HD.out, dvr_zero]; rfl
    go_enter Tryd.func22, Tryd.ntmps22
    go_wp2_with fail
    refine (unit_is b 0 HY.out _).mono ?_
    rintro e w' ⟨rfl, rfl⟩
    go_wp2
    go_ret
    exact ⟨ret_int HZ.out.symm, 0, rfl⟩
  have ty : (y == 0) = false := by simpa using hy0
  go_enter Tryd.func22, Tryd.ntmps22
  go_wp2_with fail
  refine (unit_is b y HY.out _).mono ?_
  rintro e w' ⟨rfl, rfl⟩
  go_wp2_with fail
  refine (unit_is a x HX.out _).mono ?_
  rintro e w' ⟨rfl, rfl⟩
  go_wp2_with fail
  refine (unit_is b y HY.out _).mono ?_
  rintro e w' ⟨rfl, rfl⟩
  go_wp2_with fail
  refine (div_is (x * 65535) y d HD.out (by omega) (by omega) (by omega) (by omega) _).mono ?_
  rintro e w' ⟨rfl, n, rfl⟩
  go_wp2
  all_goals
    go_ret
    exact ⟨ret_int (by rw [HQ.out]; omega), _, rfl⟩

theorem lerp_any (a b t : Int) (w : World) : Calls Tryd.prog 24 #[.int .i64 a, .int .i64 b, .int .i64 t] w fun e w' => e = .returned (.int .i64 (lerpU a b t)) ∧ ∃ n, w' = w.drewN n := by
  obtain ⟨x, hx⟩ : ∃ x, x = clp a (-1099511627776) 1099511627776 := ⟨_, rfl⟩
  obtain ⟨y, hy⟩ : ∃ y, y = clp b (-1099511627776) 1099511627776 := ⟨_, rfl⟩
  obtain ⟨u, hu⟩ : ∃ u, u = unt t := ⟨_, rfl⟩
  obtain ⟨u0, u1⟩ := unt_in t
  rw [← hu] at u0 u1
  have x01 : -1099511627776 ≤ x ∧ x ≤ 1099511627776 := by rw [hx]; unfold clp; omega
  have y01 : -1099511627776 ≤ y ∧ y ≤ 1099511627776 := by rw [hy]; unfold clp; omega
  have p1 := mul_bd2 x01.1 x01.2 (show 0 ≤ 65535 - u by omega) (show 65535 - u ≤ 65535 by omega)
  have p2 := mul_bd2 y01.1 y01.2 u0 u1
  obtain ⟨p10, p11⟩ := p1
  obtain ⟨p20, p21⟩ := p2
  have HX := Lib.hid hx
  have HY := Lib.hid hy
  have HU := Lib.hid hu
  have HQ : Hid (lerpU a b t = dvr (x * (65535 - u) + y * u) 65535) := by unfold lerpU; rw [hu, hx, hy]; rfl
  clear hx hy hu x01 y01
  go_enter Tryd.func24, Tryd.ntmps24
  go_wp2_with fail
  refine (clamp_is a _ _ x HX.out _).mono ?_
  rintro e w' ⟨rfl, rfl⟩
  go_wp2_with fail
  refine (clamp_is b _ _ y HY.out _).mono ?_
  rintro e w' ⟨rfl, rfl⟩
  go_wp2_with fail
  refine (unit_is t u HU.out _).mono ?_
  rintro e w' ⟨rfl, rfl⟩
  go_wp2_with fail
  refine (div_any (x * (65535 - u) + y * u) 65535 (by omega) (by omega) (by omega) (by omega) _).mono ?_
  rintro e w' ⟨rfl, n, rfl⟩
  go_wp2
  go_ret
  exact ⟨ret_int HQ.out.symm, _, rfl⟩

end Go.Proofs.YtdchcnggjamifaaDoor.Ref01
