/-
  The reference of layer 1: quotients rounded down and to the nearest integer, limits, unit values. What each function answers, for every input.
-/
import Derived.Test.YtcmaoomcdmjimaaNumFl
namespace Go.Proofs.Ytcmaoomcdmjimaa.Ref01
open Go.RowKit Go.Proofs.Ytcmaoomcdmjimaa Go.Proofs.Ytcmaoomcdmjimaa.NumPure Go.Proofs.Ytcmaoomcdmjimaa.Num

theorem abs_nat (a : Int) (h0 : -9223372036854775808 ≤ a) (h : a < 0) : IntKind.u64.wrap (-IntKind.u64.wrap a) = (a.natAbs : Int) := by
  simp only [IntKind.wrap_u64]
  omega
theorem abs_pos (a : Int) (h1 : a ≤ 9223372036854775807) (h : 0 ≤ a) : IntKind.u64.wrap a = (a.natAbs : Int) := by
  simp only [IntKind.wrap_u64]
  omega

theorem abs_any (a : Int) (h0 : -9223372036854775808 ≤ a) (h1 : a ≤ 9223372036854775807) (w : World) :
    Calls Try.prog 36 #[.int .i64 a] w fun e w' => e = .returned (.int .u64 (a.natAbs : Int)) ∧ w = w' := by
  rcases Int.lt_or_le a 0 with h | h
  · have HA := Lib.hid (abs_nat a h0 h)
    go_enter Try.func36, Try.ntmps36
    go_wp2
    go_ret
    exact ⟨ret_int HA.out, rfl⟩
  · have HA := Lib.hid (abs_pos a h1 h)
    go_enter Try.func36, Try.ntmps36
    go_wp2
    go_ret
    exact ⟨ret_int (by first | exact HA.out | omega), rfl⟩

theorem tmod_sign {a b : Int} (hb : b ≠ 0) (hm : a.tmod b ≠ 0) : decide (a.tmod b < 0) = decide (a < 0) := by
  by_cases h : a < 0
  · have := tmod_neg (a := a) (b := b) (by omega) hb
    simp [h]
    omega
  · have := tmod_pos (a := a) (b := b) (by omega) hb
    simp [h]
    omega

set_option maxHeartbeats 1000000 in
theorem floor_any (a b : Int) (h0 : -9223372036854775808 ≤ a) (h1 : a ≤ 9223372036854775807) (w : World) :
    Calls Try.prog 35 #[.int .i64 a, .int .i64 b] w fun e w' => e = .returned (.int .i64 (flr a b)) ∧ ∃ n, w' = w.drewN n := by
  by_cases hb : b = 0
  · subst hb
    go_enter Try.func35, Try.ntmps35
    go_wp2
    go_ret
    exact ⟨ret_int (flr_zero a).symm, 0, rfl⟩
  have tb : (b == 0) = false := by simpa using hb
  by_cases hx : a = -9223372036854775808 ∧ b = -1
  · obtain ⟨rfl, rfl⟩ := hx
    go_enter Try.func35, Try.ntmps35
    go_wp2
    go_ret
    exact ⟨ret_int flr_over.symm, 0, rfl⟩
  have hq := tdiv_in h0 h1 hx
  obtain ⟨q0, q1⟩ := hq
  have hmin := notOver hx
  by_cases hm : a.tmod b = 0
  · have HF := Lib.hid (flr_keep hb hx (by simp [hm]))
    have tm : (a.tmod b != 0) = false := by simp [hm]
    clear hm hx
    rcases hmin with ⟨t1, t2⟩ | t1
    all_goals
      go_enter Try.func35, Try.ntmps35
      go_wp2
      go_quiet (fail)
      go_wp2
      go_ret
      exact ⟨ret_int HF.out.symm, _, rfl⟩
  · have tm : (a.tmod b != 0) = true := by simp [hm]
    by_cases hs : decide (a < 0) = decide (b < 0)
    · have HF := Lib.hid (flr_keep hb hx (by simp [hs]))
      have ts : (!(decide (a.tmod b < 0) == decide (b < 0))) = false := by rw [tmod_sign hb hm, hs]; simp
      clear hm hx hs
      rcases hmin with ⟨t1, t2⟩ | t1
      all_goals
        go_enter Try.func35, Try.ntmps35
        go_wp2
        go_quiet (fail)
        go_wp2
        go_ret
        exact ⟨ret_int HF.out.symm, _, rfl⟩
    · have HF := Lib.hid (flr_down hb hx hm hs)
      have hi := flr_in (b := b) h0 h1
      rw [HF.out] at hi
      have ts : (!(decide (a.tmod b < 0) == decide (b < 0))) = true := by rw [tmod_sign hb hm]; simpa using hs
      obtain ⟨q2, q3⟩ := hi
      clear hm hx hs
      rcases hmin with ⟨t1, t2⟩ | t1
      all_goals
        go_enter Try.func35, Try.ntmps35
        go_wp2
        go_quiet (fail)
        go_wp2
        go_ret
        exact ⟨ret_int HF.out.symm, _, rfl⟩

theorem floor_is (a b q : Int) (h0 : -9223372036854775808 ≤ a) (h1 : a ≤ 9223372036854775807) (hq : q = flr a b) (w : World) :
    Calls Try.prog 35 #[.int .i64 a, .int .i64 b] w fun e w' => e = .returned (.int .i64 q) ∧ ∃ n, w' = w.drewN n := by
  subst hq
  exact floor_any a b h0 h1 w
theorem abs_is (a : Int) (n : Nat) (h : a.natAbs = n) (h0 : -9223372036854775808 ≤ a) (h1 : a ≤ 9223372036854775807) (w : World) :
    Calls Try.prog 36 #[.int .i64 a] w fun e w' => e = .returned (.int .u64 (n : Int)) ∧ w = w' := by
  subst h
  exact abs_any a h0 h1 w

set_option maxHeartbeats 2000000 in
theorem div_any (a b : Int) (h0 : -9223372036854775808 ≤ a) (h1 : a ≤ 9223372036854775807) (g0 : -9223372036854775808 ≤ b) (g1 : b ≤ 9223372036854775807) (w : World) :
    Calls Try.prog 27 #[.int .i64 a, .int .i64 b] w fun e w' => e = .returned (.int .i64 (dvr a b)) ∧ ∃ n, w' = w.drewN n := by
  by_cases hb : b = 0
  · subst hb
    go_enter Try.func27, Try.ntmps27
    go_wp2
    go_ret
    exact ⟨ret_int (dvr_zero a).symm, 0, rfl⟩
  have tb : (b == 0) = false := by simpa using hb
  by_cases hx : a = -9223372036854775808 ∧ b = -1
  · obtain ⟨rfl, rfl⟩ := hx
    go_enter Try.func27, Try.ntmps27
    go_wp2_with (go_at_call 35; refine (floor_is (-9223372036854775808) (-1) 9223372036854775807 (by omega) (by omega) flr_over.symm _).mono ?_; rintro e w' ⟨rfl, n, rfl⟩)
    go_ret
    exact ⟨ret_int dvr_over.symm, _, rfl⟩
  have hmin := notOver hx
  obtain ⟨q, r, hq, hr, q0, q1, hs, hc⟩ := div_parts a b h0 h1 g0 g1 hb hx
  have HQ := Lib.hid hq
  clear hq hx
  have hr0 : -9223372036854775808 ≤ r ∧ r ≤ 9223372036854775807 := by omega
  obtain ⟨m, hm⟩ : ∃ m, r.natAbs = m := ⟨_, rfl⟩
  obtain ⟨d, hd⟩ : ∃ d, b.natAbs = d := ⟨_, rfl⟩
  have hmd : m < d := by omega
  have hd2 : d ≤ 9223372036854775808 := by omega
  rcases hc with ⟨hd1, hi, hu, hv⟩ | ⟨hd1, hu, hv⟩
  · have hl : (d : Int) - m ≤ m := by omega
    have HD := Lib.hid hd1
    have HM := Lib.hid hm
    have HB := Lib.hid hd
    obtain ⟨r0, r1⟩ := hr0
    clear hd1 hu hv hs hm hd
    rcases hmin with ⟨t1, t2⟩ | t1
    all_goals
      go_enter Try.func27, Try.ntmps27
      go_wp2_with fail
      refine (floor_is a b q h0 h1 HQ.out _).mono ?_
      rintro e w' ⟨rfl, n, rfl⟩
      go_wp2_with fail
      refine (abs_is r m HM.out r0 r1 _).mono ?_
      rintro e w' ⟨rfl, rfl⟩
      go_wp2_with fail
      refine (abs_is b d HB.out g0 g1 _).mono ?_
      rintro e w' ⟨rfl, rfl⟩
      go_wp2
      go_ret
      exact ⟨ret_int HD.out.symm, _, rfl⟩
  · have hl : (m : Int) < (d : Int) - m := by omega
    have HD := Lib.hid hd1
    have HM := Lib.hid hm
    have HB := Lib.hid hd
    obtain ⟨r0, r1⟩ := hr0
    clear hd1 hu hv hs hm hd
    rcases hmin with ⟨t1, t2⟩ | t1
    all_goals
      go_enter Try.func27, Try.ntmps27
      go_wp2_with fail
      refine (floor_is a b q h0 h1 HQ.out _).mono ?_
      rintro e w' ⟨rfl, n, rfl⟩
      go_wp2_with fail
      refine (abs_is r m HM.out r0 r1 _).mono ?_
      rintro e w' ⟨rfl, rfl⟩
      go_wp2_with fail
      refine (abs_is b d HB.out g0 g1 _).mono ?_
      rintro e w' ⟨rfl, rfl⟩
      go_wp2
      go_ret
      exact ⟨ret_int HD.out.symm, _, rfl⟩

end Go.Proofs.Ytcmaoomcdmjimaa.Ref01
