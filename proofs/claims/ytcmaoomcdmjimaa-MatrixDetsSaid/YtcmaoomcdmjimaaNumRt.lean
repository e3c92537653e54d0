/-
  Package num: quotients of fixed-point numbers.
-/
import Derived.Test.YtcmaoomcdmjimaaNumDv
namespace Go.Proofs.Ytcmaoomcdmjimaa.Num
open Go.RowKit Go.Proofs.Ytcmaoomcdmjimaa Go.Proofs.Ytcmaoomcdmjimaa.NumPure

theorem quo_wrap (lo y : Nat) (hl : lo < 18446744073709551616) : IntKind.u64.wrap ((lo : Int) / (y : Int)) = ((lo / y : Nat) : Int) := by
  have := Nat.div_le_self lo y
  rw [← Int.natCast_ediv]
  generalize lo / y = z at *
  rw [IntKind.wrap_u64]
  omega

theorem div64_any (hi lo y : Nat) (hlt : hi < y) (hy : y < 18446744073709551616) (hl : lo < 18446744073709551616) (w : World) :
    Calls Try.prog 40 #[.int .u64 (hi : Int), .int .u64 (lo : Int), .int .u64 (y : Int)] w fun e w' => e = .returned (.tuple #[.int .u64 (((hi * 18446744073709551616 + lo) / y : Nat) : Int), .int .u64 (((hi * 18446744073709551616 + lo) % y : Nat) : Int)]) ∧ ∃ n, w' = w.drewN n := by
  by_cases h0 : hi = 0
  · subst h0
    have hy1 : (1 : Int) ≤ (y : Int) := by omega
    have hy0 : ¬ (y : Int) = 0 := by omega
    have tb1 : ((y : Int) == 0) = false := by simp; omega
    have HA : Hid (((0 * 18446744073709551616 + lo) / y : Nat) = lo / y) := Lib.hid (by rw [Nat.zero_mul, Nat.zero_add])
    have HB : Hid (((0 * 18446744073709551616 + lo) % y : Nat) = lo % y) := Lib.hid (by rw [Nat.zero_mul, Nat.zero_add])
    go_enter Try.func40, Try.ntmps40
    go_wp2
    go_quiet (fail)
    go_wp2
    go_ret2
    exact ⟨ret_pair (by rw [HA.out]; exact quo_wrap lo y hl) (by rw [HB.out, Int.natCast_emod]), _, rfl⟩
  · have hn := Lib.bitLen_le y 64 (by omega) (by omega)
    refine (div64_big hi lo y (64 - Lib.bitLen y) (by omega) hlt hy hl (by omega) w).mono ?_
    rintro e w' ⟨he, rfl⟩
    exact ⟨he, 0, rfl⟩

theorem div64_is (hi lo y q r : Nat) (hlt : hi < y) (hy : y < 18446744073709551616) (hl : lo < 18446744073709551616) (hq : (hi * 18446744073709551616 + lo) / y = q) (hr : (hi * 18446744073709551616 + lo) % y = r) (w : World) :
    Calls Try.prog 40 #[.int .u64 (hi : Int), .int .u64 (lo : Int), .int .u64 (y : Int)] w fun e w' => e = .returned (.tuple #[.int .u64 (q : Int), .int .u64 (r : Int)]) ∧ ∃ n, w' = w.drewN n := by
  subst hq hr
  exact div64_any hi lo y hlt hy hl w

theorem sgn_big {neg : Bool} {q : Nat} (h : 9223372036854775808 ≤ q) : sgn neg q = bif neg then -9223372036854775808 else 9223372036854775807 := by
  cases neg
  · show min _ _ = (9223372036854775807 : Int)
    omega
  · show max _ _ = (-9223372036854775808 : Int)
    omega
theorem rnd_ge (neg : Bool) (n d : Nat) : n / d ≤ rnd neg n d ∧ rnd neg n d ≤ n / d + 1 := by
  unfold rnd
  split <;> omega
theorem neg_word (q : Nat) (h : q ≤ 9223372036854775808) : wrap64 (IntKind.u64.wrap (-(q : Int))) = -(q : Int) := by
  rw [IntKind.wrap_u64]
  unfold wrap64
  omega

set_option maxHeartbeats 2000000 in
set_option maxRecDepth 100000 in
theorem ratio_any (a b : Int) (h0 : -9223372036854775808 ≤ a) (h1 : a ≤ 9223372036854775807) (g0 : -9223372036854775808 ≤ b) (g1 : b ≤ 9223372036854775807) (w : World) :
    Calls Try.prog 29 #[.int .i64 a, .int .i64 b] w fun e w' => e = .returned (.int .i64 (ratU a b)) ∧ ∃ n, w' = w.drewN n := by
  by_cases hb0 : b = 0
  · subst hb0
    have HF : Hid (ratU a 0 = 0) := Lib.hid (by simp [ratU])
    go_enter Try.func29, Try.ntmps29
    go_wp2
    go_ret
    exact ⟨ret_int HF.out.symm, 0, rfl⟩
  have tb : (b == 0) = false := by simpa using hb0
  obtain ⟨x, ha⟩ : ∃ x, a.natAbs = x := ⟨_, rfl⟩
  obtain ⟨d, hb⟩ : ∃ y, b.natAbs = y := ⟨_, rfl⟩
  have hx' : x ≤ 9223372036854775808 := by omega
  have hd' : d ≤ 9223372036854775808 := by omega
  have hd0 : 0 < d := by omega
  have hx : x < 18446744073709551616 := by omega
  obtain ⟨hi, hh⟩ : ∃ n, x * 65536 / 18446744073709551616 = n := ⟨_, rfl⟩
  obtain ⟨lo, hl⟩ : ∃ n, x * 65536 % 18446744073709551616 = n := ⟨_, rfl⟩
  have bl : lo < 18446744073709551616 := by omega
  have hn : hi * 18446744073709551616 + lo = x * 65536 := by omega
  obtain ⟨neg, hneg⟩ : ∃ c : Bool, (decide (a < 0) != decide (b < 0)) = c := ⟨_, rfl⟩
  have tneg : (!(decide (a < 0) == decide (b < 0))) = neg := hneg
  have hF : ratU a b = sgn neg (rnd neg (x * 65536) d) := by rw [ratU, if_neg hb0, hneg, ha, hb]
  have HA := Lib.hid ha
  have HB := Lib.hid hb
  have HH := Lib.hid hh
  have HL := Lib.hid hl
  clear hneg ha hb hh hl
  by_cases hbig : d ≤ hi
  · have HF : Hid (ratU a b = bif neg then -9223372036854775808 else 9223372036854775807) := Lib.hid (by
      rw [hF]
      apply sgn_big
      have h2 := (rnd_ge neg (x * 65536) d).1
      have h3 : 18446744073709551616 ≤ x * 65536 / d := by
        rw [Nat.le_div_iff_mul_le hd0, ← hn]
        have := Nat.mul_le_mul_left 18446744073709551616 hbig
        rw [Nat.mul_comm hi]
        omega
      omega)
    clear hF hn
    go_enter Try.func29, Try.ntmps29
    go_wp2_with fail
    refine (mag_is b d HB.out g0 g1 _).mono ?_
    rintro e w' ⟨rfl, rfl⟩
    go_wp2_with fail
    refine (mag_is a x HA.out h0 h1 _).mono ?_
    rintro e w' ⟨rfl, rfl⟩
    go_wp2_with fail
    refine (mul64_is x 65536 hi lo hx (by omega) HH.out HL.out _).mono ?_
    rintro e w' ⟨rfl, rfl⟩
    go_wp2_with fail
    refine (sat_any _ _).mono ?_
    rintro e w' ⟨rfl, rfl⟩
    go_wp2
    go_ret
    exact ⟨ret_int HF.out.symm, 0, rfl⟩
  have hlt : hi < d := by omega
  obtain ⟨q, hq⟩ : ∃ q, x * 65536 / d = q := ⟨_, rfl⟩
  obtain ⟨r, hr⟩ : ∃ r, x * 65536 % d = r := ⟨_, rfl⟩
  have hrd : r < d := by rw [← hr]; exact Nat.mod_lt _ hd0
  have HQ : Hid ((hi * 18446744073709551616 + lo) / d = q) := Lib.hid (by rw [hn, hq])
  have HR : Hid ((hi * 18446744073709551616 + lo) % d = r) := Lib.hid (by rw [hn, hr])
  have hR := rnd_ge neg (x * 65536) d
  rw [hq] at hR
  have hrnd : rnd neg (x * 65536) d = if (bif neg then decide (d - r < r) else decide (d - r ≤ r)) then q + 1 else q := by rw [rnd, hq, hr]
  clear hn hq hr
  by_cases hq63 : 9223372036854775808 ≤ q
  · have HF : Hid (ratU a b = bif neg then -9223372036854775808 else 9223372036854775807) := Lib.hid (by rw [hF]; exact sgn_big (by omega))
    have hq63' : 9223372036854775808 ≤ (q : Int) := by omega
    clear hF hR hrnd hq63 hbig
    go_enter Try.func29, Try.ntmps29
    go_wp2_with fail
    refine (mag_is b d HB.out g0 g1 _).mono ?_
    rintro e w' ⟨rfl, rfl⟩
    go_wp2_with fail
    refine (mag_is a x HA.out h0 h1 _).mono ?_
    rintro e w' ⟨rfl, rfl⟩
    go_wp2_with fail
    refine (mul64_is x 65536 hi lo hx (by omega) HH.out HL.out _).mono ?_
    rintro e w' ⟨rfl, rfl⟩
    go_wp2_with fail
    refine (div64_is hi lo d q r hlt (by omega) bl HQ.out HR.out _).mono ?_
    rintro e w' ⟨rfl, n1, rfl⟩
    go_wp2_with fail
    refine (sat_any _ _).mono ?_
    rintro e w' ⟨rfl, rfl⟩
    go_wp2
    go_ret
    exact ⟨ret_int HF.out.symm, _, rfl⟩
  clear hR hbig
  have t63 : decide (9223372036854775808 ≤ (q : Int)) = false := by rw [decide_eq_false_iff_not]; omega
  have hways : ((d : Int) - r < r) ∨ (¬ (d : Int) - r < r ∧ ((r : Int) == (d : Int) - r) = true) ∨ (¬ (d : Int) - r < r ∧ ((r : Int) == (d : Int) - r) = false) := by
    by_cases h : (d : Int) - r < r
    · exact .inl h
    · by_cases h2 : (r : Int) = (d : Int) - r
      · exact .inr (.inl ⟨h, by simpa using h2⟩)
      · exact .inr (.inr ⟨h, by simpa using h2⟩)
  cases neg with
  | true =>
    rcases hways with c1 | ⟨c1, c2⟩ | ⟨c1, c2⟩
    · have c3 : decide ((d : Int) - (r : Int) < (r : Int)) = true := by simp; omega
      have e1 : rnd true (x * 65536) d = q + 1 := by
        rw [hrnd]
        apply if_pos
        show decide _ = true
        simp; omega
      obtain ⟨qq, hqq⟩ : ∃ n : Nat, (q : Int) + 1 = n := ⟨q + 1, by omega⟩
      have bqq : qq ≤ 9223372036854775808 := by omega
      rw [e1, show q + 1 = qq by omega] at hF
      have HF : Hid (ratU a b = -(qq : Int)) := Lib.hid (by rw [hF]; show max _ _ = _; omega)
      have HN := Lib.hid (neg_word qq (by omega))
      clear hF hrnd e1
      have X1 := Lib.hid c1
      have X3 := Lib.hid c3
      have X6 := Lib.hid t63
      clear c1 c3 t63 hq63
      go_enter Try.func29, Try.ntmps29
      go_wp2_with fail
      refine (mag_is b d HB.out g0 g1 _).mono ?_
      rintro e w' ⟨rfl, rfl⟩
      go_wp2_with fail
      refine (mag_is a x HA.out h0 h1 _).mono ?_
      rintro e w' ⟨rfl, rfl⟩
      go_wp2_with fail
      refine (mul64_is x 65536 hi lo hx (by omega) HH.out HL.out _).mono ?_
      rintro e w' ⟨rfl, rfl⟩
      go_wp2_with fail
      refine (div64_is hi lo d q r hlt (by omega) bl HQ.out HR.out _).mono ?_
      rintro e w' ⟨rfl, n1, rfl⟩
      have c1 := X1.out
      have c3 := X3.out
      have t63 := X6.out
      go_wp2
      go_ret
      exact ⟨ret_int (by rw [HF.out]; exact HN.out), _, rfl⟩
    · have c3 : decide ((d : Int) - (r : Int) < (r : Int)) = false := by simp; omega
      have e1 : rnd true (x * 65536) d = q := by
        rw [hrnd]
        apply if_neg
        show ¬ decide _ = true
        simp; omega
      rw [e1] at hF
      have HF : Hid (ratU a b = -(q : Int)) := Lib.hid (by rw [hF]; show max _ _ = _; omega)
      have HN := Lib.hid (neg_word q (by omega))
      clear hF hrnd e1
      have X1 := Lib.hid c1
      have X3 := Lib.hid c3
      have X6 := Lib.hid t63
      clear c1 c3 t63 hq63
      go_enter Try.func29, Try.ntmps29
      go_wp2_with fail
      refine (mag_is b d HB.out g0 g1 _).mono ?_
      rintro e w' ⟨rfl, rfl⟩
      go_wp2_with fail
      refine (mag_is a x HA.out h0 h1 _).mono ?_
      rintro e w' ⟨rfl, rfl⟩
      go_wp2_with fail
      refine (mul64_is x 65536 hi lo hx (by omega) HH.out HL.out _).mono ?_
      rintro e w' ⟨rfl, rfl⟩
      go_wp2_with fail
      refine (div64_is hi lo d q r hlt (by omega) bl HQ.out HR.out _).mono ?_
      rintro e w' ⟨rfl, n1, rfl⟩
      have c1 := X1.out
      have c3 := X3.out
      have t63 := X6.out
      go_wp2
      go_ret
      exact ⟨ret_int (by rw [HF.out]; exact HN.out), _, rfl⟩
    · have c3 : decide ((d : Int) - (r : Int) < (r : Int)) = false := by simp; omega
      have e1 : rnd true (x * 65536) d = q := by
        rw [hrnd]
        apply if_neg
        show ¬ decide _ = true
        simp; omega
      rw [e1] at hF
      have HF : Hid (ratU a b = -(q : Int)) := Lib.hid (by rw [hF]; show max _ _ = _; omega)
      have HN := Lib.hid (neg_word q (by omega))
      clear hF hrnd e1
      have X1 := Lib.hid c1
      have X3 := Lib.hid c3
      have X6 := Lib.hid t63
      clear c1 c3 t63 hq63
      go_enter Try.func29, Try.ntmps29
      go_wp2_with fail
      refine (mag_is b d HB.out g0 g1 _).mono ?_
      rintro e w' ⟨rfl, rfl⟩
      go_wp2_with fail
      refine (mag_is a x HA.out h0 h1 _).mono ?_
      rintro e w' ⟨rfl, rfl⟩
      go_wp2_with fail
      refine (mul64_is x 65536 hi lo hx (by omega) HH.out HL.out _).mono ?_
      rintro e w' ⟨rfl, rfl⟩
      go_wp2_with fail
      refine (div64_is hi lo d q r hlt (by omega) bl HQ.out HR.out _).mono ?_
      rintro e w' ⟨rfl, n1, rfl⟩
      have c1 := X1.out
      have c3 := X3.out
      have t63 := X6.out
      go_wp2
      go_ret
      exact ⟨ret_int (by rw [HF.out]; exact HN.out), _, rfl⟩
  | false =>
    rcases hways with c1 | ⟨c1, c2⟩ | ⟨c1, c2⟩
    · have c3 : decide ((d : Int) - (r : Int) < (r : Int)) = true := by simp; omega
      have e1 : rnd false (x * 65536) d = q + 1 := by
        rw [hrnd]
        apply if_pos
        show decide _ = true
        simp; omega
      obtain ⟨qq, hqq⟩ : ∃ n : Nat, (q : Int) + 1 = n := ⟨q + 1, by omega⟩
      have bqq : qq ≤ 9223372036854775808 := by omega
      rw [e1, show q + 1 = qq by omega] at hF
      by_cases h63 : 9223372036854775808 ≤ (qq : Int)
      · have HF : Hid (ratU a b = 9223372036854775807) := Lib.hid (by rw [hF]; show min _ _ = _; omega)
        clear hF hrnd e1
        have X1 := Lib.hid c1
        have X3 := Lib.hid c3
        have X6 := Lib.hid t63
        clear c1 c3 t63 hq63
        go_enter Try.func29, Try.ntmps29
        go_wp2_with fail
        refine (mag_is b d HB.out g0 g1 _).mono ?_
        rintro e w' ⟨rfl, rfl⟩
        go_wp2_with fail
        refine (mag_is a x HA.out h0 h1 _).mono ?_
        rintro e w' ⟨rfl, rfl⟩
        go_wp2_with fail
        refine (mul64_is x 65536 hi lo hx (by omega) HH.out HL.out _).mono ?_
        rintro e w' ⟨rfl, rfl⟩
        go_wp2_with fail
        refine (div64_is hi lo d q r hlt (by omega) bl HQ.out HR.out _).mono ?_
        rintro e w' ⟨rfl, n1, rfl⟩
        have c1 := X1.out
        have c3 := X3.out
        have t63 := X6.out
        go_wp2
        go_ret
        exact ⟨ret_int HF.out.symm, _, rfl⟩
      · have HF : Hid (ratU a b = wrap64 (qq : Int)) := Lib.hid (by rw [hF, IntWalk.wrap64_in _ (by omega)]; show min _ _ = _; omega)
        have t64 : decide (9223372036854775808 ≤ (qq : Int)) = false := by rw [decide_eq_false_iff_not]; omega
        clear hF hrnd e1 h63
        have X1 := Lib.hid c1
        have X3 := Lib.hid c3
        have X6 := Lib.hid t63
        clear c1 c3 t63 hq63
        go_enter Try.func29, Try.ntmps29
        go_wp2_with fail
        refine (mag_is b d HB.out g0 g1 _).mono ?_
        rintro e w' ⟨rfl, rfl⟩
        go_wp2_with fail
        refine (mag_is a x HA.out h0 h1 _).mono ?_
        rintro e w' ⟨rfl, rfl⟩
        go_wp2_with fail
        refine (mul64_is x 65536 hi lo hx (by omega) HH.out HL.out _).mono ?_
        rintro e w' ⟨rfl, rfl⟩
        go_wp2_with fail
        refine (div64_is hi lo d q r hlt (by omega) bl HQ.out HR.out _).mono ?_
        rintro e w' ⟨rfl, n1, rfl⟩
        have c1 := X1.out
        have c3 := X3.out
        have t63 := X6.out
        go_wp2
        go_ret
        exact ⟨ret_int HF.out.symm, _, rfl⟩
    · have c3 : decide ((d : Int) - (r : Int) < (r : Int)) = false := by simp; omega
      have e1 : rnd false (x * 65536) d = q + 1 := by
        rw [hrnd]
        apply if_pos
        show decide _ = true
        simp at c2 ⊢; omega
      obtain ⟨qq, hqq⟩ : ∃ n : Nat, (q : Int) + 1 = n := ⟨q + 1, by omega⟩
      have bqq : qq ≤ 9223372036854775808 := by omega
      rw [e1, show q + 1 = qq by omega] at hF
      by_cases h63 : 9223372036854775808 ≤ (qq : Int)
      · have HF : Hid (ratU a b = 9223372036854775807) := Lib.hid (by rw [hF]; show min _ _ = _; omega)
        clear hF hrnd e1
        have X1 := Lib.hid c1
        have X3 := Lib.hid c3
        have X6 := Lib.hid t63
        clear c1 c3 t63 hq63
        go_enter Try.func29, Try.ntmps29
        go_wp2_with fail
        refine (mag_is b d HB.out g0 g1 _).mono ?_
        rintro e w' ⟨rfl, rfl⟩
        go_wp2_with fail
        refine (mag_is a x HA.out h0 h1 _).mono ?_
        rintro e w' ⟨rfl, rfl⟩
        go_wp2_with fail
        refine (mul64_is x 65536 hi lo hx (by omega) HH.out HL.out _).mono ?_
        rintro e w' ⟨rfl, rfl⟩
        go_wp2_with fail
        refine (div64_is hi lo d q r hlt (by omega) bl HQ.out HR.out _).mono ?_
        rintro e w' ⟨rfl, n1, rfl⟩
        have c1 := X1.out
        have c3 := X3.out
        have t63 := X6.out
        go_wp2
        go_ret
        exact ⟨ret_int HF.out.symm, _, rfl⟩
      · have HF : Hid (ratU a b = wrap64 (qq : Int)) := Lib.hid (by rw [hF, IntWalk.wrap64_in _ (by omega)]; show min _ _ = _; omega)
        have t64 : decide (9223372036854775808 ≤ (qq : Int)) = false := by rw [decide_eq_false_iff_not]; omega
        clear hF hrnd e1 h63
        have X1 := Lib.hid c1
        have X3 := Lib.hid c3
        have X6 := Lib.hid t63
        clear c1 c3 t63 hq63
        go_enter Try.func29, Try.ntmps29
        go_wp2_with fail
        refine (mag_is b d HB.out g0 g1 _).mono ?_
        rintro e w' ⟨rfl, rfl⟩
        go_wp2_with fail
        refine (mag_is a x HA.out h0 h1 _).mono ?_
        rintro e w' ⟨rfl, rfl⟩
        go_wp2_with fail
        refine (mul64_is x 65536 hi lo hx (by omega) HH.out HL.out _).mono ?_
        rintro e w' ⟨rfl, rfl⟩
        go_wp2_with fail
        refine (div64_is hi lo d q r hlt (by omega) bl HQ.out HR.out _).mono ?_
        rintro e w' ⟨rfl, n1, rfl⟩
        have c1 := X1.out
        have c3 := X3.out
        have t63 := X6.out
        go_wp2
        go_ret
        exact ⟨ret_int HF.out.symm, _, rfl⟩
    · have c3 : decide ((d : Int) - (r : Int) < (r : Int)) = false := by simp; omega
      have e1 : rnd false (x * 65536) d = q := by
        rw [hrnd]
        apply if_neg
        show ¬ decide _ = true
        simp at c2 ⊢; omega
      rw [e1] at hF
      have HF : Hid (ratU a b = wrap64 (q : Int)) := Lib.hid (by rw [hF, IntWalk.wrap64_in _ (by omega)]; show min _ _ = _; omega)
      clear hF hrnd e1
      have X1 := Lib.hid c1
      have X3 := Lib.hid c3
      have X6 := Lib.hid t63
      clear c1 c3 t63 hq63
      go_enter Try.func29, Try.ntmps29
      go_wp2_with fail
      refine (mag_is b d HB.out g0 g1 _).mono ?_
      rintro e w' ⟨rfl, rfl⟩
      go_wp2_with fail
      refine (mag_is a x HA.out h0 h1 _).mono ?_
      rintro e w' ⟨rfl, rfl⟩
      go_wp2_with fail
      refine (mul64_is x 65536 hi lo hx (by omega) HH.out HL.out _).mono ?_
      rintro e w' ⟨rfl, rfl⟩
      go_wp2_with fail
      refine (div64_is hi lo d q r hlt (by omega) bl HQ.out HR.out _).mono ?_
      rintro e w' ⟨rfl, n1, rfl⟩
      have c1 := X1.out
      have c3 := X3.out
      have t63 := X6.out
      go_wp2
      go_ret
      exact ⟨ret_int HF.out.symm, _, rfl⟩

end Go.Proofs.Ytcmaoomcdmjimaa.Num
