/-
  Texts of this claim, joined (2 of 8): NumRt, MatE, Ref01Fl, Ref01Un, RMatA, RMatB, RMatC, RMatD, RMatE, RMatF, RMatG, WireEnc, Ref04Enc.
-/
import Derived.Test.YtcighjeiimjbiaaAll1
import Derived.Laws.OwnMore
import Derived.OwnWalk
import Derived.WalkKit
import Derived.WalkSpells
import Derived.WalkLawsBesides
import Derived.Lib.VarintMem
import Derived.Lib.Slices
import Derived.Lib.Hide

/- NumRt: Package num: quotients of fixed-point numbers. -/
namespace Go.Proofs.Ytcighjeiimjbiaa.Num
open Go.RowKit Go.Proofs.Ytcighjeiimjbiaa Go.Proofs.Ytcighjeiimjbiaa.NumPure

theorem quo_wrap (lo y : Nat) (hl : lo < 18446744073709551616) : IntKind.u64.wrap ((lo : Int) / (y : Int)) = ((lo / y : Nat) : Int) := by
  have := Nat.div_le_self lo y
  rw [← Int.natCast_ediv]
  generalize lo / y = z at *
  rw [IntKind.wrap_u64]
  omega

theorem div64_any (hi lo y : Nat) (hlt : hi < y) (hy : y < 18446744073709551616) (hl : lo < 18446744073709551616) (w : World) :
    Calls Try.prog 99 #[.int .u64 (hi : Int), .int .u64 (lo : Int), .int .u64 (y : Int)] w fun e w' => e = .returned (.tuple #[.int .u64 (((hi * 18446744073709551616 + lo) / y : Nat) : Int), .int .u64 (((hi * 18446744073709551616 + lo) % y : Nat) : Int)]) ∧ ∃ n, w' = w.drewN n := by
  by_cases h0 : hi = 0
  · subst h0
    have hy1 : (1 : Int) ≤ (y : Int) := by omega
    have hy0 : ¬ (y : Int) = 0 := by omega
    have tb1 : ((y : Int) == 0) = false := by simp; omega
    have HA : Hid (((0 * 18446744073709551616 + lo) / y : Nat) = lo / y) := Lib.hid (by rw [Nat.zero_mul, Nat.zero_add])
    have HB : Hid (((0 * 18446744073709551616 + lo) % y : Nat) = lo % y) := Lib.hid (by rw [Nat.zero_mul, Nat.zero_add])
    go_enter Try.func99, Try.ntmps99
    go_wp2
    go_quiet (fail)
    go_wp2
    go_ret2
    exact ⟨ret_pair (by rw [HA.out]; exact quo_wrap lo y hl) (by rw [HB.out, Int.natCast_emod]), _, rfl⟩
  · have hn := Lib.bitLen_le y 64 (by omega) (by omega)
    refine (div64_big hi lo y (64 - Lib.bitLen y) (by omega) hlt hy hl (by omega) w).mono ?_
    rintro e w' ⟨he, rfl⟩
    exact ⟨he, 0, rfl⟩

theorem div64_is (hi lo y q r : Nat) (hlt : hi < y) (hy : y < 18446744073709551616) (hl : lo < 18446744073709551616) (hq : (hi * 18446744073709551616 + lo) / y = q) (hr : (hi * 18446744073709551616 + lo) % y = r) (w : World) :
    Calls Try.prog 99 #[.int .u64 (hi : Int), .int .u64 (lo : Int), .int .u64 (y : Int)] w fun e w' => e = .returned (.tuple #[.int .u64 (q : Int), .int .u64 (r : Int)]) ∧ ∃ n, w' = w.drewN n := by
  subst hq hr
  exact div64_any hi lo y hlt hy hl w

theorem sgn_big {neg : Bool} {q : Nat} (h : 9223372036854775808 ≤ q) : sgn neg q = bif neg then -9223372036854775808 else 9223372036854775807 := by
  cases neg
  · show min _ _ = (9223372036854775807 : Int)
    omega
  · show max _ _ = (-9223372036854775808 : Int)
    omega
theorem rnd_ge (neg : Bool) (n d : Nat) : n / d ≤ rnd neg n d ∧ rnd neg n d ≤ n / d + 1 := by
  unfold rnd
  split <;> omega
theorem neg_word (q : Nat) (h : q ≤ 9223372036854775808) : wrap64 (IntKind.u64.wrap (-(q : Int))) = -(q : Int) := by
  rw [IntKind.wrap_u64]
  unfold wrap64
  omega

set_option maxHeartbeats 2000000 in
set_option maxRecDepth 100000 in
theorem ratio_any (a b : Int) (h0 : -9223372036854775808 ≤ a) (h1 : a ≤ 9223372036854775807) (g0 : -9223372036854775808 ≤ b) (g1 : b ≤ 9223372036854775807) (w : World) :
    Calls Try.prog 78 #[.int .i64 a, .int .i64 b] w fun e w' => e = .returned (.int .i64 (ratU a b)) ∧ ∃ n, w' = w.drewN n := by
  by_cases hb0 : b = 0
  · subst hb0
    have HF : Hid (ratU a 0 = 0) := Lib.hid (by simp [ratU])
    go_enter Try.func78, Try.ntmps78
    go_wp2
    go_ret
    exact ⟨ret_int HF.out.symm, 0, rfl⟩
  have tb : (b == 0) = false := by simpa using hb0
  obtain ⟨x, ha⟩ : ∃ x, a.natAbs = x := ⟨_, rfl⟩
  obtain ⟨d, hb⟩ : ∃ y, b.natAbs = y := ⟨_, rfl⟩
  have hx' : x ≤ 9223372036854775808 := by omega
  have hd' : d ≤ 9223372036854775808 := by omega
  have hd0 : 0 < d := by omega
  have hx : x < 18446744073709551616 := by omega
  obtain ⟨hi, hh⟩ : ∃ n, x * 65536 / 18446744073709551616 = n := ⟨_, rfl⟩
  obtain ⟨lo, hl⟩ : ∃ n, x * 65536 % 18446744073709551616 = n := ⟨_, rfl⟩
  have bl : lo < 18446744073709551616 := by omega
  have hn : hi * 18446744073709551616 + lo = x * 65536 := by omega
  obtain ⟨neg, hneg⟩ : ∃ c : Bool, (decide (a < 0) != decide (b < 0)) = c := ⟨_, rfl⟩
  have tneg : (!(decide (a < 0) == decide (b < 0))) = neg := hneg
  have hF : ratU a b = sgn neg (rnd neg (x * 65536) d) := by rw [ratU, if_neg hb0, hneg, ha, hb]
  have HA := Lib.hid ha
  have HB := Lib.hid hb
  have HH := Lib.hid hh
  have HL := Lib.hid hl
  clear hneg ha hb hh hl
  by_cases hbig : d ≤ hi
  · have HF : Hid (ratU a b = bif neg then -9223372036854775808 else 9223372036854775807) := Lib.hid (by
      rw [hF]
      apply sgn_big
      have h2 := (rnd_ge neg (x * 65536) d).1
      have h3 : 18446744073709551616 ≤ x * 65536 / d := by
        rw [Nat.le_div_iff_mul_le hd0, ← hn]
        have := Nat.mul_le_mul_left 18446744073709551616 hbig
        rw [Nat.mul_comm hi]
        omega
      omega)
    clear hF hn
    go_enter Try.func78, Try.ntmps78
    go_wp2_with fail
    refine (mag_is b d HB.out g0 g1 _).mono ?_
    rintro e w' ⟨rfl, rfl⟩
    go_wp2_with fail
    refine (mag_is a x HA.out h0 h1 _).mono ?_
    rintro e w' ⟨rfl, rfl⟩
    go_wp2_with fail
    refine (mul64_is x 65536 hi lo hx (by omega) HH.out HL.out _).mono ?_
    rintro e w' ⟨rfl, rfl⟩
    go_wp2_with fail
    refine (sat_any _ _).mono ?_
    rintro e w' ⟨rfl, rfl⟩
    go_wp2
    go_ret
    exact ⟨ret_int HF.out.symm, 0, rfl⟩
  have hlt : hi < d := by omega
  obtain ⟨q, hq⟩ : ∃ q, x * 65536 / d = q := ⟨_, rfl⟩
  obtain ⟨r, hr⟩ : ∃ r, x * 65536 % d = r := ⟨_, rfl⟩
  have hrd : r < d := by rw [← hr]; exact Nat.mod_lt _ hd0
  have HQ : Hid ((hi * 18446744073709551616 + lo) / d = q) := Lib.hid (by rw [hn, hq])
  have HR : Hid ((hi * 18446744073709551616 + lo) % d = r) := Lib.hid (by rw [hn, hr])
  have hR := rnd_ge neg (x * 65536) d
  rw [hq] at hR
  have hrnd : rnd neg (x * 65536) d = if (bif neg then decide (d - r < r) else decide (d - r ≤ r)) then q + 1 else q := by rw [rnd, hq, hr]
  clear hn hq hr
  by_cases hq63 : 9223372036854775808 ≤ q
  · have HF : Hid (ratU a b = bif neg then -9223372036854775808 else 9223372036854775807) := Lib.hid (by rw [hF]; exact sgn_big (by omega))
    have hq63' : 9223372036854775808 ≤ (q : Int) := by omega
    clear hF hR hrnd hq63 hbig
    go_enter Try.func78, Try.ntmps78
    go_wp2_with fail
    refine (mag_is b d HB.out g0 g1 _).mono ?_
    rintro e w' ⟨rfl, rfl⟩
    go_wp2_with fail
    refine (mag_is a x HA.out h0 h1 _).mono ?_
    rintro e w' ⟨rfl, rfl⟩
    go_wp2_with fail
    refine (mul64_is x 65536 hi lo hx (by omega) HH.out HL.out _).mono ?_
    rintro e w' ⟨rfl, rfl⟩
    go_wp2_with fail
    refine (div64_is hi lo d q r hlt (by omega) bl HQ.out HR.out _).mono ?_
    rintro e w' ⟨rfl, n1, rfl⟩
    go_wp2_with fail
    refine (sat_any _ _).mono ?_
    rintro e w' ⟨rfl, rfl⟩
    go_wp2
    go_ret
    exact ⟨ret_int HF.out.symm, _, rfl⟩
  clear hR hbig
  have t63 : decide (9223372036854775808 ≤ (q : Int)) = false := by rw [decide_eq_false_iff_not]; omega
  have hways : ((d : Int) - r < r) ∨ (¬ (d : Int) - r < r ∧ ((r : Int) == (d : Int) - r) = true) ∨ (¬ (d : Int) - r < r ∧ ((r : Int) == (d : Int) - r) = false) := by
    by_cases h : (d : Int) - r < r
    · exact .inl h
    · by_cases h2 : (r : Int) = (d : Int) - r
      · exact .inr (.inl ⟨h, by simpa using h2⟩)
      · exact .inr (.inr ⟨h, by simpa using h2⟩)
  cases neg with
  | true =>
    rcases hways with c1 | ⟨c1, c2⟩ | ⟨c1, c2⟩
    · have c3 : decide ((d : Int) - (r : Int) < (r : Int)) = true := by simp; omega
      have e1 : rnd true (x * 65536) d = q + 1 := by
        rw [hrnd]
        apply if_pos
        show decide _ = true
        simp; omega
      obtain ⟨qq, hqq⟩ : ∃ n : Nat, (q : Int) + 1 = n := ⟨q + 1, by omega⟩
      have bqq : qq ≤ 9223372036854775808 := by omega
      rw [e1, show q + 1 = qq by omega] at hF
      have HF : Hid (ratU a b = -(qq : Int)) := Lib.hid (by rw [hF]; show max _ _ = _; omega)
      have HN := Lib.hid (neg_word qq (by omega))
      clear hF hrnd e1
      have X1 := Lib.hid c1
      have X3 := Lib.hid c3
      have X6 := Lib.hid t63
      clear c1 c3 t63 hq63
      go_enter Try.func78, Try.ntmps78
      go_wp2_with fail
      refine (mag_is b d HB.out g0 g1 _).mono ?_
      rintro e w' ⟨rfl, rfl⟩
      go_wp2_with fail
      refine (mag_is a x HA.out h0 h1 _).mono ?_
      rintro e w' ⟨rfl, rfl⟩
      go_wp2_with fail
      refine (mul64_is x 65536 hi lo hx (by omega) HH.out HL.out _).mono ?_
      rintro e w' ⟨rfl, rfl⟩
      go_wp2_with fail
      refine (div64_is hi lo d q r hlt (by omega) bl HQ.out HR.out _).mono ?_
      rintro e w' ⟨rfl, n1, rfl⟩
      have c1 := X1.out
      have c3 := X3.out
      have t63 := X6.out
      go_wp2
      go_ret
      exact ⟨ret_int (by rw [HF.out]; exact HN.out), _, rfl⟩
    · have c3 : decide ((d : Int) - (r : Int) < (r : Int)) = false := by simp; omega
      have e1 : rnd true (x * 65536) d = q := by
        rw [hrnd]
        apply if_neg
        show ¬ decide _ = true
        simp; omega
      rw [e1] at hF
      have HF : Hid (ratU a b = -(q : Int)) := Lib.hid (by rw [hF]; show max _ _ = _; omega)
      have HN := Lib.hid (neg_word q (by omega))
      clear hF hrnd e1
      have X1 := Lib.hid c1
      have X3 := Lib.hid c3
      have X6 := Lib.hid t63
      clear c1 c3 t63 hq63
      go_enter Try.func78, Try.ntmps78
      go_wp2_with fail
      refine (mag_is b d HB.out g0 g1 _).mono ?_
      rintro e w' ⟨rfl, rfl⟩
      go_wp2_with fail
      refine (mag_is a x HA.out h0 h1 _).mono ?_
      rintro e w' ⟨rfl, rfl⟩
      go_wp2_with fail
      refine (mul64_is x 65536 hi lo hx (by omega) HH.out HL.out _).mono ?_
      rintro e w' ⟨rfl, rfl⟩
      go_wp2_with fail
      refine (div64_is hi lo d q r hlt (by omega) bl HQ.out HR.out _).mono ?_
      rintro e w' ⟨rfl, n1, rfl⟩
      have c1 := X1.out
      have c3 := X3.out
      have t63 := X6.out
      go_wp2
      go_ret
      exact ⟨ret_int (by rw [HF.out]; exact HN.out), _, rfl⟩
    · have c3 : decide ((d : Int) - (r : Int) < (r : Int)) = false := by simp; omega
      have e1 : rnd true (x * 65536) d = q := by
        rw [hrnd]
        apply if_neg
        show ¬ decide _ = true
        simp; omega
      rw [e1] at hF
      have HF : Hid (ratU a b = -(q : Int)) := Lib.hid (by rw [hF]; show max _ _ = _; omega)
      have HN := Lib.hid (neg_word q (by omega))
      clear hF hrnd e1
      have X1 := Lib.hid c1
      have X3 := Lib.hid c3
      have X6 := Lib.hid t63
      clear c1 c3 t63 hq63
      go_enter Try.func78, Try.ntmps78
      go_wp2_with fail
      refine (mag_is b d HB.out g0 g1 _).mono ?_
      rintro e w' ⟨rfl, rfl⟩
      go_wp2_with fail
      refine (mag_is a x HA.out h0 h1 _).mono ?_
      rintro e w' ⟨rfl, rfl⟩
      go_wp2_with fail
      refine (mul64_is x 65536 hi lo hx (by omega) HH.out HL.out _).mono ?_
      rintro e w' ⟨rfl, rfl⟩
      go_wp2_with fail
      refine (div64_is hi lo d q r hlt (by omega) bl HQ.out HR.out _).mono ?_
      rintro e w' ⟨rfl, n1, rfl⟩
      have c1 := X1.out
      have c3 := X3.out
      have t63 := X6.out
      go_wp2
      go_ret
      exact ⟨ret_int (by rw [HF.out]; exact HN.out), _, rfl⟩
  | false =>
    rcases hways with c1 | ⟨c1, c2⟩ | ⟨c1, c2⟩
    · have c3 : decide ((d : Int) - (r : Int) < (r : Int)) = true := by simp; omega
      have e1 : rnd false (x * 65536) d = q + 1 := by
        rw [hrnd]
        apply if_pos
        show decide _ = true
        simp; omega
      obtain ⟨qq, hqq⟩ : ∃ n : Nat, (q : Int) + 1 = n := ⟨q + 1, by omega⟩
      have bqq : qq ≤ 9223372036854775808 := by omega
      rw [e1, show q + 1 = qq by omega] at hF
      by_cases h63 : 9223372036854775808 ≤ (qq : Int)
      · have HF : Hid (ratU a b = 9223372036854775807) := Lib.hid (by rw [hF]; show min _ _ = _; omega)
        clear hF hrnd e1
        have X1 := Lib.hid c1
        have X3 := Lib.hid c3
        have X6 := Lib.hid t63
        clear c1 c3 t63 hq63
        go_enter Try.func78, Try.ntmps78
        go_wp2_with fail
        refine (mag_is b d HB.out g0 g1 _).mono ?_
        rintro e w' ⟨rfl, rfl⟩
        go_wp2_with fail
        refine (mag_is a x HA.out h0 h1 _).mono ?_
        rintro e w' ⟨rfl, rfl⟩
        go_wp2_with fail
        refine (mul64_is x 65536 hi lo hx (by omega) HH.out HL.out _).mono ?_
        rintro e w' ⟨rfl, rfl⟩
        go_wp2_with fail
        refine (div64_is hi lo d q r hlt (by omega) bl HQ.out HR.out _).mono ?_
        rintro e w' ⟨rfl, n1, rfl⟩
        have c1 := X1.out
        have c3 := X3.out
        have t63 := X6.out
        go_wp2
        go_ret
        exact ⟨ret_int HF.out.symm, _, rfl⟩
      · have HF : Hid (ratU a b = wrap64 (qq : Int)) := Lib.hid (by rw [hF, IntWalk.wrap64_in _ (by omega)]; show min _ _ = _; omega)
        have t64 : decide (9223372036854775808 ≤ (qq : Int)) = false := by rw [decide_eq_false_iff_not]; omega
        clear hF hrnd e1 h63
        have X1 := Lib.hid c1
        have X3 := Lib.hid c3
        have X6 := Lib.hid t63
        clear c1 c3 t63 hq63
        go_enter Try.func78, Try.ntmps78
        go_wp2_with fail
        refine (mag_is b d HB.out g0 g1 _).mono ?_
        rintro e w' ⟨rfl, rfl⟩
        go_wp2_with fail
        refine (mag_is a x HA.out h0 h1 _).mono ?_
        rintro e w' ⟨rfl, rfl⟩
        go_wp2_with fail
        refine (mul64_is x 65536 hi lo hx (by omega) HH.out HL.out _).mono ?_
        rintro e w' ⟨rfl, rfl⟩
        go_wp2_with fail
        refine (div64_is hi lo d q r hlt (by omega) bl HQ.out HR.out _).mono ?_
        rintro e w' ⟨rfl, n1, rfl⟩
        have c1 := X1.out
        have c3 := X3.out
        have t63 := X6.out
        go_wp2
        go_ret
        exact ⟨ret_int HF.out.symm, _, rfl⟩
    · have c3 : decide ((d : Int) - (r : Int) < (r : Int)) = false := by simp; omega
      have e1 : rnd false (x * 65536) d = q + 1 := by
        rw [hrnd]
        apply if_pos
        show decide _ = true
        simp at c2 ⊢; omega
      obtain ⟨qq, hqq⟩ : ∃ n : Nat, (q : Int) + 1 = n := ⟨q + 1, by omega⟩
      have bqq : qq ≤ 9223372036854775808 := by omega
      rw [e1, show q + 1 = qq by omega] at hF
      by_cases h63 : 9223372036854775808 ≤ (qq : Int)
      · have HF : Hid (ratU a b = 9223372036854775807) := Lib.hid (by rw [hF]; show min _ _ = _; omega)
        clear hF hrnd e1
        have X1 := Lib.hid c1
        have X3 := Lib.hid c3
        have X6 := Lib.hid t63
        clear c1 c3 t63 hq63
        go_enter Try.func78, Try.ntmps78
        go_wp2_with fail
        refine (mag_is b d HB.out g0 g1 _).mono ?_
        rintro e w' ⟨rfl, rfl⟩
        go_wp2_with fail
        refine (mag_is a x HA.out h0 h1 _).mono ?_
        rintro e w' ⟨rfl, rfl⟩
        go_wp2_with fail
        refine (mul64_is x 65536 hi lo hx (by omega) HH.out HL.out _).mono ?_
        rintro e w' ⟨rfl, rfl⟩
        go_wp2_with fail
        refine (div64_is hi lo d q r hlt (by omega) bl HQ.out HR.out _).mono ?_
        rintro e w' ⟨rfl, n1, rfl⟩
        have c1 := X1.out
        have c3 := X3.out
        have t63 := X6.out
        go_wp2
        go_ret
        exact ⟨ret_int HF.out.symm, _, rfl⟩
      · have HF : Hid (ratU a b = wrap64 (qq : Int)) := Lib.hid (by rw [hF, IntWalk.wrap64_in _ (by omega)]; show min _ _ = _; omega)
        have t64 : decide (9223372036854775808 ≤ (qq : Int)) = false := by rw [decide_eq_false_iff_not]; omega
        clear hF hrnd e1 h63
        have X1 := Lib.hid c1
        have X3 := Lib.hid c3
        have X6 := Lib.hid t63
        clear c1 c3 t63 hq63
        go_enter Try.func78, Try.ntmps78
        go_wp2_with fail
        refine (mag_is b d HB.out g0 g1 _).mono ?_
        rintro e w' ⟨rfl, rfl⟩
        go_wp2_with fail
        refine (mag_is a x HA.out h0 h1 _).mono ?_
        rintro e w' ⟨rfl, rfl⟩
        go_wp2_with fail
        refine (mul64_is x 65536 hi lo hx (by omega) HH.out HL.out _).mono ?_
        rintro e w' ⟨rfl, rfl⟩
        go_wp2_with fail
        refine (div64_is hi lo d q r hlt (by omega) bl HQ.out HR.out _).mono ?_
        rintro e w' ⟨rfl, n1, rfl⟩
        have c1 := X1.out
        have c3 := X3.out
        have t63 := X6.out
        go_wp2
        go_ret
        exact ⟨ret_int HF.out.symm, _, rfl⟩
    · have c3 : decide ((d : Int) - (r : Int) < (r : Int)) = false := by simp; omega
      have e1 : rnd false (x * 65536) d = q := by
        rw [hrnd]
        apply if_neg
        show ¬ decide _ = true
        simp at c2 ⊢; omega
      rw [e1] at hF
      have HF : Hid (ratU a b = wrap64 (q : Int)) := Lib.hid (by rw [hF, IntWalk.wrap64_in _ (by omega)]; show min _ _ = _; omega)
      clear hF hrnd e1
      have X1 := Lib.hid c1
      have X3 := Lib.hid c3
      have X6 := Lib.hid t63
      clear c1 c3 t63 hq63
      go_enter Try.func78, Try.ntmps78
      go_wp2_with fail
      refine (mag_is b d HB.out g0 g1 _).mono ?_
      rintro e w' ⟨rfl, rfl⟩
      go_wp2_with fail
      refine (mag_is a x HA.out h0 h1 _).mono ?_
      rintro e w' ⟨rfl, rfl⟩
      go_wp2_with fail
      refine (mul64_is x 65536 hi lo hx (by omega) HH.out HL.out _).mono ?_
      rintro e w' ⟨rfl, rfl⟩
      go_wp2_with fail
      refine (div64_is hi lo d q r hlt (by omega) bl HQ.out HR.out _).mono ?_
      rintro e w' ⟨rfl, n1, rfl⟩
      have c1 := X1.out
      have c3 := X3.out
      have t63 := X6.out
      go_wp2
      go_ret
      exact ⟨ret_int HF.out.symm, _, rfl⟩

end Go.Proofs.Ytcighjeiimjbiaa.Num

/- MatE: Package matrix: Det and Inverse. -/
namespace Go.Proofs.Ytcighjeiimjbiaa.Mat
open Go.RowKit Go.Proofs.Ytcighjeiimjbiaa Go.Proofs.Ytcighjeiimjbiaa.NumPure Go.Proofs.Ytcighjeiimjbiaa.MatPure

def invE (m : Nat → Int) (n : Nat) : Int := ratU (cof m (n % 3) (n / 3) * 65536) (det9 m)
/-- What Inverse answers: the matrix and the error. -/
def invM (m : Nat → Int) : Nat → Int := if okM m then if det9 m = 0 then fun _ => 0 else if okM (invE m) then invE m else fun _ => 0 else fun _ => 0
def invX (m : Nat → Int) : Int := if okM m then if det9 m = 0 then 17 else if okM (invE m) then 0 else 17 else 2

theorem results_two9 {fn : Func} {p t : Tmp} (h : fn.results = #[.cell p 25, .tmp t]) (tmps : Array Value) (w : World) (g : Nat) (m : Nat → Int)
    (hp : tmps.getD p undef = .pointer (some ⟨g, 0, none⟩)) (x : Value) (hx : tmps.getD t undef = x) (hg : w.heap[g]? = some (.cells (ac 9 m) 25 (0, 0))) :
    (results fn tmps).run Try.prog w = .ok (.tuple #[.agg (ac 9 m), x]) w := by
  subst hx
  have hp' : tmps[p]?.getD undef = .pointer (some ⟨g, 0, none⟩) := by simpa using hp
  simp [results, h, hp', asAddr, run_loadVar_row w g 25 25 (ac 9 m) (0, 0) _ hg Try.underlying25 rfl info9]

theorem built9 : Try.prog.built 25 [] = some (ac 9 fun _ => 0) := by kernel_rfl
theorem wpList_build9 {ops : Array Oper} {rest : List Oper} {o : Oper} {a : Act} {w : World} {Q : Exit → Act → World → Prop} (hg : o.guard = none) (ho : o.op = .build 25 #[])
    (h : wpList Try.prog ops Q rest (a.put o.dst (.agg (ac 9 fun _ => 0))) w) : wpList Try.prog ops Q (o :: rest) a w := by
  refine wpList_build hg 25 #[] ho (by simp [built9]) ?_
  simp only [List.map_toArray, List.map_nil, built9, Option.getD_some]
  exact h

/-- Three blocks: the argument's, the result's, the array that is filled. -/
def Three (B g1 g2 g3 : Nat) (w : World) (A1 A2 A3 : Array Value) (wr : World) : Prop :=
  Blk wr g1 25 A1 ∧ Blk wr g2 25 A2 ∧ Blk wr g3 25 A3 ∧ Below B w wr ∧ g1 < g2 ∧ g2 < g3 ∧ B ≤ g1
section
variable {B g1 g2 g3 : Nat} {w wr w' : World} {A1 A2 A3 : Array Value}
theorem Three.below (h : Three B g1 g2 g3 w A1 A2 A3 wr) (hb : Below wr.heap.size wr w') : Three B g1 g2 g3 w A1 A2 A3 w' :=
  ⟨h.1.below hb h.1.lt, h.2.1.below hb h.2.1.lt, h.2.2.1.below hb h.2.2.1.lt, h.2.2.2.1.trans (hb.mono (by have := h.1.lt; have := h.2.2.2.2.2.2; omega)), h.2.2.2.2⟩
theorem Three.drewN (h : Three B g1 g2 g3 w A1 A2 A3 wr) (n : Nat) : Three B g1 g2 g3 w A1 A2 A3 (wr.drewN n) :=
  ⟨h.1, h.2.1, h.2.2.1, below_drewN h.2.2.2.1 n, h.2.2.2.2⟩
theorem Three.set3 (h : Three B g1 g2 g3 w A1 A2 A3 wr) (k : Nat) (u : Value) : Three B g1 g2 g3 w A1 A2 (A3.setIfInBounds k u) (wr.setCell ⟨g3, k, none⟩ u) := by
  obtain ⟨h1, h2, h3, hb, d1, d2, d3⟩ := h
  exact ⟨h1.far (p := ⟨g3, k, none⟩) (by simp; omega) u, h2.far (p := ⟨g3, k, none⟩) (by simp; omega) u, h3.set_ k u, hb.setCell (by simp; omega) u, d1, d2, d3⟩
end

set_option maxHeartbeats 4000000 in
set_option maxRecDepth 100000 in
theorem inverse_any (m : Nat → Int) (w : World) : Calls Try.prog 49 #[.agg (ac 9 m)] w fun e w' => e = .returned (.tuple #[.agg (ac 9 (invM m)), .int .i64 (invX m)]) ∧ Below w.heap.size w w' := by
  obtain ⟨B, hB⟩ : ∃ B, B = w.heap.size := ⟨_, rfl⟩
  rw [← hB]
  go_enter Try.func49, Try.ntmps49
  go_wp2_with (first | (refine wpList_alloc9 rfl rfl ?_) | (refine wpList_load_row rfl _ _ rfl w.heap.size rfl 25 (ac 9 m) (0, 0) _ (heap_alloc2_old _ _ _) Try.underlying25 rfl info9 ?_))
  have H0 : Blk ((w.alloc (.cells (ac 9 m) 25)).alloc (.cells (ac 9 fun _ => 0) 25)) w.heap.size 25 (ac 9 m) := heap_alloc2_old _ _ _
  have Z0 : Blk ((w.alloc (.cells (ac 9 m) 25)).alloc (.cells (ac 9 fun _ => 0) 25)) (w.heap.size + 1) 25 (ac 9 fun _ => 0) := heap_alloc2_new _ _ _
  have hb0 : Below B w ((w.alloc (.cells (ac 9 m) 25)).alloc (.cells (ac 9 fun _ => 0) 25)) := by rw [hB]; exact ((Below.refl _ _).alloc (Nat.le_refl _) _).alloc (by simp) _
  obtain ⟨W, hW⟩ : ∃ W, W = (w.alloc (.cells (ac 9 m) 25)).alloc (.cells (ac 9 fun _ => 0) 25) := ⟨_, rfl⟩
  obtain ⟨g2, e2⟩ : ∃ g, g = w.heap.size + 1 := ⟨_, rfl⟩
  obtain ⟨g1, e1⟩ : ∃ g, g = w.heap.size := ⟨_, rfl⟩
  rw [← hW, ← e2, ← e1]
  rw [← hW, ← e1] at H0
  rw [← hW, ← e2] at Z0
  rw [← hW] at hb0
  have hg1 : B ≤ g1 := by omega
  have hg2 : g1 < g2 := by omega
  clear hW hB e1 e2
  cases hm : okM m with
  | false =>
    have hM : invM m = fun _ => 0 := by unfold invM; rw [hm]; rfl
    have hX : invX m = 2 := by unfold invX; rw [hm]; rfl
    refine (check_bad m hm _).mono ?_
    rintro e w1 ⟨rfl, hb1⟩
    have H1 := Z0.below hb1 Z0.lt
    have hb2 := hb0.trans (hb1.mono (by have := H0.lt; omega))
    have HM : Hid (Value.tuple #[.agg (ac 9 fun _ => 0), .int .i64 2] = .tuple #[.agg (ac 9 (invM m)), .int .i64 (invX m)]) := Lib.hid (by rw [hM, hX])
    clear H0 Z0 hb0 hb1 hM hX hm
    go_wp2_with (first
      | (refine wpList_build9 rfl rfl ?_)
      | (refine wpList_store_row rfl _ _ _ rfl g2 (ac 9 fun _ => 0) rfl rfl 25 (ac 9 fun _ => 0) H1 info9 ac_same (ac_one 9 _) ?_))
    refine bodyPost_ret (v := .tuple #[.agg (ac 9 fun _ => 0), .int .i64 2]) (results_two9 rfl _ _ g2 (fun _ => 0) rfl _ rfl (setRow_heap _ _ (ac 9 fun _ => 0) _ _ _ H1)) rfl ⟨by rw [HM.out], ?_⟩
    exact below_setRow hb2 (by omega) _
  | true =>
    refine (check_ok m hm _).mono ?_
    rintro e w1 ⟨rfl, hb1⟩
    have H1 := H0.below hb1 H0.lt
    have Z1 := Z0.below hb1 Z0.lt
    have hb2 := hb0.trans (hb1.mono (by have := H0.lt; omega))
    have HA := Lib.hid hm
    have hd := det9_in m hm
    obtain ⟨d, hdd⟩ : ∃ d, d = det9 m := ⟨_, rfl⟩
    have HE := fun W => exact_any m hm W
    rw [← hdd] at hd HE
    clear H0 Z0 hb0 hb1 hm
    go_wp2_with (refine wpList_load_row rfl _ _ rfl g1 rfl 25 (ac 9 m) (0, 0) _ H1 Try.underlying25 rfl info9 ?_)
    refine (HE _).mono ?_
    rintro e w2 ⟨rfl, hb3⟩
    have H2 := H1.below hb3 H1.lt
    have Z2 := Z1.below hb3 Z1.lt
    have hb4 := hb2.trans (hb3.mono (by have := H1.lt; omega))
    clear H1 Z1 hb2 hb3 HE
    by_cases hz : d = 0
    · have hM : invM m = fun _ => 0 := by unfold invM; rw [HA.out, ← hdd, if_pos hz]; rfl
      have hX : invX m = 17 := by unfold invX; rw [HA.out, ← hdd, if_pos hz]; rfl
      have HM : Hid (Value.tuple #[.agg (ac 9 fun _ => 0), .int .i64 17] = .tuple #[.agg (ac 9 (invM m)), .int .i64 (invX m)]) := Lib.hid (by rw [hM, hX])
      clear hM hX hdd
      subst hz
      go_wp2_with (first
        | (refine wpList_build9 rfl rfl ?_)
        | (refine wpList_store_row rfl _ _ _ rfl g2 (ac 9 fun _ => 0) rfl rfl 25 (ac 9 fun _ => 0) Z2 info9 ac_same (ac_one 9 _) ?_))
      refine bodyPost_ret (v := .tuple #[.agg (ac 9 fun _ => 0), .int .i64 17]) (results_two9 rfl _ _ g2 (fun _ => 0) rfl _ rfl (setRow_heap _ _ (ac 9 fun _ => 0) _ _ _ Z2)) rfl ⟨by rw [HM.out], ?_⟩
      exact below_setRow hb4 (by omega) _
    · have tz : (d == 0) = false := by simpa using hz
      have HZ := Lib.hid hz
      have HD := Lib.hid hdd
      clear hz hdd
      go_wp2_with (refine wpList_alloc9 rfl rfl ?_)
      have T0 : Three B g1 g2 w2.heap.size w (ac 9 m) (ac 9 fun _ => 0) (ac 9 (upTo (invE m) 0)) (w2.alloc (.cells (ac 9 (upTo (invE m) 0)) 25)) :=
        ⟨H2.alloc _, Z2.alloc _, Blk.new _ _ _, hb4.alloc (by have := H2.lt; omega) _, hg2, Z2.lt, hg1⟩
      rw [← upTo_none 9 (invE m)]
      obtain ⟨g3, e3⟩ : ∃ g, g = w2.heap.size := ⟨_, rfl⟩
      obtain ⟨W3, hW3⟩ : ∃ W3, W3 = w2.alloc (.cells (ac 9 (upTo (invE m) 0)) 25) := ⟨_, rfl⟩
      rw [← hW3, ← e3] at T0 ⊢
      clear hW3 e3 H2 Z2 hb4
      go_loopw [20] (fun v20 wr => ∃ i : Nat, i ≤ 3 ∧ v20 = .int .i64 i ∧ Three B g1 g2 g3 w (ac 9 m) (ac 9 fun _ => 0) (ac 9 (upTo (invE m) (3 * i))) wr) (fun v20 _ => 3 - (intOf v20).toNat)
      case atStart => exact ⟨0, by omega, rfl, T0⟩
      case round =>
        clear T0
        obtain ⟨i, hi, rfl, H3⟩ := hrel
        by_cases hlt : i < 3
        · have ti : decide ((i : Int) < 3) = true := by simp; omega
          go_wp2_with fail
          go_loopw [23] (fun v23 wr => ∃ j : Nat, j ≤ 3 ∧ v23 = .int .i64 j ∧ Three B g1 g2 g3 w (ac 9 m) (ac 9 fun _ => 0) (ac 9 (upTo (invE m) (3 * i + j))) wr) (fun v23 _ => 3 - (intOf v23).toNat)
          case atStart => exact ⟨0, by omega, rfl, H3⟩
          case round =>
            clear H3
            obtain ⟨j, hj, rfl, H4⟩ := hrel
            by_cases hlt2 : j < 3
            · have tj : decide ((j : Int) < 3) = true := by simp; omega
              have bc := cof_in m HA.out j i
              have HF : Hid (ratU (cof m j i * 65536) d = invE m (3 * i + j)) := Lib.hid (by unfold invE; rw [← HD.out, show (3 * i + j) % 3 = j by omega, show (3 * i + j) / 3 = i by omega])
              have hc := fun W => cof_any m HA.out j i hlt2 hlt W
              have HS := Lib.hid (upTo_set 9 (invE m) (3 * i + j))
              go_wp2_with (refine wpList_load_row rfl _ _ rfl g1 rfl 25 (ac 9 m) (0, 0) _ H4.1 Try.underlying25 rfl info9 ?_)
              refine (hc _).mono ?_
              rintro e w4 ⟨rfl, hb5⟩
              have H5 := H4.below hb5
              clear H4 hb5
              go_wp2_with fail
              refine (Num.ratio_any (cof m j i * 65536) d (by omega) (by omega) (by omega) (by omega) _).mono ?_
              rintro e w5 ⟨rfl, n5, rfl⟩
              rw [HF.out]
              have H6 := H5.drewN n5
              have c4 := H6.2.2.1.cell (3 * i + j)
              rw [ac_at _ (by omega)] at c4
              have f4 := H6.2.2.1.frozen (3 * i + j)
              clear H5
              go_wp2_with fail
              go_roundw
              case rel =>
                refine ⟨j + 1, by omega, by go_num, ?_⟩
                have := H6.set3 (3 * i + j) (.int .i64 (invE m (3 * i + j)))
                rw [HS.out] at this
                exact this
              case measure => simp [intOf]; omega
            · obtain rfl : j = 3 := by omega
              go_wp2_with fail
              go_roundw
              case rel => exact ⟨i + 1, by omega, by go_num, by rw [show 3 * (i + 1) = 3 * i + 3 by omega]; exact H4⟩
              case measure => simp [intOf]; omega
        · obtain rfl : i = 3 := by omega
          rw [show 3 * 3 = 9 from rfl, upTo_all] at H3
          go_wp2_with (refine wpList_load_row rfl _ _ rfl g3 rfl 25 (ac 9 (invE m)) (0, 0) _ H3.2.2.1 Try.underlying25 rfl info9 ?_)
          cases he : okM (invE m) with
          | false =>
            have hM : invM m = fun _ => 0 := by unfold invM; rw [HA.out, ← HD.out, if_neg HZ.out, he]; rfl
            have hX : invX m = 17 := by unfold invX; rw [HA.out, ← HD.out, if_neg HZ.out, he]; rfl
            have HM : Hid (Value.tuple #[.agg (ac 9 fun _ => 0), .int .i64 17] = .tuple #[.agg (ac 9 (invM m)), .int .i64 (invX m)]) := Lib.hid (by rw [hM, hX])
            clear hM hX
            refine (check_bad _ he _).mono ?_
            rintro e w6 ⟨rfl, hb6⟩
            have H7 := H3.below hb6
            clear H3 hb6 he
            go_wp2_with (first
              | (refine wpList_build9 rfl rfl ?_)
              | (refine wpList_store_row rfl _ _ _ rfl g2 (ac 9 fun _ => 0) rfl rfl 25 (ac 9 fun _ => 0) H7.2.1 info9 ac_same (ac_one 9 _) ?_))
            refine bodyPost_ret (v := .tuple #[.agg (ac 9 fun _ => 0), .int .i64 17]) (results_two9 rfl _ _ g2 (fun _ => 0) rfl _ rfl (setRow_heap _ _ (ac 9 fun _ => 0) _ _ _ H7.2.1)) rfl ⟨by rw [HM.out], ?_⟩
            exact below_setRow H7.2.2.2.1 (by omega) _
          | true =>
            have hM : invM m = invE m := by unfold invM; rw [HA.out, ← HD.out, if_neg HZ.out, he]; rfl
            have hX : invX m = 0 := by unfold invX; rw [HA.out, ← HD.out, if_neg HZ.out, he]; rfl
            have HM : Hid (Value.tuple #[.agg (ac 9 (invE m)), .int .i64 0] = .tuple #[.agg (ac 9 (invM m)), .int .i64 (invX m)]) := Lib.hid (by rw [hM, hX])
            clear hM hX
            refine (check_ok _ he _).mono ?_
            rintro e w6 ⟨rfl, hb6⟩
            have H7 := H3.below hb6
            clear H3 hb6 he
            go_wp2_with (first
              | (refine wpList_load_row rfl _ _ rfl g3 rfl 25 (ac 9 (invE m)) (0, 0) _ H7.2.2.1 Try.underlying25 rfl info9 ?_)
              | (refine wpList_store_row rfl _ _ _ rfl g2 (ac 9 (invE m)) rfl rfl 25 (ac 9 fun _ => 0) H7.2.1 info9 ac_same (ac_one 9 _) ?_))
            refine bodyPost_ret (v := .tuple #[.agg (ac 9 (invE m)), .int .i64 0]) (results_two9 rfl _ _ g2 (invE m) rfl _ rfl (setRow_heap _ _ (ac 9 fun _ => 0) _ _ _ H7.2.1)) rfl ⟨by rw [HM.out], ?_⟩
            exact below_setRow H7.2.2.2.1 (by omega) _

end Go.Proofs.Ytcighjeiimjbiaa.Mat

/- Ref01Fl: The reference of layer 1: quotients rounded down and to the nearest integer, limits, unit values. What each function answers, for every input. -/
namespace Go.Proofs.Ytcighjeiimjbiaa.Ref01
open Go.RowKit Go.Proofs.Ytcighjeiimjbiaa Go.Proofs.Ytcighjeiimjbiaa.NumPure Go.Proofs.Ytcighjeiimjbiaa.Num

theorem abs_nat (a : Int) (h0 : -9223372036854775808 ≤ a) (h : a < 0) : IntKind.u64.wrap (-IntKind.u64.wrap a) = (a.natAbs : Int) := by
  simp only [IntKind.wrap_u64]
  omega
theorem abs_pos (a : Int) (h1 : a ≤ 9223372036854775807) (h : 0 ≤ a) : IntKind.u64.wrap a = (a.natAbs : Int) := by
  simp only [IntKind.wrap_u64]
  omega

theorem abs_any (a : Int) (h0 : -9223372036854775808 ≤ a) (h1 : a ≤ 9223372036854775807) (w : World) :
    Calls Try.prog 102 #[.int .i64 a] w fun e w' => e = .returned (.int .u64 (a.natAbs : Int)) ∧ w = w' := by
  rcases Int.lt_or_le a 0 with h | h
  · have HA := Lib.hid (abs_nat a h0 h)
    go_enter Try.func102, Try.ntmps102
    go_wp2
    go_ret
    exact ⟨ret_int HA.out, rfl⟩
  · have HA := Lib.hid (abs_pos a h1 h)
    go_enter Try.func102, Try.ntmps102
    go_wp2
    go_ret
    exact ⟨ret_int (by first | exact HA.out | omega), rfl⟩

theorem tmod_sign {a b : Int} (hb : b ≠ 0) (hm : a.tmod b ≠ 0) : decide (a.tmod b < 0) = decide (a < 0) := by
  by_cases h : a < 0
  · have := tmod_neg (a := a) (b := b) (by omega) hb
    simp [h]
    omega
  · have := tmod_pos (a := a) (b := b) (by omega) hb
    simp [h]
    omega

set_option maxHeartbeats 1000000 in
theorem floor_any (a b : Int) (h0 : -9223372036854775808 ≤ a) (h1 : a ≤ 9223372036854775807) (w : World) :
    Calls Try.prog 101 #[.int .i64 a, .int .i64 b] w fun e w' => e = .returned (.int .i64 (flr a b)) ∧ ∃ n, w' = w.drewN n := by
  by_cases hb : b = 0
  · subst hb
    go_enter Try.func101, Try.ntmps101
    go_wp2
    go_ret
    exact ⟨ret_int (flr_zero a).symm, 0, rfl⟩
  have tb : (b == 0) = false := by simpa using hb
  by_cases hx : a = -9223372036854775808 ∧ b = -1
  · obtain ⟨rfl, rfl⟩ := hx
    go_enter Try.func101, Try.ntmps101
    go_wp2
    go_ret
    exact ⟨ret_int flr_over.symm, 0, rfl⟩
  have hq := tdiv_in h0 h1 hx
  obtain ⟨q0, q1⟩ := hq
  have hmin := notOver hx
  by_cases hm : a.tmod b = 0
  · have HF := Lib.hid (flr_keep hb hx (by simp [hm]))
    have tm : (a.tmod b != 0) = false := by simp [hm]
    clear hm hx
    rcases hmin with ⟨t1, t2⟩ | t1
    all_goals
      go_enter Try.func101, Try.ntmps101
      go_wp2
      go_quiet (fail)
      go_wp2
      go_ret
      exact ⟨ret_int HF.out.symm, _, rfl⟩
  · have tm : (a.tmod b != 0) = true := by simp [hm]
    by_cases hs : decide (a < 0) = decide (b < 0)
    · have HF := Lib.hid (flr_keep hb hx (by simp [hs]))
      have ts : (!(decide (a.tmod b < 0) == decide (b < 0))) = false := by rw [tmod_sign hb hm, hs]; simp
      clear hm hx hs
      rcases hmin with ⟨t1, t2⟩ | t1
      all_goals
        go_enter Try.func101, Try.ntmps101
        go_wp2
        go_quiet (fail)
        go_wp2
        go_ret
        exact ⟨ret_int HF.out.symm, _, rfl⟩
    · have HF := Lib.hid (flr_down hb hx hm hs)
      have hi := flr_in (b := b) h0 h1
      rw [HF.out] at hi
      have ts : (!(decide (a.tmod b < 0) == decide (b < 0))) = true := by rw [tmod_sign hb hm]; simpa using hs
      obtain ⟨q2, q3⟩ := hi
      clear hm hx hs
      rcases hmin with ⟨t1, t2⟩ | t1
      all_goals
        go_enter Try.func101, Try.ntmps101
        go_wp2
        go_quiet (fail)
        go_wp2
        go_ret
        exact ⟨ret_int HF.out.symm, _, rfl⟩

theorem floor_is (a b q : Int) (h0 : -9223372036854775808 ≤ a) (h1 : a ≤ 9223372036854775807) (hq : q = flr a b) (w : World) :
    Calls Try.prog 101 #[.int .i64 a, .int .i64 b] w fun e w' => e = .returned (.int .i64 q) ∧ ∃ n, w' = w.drewN n := by
  subst hq
  exact floor_any a b h0 h1 w
theorem abs_is (a : Int) (n : Nat) (h : a.natAbs = n) (h0 : -9223372036854775808 ≤ a) (h1 : a ≤ 9223372036854775807) (w : World) :
    Calls Try.prog 102 #[.int .i64 a] w fun e w' => e = .returned (.int .u64 (n : Int)) ∧ w = w' := by
  subst h
  exact abs_any a h0 h1 w

set_option maxHeartbeats 2000000 in
theorem div_any (a b : Int) (h0 : -9223372036854775808 ≤ a) (h1 : a ≤ 9223372036854775807) (g0 : -9223372036854775808 ≤ b) (g1 : b ≤ 9223372036854775807) (w : World) :
    Calls Try.prog 85 #[.int .i64 a, .int .i64 b] w fun e w' => e = .returned (.int .i64 (dvr a b)) ∧ ∃ n, w' = w.drewN n := by
  by_cases hb : b = 0
  · subst hb
    go_enter Try.func85, Try.ntmps85
    go_wp2
    go_ret
    exact ⟨ret_int (dvr_zero a).symm, 0, rfl⟩
  have tb : (b == 0) = false := by simpa using hb
  by_cases hx : a = -9223372036854775808 ∧ b = -1
  · obtain ⟨rfl, rfl⟩ := hx
    go_enter Try.func85, Try.ntmps85
    go_wp2_with (go_at_call 101; refine (floor_is (-9223372036854775808) (-1) 9223372036854775807 (by omega) (by omega) flr_over.symm _).mono ?_; rintro e w' ⟨rfl, n, rfl⟩)
    go_ret
    exact ⟨ret_int dvr_over.symm, _, rfl⟩
  have hmin := notOver hx
  obtain ⟨q, r, hq, hr, q0, q1, hs, hc⟩ := div_parts a b h0 h1 g0 g1 hb hx
  have HQ := Lib.hid hq
  clear hq hx
  have hr0 : -9223372036854775808 ≤ r ∧ r ≤ 9223372036854775807 := by omega
  obtain ⟨m, hm⟩ : ∃ m, r.natAbs = m := ⟨_, rfl⟩
  obtain ⟨d, hd⟩ : ∃ d, b.natAbs = d := ⟨_, rfl⟩
  have hmd : m < d := by omega
  have hd2 : d ≤ 9223372036854775808 := by omega
  rcases hc with ⟨hd1, hi, hu, hv⟩ | ⟨hd1, hu, hv⟩
  · have hl : (d : Int) - m ≤ m := by omega
    have HD := Lib.hid hd1
    have HM := Lib.hid hm
    have HB := Lib.hid hd
    obtain ⟨r0, r1⟩ := hr0
    clear hd1 hu hv hs hm hd
    rcases hmin with ⟨t1, t2⟩ | t1
    all_goals
      go_enter Try.func85, Try.ntmps85
      go_wp2_with fail
      refine (floor_is a b q h0 h1 HQ.out _).mono ?_
      rintro e w' ⟨rfl, n, rfl⟩
      go_wp2_with fail
      refine (abs_is r m HM.out r0 r1 _).mono ?_
      rintro e w' ⟨rfl, rfl⟩
      go_wp2_with fail
      refine (abs_is b d HB.out g0 g1 _).mono ?_
      rintro e w' ⟨rfl, rfl⟩
      go_wp2
      go_ret
      exact ⟨ret_int HD.out.symm, _, rfl⟩
  · have hl : (m : Int) < (d : Int) - m := by omega
    have HD := Lib.hid hd1
    have HM := Lib.hid hm
    have HB := Lib.hid hd
    obtain ⟨r0, r1⟩ := hr0
    clear hd1 hu hv hs hm hd
    rcases hmin with ⟨t1, t2⟩ | t1
    all_goals
      go_enter Try.func85, Try.ntmps85
      go_wp2_with fail
      refine (floor_is a b q h0 h1 HQ.out _).mono ?_
      rintro e w' ⟨rfl, n, rfl⟩
      go_wp2_with fail
      refine (abs_is r m HM.out r0 r1 _).mono ?_
      rintro e w' ⟨rfl, rfl⟩
      go_wp2_with fail
      refine (abs_is b d HB.out g0 g1 _).mono ?_
      rintro e w' ⟨rfl, rfl⟩
      go_wp2
      go_ret
      exact ⟨ret_int HD.out.symm, _, rfl⟩

theorem clamp_any (x lo hi : Int) (w : World) : Calls Try.prog 103 #[.int .i64 x, .int .i64 lo, .int .i64 hi] w fun e w' => e = .returned (.int .i64 (clp x lo hi)) ∧ w = w' := by
  go_enter Try.func103, Try.ntmps103
  go_wp2
  all_goals
    go_ret
    exact ⟨ret_int (by unfold clp; omega), rfl⟩

end Go.Proofs.Ytcighjeiimjbiaa.Ref01

/- Ref01Un: The reference of layer 1: unit values: products, quotients and values between two. -/
namespace Go.Proofs.Ytcighjeiimjbiaa.Ref01
open Go.RowKit Go.Proofs.Ytcighjeiimjbiaa Go.Proofs.Ytcighjeiimjbiaa.NumPure
open Go.Proofs.Ytcighjeiimjbiaa.Num (ret_int)

theorem unit_any (x : Int) (w : World) : Calls Try.prog 87 #[.int .i64 x] w fun e w' => e = .returned (.int .i64 (unt x)) ∧ w = w' := by
  go_enter Try.func87, Try.ntmps87
  go_wp2_with (go_at_call 103; refine (clamp_any _ _ _ _).mono ?_; rintro e w' ⟨rfl, rfl⟩)
  go_ret
  exact ⟨rfl, rfl⟩

theorem unit_is (x u : Int) (h : u = unt x) (w : World) : Calls Try.prog 87 #[.int .i64 x] w fun e w' => e = .returned (.int .i64 u) ∧ w = w' := by
  subst h
  exact unit_any x w
theorem div_is (a b d : Int) (h : d = dvr a b) (h0 : -9223372036854775808 ≤ a) (h1 : a ≤ 9223372036854775807) (g0 : -9223372036854775808 ≤ b) (g1 : b ≤ 9223372036854775807) (w : World) :
    Calls Try.prog 85 #[.int .i64 a, .int .i64 b] w fun e w' => e = .returned (.int .i64 d) ∧ ∃ n, w' = w.drewN n := by
  subst h
  exact div_any a b h0 h1 g0 g1 w
theorem clamp_is (x lo hi c : Int) (h : c = clp x lo hi) (w : World) : Calls Try.prog 103 #[.int .i64 x, .int .i64 lo, .int .i64 hi] w fun e w' => e = .returned (.int .i64 c) ∧ w = w' := by
  subst h
  exact clamp_any x lo hi w

end Go.Proofs.Ytcighjeiimjbiaa.Ref01

/- RMatA: The reference of layer 8: Check and Turned. -/
namespace Go.Proofs.Ytcighjeiimjbiaa.Mat
open Go.RowKit Go.Proofs.Ytcighjeiimjbiaa Go.Proofs.Ytcighjeiimjbiaa.NumPure Go.Proofs.Ytcighjeiimjbiaa.MatPure

set_option maxHeartbeats 1000000 in
theorem rCheck_ok (m : Nat → Int) (hm : okM m = true) (w : World) : Calls Try.prog 80 #[.agg (ac 9 m)] w fun e w' => e = .returned (.int .i64 0) ∧ Below w.heap.size w w' := by
  have HM := Lib.hid (okM_iff.1 hm)
  clear hm
  go_enter Try.func80, Try.ntmps80
  go_wp2_with fail
  go_loop [3] (fun v6 => ∃ k : Nat, k ≤ 9 ∧ v6 = .int .i64 k) (fun v6 => 9 - (intOf v6).toNat)
  case atStart => exact ⟨0, by omega, rfl⟩
  case round =>
    obtain ⟨k, hk, rfl⟩ := hrel
    by_cases hlt : k < 9
    · have hcell := ac_at (n := 9) m hlt
      obtain ⟨h1, h2⟩ := HM.out k hlt
      go_wp2_with fail
      go_round
      case rel => exact ⟨k + 1, by omega, by go_num⟩
      case measure => simp [intOf]; omega
    · go_wp2_with fail
      go_ret
      exact ⟨rfl, (Below.refl _ _).alloc (Nat.le_refl _) _⟩

set_option maxHeartbeats 1000000 in
theorem rCheck_bad (m : Nat → Int) (hm : okM m = false) (w : World) : Calls Try.prog 80 #[.agg (ac 9 m)] w fun e w' => e = .returned (.int .i64 2) ∧ Below w.heap.size w w' := by
  have HM := Lib.hid (okM_not.1 hm)
  clear hm
  go_enter Try.func80, Try.ntmps80
  go_wp2_with fail
  go_loop [3] (fun v6 => ∃ k : Nat, k ≤ 9 ∧ v6 = .int .i64 k ∧ ∀ j, j < k → -1048576 ≤ m j ∧ m j ≤ 1048576) (fun v6 => 9 - (intOf v6).toNat)
  case atStart => exact ⟨0, by omega, rfl, fun j hj => by omega⟩
  case round =>
    obtain ⟨k, hk, rfl, hj⟩ := hrel
    have HJ := Lib.hid hj
    clear hj
    by_cases hlt : k < 9
    · have hcell := ac_at (n := 9) m hlt
      by_cases h1 : m k < -1048576
      · go_wp2_with fail
        go_ret
        exact ⟨rfl, (Below.refl _ _).alloc (Nat.le_refl _) _⟩
      · by_cases h2 : 1048576 < m k
        · go_wp2_with fail
          go_ret
          exact ⟨rfl, (Below.refl _ _).alloc (Nat.le_refl _) _⟩
        · go_wp2_with fail
          go_round
          case rel => exact ⟨k + 1, by omega, by go_num, fun j hj => by
            by_cases e : j = k
            · subst e; omega
            · exact HJ.out j (by omega)⟩
          case measure => simp [intOf]; omega
    · obtain rfl : k = 9 := by omega
      exact absurd HJ.out HM.out

end Go.Proofs.Ytcighjeiimjbiaa.Mat

/- RMatB: The reference of layer 8: Mul. -/
namespace Go.Proofs.Ytcighjeiimjbiaa.Mat
open Go.RowKit Go.Proofs.Ytcighjeiimjbiaa Go.Proofs.Ytcighjeiimjbiaa.NumPure Go.Proofs.Ytcighjeiimjbiaa.MatPure

end Go.Proofs.Ytcighjeiimjbiaa.Mat

/- RMatC: The reference of layer 8: Apply. -/
namespace Go.Proofs.Ytcighjeiimjbiaa.Mat
open Go.RowKit Go.Proofs.Ytcighjeiimjbiaa Go.Proofs.Ytcighjeiimjbiaa.NumPure Go.Proofs.Ytcighjeiimjbiaa.MatPure

set_option maxHeartbeats 4000000 in
set_option maxRecDepth 100000 in
theorem rApply_any (m v : Nat → Int) (w : World) : Calls Try.prog 54 #[.agg (ac 9 m), .agg (ac 3 v)] w fun e w' => e = .returned (.agg (ac 3 (appM m v))) ∧ Below w.heap.size w w' := by
  obtain ⟨B, hB⟩ : ∃ B, B = w.heap.size := ⟨_, rfl⟩
  rw [← hB]
  go_enter Try.func54, Try.ntmps54
  go_wp2_with (first | (refine wpList_alloc3 rfl rfl ?_) | (refine wpList_load_row rfl _ _ rfl w.heap.size rfl 25 (ac 9 m) (0, 0) _ (heap4_1 _ _ _ _ _) Try.underlying25 rfl info9 ?_))
  rw [← upTo_none 3 (app9 m v)]
  have H0 := Four.new 34 w (ac 9 m) (ac 3 v) (ac 3 (upTo (app9 m v) 0)) (ac 3 (upTo (app9 m v) 0))
  obtain ⟨W, hW⟩ : ∃ W, W = (((w.alloc (.cells (ac 9 m) 25)).alloc (.cells (ac 3 v) 34)).alloc (.cells (ac 3 (upTo (app9 m v) 0)) 34)).alloc (.cells (ac 3 (upTo (app9 m v) 0)) 34) := ⟨_, rfl⟩
  obtain ⟨g4, e4⟩ : ∃ g, g = w.heap.size + 1 + 1 + 1 := ⟨_, rfl⟩
  obtain ⟨g3, e3⟩ : ∃ g, g = w.heap.size + 1 + 1 := ⟨_, rfl⟩
  obtain ⟨g2, e2⟩ : ∃ g, g = w.heap.size + 1 := ⟨_, rfl⟩
  obtain ⟨g1, e1⟩ : ∃ g, g = w.heap.size := ⟨_, rfl⟩
  rw [← hW, ← e4, ← e3, ← e2, ← hB] at H0
  rw [← hW, ← e4, ← e3, ← e2, ← e1]
  have hg1 : B = g1 := hB.trans e1.symm
  rw [show Four 34 B B g2 g3 g4 w (ac 9 m) (ac 3 v) (ac 3 (upTo (app9 m v) 0)) (ac 3 (upTo (app9 m v) 0)) W = Four 34 B g1 g2 g3 g4 w (ac 9 m) (ac 3 v) (ac 3 (upTo (app9 m v) 0)) (ac 3 (upTo (app9 m v) 0)) W by rw [← hg1]] at H0
  clear hW e4 e3 e2 e1 hB hg1
  cases hm : okM m with
  | false =>
    have hM : appM m v = fun _ => 0 := by unfold appM; rw [hm]; rfl
    refine (rCheck_bad m hm _).mono ?_
    rintro e w1 ⟨rfl, hb1⟩
    have H1 := H0.below hb1
    have HM : Hid (ac 3 (upTo (app9 m v) 0) = ac 3 (appM m v)) := Lib.hid (by rw [hM, upTo_none])
    clear H0 hb1 hM
    go_wp2_with (first
      | (refine wpList_load_row rfl _ _ rfl g4 rfl 34 (ac 3 (upTo (app9 m v) 0)) (0, 0) _ H1.2.2.2.1 Try.underlying34 rfl info3 ?_)
      | (refine wpList_store_row rfl _ _ _ rfl g3 (ac 3 (upTo (app9 m v) 0)) rfl rfl 34 (ac 3 (upTo (app9 m v) 0)) H1.2.2.1 info3 ac_same (ac_one 3 _) ?_))
    refine bodyPost_ret (v := .agg (ac 3 (upTo (app9 m v) 0))) (results_cell_row rfl _ _ g3 34 (ac 3 (upTo (app9 m v) 0)) (0, 0) _ rfl (setRow_heap _ _ (ac 3 (upTo (app9 m v) 0)) _ _ _ H1.2.2.1) Try.underlying34 rfl info3) rfl ⟨by rw [HM.out], ?_⟩
    exact below_setRow H1.2.2.2.2.1 (by have := H1.2.2.2.2.2; omega) _
  | true =>
    have hM : appM m v = app9 m v := by unfold appM; rw [hm]; rfl
    refine (rCheck_ok m hm _).mono ?_
    rintro e w1 ⟨rfl, hb1⟩
    have H1 := H0.below hb1
    have HM := Lib.hid hM
    have HA := Lib.hid hm
    clear H0 hb1 hM hm
    go_wp2_with fail
    go_loopw [6] (fun v19 wr => ∃ i : Nat, i ≤ 3 ∧ v19 = .int .i64 i ∧ Four 34 B g1 g2 g3 g4 w (ac 9 m) (ac 3 v) (ac 3 (upTo (app9 m v) 0)) (ac 3 (upTo (app9 m v) i)) wr) (fun v19 _ => 3 - (intOf v19).toNat)
    case atStart => exact ⟨0, by omega, rfl, H1⟩
    case round =>
      clear H1
      obtain ⟨i, hi, rfl, H4⟩ := hrel
      by_cases hlt : i < 3
      · have ti : decide ((i : Int) < 3) = true := by simp; omega
        go_wp2_with fail
        go_loopw [7, 8] (fun v8 v25 wr => ∃ k : Nat, k ≤ 3 ∧ v25 = .int .i64 k ∧ v8 = .int .i64 (asum m v i k) ∧ Four 34 B g1 g2 g3 g4 w (ac 9 m) (ac 3 v) (ac 3 (upTo (app9 m v) 0)) (ac 3 (upTo (app9 m v) i)) wr) (fun _ v25 _ => 3 - (intOf v25).toNat)
        case atStart => exact ⟨0, by omega, rfl, rfl, H4⟩
        case round =>
          clear H4
          obtain ⟨k, hk, rfl, rfl, H5⟩ := hrel
          by_cases hlt3 : k < 3
          · have c1 := H5.1.cell (3 * i + k)
            rw [ac_at _ (by omega)] at c1
            have c2 := H5.2.1.cell k
            rw [ac_at _ (by omega)] at c2
            have b1 := okM_iff.1 HA.out (3 * i + k) (by omega)
            have b2 := lim_in (v k)
            have b3 := aprod_in b1.1 b1.2 b2.1 b2.2
            have b4 := asum_in m v HA.out i hlt k (by omega)
            have HP : Hid (asum m v i (k + 1) = asum m v i k + m (3 * i + k) * lim (v k)) := Lib.hid rfl
            have i1 : (0 : Int) ≤ 3 * (i : Int) + (k : Int) := by omega
            have i2 : 3 * (i : Int) + (k : Int) < 9 := by omega
            have i3 : (0 : Int) ≤ (k : Int) := by omega
            have i4 : (k : Int) < 3 := by omega
            have i5 : (3 * (i : Int) + (k : Int)).toNat = 3 * i + k := by omega
            have i7 : IntKind.i64.wrap (3 * (i : Int)) = 3 * (i : Int) := IntWalk.i64_in _ (by omega)
            have i9 : IntKind.i64.wrap (3 * (i : Int) + (k : Int)) = 3 * (i : Int) + (k : Int) := IntWalk.i64_in _ (by omega)
            obtain ⟨x, hx⟩ : ∃ x, v k = x := ⟨_, rfl⟩
            obtain ⟨y, hy⟩ : ∃ y, lim (v k) = y := ⟨_, rfl⟩
            have hxy : (x < -1073741824 ∧ y = -1073741824) ∨ (1073741824 < x ∧ y = 1073741824) ∨ (-1073741824 ≤ x ∧ x ≤ 1073741824 ∧ y = x) := by
              rw [← hx, ← hy]; unfold lim clp; omega
            rw [hy] at b2 b3 HP
            rw [hx] at c2
            have i12 : IntKind.i64.wrap (m (3 * i + k) * y) = m (3 * i + k) * y := IntWalk.i64_in _ (by omega)
            have i13 : IntKind.i64.wrap (asum m v i k + m (3 * i + k) * y) = asum m v i k + m (3 * i + k) * y := IntWalk.i64_in _ (by omega)
            clear hx hy
            rcases hxy with ⟨hl, rfl⟩ | ⟨hl, rfl⟩ | ⟨hl, hl2, rfl⟩
            all_goals
              go_wp2_with fail
              go_quiet (fail)
              go_wp2_with fail
              go_roundw
              case rel => exact ⟨k + 1, by omega, by go_num, by rw [HP.out], H5.drewN _⟩
              case measure => simp [intOf]; omega
          · obtain rfl : k = 3 := by omega
            have b4 := asum_in m v HA.out i hlt 3 (by omega)
            have hd := Ref01.div_is (asum m v i 3) 65536 _ (asum_three m v i).symm (by omega) (by omega) (by omega) (by omega)
            have c4 := H5.2.2.2.1.cell i
            rw [ac_at _ (by omega)] at c4
            have f4 := H5.2.2.2.1.frozen i
            have HS := Lib.hid (upTo_set 3 (app9 m v) i)
            clear b4
            go_wp2_with fail
            refine (hd _).mono ?_
            rintro e w5 ⟨rfl, n5, rfl⟩
            go_wp2_with fail
            go_roundw
            case rel =>
              refine ⟨i + 1, by omega, by go_num, ?_⟩
              have := (H5.drewN n5).set4 i (.int .i64 (app9 m v i))
              rw [HS.out] at this
              exact this
            case measure => simp [intOf]; omega
      · obtain rfl : i = 3 := by omega
        rw [upTo_all] at H4
        go_wp2_with (first
          | (refine wpList_load_row rfl _ _ rfl g4 rfl 34 (ac 3 (app9 m v)) (0, 0) _ H4.2.2.2.1 Try.underlying34 rfl info3 ?_)
          | (refine wpList_store_row rfl _ _ _ rfl g3 (ac 3 (app9 m v)) rfl rfl 34 (ac 3 (upTo (app9 m v) 0)) H4.2.2.1 info3 ac_same (ac_one 3 _) ?_))
        refine bodyPost_ret (v := .agg (ac 3 (app9 m v))) (results_cell_row rfl _ _ g3 34 (ac 3 (app9 m v)) (0, 0) _ rfl (setRow_heap _ _ (ac 3 (upTo (app9 m v) 0)) _ _ _ H4.2.2.1) Try.underlying34 rfl info3) rfl ⟨by rw [HM.out], ?_⟩
        exact below_setRow H4.2.2.2.2.1 (by have := H4.2.2.2.2.2; omega) _

end Go.Proofs.Ytcighjeiimjbiaa.Mat

/- RMatD: The reference of layer 8: cofactors and determinants. -/
namespace Go.Proofs.Ytcighjeiimjbiaa.Mat
open Go.RowKit Go.Proofs.Ytcighjeiimjbiaa Go.Proofs.Ytcighjeiimjbiaa.NumPure Go.Proofs.Ytcighjeiimjbiaa.MatPure

/-- The elements of the first n that lie neither in row i nor in column j. -/
def ml (m : Nat → Int) (i j : Nat) : Nat → List Int
  | 0 => []
  | n + 1 => ml m i j n ++ (if n / 3 ≠ i ∧ n % 3 ≠ j then [m n] else [])
theorem ml_len (m : Nat → Int) (i j n : Nat) : (ml m i j n).length ≤ n := by
  induction n with
  | zero => simp [ml]
  | succ n ih =>
    simp only [ml, List.length_append]
    split <;> simp <;> omega
theorem ml_skip (m : Nat → Int) (i j y x : Nat) (hx : x < 3) (h : y = i ∨ x = j) : ml m i j (3 * y + (x + 1)) = ml m i j (3 * y + x) := by
  rw [show 3 * y + (x + 1) = (3 * y + x) + 1 by omega]
  simp only [ml]
  rw [show (3 * y + x) / 3 = y by omega, show (3 * y + x) % 3 = x by omega, if_neg (by omega), List.append_nil]
theorem ml_take (m : Nat → Int) (i j y x : Nat) (hx : x < 3) (h1 : y ≠ i) (h2 : x ≠ j) : ml m i j (3 * y + (x + 1)) = ml m i j (3 * y + x) ++ [m (3 * y + x)] := by
  rw [show 3 * y + (x + 1) = (3 * y + x) + 1 by omega]
  simp only [ml]
  rw [show (3 * y + x) / 3 = y by omega, show (3 * y + x) % 3 = x by omega, if_pos ⟨h1, h2⟩]
theorem ml_nine (m : Nat → Int) (hm : okM m = true) (i j : Nat) (hi : i < 3) (hj : j < 3) : ∃ a b c d : Int, ml m i j 9 = [a, b, c, d] ∧ (-1048576 ≤ a ∧ a ≤ 1048576) ∧ (-1048576 ≤ b ∧ b ≤ 1048576) ∧ (-1048576 ≤ c ∧ c ≤ 1048576) ∧ (-1048576 ≤ d ∧ d ≤ 1048576) ∧
    (((i + j) % 2 = 1 ∧ -(a * d - b * c) = cof m i j) ∨ ((i + j) % 2 = 0 ∧ a * d - b * c = cof m i j)) := by
  have h := okM_iff.1 hm
  obtain rfl | rfl | rfl : i = 0 ∨ i = 1 ∨ i = 2 := by omega
  all_goals
    obtain rfl | rfl | rfl : j = 0 ∨ j = 1 ∨ j = 2 := by omega
    all_goals
      refine ⟨_, _, _, _, rfl, h _ (by decide), h _ (by decide), h _ (by decide), h _ (by decide), ?_⟩
      simp only [cof]
      grind

theorem own_blk_ne {w : World} {g : Nat} {t : TypeId} {cs : Array Value} {base : Nat} {e : TypeId} {size n : Nat} {v : Value} {xs : List Value} (h : w.ownsRow base e size v n xs) (hg : Blk w g t cs) (hne : e ≠ t) : v.ownBlock ≠ some g := by
  rcases h.2 with ⟨rfl, _⟩ | ⟨g', cap, cur, rfl, _, hh, _⟩
  · simp [Value.ownBlock]
  · intro he
    have : g' = g := by simpa [Value.ownBlock] using he
    subst this
    unfold Blk at hg
    rw [hh] at hg
    injection hg with hg
    injection hg with _ ht
    exact hne ht
theorem row_cell {w : World} {base : Nat} {e : TypeId} {n cap g : Nat} {xs : List Value} (h : w.ownsRow base e 1 (.slice (some ⟨g, 0, none⟩) n cap) n xs) (j : Nat) (u : Value) (hu : xs[j]? = some u) : w.cell? ⟨g, j, none⟩ = some u := by
  have hc := h.cells (g := g) rfl j u hu
  have ea : (Addr.mk g 0 none).add j = ⟨g, j, none⟩ := by
    unfold Addr.add
    split
    · subst_vars; rfl
    · simp
  rwa [ea] at hc

theorem infoI : (Try.prog.info? 3).map (fun i => (i.zero, i.size, i.bytes)) = some (some (.int .i64 0), 1, 8) := by kernel_rfl

set_option maxHeartbeats 4000000 in
set_option maxRecDepth 100000 in
theorem rCof_any (m : Nat → Int) (hm : okM m = true) (i j : Nat) (hi : i < 3) (hj : j < 3) (w : World) :
    Calls Try.prog 83 #[.agg (ac 9 m), .int .i64 (i : Int), .int .i64 (j : Int)] w fun e w' => e = .returned (.int .i64 (cof m i j)) ∧ Below w.heap.size w w' := by
  obtain ⟨i0, hi0, hz0, hz1, hz2⟩ := info_parts infoI
  obtain ⟨a, b, c, d, hml, ba, bb, bc, bd, hcof⟩ := ml_nine m hm i j hi hj
  have HML := Lib.hid hml
  have HCOF := Lib.hid hcof
  clear hml hcof hm
  obtain ⟨B, hB⟩ : ∃ B, B = w.heap.size := ⟨_, rfl⟩
  rw [← hB]
  go_enter Try.func83, Try.ntmps83
  go_wp2_with fail
  have H0 := Blk.new w 25 (ac 9 m)
  have hb0 : Below B w (w.alloc (.cells (ac 9 m) 25)) := by rw [hB]; exact (Below.refl _ _).alloc (Nat.le_refl _) _
  obtain ⟨W, hW⟩ : ∃ W, W = w.alloc (.cells (ac 9 m) 25) := ⟨_, rfl⟩
  obtain ⟨g, eg⟩ : ∃ g, g = w.heap.size := ⟨_, rfl⟩
  rw [← hW, ← eg] at H0 ⊢
  rw [← hW] at hb0
  have hg : B ≤ g := by omega
  clear hW hB eg
  go_loopw [7, 8] (fun v7 v8 wr => ∃ y : Nat, y ≤ 3 ∧ v8 = .int .i64 y ∧ wr.ownsRow B 3 1 v7 (ml m i j (3 * y)).length ((ml m i j (3 * y)).map (Value.int .i64)) ∧ Blk wr g 25 (ac 9 m) ∧ Below B w wr) (fun _ v8 _ => 3 - (intOf v8).toNat)
  case atStart => exact ⟨0, by omega, rfl, World.ownsRow_nil _ _ _ _, H0, hb0⟩
  case round =>
    clear H0 hb0
    obtain ⟨y, hy, rfl, hown, H1, hb1⟩ := hrel
    by_cases hlt : y < 3
    · have ty : decide ((y : Int) < 3) = true := by simp; omega
      go_wp2_with fail
      go_loopw [7, 9] (fun v7 v9 wr => ∃ x : Nat, x ≤ 3 ∧ v9 = .int .i64 x ∧ wr.ownsRow B 3 1 v7 (ml m i j (3 * y + x)).length ((ml m i j (3 * y + x)).map (Value.int .i64)) ∧ Blk wr g 25 (ac 9 m) ∧ Below B w wr) (fun _ v9 _ => 3 - (intOf v9).toNat)
      case atStart => exact ⟨0, by omega, rfl, hown, H1, hb1⟩
      case round =>
        clear hown H1 hb1
        obtain ⟨x, hx, rfl, hown, H2, hb2⟩ := hrel
        by_cases hlt2 : x < 3
        · have tx : decide ((x : Int) < 3) = true := by simp; omega
          by_cases e1 : y = i
          · have t1 : ((y : Int) != (i : Int)) = false := by simp; omega
            have HK : Hid (ml m i j (3 * y + (x + 1)) = ml m i j (3 * y + x)) := Lib.hid (ml_skip m i j y x hlt2 (.inl e1))
            clear e1
            go_wp2_with fail
            go_roundw
            case rel => exact ⟨x + 1, by omega, by go_num, by rw [HK.out]; exact hown, H2, hb2⟩
            case measure => simp [intOf]; omega
          · have t1 : ((y : Int) != (i : Int)) = true := by simp; omega
            by_cases e2 : x = j
            · have t2 : ((x : Int) != (j : Int)) = false := by simp; omega
              have HK : Hid (ml m i j (3 * y + (x + 1)) = ml m i j (3 * y + x)) := Lib.hid (ml_skip m i j y x hlt2 (.inr e2))
              clear e1 e2
              go_wp2_with fail
              go_roundw
              case rel => exact ⟨x + 1, by omega, by go_num, by rw [HK.out]; exact hown, H2, hb2⟩
              case measure => simp [intOf]; omega
            · have t2 : ((x : Int) != (j : Int)) = true := by simp; omega
              have HK : Hid (ml m i j (3 * y + (x + 1)) = ml m i j (3 * y + x) ++ [m (3 * y + x)]) := Lib.hid (ml_take m i j y x hlt2 e1 e2)
              have hl := ml_len m i j (3 * y + x)
              have cc := H2.cell (3 * y + x)
              rw [ac_at _ (by omega)] at cc
              have hbl := hb2.size
              clear e1 e2
              go_wp2_with (at_builtin; refine wpList_append_own _ rfl _ _ 67 rfl B 3 i0 (.int .i64 0) 1 8 Try.underlying67 hi0 hz0 hz1 hz2 rfl (by decide) _ _ _ rfl (hown.alloc _) ⟨wr.heap.size, 0, none⟩ 1 1 [Value.int .i64 (m (3 * y + x))] rfl rfl ?c1 ?c2 ?c3 ?c4 ?c5 ?_)
              case c1 =>
                intro j u hj
                match j, hj with
                | 0, hj => simp at hj; subst hj; simp [Addr.add]
              case c2 => intro u hu; simp at hu; subst hu; rfl
              case c3 => unfold maxLen; omega
              case c4 => omega
              case c5 => have := H2.lt; simp; omega
              intro v' w1 hown' hgrow _
              have hne := own_blk_ne (hown.alloc (.cells #[Value.int .i64 (m (3 * y + x))] 3)) (H2.alloc (.cells #[Value.int .i64 (m (3 * y + x))] 3)) (by decide)
              have H3 : Blk w1 g 25 (ac 9 m) := (H2.alloc _).grown hgrow (fun e => hne e.symm)
              have hb3 : Below B w w1 := (hb2.alloc (by have := H2.lt; omega) _).grown hgrow (by have := H2.lt; simp; omega) (fun k hk => (hown.lt k hk).1)
              clear cc
              go_wp2_with fail
              go_roundw
              case rel =>
                refine ⟨x + 1, by omega, by go_num, ?_, H3, hb3⟩
                rw [HK.out, List.map_append, List.length_append]
                exact hown'
              case measure => simp [intOf]; omega
        · obtain rfl : x = 3 := by omega
          go_wp2_with fail
          go_roundw
          case rel => exact ⟨y + 1, by omega, by go_num, by rw [show 3 * (y + 1) = 3 * y + 3 by omega]; exact hown, H2, hb2⟩
          case measure => simp [intOf]; omega
    · obtain rfl : y = 3 := by omega
      rw [show 3 * 3 = 9 from rfl, HML.out, show [a, b, c, d].length = 4 from rfl] at hown
      obtain ⟨g', cap, hv, _, _⟩ := hown.form (by decide)
      subst hv
      have c0 := row_cell hown 0 _ rfl
      have c1 := row_cell hown 1 _ rfl
      have c2 := row_cell hown 2 _ rfl
      have c3 := row_cell hown 3 _ rfl
      have p1 := prod_in ba.1 ba.2 bd.1 bd.2
      have p2 := prod_in bb.1 bb.2 bc.1 bc.2
      have i1 : IntKind.i64.wrap (a * d) = a * d := IntWalk.i64_in _ (by omega)
      have i2 : IntKind.i64.wrap (b * c) = b * c := IntWalk.i64_in _ (by omega)
      have i3 : IntKind.i64.wrap (a * d - b * c) = a * d - b * c := IntWalk.i64_in _ (by omega)
      rcases HCOF.out with ⟨hp, hr⟩ | ⟨hp, hr⟩
      · have tp : (((i : Int) + (j : Int)) % 2 == 1) = true := by simp; omega
        have HR := Lib.hid hr
        clear hp hr
        go_wp2_with fail
        go_quiet (fail)
        go_wp2_with fail
        go_ret
        exact ⟨Num.ret_int (by rw [← HR.out]), below_drewN hb1 _⟩
      · have tp : (((i : Int) + (j : Int)) % 2 == 1) = false := by simp; omega
        have HR := Lib.hid hr
        clear hp hr
        go_wp2_with fail
        go_quiet (fail)
        go_wp2_with fail
        go_ret
        exact ⟨Num.ret_int (by rw [← HR.out]), below_drewN hb1 _⟩

end Go.Proofs.Ytcighjeiimjbiaa.Mat

/- RMatE: The reference of layer 8: determinants, and one element of an inverse. -/
namespace Go.Proofs.Ytcighjeiimjbiaa.Mat
open Go.RowKit Go.Proofs.Ytcighjeiimjbiaa Go.Proofs.Ytcighjeiimjbiaa.NumPure Go.Proofs.Ytcighjeiimjbiaa.MatPure

theorem step_load9 {ops : Array Oper} {o : Oper} {a : Act} {w : World} {K : Act → World → Prop} {Q : Exit → Act → World → Prop} {E : Prop} (hgd : o.guard = none) (x : Operand) (ho : o.op = .load 25 x) (g : Nat)
    (hx : a.eval x = .pointer (some ⟨g, 0, none⟩)) (m : Nat → Int) (hr : w.rangeAt g 0 (al 9 m)) (h : K (a.put o.dst (.agg (al 9 m).toArray)) w) :
    if Region.wanted o (yielded ops a.tmps) = true then Oper.wp Try.prog o a w K Q else E := by
  have hw : Region.wanted o (yielded ops a.tmps) = true := by simp [Region.wanted, hgd]
  rw [if_pos hw]
  exact wp_load_mid _ _ ho g 0 hx (al 9 m) _ hr Try.underlying25 rfl (size9 m) h

set_option maxHeartbeats 4000000 in
set_option maxRecDepth 100000 in
theorem rExact_any (m : Nat → Int) (hm : okM m = true) (w : World) : Calls Try.prog 81 #[.agg (ac 9 m)] w fun e w' => e = .returned (.int .i64 (det9 m)) ∧ Below w.heap.size w w' := by
  obtain ⟨B, hB⟩ : ∃ B, B = w.heap.size := ⟨_, rfl⟩
  rw [← hB]
  obtain ⟨q0, hq0⟩ : ∃ q, q = cof m 0 0 := ⟨_, rfl⟩
  obtain ⟨q1, hq1⟩ : ∃ q, q = cof m 0 1 := ⟨_, rfl⟩
  obtain ⟨q2, hq2⟩ : ∃ q, q = cof m 0 2 := ⟨_, rfl⟩
  have b0 := cof_in m hm 0 0
  have b1 := cof_in m hm 0 1
  have b2 := cof_in m hm 0 2
  have hc0 : ∀ W, Calls Try.prog 83 #[.agg (al 9 m).toArray, .int .i64 0, .int .i64 0] W fun e w' => e = .returned (.int .i64 q0) ∧ Below W.heap.size W w' := fun W => by rw [hq0]; exact rCof_any m hm 0 0 (by omega) (by omega) W
  have hc1 : ∀ W, Calls Try.prog 83 #[.agg (al 9 m).toArray, .int .i64 0, .int .i64 1] W fun e w' => e = .returned (.int .i64 q1) ∧ Below W.heap.size W w' := fun W => by rw [hq1]; exact rCof_any m hm 0 1 (by omega) (by omega) W
  have hc2 : ∀ W, Calls Try.prog 83 #[.agg (al 9 m).toArray, .int .i64 0, .int .i64 2] W fun e w' => e = .returned (.int .i64 q2) ∧ Below W.heap.size W w' := fun W => by rw [hq2]; exact rCof_any m hm 0 2 (by omega) (by omega) W
  rw [← hq0] at b0
  rw [← hq1] at b1
  rw [← hq2] at b2
  have hM := okM_iff.1 hm
  obtain ⟨m0, hm0⟩ : ∃ q, q = m 0 := ⟨_, rfl⟩
  obtain ⟨m1, hm1⟩ : ∃ q, q = m 1 := ⟨_, rfl⟩
  obtain ⟨m2, hm2⟩ : ∃ q, q = m 2 := ⟨_, rfl⟩
  have a0 := hM 0 (by omega)
  have a1 := hM 1 (by omega)
  have a2 := hM 2 (by omega)
  rw [← hm0] at a0
  rw [← hm1] at a1
  rw [← hm2] at a2
  have p0 := cprod_in a0.1 a0.2 b0.1 b0.2
  have p1 := cprod_in a1.1 a1.2 b1.1 b1.2
  have p2 := cprod_in a2.1 a2.2 b2.1 b2.2
  have HD : Hid (m0 * q0 + m1 * q1 + m2 * q2 = det9 m) := Lib.hid (by rw [hm0, hm1, hm2, hq0, hq1, hq2]; simp only [det9, esum, Int.zero_add])
  have i0 : IntKind.i64.wrap (m0 * q0) = m0 * q0 := IntWalk.i64_in _ (by omega)
  have i1 : IntKind.i64.wrap (m1 * q1) = m1 * q1 := IntWalk.i64_in _ (by omega)
  have i2 : IntKind.i64.wrap (m2 * q2) = m2 * q2 := IntWalk.i64_in _ (by omega)
  have i3 : IntKind.i64.wrap (m0 * q0 + m1 * q1) = m0 * q0 + m1 * q1 := IntWalk.i64_in _ (by omega)
  have i4 : IntKind.i64.wrap (m0 * q0 + m1 * q1 + m2 * q2) = m0 * q0 + m1 * q1 + m2 * q2 := IntWalk.i64_in _ (by omega)
  have HM0 := Lib.hid hm0
  have HM1 := Lib.hid hm1
  have HM2 := Lib.hid hm2
  clear hq0 hq1 hq2 hm0 hm1 hm2 hM a0 a1 a2 b0 b1 b2 p0 p1 p2
  go_enter Try.func81, Try.ntmps81
  go_wp2_with fail
  have H0 := Blk.new w 25 (ac 9 m)
  have hb0 : Below B w (w.alloc (.cells (ac 9 m) 25)) := by rw [hB]; exact (Below.refl _ _).alloc (Nat.le_refl _) _
  obtain ⟨W, hW⟩ : ∃ W, W = w.alloc (.cells (ac 9 m) 25) := ⟨_, rfl⟩
  obtain ⟨g, eg⟩ : ∃ g, g = w.heap.size := ⟨_, rfl⟩
  rw [← hW, ← eg] at H0 ⊢
  rw [← hW] at hb0
  have hg : B ≤ g := by omega
  clear hW hB eg hm
  have K0 : ∀ W' : World, Blk W' g 25 (ac 9 m) → Below B w W' → W'.cell? ⟨g, 0, none⟩ = some (.int .i64 m0) ∧ W'.cell? ⟨g, 1, none⟩ = some (.int .i64 m1) ∧ W'.cell? ⟨g, 2, none⟩ = some (.int .i64 m2) ∧ W'.rangeAt g 0 (al 9 m) ∧ Blk W' g 25 (ac 9 m) ∧ Below B w W' := fun W' h hb =>
    ⟨by rw [h.cell 0, HM0.out]; rfl, by rw [h.cell 1, HM1.out]; rfl, by rw [h.cell 2, HM2.out]; rfl, range9 h, h, hb⟩
  have hbox := Lib.hid (K0 W.drew H0.drew hb0.drew)
  have KK : Hid (∀ W1 W' : World, (W1.cell? ⟨g, 0, none⟩ = some (.int .i64 m0) ∧ W1.cell? ⟨g, 1, none⟩ = some (.int .i64 m1) ∧ W1.cell? ⟨g, 2, none⟩ = some (.int .i64 m2) ∧ W1.rangeAt g 0 (al 9 m) ∧ Blk W1 g 25 (ac 9 m) ∧ Below B w W1) → Below W1.heap.size W1 W' →
      W'.cell? ⟨g, 0, none⟩ = some (.int .i64 m0) ∧ W'.cell? ⟨g, 1, none⟩ = some (.int .i64 m1) ∧ W'.cell? ⟨g, 2, none⟩ = some (.int .i64 m2) ∧ W'.rangeAt g 0 (al 9 m) ∧ Blk W' g 25 (ac 9 m) ∧ Below B w W') :=
    Lib.hid (fun W1 W' h hq => K0 W' (h.2.2.2.2.1.below hq h.2.2.2.2.1.lt) (h.2.2.2.2.2.trans (hq.mono (by have := h.2.2.2.2.1.lt; omega))))
  have HR : Hid (∀ W1 : World, (W1.cell? ⟨g, 0, none⟩ = some (.int .i64 m0) ∧ W1.cell? ⟨g, 1, none⟩ = some (.int .i64 m1) ∧ W1.cell? ⟨g, 2, none⟩ = some (.int .i64 m2) ∧ W1.rangeAt g 0 (al 9 m) ∧ Blk W1 g 25 (ac 9 m) ∧ Below B w W1) → W1.rangeAt g 0 (al 9 m)) := Lib.hid (fun _ h => h.2.2.2.1)
  have hu := Try.underlying25
  have hsz := size9 m
  clear H0 hb0 K0
  refine wp_region_held_drew (S := (fun w' => w'.cell? ⟨g, 0, none⟩ = some (.int .i64 m0) ∧ w'.cell? ⟨g, 1, none⟩ = some (.int .i64 m1) ∧ w'.cell? ⟨g, 2, none⟩ = some (.int .i64 m2) ∧ w'.rangeAt g 0 (al 9 m) ∧ Blk w' g 25 (ac 9 m) ∧ Below B w w')) (by kernel_rfl) hbox.out (fun hHeld => ?_)
  refine wpAnyH_take (i := 0) (oi := _) (v := .pointer (some ⟨g, 0, none⟩)) rfl (by kernel_rfl) (by kernel_rfl) (by kernel_rfl) (fun _ _ _ h => h) (Or.inl ⟨by rfl, fun W1 hS1 => by obtain ⟨c0, c1, c2, _, _, _⟩ := hS1; go_simp⟩) (by assumption) ?_
  go_simp
  refine wpAnyH_take (i := 1) (oi := _) (v := .int .i64 (m0)) rfl (by kernel_rfl) (by kernel_rfl) (by kernel_rfl) (fun _ _ _ h => h) (Or.inl ⟨by rfl, fun W1 hS1 => by obtain ⟨c0, c1, c2, _, _, _⟩ := hS1; go_simp⟩) (by assumption) ?_
  go_simp
  refine wpAnyH_take (i := 2) (oi := _) (v := _) rfl (by kernel_rfl) (by kernel_rfl) (by kernel_rfl) (fun _ _ _ h => h) (yieldsIf_load_mid (by rfl) _ _ rfl g 0 rfl (al 9 m) _ (fun _ h => h.2.2.2.1) hu rfl hsz) (by assumption) ?_
  go_simp
  refine wpAnyH_take (i := 5) (oi := _) (v := .pointer (some ⟨g, 1, none⟩)) rfl (by kernel_rfl) (by kernel_rfl) (by kernel_rfl) (fun _ _ _ h => h) (Or.inl ⟨by rfl, fun W1 hS1 => by obtain ⟨c0, c1, c2, _, _, _⟩ := hS1; go_simp⟩) (by assumption) ?_
  go_simp
  refine wpAnyH_take (i := 6) (oi := _) (v := .int .i64 (m1)) rfl (by kernel_rfl) (by kernel_rfl) (by kernel_rfl) (fun _ _ _ h => h) (Or.inl ⟨by rfl, fun W1 hS1 => by obtain ⟨c0, c1, c2, _, _, _⟩ := hS1; go_simp⟩) (by assumption) ?_
  go_simp
  refine wpAnyH_take (i := 7) (oi := _) (v := _) rfl (by kernel_rfl) (by kernel_rfl) (by kernel_rfl) (fun _ _ _ h => h) (yieldsIf_load_mid (by rfl) _ _ rfl g 0 rfl (al 9 m) _ (fun _ h => h.2.2.2.1) hu rfl hsz) (by assumption) ?_
  go_simp
  refine wpAnyH_take (i := 11) (oi := _) (v := .pointer (some ⟨g, 2, none⟩)) rfl (by kernel_rfl) (by kernel_rfl) (by kernel_rfl) (fun _ _ _ h => h) (Or.inl ⟨by rfl, fun W1 hS1 => by obtain ⟨c0, c1, c2, _, _, _⟩ := hS1; go_simp⟩) (by assumption) ?_
  go_simp
  refine wpAnyH_take (i := 12) (oi := _) (v := .int .i64 (m2)) rfl (by kernel_rfl) (by kernel_rfl) (by kernel_rfl) (fun _ _ _ h => h) (Or.inl ⟨by rfl, fun W1 hS1 => by obtain ⟨c0, c1, c2, _, _, _⟩ := hS1; go_simp⟩) (by assumption) ?_
  go_simp
  refine wpAnyH_take (i := 13) (oi := _) (v := _) rfl (by kernel_rfl) (by kernel_rfl) (by kernel_rfl) (fun _ _ _ h => h) (yieldsIf_load_mid (by rfl) _ _ rfl g 0 rfl (al 9 m) _ (fun _ h => h.2.2.2.1) hu rfl hsz) (by assumption) ?_
  go_simp
  refine wpAnyH_ready (rs := [3]) (by kernel_rfl) (by simp) ?_
  refine AllReadyH.cons (o := _) rfl (fun K hK => ?_) AllReadyH.nil
  go_simp
  go_at_call 83
  refine (hc0 _).mono ?_
  rintro e w' ⟨rfl, hbq⟩
  go_wp2_with fail
  refine hK.out _ _ (KK.out _ _ (by assumption) hbq) (fun hHeld => ?_)
  clear hK hbq
  try simp only [Act.put, List.setIfInBounds_toArray, List.set_cons_zero, List.set_cons_succ]
  refine wpAnyH_take (i := 4) (oi := _) (v := .int .i64 (m0 * q0)) rfl (by kernel_rfl) (by kernel_rfl) (by kernel_rfl) (fun _ _ _ h => h) (Or.inl ⟨by rfl, fun W1 hS1 => by obtain ⟨c0, c1, c2, _, _, _⟩ := hS1; go_simp⟩) (by assumption) ?_
  go_simp
  refine wpAnyH_ready (rs := [8]) (by kernel_rfl) (by simp) ?_
  refine AllReadyH.cons (o := _) rfl (fun K hK => ?_) AllReadyH.nil
  go_simp
  go_at_call 83
  refine (hc1 _).mono ?_
  rintro e w' ⟨rfl, hbq⟩
  go_wp2_with fail
  refine hK.out _ _ (KK.out _ _ (by assumption) hbq) (fun hHeld => ?_)
  clear hK hbq
  try simp only [Act.put, List.setIfInBounds_toArray, List.set_cons_zero, List.set_cons_succ]
  refine wpAnyH_take (i := 9) (oi := _) (v := .int .i64 (m1 * q1)) rfl (by kernel_rfl) (by kernel_rfl) (by kernel_rfl) (fun _ _ _ h => h) (Or.inl ⟨by rfl, fun W1 hS1 => by obtain ⟨c0, c1, c2, _, _, _⟩ := hS1; go_simp⟩) (by assumption) ?_
  go_simp
  refine wpAnyH_take (i := 10) (oi := _) (v := .int .i64 (m0 * q0 + m1 * q1)) rfl (by kernel_rfl) (by kernel_rfl) (by kernel_rfl) (fun _ _ _ h => h) (Or.inl ⟨by rfl, fun W1 hS1 => by obtain ⟨c0, c1, c2, _, _, _⟩ := hS1; go_simp⟩) (by assumption) ?_
  go_simp
  refine wpAnyH_ready (rs := [14]) (by kernel_rfl) (by simp) ?_
  refine AllReadyH.cons (o := _) rfl (fun K hK => ?_) AllReadyH.nil
  go_simp
  go_at_call 83
  refine (hc2 _).mono ?_
  rintro e w' ⟨rfl, hbq⟩
  go_wp2_with fail
  refine hK.out _ _ (KK.out _ _ (by assumption) hbq) (fun hHeld => ?_)
  clear hK hbq
  try simp only [Act.put, List.setIfInBounds_toArray, List.set_cons_zero, List.set_cons_succ]
  refine wpAnyH_take (i := 15) (oi := _) (v := .int .i64 (m2 * q2)) rfl (by kernel_rfl) (by kernel_rfl) (by kernel_rfl) (fun _ _ _ h => h) (Or.inl ⟨by rfl, fun W1 hS1 => by obtain ⟨c0, c1, c2, _, _, _⟩ := hS1; go_simp⟩) (by assumption) ?_
  go_simp
  refine wpAnyH_take (i := 16) (oi := _) (v := .int .i64 (m0 * q0 + m1 * q1 + m2 * q2)) rfl (by kernel_rfl) (by kernel_rfl) (by kernel_rfl) (fun _ _ _ h => h) (Or.inl ⟨by rfl, fun W1 hS1 => by obtain ⟨c0, c1, c2, _, _, _⟩ := hS1; go_simp⟩) (by assumption) ?_
  go_simp
  refine wpAnyH_take (i := 17) (oi := _) (v := .int .i64 (m0 * q0 + m1 * q1 + m2 * q2)) rfl (by kernel_rfl) (by kernel_rfl) (by kernel_rfl) (fun _ _ _ h => h) (Or.inl ⟨by rfl, fun W1 hS1 => by obtain ⟨c0, c1, c2, _, _, _⟩ := hS1; go_simp⟩) (by assumption) ?_
  go_simp
  refine wpAnyH_done (by kernel_rfl) ?_ _
  have hfin : ∀ W1 : World, (W1.cell? ⟨g, 0, none⟩ = some (.int .i64 m0) ∧ W1.cell? ⟨g, 1, none⟩ = some (.int .i64 m1) ∧ W1.cell? ⟨g, 2, none⟩ = some (.int .i64 m2) ∧ W1.rangeAt g 0 (al 9 m) ∧ Blk W1 g 25 (ac 9 m) ∧ Below B w W1) → Below B w W1 := fun _ h => h.2.2.2.2.2
  have HFin := Lib.hid hfin
  clear hfin
  go_wp2_with fail
  go_ret
  exact ⟨Num.ret_int HD.out, HFin.out _ (by assumption)⟩

end Go.Proofs.Ytcighjeiimjbiaa.Mat

/- RMatF: The reference of layer 8: one element of an inverse. -/
namespace Go.Proofs.Ytcighjeiimjbiaa.Mat
open Go.RowKit Go.Proofs.Ytcighjeiimjbiaa Go.Proofs.Ytcighjeiimjbiaa.NumPure Go.Proofs.Ytcighjeiimjbiaa.MatPure

theorem long_step (x y k : Nat) (hy : 0 < y) : (2 * (x * 2 ^ k % y) < y ∧ x * 2 ^ (k + 1) / y = x * 2 ^ k / y * 2 ∧ x * 2 ^ (k + 1) % y = x * 2 ^ k % y * 2) ∨
    (y ≤ 2 * (x * 2 ^ k % y) ∧ x * 2 ^ (k + 1) / y = x * 2 ^ k / y * 2 + 1 ∧ x * 2 ^ (k + 1) % y = x * 2 ^ k % y * 2 - y) := by
  have h1 := Nat.div_add_mod (x * 2 ^ k) y
  have h2 := Nat.mod_lt (x * 2 ^ k) hy
  have e : x * 2 ^ (k + 1) = x * 2 ^ k * 2 := by rw [Nat.pow_succ, Nat.mul_assoc]
  rw [e]
  generalize x * 2 ^ k = a at *
  generalize hq : a / y = q at *
  generalize hr : a % y = r at *
  have ey : y * (q * 2) = y * q * 2 := by rw [Nat.mul_assoc]
  by_cases h : 2 * r < y
  · refine .inl ⟨h, ?_, ?_⟩
    · rw [Nat.div_eq_of_lt_le (k := q * 2)]
      · rw [Nat.mul_comm]; omega
      · rw [Nat.add_mul, Nat.one_mul, Nat.mul_comm (q * 2) y]; omega
    · have h4 : (a * 2) % y = r * 2 := by
        have e2 : a * 2 = r * 2 + y * (q * 2) := by omega
        rw [e2, Nat.add_mul_mod_self_left, Nat.mod_eq_of_lt (by omega)]
      exact h4
  · refine .inr ⟨by omega, ?_, ?_⟩
    · have e2 : a * 2 = (r * 2 - y) + y * (q * 2 + 1) := by rw [Nat.mul_add, Nat.mul_one]; omega
      rw [e2, Nat.add_mul_div_left _ _ hy, Nat.div_eq_of_lt (by omega), Nat.zero_add]
    · have e2 : a * 2 = (r * 2 - y) + y * (q * 2 + 1) := by rw [Nat.mul_add, Nat.mul_one]; omega
      rw [e2, Nat.add_mul_mod_self_left, Nat.mod_eq_of_lt (by omega)]

def elB (neg : Bool) (x y : Nat) : Bool := decide (rnd neg (x * 2 ^ 32) y ≤ 1048576)
def elZ (neg : Bool) (x y : Nat) : Int := if rnd neg (x * 2 ^ 32) y ≤ 1048576 then (bif neg then -(rnd neg (x * 2 ^ 32) y : Int) else (rnd neg (x * 2 ^ 32) y : Int)) else 0
def elV (neg : Bool) (x y : Nat) : Value := .tuple #[.int .i64 (elZ neg x y), .bool (elB neg x y)]
theorem el_no {neg : Bool} {x y : Nat} (h : 1048576 < rnd neg (x * 2 ^ 32) y) : elV neg x y = .tuple #[.int .i64 0, .bool false] := by
  unfold elV elZ elB
  rw [if_neg (by omega), show decide (rnd neg (x * 2 ^ 32) y ≤ 1048576) = false by simp; omega]
theorem el_yes {neg : Bool} {x y q : Nat} (hq : rnd neg (x * 2 ^ 32) y = q) (h : q ≤ 1048576) : elV neg x y = .tuple #[.int .i64 (bif neg then -(q : Int) else (q : Int)), .bool true] := by
  unfold elV elZ elB
  rw [hq, if_pos h, show decide (q ≤ 1048576) = true by simp; omega]
theorem el_big {neg : Bool} {x y k : Nat} (hk : k ≤ 32) (h : 2097152 < x * 2 ^ k / y) : elV neg x y = .tuple #[.int .i64 0, .bool false] := by
  apply el_no
  have h1 := (Num.rnd_ge neg (x * 2 ^ 32) y).1
  have h2 : x * 2 ^ k / y ≤ x * 2 ^ 32 / y := Nat.div_le_div_right (Nat.mul_le_mul_left _ (Nat.pow_le_pow_right (by omega) hk))
  omega

set_option maxHeartbeats 4000000 in
set_option maxRecDepth 100000 in
theorem element_any (n d : Int) (hn0 : -2199023255552 ≤ n) (hn1 : n ≤ 2199023255552) (hd0 : -6917529027641081856 ≤ d) (hd1 : d ≤ 6917529027641081856) (hd : d ≠ 0) (w : World) :
    Calls Try.prog 82 #[.int .i64 n, .int .i64 d] w fun e w' => e = .returned (elV (decide (n < 0) != decide (d < 0)) n.natAbs d.natAbs) ∧ w = w' := by
  obtain ⟨x, hx⟩ : ∃ x, n.natAbs = x := ⟨_, rfl⟩
  obtain ⟨y, hy⟩ : ∃ y, d.natAbs = y := ⟨_, rfl⟩
  have hy0 : 0 < y := by omega
  have hyl : y ≤ 6917529027641081856 := by omega
  have hxl : x ≤ 2199023255552 := by omega
  have hty : ((y : Int) == 0) = false := by simp; omega
  have h0 : x * 2 ^ 0 / y = x / y ∧ x * 2 ^ 0 % y = x % y := by rw [Nat.pow_zero, Nat.mul_one]; exact ⟨rfl, rfl⟩
  have hqx : x / y ≤ 2199023255552 := Nat.le_trans (Nat.div_le_self _ _) hxl
  have hrx : x % y < y := Nat.mod_lt _ hy0
  rw [hx, hy]
  have hcase : (decide (n < 0) = true ∧ decide (d < 0) = true ∧ n < 0 ∧ d < 0 ∧ -n = (x : Int) ∧ -d = (y : Int) ∧ (decide (n < 0) != decide (d < 0)) = false) ∨ (decide (n < 0) = true ∧ decide (d < 0) = false ∧ n < 0 ∧ 0 ≤ d ∧ -n = (x : Int) ∧ d = (y : Int) ∧ (decide (n < 0) != decide (d < 0)) = true) ∨
      (decide (n < 0) = false ∧ decide (d < 0) = true ∧ 0 ≤ n ∧ d < 0 ∧ n = (x : Int) ∧ -d = (y : Int) ∧ (decide (n < 0) != decide (d < 0)) = true) ∨ (decide (n < 0) = false ∧ decide (d < 0) = false ∧ 0 ≤ n ∧ 0 ≤ d ∧ n = (x : Int) ∧ d = (y : Int) ∧ (decide (n < 0) != decide (d < 0)) = false) := by
    by_cases a : n < 0 <;> by_cases b : d < 0
    · exact .inl ⟨by simp [a], by simp [b], a, b, by omega, by omega, by simp [a, b]⟩
    · exact .inr (.inl ⟨by simp [a], by simp [b], a, by omega, by omega, by omega, by simp [a, b]⟩)
    · exact .inr (.inr (.inl ⟨by simp [a], by simp [b], by omega, b, by omega, by omega, by simp [a, b]⟩))
    · exact .inr (.inr (.inr ⟨by simp [a], by simp [b], by omega, by omega, by omega, by omega, by simp [a, b]⟩))
  clear hx hy hd
  obtain ⟨q0, hq0⟩ : ∃ q, x / y = q := ⟨_, rfl⟩
  obtain ⟨r0, hr0⟩ : ∃ r, x % y = r := ⟨_, rfl⟩
  have f0 : IntKind.u64.wrap ((x : Int) / (y : Int)) = (q0 : Int) := by rw [Num.quo_wrap x y (by omega), hq0]
  have f1 : (x : Int) % (y : Int) = (r0 : Int) := by rw [← hr0]; rfl
  rw [hq0] at h0 hqx
  rw [hr0] at h0
  have H0 := Lib.hid h0
  clear hq0 hr0 h0 hrx
  rcases hcase with ⟨s1, s2, s3, s4, e1, e2, s5⟩ | ⟨s1, s2, s3, s4, e1, e2, s5⟩ | ⟨s1, s2, s3, s4, e1, e2, s5⟩ | ⟨s1, s2, s3, s4, e1, e2, s5⟩
  · rw [s5]
    clear s5
    go_enter Try.func82, Try.ntmps82
    go_wp2_with fail
    have f0' := f0
    have f1' := f1
    clear s1 s2 s3 s4 e1 e2 f0 f1
    go_loop [9, 10, 11] (fun v9 v10 v11 => ∃ k q r : Nat, k ≤ 32 ∧ v11 = .int .i64 k ∧ v9 = .int .u64 q ∧ v10 = .int .u64 r ∧ x * 2 ^ k / y = q ∧ x * 2 ^ k % y = r ∧ q ≤ 2199023255552) (fun _ _ v11 => 32 - (intOf v11).toNat)
    case atStart => exact ⟨0, q0, r0, by omega, rfl, rfl, by rw [f1'], H0.out.1, H0.out.2, hqx⟩
    case round =>
      obtain ⟨k, q, r, hk, rfl, rfl, rfl, hq, hr, hql⟩ := hrel
      have hrl : r < y := by rw [← hr]; exact Nat.mod_lt _ hy0
      have HQ := Lib.hid hq
      have HR := Lib.hid hr
      clear hq hr
      by_cases hbig : 2097152 < q
      · have HB : Hid (elV false x y = .tuple #[.int .i64 0, .bool false]) := Lib.hid (el_big hk (by rw [HQ.out]; exact hbig))
        by_cases hlt : k < 32
        all_goals
          go_wp2_with fail
          go_ret2
          exact ⟨by rw [HB.out]; rfl, rfl⟩
      · by_cases hlt : k < 32
        · rcases long_step x y k hy0 with ⟨h1, h2, h3⟩ | ⟨h1, h2, h3⟩
          · rw [HR.out] at h1 h3
            rw [HQ.out] at h2
            have H2 := Lib.hid h2
            have H3 := Lib.hid h3
            clear h2 h3
            go_wp2_with fail
            go_round
            case rel => exact ⟨k + 1, q * 2, r * 2, by omega, by go_num, by go_num, by go_num, H2.out, H3.out, by omega⟩
            case measure => simp [intOf]; omega
          · rw [HR.out] at h1 h3
            rw [HQ.out] at h2
            have H2 := Lib.hid h2
            have H3 := Lib.hid h3
            clear h2 h3
            go_wp2_with fail
            go_round
            case rel => exact ⟨k + 1, q * 2 + 1, r * 2 - y, by omega, by go_num, by go_num, by simp; omega, H2.out, H3.out, by omega⟩
            case measure => simp [intOf]; omega
        · have hk2 : k = 32 := by omega
          have hq3 : x * 2 ^ 32 / y = q := by rw [← hk2]; exact HQ.out
          have hr3 : x * 2 ^ 32 % y = r := by rw [← hk2]; exact HR.out
          clear HQ HR hk2
          obtain ⟨q2, hq2⟩ : ∃ q2, rnd false (x * 2 ^ 32) y = q2 := ⟨_, rfl⟩
          have hup : (decide ((y : Int) ≤ 2 * (r : Int)) = true ∧ q2 = q + 1) ∨ (decide ((y : Int) ≤ 2 * (r : Int)) = false ∧ q2 = q) := by
            rw [← hq2]
            unfold rnd
            rw [hq3, hr3]
            by_cases hu : y ≤ 2 * r
            · exact .inl ⟨by simp; omega, if_pos (by simp; omega)⟩
            · exact .inr ⟨by simp; omega, if_neg (by simp; omega)⟩
          have HQ2 := Lib.hid hq2
          clear hq2 hq3 hr3
          by_cases hb2 : 1048576 < q2
          · have HB : Hid (elV false x y = .tuple #[.int .i64 0, .bool false]) := Lib.hid (el_no (by rw [HQ2.out]; exact hb2))
            clear HQ2
            rcases hup with ⟨t1, rfl⟩ | ⟨t1, rfl⟩
            · have hb3 : (1048576 : Int) < (q : Int) + 1 := by omega
              clear hb2
              go_wp2_with fail
              go_ret2
              exact ⟨by rw [HB.out]; rfl, rfl⟩
            · have hb3 : (1048576 : Int) < (q2 : Int) := by omega
              clear hb2
              go_wp2_with fail
              go_ret2
              exact ⟨by rw [HB.out]; rfl, rfl⟩
          · have HB : Hid (elV false x y = .tuple #[.int .i64 ((q2 : Int)), .bool true]) := Lib.hid (el_yes HQ2.out (by omega))
            clear HQ2
            rcases hup with ⟨t1, e5⟩ | ⟨t1, rfl⟩
            · have e6 : (q : Int) + 1 = (q2 : Int) := by omega
              have hb3 : (q2 : Int) ≤ 1048576 := by omega
              clear hb2 e5
              go_wp2_with fail
              go_ret2
              exact ⟨by rw [HB.out]; go_num, rfl⟩
            · have hb3 : (q2 : Int) ≤ 1048576 := by omega
              clear hb2
              go_wp2_with fail
              go_ret2
              exact ⟨by rw [HB.out]; go_num, rfl⟩
  · rw [s5]
    clear s5
    go_enter Try.func82, Try.ntmps82
    go_wp2_with fail
    have f0' := f0
    have f1' := f1
    clear s1 s2 s3 s4 e1 e2 f0 f1
    go_loop [9, 10, 11] (fun v9 v10 v11 => ∃ k q r : Nat, k ≤ 32 ∧ v11 = .int .i64 k ∧ v9 = .int .u64 q ∧ v10 = .int .u64 r ∧ x * 2 ^ k / y = q ∧ x * 2 ^ k % y = r ∧ q ≤ 2199023255552) (fun _ _ v11 => 32 - (intOf v11).toNat)
    case atStart => exact ⟨0, q0, r0, by omega, rfl, rfl, by rw [f1'], H0.out.1, H0.out.2, hqx⟩
    case round =>
      obtain ⟨k, q, r, hk, rfl, rfl, rfl, hq, hr, hql⟩ := hrel
      have hrl : r < y := by rw [← hr]; exact Nat.mod_lt _ hy0
      have HQ := Lib.hid hq
      have HR := Lib.hid hr
      clear hq hr
      by_cases hbig : 2097152 < q
      · have HB : Hid (elV true x y = .tuple #[.int .i64 0, .bool false]) := Lib.hid (el_big hk (by rw [HQ.out]; exact hbig))
        by_cases hlt : k < 32
        all_goals
          go_wp2_with fail
          go_ret2
          exact ⟨by rw [HB.out]; rfl, rfl⟩
      · by_cases hlt : k < 32
        · rcases long_step x y k hy0 with ⟨h1, h2, h3⟩ | ⟨h1, h2, h3⟩
          · rw [HR.out] at h1 h3
            rw [HQ.out] at h2
            have H2 := Lib.hid h2
            have H3 := Lib.hid h3
            clear h2 h3
            go_wp2_with fail
            go_round
            case rel => exact ⟨k + 1, q * 2, r * 2, by omega, by go_num, by go_num, by go_num, H2.out, H3.out, by omega⟩
            case measure => simp [intOf]; omega
          · rw [HR.out] at h1 h3
            rw [HQ.out] at h2
            have H2 := Lib.hid h2
            have H3 := Lib.hid h3
            clear h2 h3
            go_wp2_with fail
            go_round
            case rel => exact ⟨k + 1, q * 2 + 1, r * 2 - y, by omega, by go_num, by go_num, by simp; omega, H2.out, H3.out, by omega⟩
            case measure => simp [intOf]; omega
        · have hk2 : k = 32 := by omega
          have hq3 : x * 2 ^ 32 / y = q := by rw [← hk2]; exact HQ.out
          have hr3 : x * 2 ^ 32 % y = r := by rw [← hk2]; exact HR.out
          clear HQ HR hk2
          obtain ⟨q2, hq2⟩ : ∃ q2, rnd true (x * 2 ^ 32) y = q2 := ⟨_, rfl⟩
          have hup : (decide ((y : Int) < 2 * (r : Int)) = true ∧ q2 = q + 1) ∨ (decide ((y : Int) < 2 * (r : Int)) = false ∧ q2 = q) := by
            rw [← hq2]
            unfold rnd
            rw [hq3, hr3]
            by_cases hu : y < 2 * r
            · exact .inl ⟨by simp; omega, if_pos (by simp; omega)⟩
            · exact .inr ⟨by simp; omega, if_neg (by simp; omega)⟩
          have HQ2 := Lib.hid hq2
          clear hq2 hq3 hr3
          by_cases hb2 : 1048576 < q2
          · have HB : Hid (elV true x y = .tuple #[.int .i64 0, .bool false]) := Lib.hid (el_no (by rw [HQ2.out]; exact hb2))
            clear HQ2
            rcases hup with ⟨t1, rfl⟩ | ⟨t1, rfl⟩
            · have hb3 : (1048576 : Int) < (q : Int) + 1 := by omega
              clear hb2
              go_wp2_with fail
              go_ret2
              exact ⟨by rw [HB.out]; rfl, rfl⟩
            · have hb3 : (1048576 : Int) < (q2 : Int) := by omega
              clear hb2
              go_wp2_with fail
              go_ret2
              exact ⟨by rw [HB.out]; rfl, rfl⟩
          · have HB : Hid (elV true x y = .tuple #[.int .i64 (-(q2 : Int)), .bool true]) := Lib.hid (el_yes HQ2.out (by omega))
            clear HQ2
            rcases hup with ⟨t1, e5⟩ | ⟨t1, rfl⟩
            · have e6 : (q : Int) + 1 = (q2 : Int) := by omega
              have hb3 : (q2 : Int) ≤ 1048576 := by omega
              clear hb2 e5
              go_wp2_with fail
              go_ret2
              exact ⟨by rw [HB.out]; go_num, rfl⟩
            · have hb3 : (q2 : Int) ≤ 1048576 := by omega
              clear hb2
              go_wp2_with fail
              go_ret2
              exact ⟨by rw [HB.out]; go_num, rfl⟩
  · rw [s5]
    clear s5
    go_enter Try.func82, Try.ntmps82
    go_wp2_with fail
    have f0' := f0
    have f1' := f1
    clear s1 s2 s3 s4 e1 e2 f0 f1
    go_loop [9, 10, 11] (fun v9 v10 v11 => ∃ k q r : Nat, k ≤ 32 ∧ v11 = .int .i64 k ∧ v9 = .int .u64 q ∧ v10 = .int .u64 r ∧ x * 2 ^ k / y = q ∧ x * 2 ^ k % y = r ∧ q ≤ 2199023255552) (fun _ _ v11 => 32 - (intOf v11).toNat)
    case atStart => exact ⟨0, q0, r0, by omega, rfl, rfl, by rw [f1'], H0.out.1, H0.out.2, hqx⟩
    case round =>
      obtain ⟨k, q, r, hk, rfl, rfl, rfl, hq, hr, hql⟩ := hrel
      have hrl : r < y := by rw [← hr]; exact Nat.mod_lt _ hy0
      have HQ := Lib.hid hq
      have HR := Lib.hid hr
      clear hq hr
      by_cases hbig : 2097152 < q
      · have HB : Hid (elV true x y = .tuple #[.int .i64 0, .bool false]) := Lib.hid (el_big hk (by rw [HQ.out]; exact hbig))
        by_cases hlt : k < 32
        all_goals
          go_wp2_with fail
          go_ret2
          exact ⟨by rw [HB.out]; rfl, rfl⟩
      · by_cases hlt : k < 32
        · rcases long_step x y k hy0 with ⟨h1, h2, h3⟩ | ⟨h1, h2, h3⟩
          · rw [HR.out] at h1 h3
            rw [HQ.out] at h2
            have H2 := Lib.hid h2
            have H3 := Lib.hid h3
            clear h2 h3
            go_wp2_with fail
            go_round
            case rel => exact ⟨k + 1, q * 2, r * 2, by omega, by go_num, by go_num, by go_num, H2.out, H3.out, by omega⟩
            case measure => simp [intOf]; omega
          · rw [HR.out] at h1 h3
            rw [HQ.out] at h2
            have H2 := Lib.hid h2
            have H3 := Lib.hid h3
            clear h2 h3
            go_wp2_with fail
            go_round
            case rel => exact ⟨k + 1, q * 2 + 1, r * 2 - y, by omega, by go_num, by go_num, by simp; omega, H2.out, H3.out, by omega⟩
            case measure => simp [intOf]; omega
        · have hk2 : k = 32 := by omega
          have hq3 : x * 2 ^ 32 / y = q := by rw [← hk2]; exact HQ.out
          have hr3 : x * 2 ^ 32 % y = r := by rw [← hk2]; exact HR.out
          clear HQ HR hk2
          obtain ⟨q2, hq2⟩ : ∃ q2, rnd true (x * 2 ^ 32) y = q2 := ⟨_, rfl⟩
          have hup : (decide ((y : Int) < 2 * (r : Int)) = true ∧ q2 = q + 1) ∨ (decide ((y : Int) < 2 * (r : Int)) = false ∧ q2 = q) := by
            rw [← hq2]
            unfold rnd
            rw [hq3, hr3]
            by_cases hu : y < 2 * r
            · exact .inl ⟨by simp; omega, if_pos (by simp; omega)⟩
            · exact .inr ⟨by simp; omega, if_neg (by simp; omega)⟩
          have HQ2 := Lib.hid hq2
          clear hq2 hq3 hr3
          by_cases hb2 : 1048576 < q2
          · have HB : Hid (elV true x y = .tuple #[.int .i64 0, .bool false]) := Lib.hid (el_no (by rw [HQ2.out]; exact hb2))
            clear HQ2
            rcases hup with ⟨t1, rfl⟩ | ⟨t1, rfl⟩
            · have hb3 : (1048576 : Int) < (q : Int) + 1 := by omega
              clear hb2
              go_wp2_with fail
              go_ret2
              exact ⟨by rw [HB.out]; rfl, rfl⟩
            · have hb3 : (1048576 : Int) < (q2 : Int) := by omega
              clear hb2
              go_wp2_with fail
              go_ret2
              exact ⟨by rw [HB.out]; rfl, rfl⟩
          · have HB : Hid (elV true x y = .tuple #[.int .i64 (-(q2 : Int)), .bool true]) := Lib.hid (el_yes HQ2.out (by omega))
            clear HQ2
            rcases hup with ⟨t1, e5⟩ | ⟨t1, rfl⟩
            · have e6 : (q : Int) + 1 = (q2 : Int) := by omega
              have hb3 : (q2 : Int) ≤ 1048576 := by omega
              clear hb2 e5
              go_wp2_with fail
              go_ret2
              exact ⟨by rw [HB.out]; go_num, rfl⟩
            · have hb3 : (q2 : Int) ≤ 1048576 := by omega
              clear hb2
              go_wp2_with fail
              go_ret2
              exact ⟨by rw [HB.out]; go_num, rfl⟩
  · rw [s5]
    clear s5
    go_enter Try.func82, Try.ntmps82
    go_wp2_with fail
    have f0' := f0
    have f1' := f1
    clear s1 s2 s3 s4 e1 e2 f0 f1
    go_loop [9, 10, 11] (fun v9 v10 v11 => ∃ k q r : Nat, k ≤ 32 ∧ v11 = .int .i64 k ∧ v9 = .int .u64 q ∧ v10 = .int .u64 r ∧ x * 2 ^ k / y = q ∧ x * 2 ^ k % y = r ∧ q ≤ 2199023255552) (fun _ _ v11 => 32 - (intOf v11).toNat)
    case atStart => exact ⟨0, q0, r0, by omega, rfl, rfl, by rw [f1'], H0.out.1, H0.out.2, hqx⟩
    case round =>
      obtain ⟨k, q, r, hk, rfl, rfl, rfl, hq, hr, hql⟩ := hrel
      have hrl : r < y := by rw [← hr]; exact Nat.mod_lt _ hy0
      have HQ := Lib.hid hq
      have HR := Lib.hid hr
      clear hq hr
      by_cases hbig : 2097152 < q
      · have HB : Hid (elV false x y = .tuple #[.int .i64 0, .bool false]) := Lib.hid (el_big hk (by rw [HQ.out]; exact hbig))
        by_cases hlt : k < 32
        all_goals
          go_wp2_with fail
          go_ret2
          exact ⟨by rw [HB.out]; rfl, rfl⟩
      · by_cases hlt : k < 32
        · rcases long_step x y k hy0 with ⟨h1, h2, h3⟩ | ⟨h1, h2, h3⟩
          · rw [HR.out] at h1 h3
            rw [HQ.out] at h2
            have H2 := Lib.hid h2
            have H3 := Lib.hid h3
            clear h2 h3
            go_wp2_with fail
            go_round
            case rel => exact ⟨k + 1, q * 2, r * 2, by omega, by go_num, by go_num, by go_num, H2.out, H3.out, by omega⟩
            case measure => simp [intOf]; omega
          · rw [HR.out] at h1 h3
            rw [HQ.out] at h2
            have H2 := Lib.hid h2
            have H3 := Lib.hid h3
            clear h2 h3
            go_wp2_with fail
            go_round
            case rel => exact ⟨k + 1, q * 2 + 1, r * 2 - y, by omega, by go_num, by go_num, by simp; omega, H2.out, H3.out, by omega⟩
            case measure => simp [intOf]; omega
        · have hk2 : k = 32 := by omega
          have hq3 : x * 2 ^ 32 / y = q := by rw [← hk2]; exact HQ.out
          have hr3 : x * 2 ^ 32 % y = r := by rw [← hk2]; exact HR.out
          clear HQ HR hk2
          obtain ⟨q2, hq2⟩ : ∃ q2, rnd false (x * 2 ^ 32) y = q2 := ⟨_, rfl⟩
          have hup : (decide ((y : Int) ≤ 2 * (r : Int)) = true ∧ q2 = q + 1) ∨ (decide ((y : Int) ≤ 2 * (r : Int)) = false ∧ q2 = q) := by
            rw [← hq2]
            unfold rnd
            rw [hq3, hr3]
            by_cases hu : y ≤ 2 * r
            · exact .inl ⟨by simp; omega, if_pos (by simp; omega)⟩
            · exact .inr ⟨by simp; omega, if_neg (by simp; omega)⟩
          have HQ2 := Lib.hid hq2
          clear hq2 hq3 hr3
          by_cases hb2 : 1048576 < q2
          · have HB : Hid (elV false x y = .tuple #[.int .i64 0, .bool false]) := Lib.hid (el_no (by rw [HQ2.out]; exact hb2))
            clear HQ2
            rcases hup with ⟨t1, rfl⟩ | ⟨t1, rfl⟩
            · have hb3 : (1048576 : Int) < (q : Int) + 1 := by omega
              clear hb2
              go_wp2_with fail
              go_ret2
              exact ⟨by rw [HB.out]; rfl, rfl⟩
            · have hb3 : (1048576 : Int) < (q2 : Int) := by omega
              clear hb2
              go_wp2_with fail
              go_ret2
              exact ⟨by rw [HB.out]; rfl, rfl⟩
          · have HB : Hid (elV false x y = .tuple #[.int .i64 ((q2 : Int)), .bool true]) := Lib.hid (el_yes HQ2.out (by omega))
            clear HQ2
            rcases hup with ⟨t1, e5⟩ | ⟨t1, rfl⟩
            · have e6 : (q : Int) + 1 = (q2 : Int) := by omega
              have hb3 : (q2 : Int) ≤ 1048576 := by omega
              clear hb2 e5
              go_wp2_with fail
              go_ret2
              exact ⟨by rw [HB.out]; go_num, rfl⟩
            · have hb3 : (q2 : Int) ≤ 1048576 := by omega
              clear hb2
              go_wp2_with fail
              go_ret2
              exact ⟨by rw [HB.out]; go_num, rfl⟩

end Go.Proofs.Ytcighjeiimjbiaa.Mat

/- RMatG: The reference of layer 8: Inverse. -/
namespace Go.Proofs.Ytcighjeiimjbiaa.Mat
open Go.RowKit Go.Proofs.Ytcighjeiimjbiaa Go.Proofs.Ytcighjeiimjbiaa.NumPure Go.Proofs.Ytcighjeiimjbiaa.MatPure

theorem el_in {c d : Int} (hd : d ≠ 0) (h : -1048576 ≤ ratU (c * 65536) d ∧ ratU (c * 65536) d ≤ 1048576) :
    elV (decide (c < 0) != decide (d < 0)) c.natAbs d.natAbs = .tuple #[.int .i64 (ratU (c * 65536) d), .bool true] := by
  have e1 : decide (c * 65536 < 0) = decide (c < 0) := by by_cases hc : c < 0 <;> simp [hc] <;> omega
  have e2 : (c * 65536).natAbs * 65536 = c.natAbs * 2 ^ 32 := by rw [Int.natAbs_mul, show Int.natAbs 65536 = 65536 from rfl]; omega
  unfold ratU at h ⊢
  rw [if_neg hd, e1, e2] at h ⊢
  generalize (decide (c < 0) != decide (d < 0)) = neg at *
  obtain ⟨q, hq⟩ : ∃ q, rnd neg (c.natAbs * 2 ^ 32) d.natAbs = q := ⟨_, rfl⟩
  rw [hq] at h ⊢
  have h2 : q ≤ 1048576 := by cases neg <;> simp [sgn] at h <;> omega
  rw [el_yes hq h2]
  cases neg <;> simp [sgn] <;> omega

theorem el_out {c d : Int} (hd : d ≠ 0) (h : ¬ (-1048576 ≤ ratU (c * 65536) d ∧ ratU (c * 65536) d ≤ 1048576)) :
    elV (decide (c < 0) != decide (d < 0)) c.natAbs d.natAbs = .tuple #[.int .i64 0, .bool false] := by
  have e1 : decide (c * 65536 < 0) = decide (c < 0) := by by_cases hc : c < 0 <;> simp [hc] <;> omega
  have e2 : (c * 65536).natAbs * 65536 = c.natAbs * 2 ^ 32 := by rw [Int.natAbs_mul, show Int.natAbs 65536 = 65536 from rfl]; omega
  unfold ratU at h
  rw [if_neg hd, e1, e2] at h
  generalize (decide (c < 0) != decide (d < 0)) = neg at *
  apply el_no
  generalize rnd neg (c.natAbs * 2 ^ 32) d.natAbs = q at *
  cases neg <;> simp [sgn] at h <;> omega

set_option maxHeartbeats 4000000 in
set_option maxRecDepth 100000 in
theorem rInverse_any (m : Nat → Int) (w : World) : Calls Try.prog 51 #[.agg (ac 9 m)] w fun e w' => e = .returned (.tuple #[.agg (ac 9 (invM m)), .int .i64 (invX m)]) ∧ Below w.heap.size w w' := by
  obtain ⟨B, hB⟩ : ∃ B, B = w.heap.size := ⟨_, rfl⟩
  rw [← hB]
  obtain ⟨W1, hW1⟩ : ∃ W, W = ((w.alloc (.cells (ac 9 m) 25)).alloc (.cells (ac 9 fun _ => 0) 25)).alloc (.cells (ac 9 fun _ => 0) 25) := ⟨_, rfl⟩
  have T0 : Three B w.heap.size (w.heap.size + 1) (w.heap.size + 2) w (ac 9 m) (ac 9 fun _ => 0) (ac 9 fun _ => 0) W1 := by
    rw [hW1]
    have a1 := ((Blk.new w 25 (ac 9 m)).alloc (.cells (ac 9 fun _ => 0) 25)).alloc (.cells (ac 9 fun _ => 0) 25)
    have a2 := (Blk.new (w.alloc (.cells (ac 9 m) 25)) 25 (ac 9 fun _ => 0)).alloc (.cells (ac 9 fun _ => 0) 25)
    have a3 := Blk.new ((w.alloc (.cells (ac 9 m) 25)).alloc (.cells (ac 9 fun _ => 0) 25)) 25 (ac 9 fun _ => 0)
    have e2 : (w.alloc (.cells (ac 9 m) 25)).heap.size = w.heap.size + 1 := by simp
    have e3 : ((w.alloc (.cells (ac 9 m) 25)).alloc (.cells (ac 9 fun _ => 0) 25)).heap.size = w.heap.size + 2 := by simp
    rw [e2] at a2
    rw [e3] at a3
    exact ⟨a1, a2, a3, by rw [hB]; exact (((Below.refl _ _).alloc (Nat.le_refl _) _).alloc (by simp) _).alloc (by simp; omega) _, by omega, by omega, by omega⟩
  go_enter Try.func51, Try.ntmps51
  have HL := T0.1
  rw [hW1] at HL
  go_wp2_with (first | (refine wpList_alloc9 rfl rfl ?_) | (refine wpList_load_row rfl _ _ rfl w.heap.size rfl 25 (ac 9 m) (0, 0) _ HL Try.underlying25 rfl info9 ?_))
  rw [← hW1]
  obtain ⟨g1, e1⟩ : ∃ g, g = w.heap.size := ⟨_, rfl⟩
  obtain ⟨g2, e2⟩ : ∃ g, g = w.heap.size + 1 := ⟨_, rfl⟩
  obtain ⟨g3, e3⟩ : ∃ g, g = w.heap.size + 2 := ⟨_, rfl⟩
  rw [← e3, ← e2, ← e1]
  rw [← e3, ← e2, ← e1] at T0
  clear hW1 hB e1 e2 e3 HL
  cases hm : okM m with
  | false =>
    have hM : invM m = fun _ => 0 := by unfold invM; rw [hm]; rfl
    have hX : invX m = 2 := by unfold invX; rw [hm]; rfl
    refine (rCheck_bad m hm _).mono ?_
    rintro e w1 ⟨rfl, hb1⟩
    have T1 := T0.below hb1
    have HM : Hid (Value.tuple #[.agg (ac 9 fun _ => 0), .int .i64 2] = .tuple #[.agg (ac 9 (invM m)), .int .i64 (invX m)]) := Lib.hid (by rw [hM, hX])
    clear T0 hb1 hM hX hm
    go_wp2_with (first
      | (refine wpList_load_row rfl _ _ rfl g3 rfl 25 (ac 9 fun _ => 0) (0, 0) _ T1.2.2.1 Try.underlying25 rfl info9 ?_)
      | (refine wpList_store_row rfl _ _ _ rfl g2 (ac 9 fun _ => 0) rfl rfl 25 (ac 9 fun _ => 0) T1.2.1 info9 ac_same (ac_one 9 _) ?_))
    refine bodyPost_ret (v := .tuple #[.agg (ac 9 fun _ => 0), .int .i64 2]) (results_two9 rfl _ _ g2 (fun _ => 0) rfl _ rfl (setRow_heap _ _ (ac 9 fun _ => 0) _ _ _ T1.2.1)) rfl ⟨by rw [HM.out], ?_⟩
    exact below_setRow T1.2.2.2.1 (by have := T1.2.2.2.2; omega) _
  | true =>
    refine (rCheck_ok m hm _).mono ?_
    rintro e w1 ⟨rfl, hb1⟩
    have T1 := T0.below hb1
    have HA := Lib.hid hm
    have hd := det9_in m hm
    obtain ⟨d, hdd⟩ : ∃ d, d = det9 m := ⟨_, rfl⟩
    have HE := fun W => rExact_any m hm W
    rw [← hdd] at hd HE
    clear T0 hb1 hm
    go_wp2_with (refine wpList_load_row rfl _ _ rfl g1 rfl 25 (ac 9 m) (0, 0) _ T1.1 Try.underlying25 rfl info9 ?_)
    refine (HE _).mono ?_
    rintro e w2 ⟨rfl, hb3⟩
    have T2 := T1.below hb3
    clear T1 hb3 HE
    by_cases hz : d = 0
    · have hM : invM m = fun _ => 0 := by unfold invM; rw [HA.out, ← hdd, if_pos hz]; rfl
      have hX : invX m = 17 := by unfold invX; rw [HA.out, ← hdd, if_pos hz]; rfl
      have HM : Hid (Value.tuple #[.agg (ac 9 fun _ => 0), .int .i64 17] = .tuple #[.agg (ac 9 (invM m)), .int .i64 (invX m)]) := Lib.hid (by rw [hM, hX])
      clear hM hX hdd
      subst hz
      go_wp2_with (first
        | (refine wpList_load_row rfl _ _ rfl g3 rfl 25 (ac 9 fun _ => 0) (0, 0) _ T2.2.2.1 Try.underlying25 rfl info9 ?_)
        | (refine wpList_store_row rfl _ _ _ rfl g2 (ac 9 fun _ => 0) rfl rfl 25 (ac 9 fun _ => 0) T2.2.1 info9 ac_same (ac_one 9 _) ?_))
      refine bodyPost_ret (v := .tuple #[.agg (ac 9 fun _ => 0), .int .i64 17]) (results_two9 rfl _ _ g2 (fun _ => 0) rfl _ rfl (setRow_heap _ _ (ac 9 fun _ => 0) _ _ _ T2.2.1)) rfl ⟨by rw [HM.out], ?_⟩
      exact below_setRow T2.2.2.2.1 (by have := T2.2.2.2.2; omega) _
    · have tz : (d == 0) = false := by simpa using hz
      have HZ := Lib.hid hz
      have HD := Lib.hid hdd
      clear hz hdd
      rw [← upTo_none 9 (invE m)] at T2
      go_wp2_with fail
      go_loopw [6] (fun v6 wr => ∃ i : Nat, i ≤ 3 ∧ v6 = .int .i64 i ∧ Three B g1 g2 g3 w (ac 9 m) (ac 9 fun _ => 0) (ac 9 (upTo (invE m) (3 * i))) wr ∧ Hid (∀ k, k < 3 * i → -1048576 ≤ invE m k ∧ invE m k ≤ 1048576)) (fun v6 _ => 3 - (intOf v6).toNat)
      case atStart => exact ⟨0, by omega, rfl, T2, Lib.hid (by intro k hk; omega)⟩
      case round =>
        clear T2
        obtain ⟨i, hi, rfl, H3, HK⟩ := hrel
        by_cases hlt : i < 3
        · have ti : decide ((i : Int) < 3) = true := by simp; omega
          go_wp2_with fail
          go_loopw [7] (fun v7 wr => ∃ j : Nat, j ≤ 3 ∧ v7 = .int .i64 j ∧ Three B g1 g2 g3 w (ac 9 m) (ac 9 fun _ => 0) (ac 9 (upTo (invE m) (3 * i + j))) wr ∧ Hid (∀ k, k < 3 * i + j → -1048576 ≤ invE m k ∧ invE m k ≤ 1048576)) (fun v7 _ => 3 - (intOf v7).toNat)
          case atStart => exact ⟨0, by omega, rfl, H3, HK⟩
          case round =>
            clear H3 HK
            obtain ⟨j, hj, rfl, H4, HK⟩ := hrel
            by_cases hlt2 : j < 3
            · have tj : decide ((j : Int) < 3) = true := by simp; omega
              have bc := cof_in m HA.out j i
              have HF : Hid (ratU (cof m j i * 65536) d = invE m (3 * i + j)) := Lib.hid (by unfold invE; rw [← HD.out, show (3 * i + j) % 3 = j by omega, show (3 * i + j) / 3 = i by omega])
              have hc := fun W => rCof_any m HA.out j i hlt2 hlt W
              have HS := Lib.hid (upTo_set 9 (invE m) (3 * i + j))
              go_wp2_with (refine wpList_load_row rfl _ _ rfl g1 rfl 25 (ac 9 m) (0, 0) _ H4.1 Try.underlying25 rfl info9 ?_)
              refine (hc _).mono ?_
              rintro e w4 ⟨rfl, hb5⟩
              have H5 := H4.below hb5
              clear H4 hb5 hc
              go_wp2_with fail
              refine (element_any (cof m j i) d (by omega) (by omega) (by omega) (by omega) HZ.out _).mono ?_
              rintro e w5 ⟨rfl, rfl⟩
              by_cases hin : -1048576 ≤ invE m (3 * i + j) ∧ invE m (3 * i + j) ≤ 1048576
              · have HV : elV (decide (cof m j i < 0) != decide (d < 0)) (cof m j i).natAbs d.natAbs = .tuple #[.int .i64 (invE m (3 * i + j)), .bool true] := by
                  rw [el_in HZ.out (by rw [HF.out]; exact hin), HF.out]
                rw [HV]
                have HK2 : Hid (∀ k, k < 3 * i + (j + 1) → -1048576 ≤ invE m k ∧ invE m k ≤ 1048576) := Lib.hid (by
                  intro k hk
                  by_cases h : k < 3 * i + j
                  · exact HK.out k h
                  · rw [show k = 3 * i + j by omega]; exact hin)
                have c4 := H5.2.2.1.cell (3 * i + j)
                rw [ac_at _ (by omega)] at c4
                have f4 := H5.2.2.1.frozen (3 * i + j)
                clear HV HK bc
                obtain ⟨z, hz⟩ : ∃ z, z = invE m (3 * i + j) := ⟨_, rfl⟩
                rw [← hz] at hin ⊢
                have HZZ := Lib.hid hz
                clear hz
                go_wp2_with fail
                go_roundw
                case rel =>
                  refine ⟨j + 1, by omega, by go_num, ?_, HK2⟩
                  have := H5.set3 (3 * i + j) (.int .i64 (invE m (3 * i + j)))
                  rw [HS.out] at this
                  rw [HZZ.out]
                  exact this
                case measure => simp [intOf]; omega
              · have HV : elV (decide (cof m j i < 0) != decide (d < 0)) (cof m j i).natAbs d.natAbs = .tuple #[.int .i64 0, .bool false] := el_out HZ.out (by rw [HF.out]; exact hin)
                rw [HV]
                have he : okM (invE m) = false := by
                  cases h : okM (invE m) with
                  | false => rfl
                  | true => exact absurd (okM_iff.1 h (3 * i + j) (by omega)) hin
                have hM : invM m = fun _ => 0 := by unfold invM; rw [HA.out, ← HD.out, if_neg HZ.out, he]; rfl
                have hX : invX m = 17 := by unfold invX; rw [HA.out, ← HD.out, if_neg HZ.out, he]; rfl
                have HM : Hid (Value.tuple #[.agg (ac 9 fun _ => 0), .int .i64 17] = .tuple #[.agg (ac 9 (invM m)), .int .i64 (invX m)]) := Lib.hid (by rw [hM, hX])
                clear hM hX he HV HK bc hin
                go_wp2_with (first
                  | (refine wpList_build9 rfl rfl ?_)
                  | (refine wpList_store_row rfl _ _ _ rfl g2 (ac 9 fun _ => 0) rfl rfl 25 (ac 9 fun _ => 0) H5.2.1 info9 ac_same (ac_one 9 _) ?_))
                refine bodyPost_ret (v := .tuple #[.agg (ac 9 fun _ => 0), .int .i64 17]) (results_two9 rfl _ _ g2 (fun _ => 0) rfl _ rfl (setRow_heap _ _ (ac 9 fun _ => 0) _ _ _ H5.2.1)) rfl ⟨by rw [HM.out], ?_⟩
                exact below_setRow H5.2.2.2.1 (by have := H5.2.2.2.2; omega) _
            · obtain rfl : j = 3 := by omega
              go_wp2_with fail
              go_roundw
              case rel => exact ⟨i + 1, by omega, by go_num, by rw [show 3 * (i + 1) = 3 * i + 3 by omega]; exact H4, by rw [show 3 * (i + 1) = 3 * i + 3 by omega]; exact HK⟩
              case measure => simp [intOf]; omega
        · obtain rfl : i = 3 := by omega
          rw [show 3 * 3 = 9 from rfl, upTo_all] at H3
          have he : okM (invE m) = true := okM_iff.2 fun k hk => HK.out k (by omega)
          have hM : invM m = invE m := by unfold invM; rw [HA.out, ← HD.out, if_neg HZ.out, he]; rfl
          have hX : invX m = 0 := by unfold invX; rw [HA.out, ← HD.out, if_neg HZ.out, he]; rfl
          have HM : Hid (Value.tuple #[.agg (ac 9 (invE m)), .int .i64 0] = .tuple #[.agg (ac 9 (invM m)), .int .i64 (invX m)]) := Lib.hid (by rw [hM, hX])
          clear hM hX he HK
          go_wp2_with (first
            | (refine wpList_load_row rfl _ _ rfl g3 rfl 25 (ac 9 (invE m)) (0, 0) _ H3.2.2.1 Try.underlying25 rfl info9 ?_)
            | (refine wpList_store_row rfl _ _ _ rfl g2 (ac 9 (invE m)) rfl rfl 25 (ac 9 fun _ => 0) H3.2.1 info9 ac_same (ac_one 9 _) ?_))
          refine bodyPost_ret (v := .tuple #[.agg (ac 9 (invE m)), .int .i64 0]) (results_two9 rfl _ _ g2 (invE m) rfl _ rfl (setRow_heap _ _ (ac 9 fun _ => 0) _ _ _ H3.2.1)) rfl ⟨by rw [HM.out], ?_⟩
          exact below_setRow H3.2.2.2.1 (by have := H3.2.2.2.2; omega) _

end Go.Proofs.Ytcighjeiimjbiaa.Mat

/- WireEnc: What the encoding functions of package wire return: the varint of any number, the zigzag varint of any int, a text behind its length. No condition but the range of each argument. -/
namespace Go.Proofs.Ytcighjeiimjbiaa.WireEnc
open Go.RowKit

theorem info8 : (Try.prog.info? 5).map (fun i => (i.zero, i.size, i.bytes)) = some (some (.int .u8 0), 1, 1) := by kernel_rfl

set_option maxHeartbeats 1000000 in
set_option maxRecDepth 100000 in
theorem appendUint_any (B n x : Nat) (hx : x < 18446744073709551616) (sv : Value) (xs : List Value) (w : World) (hown : w.ownsRow B 5 1 sv n xs) (hBw : B ≤ w.heap.size) (hlim : n + 10 ≤ 140737488355328) :
    Calls Try.prog 73 #[sv, .int .u64 x] w fun e w' => ∃ v', e = .returned v' ∧ w'.ownsRow B 5 1 v' (n + (Lib.uvarint x).length) (xs ++ Lib.byteCells (Lib.uvarint x)) ∧ Below B w w' := by
  obtain ⟨i0, hi, hz0, hz1, hz2⟩ := info_parts info8
  have hlen := Lib.uvarint_length64 hx
  go_enter Try.func73, Try.ntmps73
  go_wp2
  go_loopw [0, 1] (fun vb vx wr => ∃ (y : Nat) (pre : List UInt8), vx = .int .u64 y ∧ y ≤ x ∧ Lib.uvarint x = pre ++ Lib.uvarint y ∧ wr.ownsRow B 5 1 vb (n + pre.length) (xs ++ Lib.byteCells pre) ∧ Below B w wr)
    (fun _ vx _ => (intOf vx).toNat)
  case atStart => exact ⟨x, [], rfl, Nat.le_refl _, rfl, by simpa [Lib.byteCells] using hown, Below.refl _ _⟩
  case round =>
    obtain ⟨y, pre, rfl, hy, hsplit, hown1, hnx⟩ := hrel
    have hpl : pre.length + (Lib.uvarint y).length ≤ 10 := by
      have h2 := congrArg List.length hsplit
      rw [List.length_append] at h2
      omega
    have hyp := Lib.uvarint_pos y
    by_cases h128 : 128 ≤ y
    · have hor : bits .or .u8 ((y : Int) % 256) 128 = ((y % 128 + 128 : Nat) : Int) := by
        rw [Lib.u8_or128_any _ (by omega) (by omega)]
        omega
      go_wp2_with (at_builtin; refine wpList_append_own _ rfl _ _ 91 rfl B 5 i0 (.int .u8 0) 1 1 Try.underlying91 hi hz0 hz1 hz2 rfl (by decide) _ _ _ rfl (hown1.alloc _) ⟨wr.heap.size, 0, none⟩ 1 1 [Value.int .u8 ((y % 128 + 128 : Nat) : Int)] rfl rfl ?c1 ?c2 ?c3 ?c4 ?c5 ?_)
      case c1 =>
        intro j u hj
        match j, hj with
        | 0, hj => simp at hj; subst hj; simp [Addr.add]
      case c2 => intro u hu; simp at hu; subst hu; rfl
      case c3 => unfold maxLen; omega
      case c4 => omega
      case c5 => have := hnx.size; simp; omega
      intro v' w1 hown' hgrow _
      have hnx1 : Below B w w1 := (hnx.alloc (by have := hnx.size; omega) _).grown hgrow (by have := hnx.size; simp; omega) (fun k hk => (hown1.lt k hk).1)
      go_wp2
      go_roundw
      case rel =>
        refine ⟨y / 128, pre ++ [(y % 128 + 128).toUInt8], by go_num, by omega, by rw [hsplit, Lib.uvarint_big h128]; simp, ?_, hnx1⟩
        have ec : ((y % 128 + 128 : Nat) : Int) = (y : Int) % 128 + 128 := by omega
        rw [Lib.byteCells_snoc pre (by omega), List.length_append, List.length_singleton, ← Nat.add_assoc, ec]
        exact hown'
      case measure => simp [intOf]; omega
    · have hsm : Lib.uvarint y = [y.toUInt8] := Lib.uvarint_small (by omega)
      go_wp2_with (at_builtin; refine wpList_append_own _ rfl _ _ 91 rfl B 5 i0 (.int .u8 0) 1 1 Try.underlying91 hi hz0 hz1 hz2 rfl (by decide) _ _ _ rfl (hown1.alloc _) ⟨wr.heap.size, 0, none⟩ 1 1 [Value.int .u8 (y : Int)] rfl rfl ?c1 ?c2 ?c3 ?c4 ?c5 ?_)
      case c1 =>
        intro j u hj
        match j, hj with
        | 0, hj => simp at hj; subst hj; simp [Addr.add]
      case c2 => intro u hu; simp at hu; subst hu; rfl
      case c3 => unfold maxLen; omega
      case c4 => omega
      case c5 => have := hnx.size; simp; omega
      intro v' w1 hown' hgrow _
      have hnx1 : Below B w w1 := (hnx.alloc (by have := hnx.size; omega) _).grown hgrow (by have := hnx.size; simp; omega) (fun k hk => (hown1.lt k hk).1)
      go_wp2
      go_ret
      refine ⟨v', rfl, ?_, hnx1⟩
      rw [hsplit, hsm, Lib.byteCells_snoc pre (by omega), List.length_append, List.length_singleton, ← Nat.add_assoc]
      exact hown'

theorem not_u64 (b : Int) (h0 : 0 ≤ b) (h1 : b < 18446744073709551616) : bits .xor .u64 18446744073709551615 b = 18446744073709551615 - b := by
  rw [u64_xor _ _ (by omega) (by omega) h0 h1]
  obtain ⟨n, rfl⟩ := Int.eq_ofNat_of_zero_le h0
  have hn : n < 2 ^ 64 := by omega
  have h := congrArg BitVec.toNat (BitVec.allOnes_xor (w := 64) (x := BitVec.ofNat 64 n))
  rw [BitVec.toNat_xor, BitVec.toNat_not, BitVec.toNat_allOnes, BitVec.toNat_ofNat, Nat.mod_eq_of_lt hn] at h
  have e : (18446744073709551615 : Int).toNat = 2 ^ 64 - 1 := by decide
  rw [e, Int.toNat_natCast, h]
  omega

theorem fold_neg (n : Int) (h0 : -9223372036854775808 ≤ n) (h1 : n < 0) :
    bits .xor .u64 IntKind.u64.max (IntKind.u64.wrap (IntKind.u64.wrap n * 2)) = (Lib.zigzag n : Int) := by
  have e : IntKind.u64.max = 18446744073709551615 := by decide
  rw [e, IntKind.wrap_u64, IntKind.wrap_u64, not_u64 _ (by omega) (by omega)]
  unfold Lib.zigzag
  rw [if_neg (by omega)]
  omega
theorem fold_pos (n : Int) (h0 : 0 ≤ n) : n * 2 = (Lib.zigzag n : Int) := by
  unfold Lib.zigzag
  rw [if_pos h0]
  omega
theorem zigzag_lt (n : Int) (h0 : -9223372036854775808 ≤ n) (h1 : n ≤ 9223372036854775807) : Lib.zigzag n < 18446744073709551616 := by
  unfold Lib.zigzag
  split <;> omega

set_option maxHeartbeats 400000 in
theorem fold_any (n : Int) (w : World) (h0 : -9223372036854775808 ≤ n) (h1 : n ≤ 9223372036854775807) :
    Calls Try.prog 74 #[.int .i64 n] w fun e w' => e = .returned (.int .u64 (Lib.zigzag n : Int)) ∧ w = w' := by
  by_cases hn : n < 0
  · go_enter Try.func74, Try.ntmps74
    go_wp2
    go_ret
    exact ⟨congrArg (fun z => Ending.returned (.int .u64 z)) (fold_neg n h0 hn), rfl⟩
  · go_enter Try.func74, Try.ntmps74
    go_wp2
    go_ret
    exact ⟨congrArg (fun z => Ending.returned (.int .u64 z)) (fold_pos n (by omega)), rfl⟩

theorem str_of_own {w : World} {B n : Nat} {v : Value} {l : List UInt8} (h : w.ownsRow B 5 1 v n (Lib.byteCells l)) :
    (convert 91 9 v).run Try.prog w = .ok (.string ⟨l.toArray⟩) w := by
  have hl : l.length = n := by have := h.1; rw [Lib.byteCells_length] at this; omega
  rcases h.2 with ⟨rfl, hn⟩ | ⟨g, cap, cur, rfl, _, _⟩
  · have : l = [] := List.length_eq_zero_iff.1 (by omega)
    subst this
    exact run_convert_bytes_nil w 91 5 Try.underlying91 Try.underlying5 0 0 9 Try.underlying9
  · have hc := h.cells (g := g) rfl
    subst hl
    exact run_convert_bytes_back w _ _ 5 ⟨g, 0, none⟩ cap l Try.underlying91 Try.underlying5 Try.underlying9 (fun j hj => hc j _ (by simp [Lib.byteCells, hj]))

set_option maxHeartbeats 400000 in
theorem uint_any (x : Nat) (hx : x < 18446744073709551616) (w : World) :
    Calls Try.prog 42 #[.int .u64 x] w fun e w' => e = .returned (.string ⟨(Lib.uvarint x).toArray⟩) ∧ Below w.heap.size w w' := by
  go_enter Try.func42, Try.ntmps42
  go_wp2_with fail
  refine (appendUint_any w.heap.size 0 x hx _ [] w (World.ownsRow_nil _ _ _ _) (Nat.le_refl _) (by omega)).mono ?_
  rintro e w1 ⟨v, rfl, hown, hb⟩
  rw [List.nil_append] at hown
  have hc := str_of_own hown
  go_wp2
  go_ret
  exact ⟨rfl, hb⟩

set_option maxHeartbeats 400000 in
theorem int_any (n : Int) (h0 : -9223372036854775808 ≤ n) (h1 : n ≤ 9223372036854775807) (w : World) :
    Calls Try.prog 43 #[.int .i64 n] w fun e w' => e = .returned (.string ⟨(Lib.uvarint (Lib.zigzag n)).toArray⟩) ∧ Below w.heap.size w w' := by
  go_enter Try.func43, Try.ntmps43
  go_wp2_with fail
  refine (fold_any n w h0 h1).mono ?_
  rintro e w1 ⟨rfl, rfl⟩
  go_wp2_with fail
  refine (uint_any _ (zigzag_lt n h0 h1) w).mono ?_
  rintro e w1 ⟨rfl, hb⟩
  go_wp2
  go_ret
  exact ⟨rfl, hb⟩

def encText (s : ByteArray) : List UInt8 := Lib.uvarint s.size ++ s.data.toList
theorem encText_eq (s : ByteArray) : (⟨(Lib.uvarint s.size).toArray⟩ ++ s : ByteArray) = ⟨(encText s).toArray⟩ := by
  have h := ByteArray.mk_append_mk (Lib.uvarint s.size) s.data.toList
  rw [Array.toArray_toList] at h
  exact h

set_option maxHeartbeats 400000 in
theorem text_any (s : ByteArray) (hs : s.size ≤ 9223372036854775000) (w : World) :
    Calls Try.prog 41 #[.string s] w fun e w' => e = .returned (.string ⟨(encText s).toArray⟩) ∧ Below w.heap.size w w' := by
  have hl := Lib.uvarint_length64 (x := s.size) (by omega)
  go_enter Try.func41, Try.ntmps41
  go_wp2_with fail
  refine (uint_any _ (by omega) w).mono ?_
  rintro e w1 ⟨rfl, hb⟩
  go_wp2
  go_ret
  exact ⟨congrArg (fun z => Ending.returned (.string z)) (encText_eq s), hb⟩

def encInts (l : List Int) : List UInt8 := Lib.uvarint l.length ++ l.flatMap (fun n => Lib.uvarint (Lib.zigzag n))

theorem encInts_snoc (zs : List Int) (k : Nat) (hk : k < zs.length) :
    (zs.take (k + 1)).flatMap (fun n => Lib.uvarint (Lib.zigzag n)) = (zs.take k).flatMap (fun n => Lib.uvarint (Lib.zigzag n)) ++ Lib.uvarint (Lib.zigzag zs[k]) := by
  rw [List.take_succ_eq_append_getElem hk, List.flatMap_append]
  simp
theorem flat_len (zs : List Int) (hz : ∀ z ∈ zs, -9223372036854775808 ≤ z ∧ z ≤ 9223372036854775807) : (zs.flatMap (fun n => Lib.uvarint (Lib.zigzag n))).length ≤ 10 * zs.length := by
  induction zs with
  | nil => simp
  | cons a l ih =>
    have h1 := Lib.uvarint_length64 (zigzag_lt a (hz a (by simp)).1 (hz a (by simp)).2)
    have h2 := ih (fun z hm => hz z (by simp [hm]))
    simp only [List.flatMap_cons, List.length_append, List.length_cons]
    omega

end Go.Proofs.Ytcighjeiimjbiaa.WireEnc

/- Ref04Enc: What the encoding functions of the reference of layer 4 return: the same bytes as package wire's. -/
namespace Go.Proofs.Ytcighjeiimjbiaa.Ref04Enc
open Go.RowKit Go.Proofs.Ytcighjeiimjbiaa.WireEnc

theorem and_or (y : Nat) (hy : y < 18446744073709551616) : bits .or .u64 (bits .and .u64 (y : Int) 127) 128 = ((y % 128 + 128 : Nat) : Int) := by
  have h1 := u64_and_nat y 127 hy (by decide)
  rw [nat_mask7] at h1
  have h2 := u64_or_nat (y % 128) 128 (by omega) (by decide)
  have h3 : (y % 128 ||| 128) = y % 128 + 128 := by rw [Nat.or_comm, nat_join 7 128 _ (by decide) (by omega)]; omega
  rw [h3] at h2
  rw [show (127 : Int) = ((127 : Nat) : Int) from rfl, h1]
  exact h2

theorem conv_one (w : World) (z : Int) (h0 : 0 ≤ z) (h1 : z < 256) :
    (convert 91 9 (.slice (some ⟨w.heap.size, 0, none⟩) 1 1)).run Try.prog (w.alloc (.cells #[.int .u8 z] 5)) = .ok (.string ⟨[z.toNat.toUInt8].toArray⟩) (w.alloc (.cells #[.int .u8 z] 5)) :=
  run_convert_bytes_back _ _ _ 5 ⟨w.heap.size, 0, none⟩ 1 [z.toNat.toUInt8] Try.underlying91 Try.underlying5 Try.underlying9 (fun j hj => by
    obtain rfl : j = 0 := by simpa using hj
    simp [Addr.add, Lib.toUInt8_toNat (show z.toNat < 256 by omega)]
    omega)

set_option maxHeartbeats 1000000 in
set_option maxRecDepth 100000 in
theorem rUint_any (x : Nat) (hx : x < 18446744073709551616) (w : World) :
    Calls Try.prog 45 #[.int .u64 x] w fun e w' => e = .returned (.string ⟨(Lib.uvarint x).toArray⟩) ∧ Below w.heap.size w w' := by
  have hlen := Lib.uvarint_length64 hx
  go_enter Try.func45, Try.ntmps45
  go_wp2
  go_loopw [0, 3] (fun vx vs wr => ∃ (y : Nat) (pre : List UInt8), vx = .int .u64 y ∧ y ≤ x ∧ Lib.uvarint x = pre ++ Lib.uvarint y ∧ vs = .string ⟨pre.toArray⟩ ∧ Below w.heap.size w wr)
    (fun vx _ _ => (intOf vx).toNat)
  case atStart => exact ⟨x, [], rfl, Nat.le_refl _, rfl, rfl, Below.refl _ _⟩
  case round =>
    obtain ⟨y, pre, rfl, hy, hsplit, rfl, hnx⟩ := hrel
    have hpl : pre.length + (Lib.uvarint y).length ≤ 10 := by
      have h2 := congrArg List.length hsplit
      rw [List.length_append] at h2
      omega
    have hyp := Lib.uvarint_pos y
    have HS := Lib.hid hsplit
    clear hsplit
    by_cases h128 : 128 ≤ y
    · have hor := and_or y (by omega)
      rw [show ((y % 128 + 128 : Nat) : Int) = (y : Int) % 128 + 128 by omega] at hor
      have hcv := conv_one wr ((y : Int) % 128 + 128) (by omega) (by omega)
      obtain ⟨c, hc⟩ : ∃ c : UInt8, c = ((y : Int) % 128 + 128).toNat.toUInt8 := ⟨_, rfl⟩
      rw [← hc] at hcv
      have HC := Lib.hid hc
      clear hc
      go_wp2_with fail
      go_roundw
      case rel =>
        refine ⟨y / 128, pre ++ [c], by go_num, by omega, ?_, ?_, hnx.alloc hnx.size _⟩
        · rw [HS.out, Lib.uvarint_big h128, HC.out, show ((y : Int) % 128 + 128).toNat = y % 128 + 128 by omega]
          simp
        · rw [← ByteArray.mk_append_mk]
      case measure => simp [intOf]; omega
    · have hcv := conv_one wr (y : Int) (by omega) (by omega)
      obtain ⟨c, hc⟩ : ∃ c : UInt8, c = (y : Int).toNat.toUInt8 := ⟨_, rfl⟩
      rw [← hc] at hcv
      have HC := Lib.hid hc
      clear hc
      go_wp2_with fail
      go_ret
      refine ⟨?_, hnx.alloc hnx.size _⟩
      rw [HS.out, Lib.uvarint_small (x := y) (by omega), ← ByteArray.mk_append_mk, HC.out]
      simp

set_option maxHeartbeats 400000 in
theorem rInt_any (n : Int) (h0 : -9223372036854775808 ≤ n) (h1 : n ≤ 9223372036854775807) (w : World) :
    Calls Try.prog 46 #[.int .i64 n] w fun e w' => e = .returned (.string ⟨(Lib.uvarint (Lib.zigzag n)).toArray⟩) ∧ Below w.heap.size w w' := by
  by_cases hn : 0 ≤ n
  · go_enter Try.func46, Try.ntmps46
    go_wp2_with fail
    rw [fold_pos n hn]
    refine (rUint_any _ (zigzag_lt n h0 h1) w).mono ?_
    rintro e w1 ⟨rfl, hb⟩
    go_wp2
    go_ret
    exact ⟨rfl, hb⟩
  · go_enter Try.func46, Try.ntmps46
    go_wp2_with fail
    rw [show -(n + 1) * 2 + 1 = (Lib.zigzag n : Int) by unfold Lib.zigzag; rw [if_neg (by omega)]; omega]
    refine (rUint_any _ (zigzag_lt n h0 h1) w).mono ?_
    rintro e w1 ⟨rfl, hb⟩
    go_wp2
    go_ret
    exact ⟨rfl, hb⟩

set_option maxHeartbeats 400000 in
theorem rText_any (s : ByteArray) (hs : s.size ≤ 9223372036854775000) (w : World) :
    Calls Try.prog 44 #[.string s] w fun e w' => e = .returned (.string ⟨(encText s).toArray⟩) ∧ Below w.heap.size w w' := by
  have hl := Lib.uvarint_length64 (x := s.size) (by omega)
  go_enter Try.func44, Try.ntmps44
  go_wp2_with fail
  refine (rUint_any _ (by omega) w).mono ?_
  rintro e w1 ⟨rfl, hb⟩
  go_wp2
  go_ret
  exact ⟨congrArg (fun z => Ending.returned (.string z)) (encText_eq s), hb⟩

end Go.Proofs.Ytcighjeiimjbiaa.Ref04Enc
