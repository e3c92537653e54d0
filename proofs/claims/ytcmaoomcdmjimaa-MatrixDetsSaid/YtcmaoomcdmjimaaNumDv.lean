/-
  math/bits.Div64: two words by one.
-/
import Derived.Test.YtcmaoomcdmjimaaNumLen
import Derived.LoopTactic
namespace Go.Proofs.Ytcmaoomcdmjimaa.Num
open Go.RowKit Go.Proofs.Ytcmaoomcdmjimaa Go.Proofs.Ytcmaoomcdmjimaa.NumPure

/-- One digit of the quotient, by the upper half of the divisor and a few steps down (base 2^32). -/
theorem digit_lt {v1 v0 U u : Nat} (hU : U < v1 * 4294967296 + v0) (hu : u < 4294967296) : (U * 4294967296 + u) / (v1 * 4294967296 + v0) < 4294967296 := by
  rw [Nat.div_lt_iff_lt_mul (by omega)]
  have := Nat.mul_le_mul_left 4294967296 (show U + 1 ≤ v1 * 4294967296 + v0 by omega)
  omega
theorem digit_first {v1 v0 U u : Nat} (h1 : 2147483648 ≤ v1) (h2 : v1 < 4294967296) (h3 : v0 < 4294967296) (hU : U < v1 * 4294967296 + v0) (hu : u < 4294967296) : (U * 4294967296 + u) / (v1 * 4294967296 + v0) ≤ U / v1 ∧ U / v1 ≤ 4294967297 := by
  constructor
  · have hm := Nat.div_add_mod U v1
    have hlt := Nat.mod_lt U (show v1 > 0 by omega)
    rw [Nat.div_le_iff_le_mul_add_pred (by omega)]
    generalize U / v1 = q at *
    have e : (v1 * 4294967296 + v0) * q = v1 * q * 4294967296 + v0 * q := by rw [Nat.add_mul, Nat.mul_right_comm]
    rw [e]
    omega
  · have : U / v1 < 4294967298 := by
      rw [Nat.div_lt_iff_lt_mul (by omega)]
      omega
    omega
/-- The digit q is not too great. -/
theorem digit_le {v1 v0 U u q rh : Nat} (h1 : 2147483648 ≤ v1) (hq : q * v1 + rh = U) (ht : q * v0 ≤ 4294967296 * rh + u) : q ≤ (U * 4294967296 + u) / (v1 * 4294967296 + v0) := by
  rw [Nat.le_div_iff_mul_le (by omega), Nat.mul_add, ← Nat.mul_assoc]
  omega
/-- The digit q is too great. -/
theorem digit_gt {v1 v0 U u q rh : Nat} (h1 : 2147483648 ≤ v1) (hq : q * v1 + rh = U) (ht : 4294967296 * rh + u < q * v0) : (U * 4294967296 + u) / (v1 * 4294967296 + v0) < q := by
  rw [Nat.div_lt_iff_lt_mul (by omega), Nat.mul_add, ← Nat.mul_assoc]
  omega

theorem bitLen_pos {y : Nat} (h : y ≠ 0) (hy : y < 18446744073709551616) : 0 < Lib.bitLen y := by
  rw [Lib.bitLen_half y h (by omega)]
  omega
theorem bitLen_up {y : Nat} (hy : y < 18446744073709551616) : y < 2 ^ Lib.bitLen y := by
  rcases Nat.lt_or_ge y (2 ^ Lib.bitLen y) with h | h
  · exact h
  · have e := Lib.bitLen_shift _ y h (by omega)
    have e0 : Lib.bitLen (y / 2 ^ Lib.bitLen y) = 0 := by omega
    have hlt : y / 2 ^ Lib.bitLen y < 18446744073709551616 := Nat.lt_of_le_of_lt (Nat.div_le_self _ _) hy
    by_cases hz : y / 2 ^ Lib.bitLen y = 0
    · have := Nat.div_pos h (Nat.pow_pos (by omega))
      omega
    · have := bitLen_pos hz hlt
      omega
theorem bitLen_dn {y : Nat} (h0 : y ≠ 0) (hy : y < 18446744073709551616) : 2 ^ (Lib.bitLen y - 1) ≤ y := by
  rcases Nat.lt_or_ge y (2 ^ (Lib.bitLen y - 1)) with h | h
  · have h1 := bitLen_pos h0 hy
    have h2 := Lib.bitLen_le y 64 (by omega) (by omega)
    have := Lib.bitLen_le y (Lib.bitLen y - 1) (by omega) h
    omega
  · exact h

/-- The divisor, brought to 64 bits. -/
theorem norm {y s : Nat} (h0 : y ≠ 0) (hy : y < 18446744073709551616) (hs : s + Lib.bitLen y = 64) : 9223372036854775808 ≤ y * 2 ^ s ∧ y * 2 ^ s < 18446744073709551616 ∧ s ≤ 63 := by
  have h1 := bitLen_up hy
  have h2 := bitLen_dn h0 hy
  have h3 := bitLen_pos h0 hy
  refine ⟨?_, ?_, by omega⟩
  · have := Nat.mul_le_mul_right (2 ^ s) h2
    rw [← Nat.pow_add, show Lib.bitLen y - 1 + s = 63 by omega] at this
    exact this
  · have := Nat.mul_lt_mul_of_pos_right h1 (show 0 < 2 ^ s from Nat.pow_pos (by omega))
    rw [← Nat.pow_add, show Lib.bitLen y + s = 64 by omega] at this
    exact this

/-- The dividend, brought to the left by s bits: its upper word. -/
theorem upper {hi lo s : Nat} (hs : s ≤ 63) (hh : hi * 2 ^ s < 18446744073709551616) (hl : lo < 18446744073709551616) :
    bits .or .u64 (IntKind.u64.wrap ((hi : Int) * 2 ^ s)) ((lo : Int) / 2 ^ (64 - s)) = ((hi * 2 ^ s + lo / 2 ^ (64 - s) : Nat) : Int) ∧ hi * 2 ^ s + lo / 2 ^ (64 - s) < 18446744073709551616 := by
  have e1 : IntKind.u64.wrap ((hi : Int) * 2 ^ s) = ((hi * 2 ^ s : Nat) : Int) := by
    have : ((hi : Int) * 2 ^ s) = ((hi * 2 ^ s : Nat) : Int) := by rw [Int.natCast_mul, Int.natCast_pow]; rfl
    rw [this, IntKind.wrap_u64]
    generalize hi * 2 ^ s = z at *
    omega
  have e2 : (lo : Int) / 2 ^ (64 - s) = ((lo / 2 ^ (64 - s) : Nat) : Int) := by rw [Int.natCast_ediv, Int.natCast_pow]; rfl
  have h3 : lo / 2 ^ (64 - s) < 2 ^ s := by
    rw [Nat.div_lt_iff_lt_mul (Nat.pow_pos (by omega)), ← Nat.pow_add, show s + (64 - s) = 64 by omega]
    exact hl
  have h4 : lo / 2 ^ (64 - s) < 18446744073709551616 := Nat.lt_of_le_of_lt (Nat.div_le_self _ _) hl
  have e3 := Nat.two_pow_add_eq_or_of_lt (i := s) h3 hi
  rw [e1, e2, u64_or_nat _ _ hh h4, Nat.mul_comm hi, ← e3]
  refine ⟨rfl, ?_⟩
  have e5 : 2 ^ s * hi + lo / 2 ^ (64 - s) < 2 ^ 64 := by
    have h6 : 2 ^ s * hi < 2 ^ s * 2 ^ (64 - s) := by rw [← Nat.pow_add, show s + (64 - s) = 64 by omega, Nat.mul_comm]; exact hh
    have h7 : hi + 1 ≤ 2 ^ (64 - s) := Nat.lt_of_mul_lt_mul_left h6
    have h8 := Nat.mul_le_mul_left (2 ^ s) h7
    rw [← Nat.pow_add, show s + (64 - s) = 64 by omega, Nat.mul_add, Nat.mul_one] at h8
    omega
  exact e5

theorem lower {lo s : Nat} (hs : s ≤ 63) : lo * 2 ^ s = lo / 2 ^ (64 - s) * 18446744073709551616 + lo * 2 ^ s % 18446744073709551616 := by
  have h := Nat.div_add_mod (lo * 2 ^ s) 18446744073709551616
  have e : lo * 2 ^ s / 18446744073709551616 = lo / 2 ^ (64 - s) := by
    have hz : 2 ^ (64 - s) * 2 ^ s = 18446744073709551616 := (Nat.pow_add 2 (64 - s) s).symm.trans (by rw [show 64 - s + s = 64 by omega])
    exact (congrArg (fun z => lo * 2 ^ s / z) hz.symm).trans (Nat.mul_div_mul_right _ _ (Nat.pow_pos (by omega)))
  rw [e] at h
  omega

/-- What the two digits and the last rest are. -/
theorem div_end {N y s Y U u1 u0 Q1 U2 Q0 R : Nat} (hy : 0 < y) (hN : N * 2 ^ s = U * 18446744073709551616 + (u1 * 4294967296 + u0)) (hY : Y = y * 2 ^ s) (h1 : U * 4294967296 + u1 = Q1 * Y + U2) (h2 : U2 * 4294967296 + u0 = Q0 * Y + R) (hR : R < Y) :
    N / y = Q1 * 4294967296 + Q0 ∧ N % y = R / 2 ^ s := by
  have hp : 0 < 2 ^ s := Nat.pow_pos (by omega)
  have e1 : (U * 4294967296 + u1) * 4294967296 = Q1 * Y * 4294967296 + U2 * 4294967296 := by rw [h1, Nat.add_mul]
  have e2 : N * 2 ^ s = (Q1 * 4294967296 + Q0) * Y + R := by
    have e1' : U * 4294967296 * 4294967296 + u1 * 4294967296 = Q1 * Y * 4294967296 + U2 * 4294967296 := by rw [← Nat.add_mul]; exact e1
    rw [Nat.mul_assoc] at e1'
    rw [hN, Nat.add_mul, Nat.mul_right_comm, Nat.add_assoc, ← h2, ← Nat.add_assoc, ← Nat.add_assoc]
    exact congrArg (· + u0) e1'
  have e3 : R = (N - (Q1 * 4294967296 + Q0) * y) * 2 ^ s := by
    rw [Nat.sub_mul, e2, hY, Nat.mul_assoc]
    omega
  have e4 : (Q1 * 4294967296 + Q0) * y ≤ N := by
    apply Nat.le_of_mul_le_mul_right _ hp
    rw [Nat.mul_assoc, ← hY, e2]
    omega
  have e5 : N - (Q1 * 4294967296 + Q0) * y < y := by
    apply Nat.lt_of_mul_lt_mul_right (a := 2 ^ s)
    rw [← e3, ← hY]
    exact hR
  have e6 := (Nat.div_mod_unique hy (a := N) (c := N - (Q1 * 4294967296 + Q0) * y) (d := Q1 * 4294967296 + Q0)).2 ⟨by rw [Nat.mul_comm y]; omega, e5⟩
  refine ⟨e6.1, ?_⟩
  rw [e6.2, e3, Nat.mul_div_cancel _ hp]

/-- The ways through the head of a loop over a digit, in the walk's own tests (z: 2^32 times the rest). -/
theorem digit_ways {v1 v0 U u q rh Q : Nat} (h1 : 2147483648 ≤ v1) (h3 : v0 < 4294967296) (hQ : (U * 4294967296 + u) / (v1 * 4294967296 + v0) = Q) (hQ2 : Q < 4294967296) (hq : q * v1 + rh = U) (hrh : rh < 4294967296) (hle : Q ≤ q) (hq1 : q ≤ 4294967297) :
    ∃ z : Nat, 4294967296 * (rh : Int) = z ∧ z ≤ 18446744069414584320 ∧
    ((decide (4294967296 ≤ (q : Int)) = false ∧ decide ((z : Int) + u < (q : Int) * v0) = false ∧ 0 ≤ (q : Int) * v0 ∧ (q : Int) * v0 ≤ 18446744065119617025 ∧ q = Q) ∨
    ((decide (4294967296 ≤ (q : Int)) = true ∨ decide (4294967296 ≤ (q : Int)) = false ∧ decide ((z : Int) + u < (q : Int) * v0) = true ∧ 0 ≤ (q : Int) * v0 ∧ (q : Int) * v0 ≤ 18446744065119617025) ∧ decide (4294967296 ≤ (rh : Int) + v1) = true ∧ q = Q + 1) ∨
    ((decide (4294967296 ≤ (q : Int)) = true ∨ decide (4294967296 ≤ (q : Int)) = false ∧ decide ((z : Int) + u < (q : Int) * v0) = true ∧ 0 ≤ (q : Int) * v0 ∧ (q : Int) * v0 ≤ 18446744065119617025) ∧ decide (4294967296 ≤ (rh : Int) + v1) = false ∧ ∃ q', q = q' + 1 ∧ q' * v1 + (rh + v1) = U ∧ Q ≤ q')) := by
  have key : 4294967296 ≤ q ∨ q < 4294967296 ∧ 4294967296 * rh + u < q * v0 → ∃ q', q = q' + 1 ∧ q' * v1 + (rh + v1) = U ∧ Q ≤ q' := by
    intro h
    have hlt : Q < q := by
      rcases h with h | ⟨_, h⟩
      · omega
      · rw [← hQ]
        exact digit_gt h1 hq h
    refine ⟨q - 1, by omega, ?_, by omega⟩
    rw [← hq, Nat.sub_mul, Nat.one_mul]
    have := Nat.mul_le_mul_right v1 (show 1 ≤ q by omega)
    omega
  have hc : ((q : Int) * v0) = ((q * v0 : Nat) : Int) := (Int.natCast_mul q v0).symm
  have hpb : q < 4294967296 → q * v0 ≤ 18446744065119617025 := fun h => Nat.mul_le_mul (show q ≤ 4294967295 by omega) (show v0 ≤ 4294967295 by omega)
  refine ⟨4294967296 * rh, by omega, by omega, ?_⟩
  rw [hc]
  simp only [decide_eq_true_eq, decide_eq_false_iff_not]
  by_cases ht : 4294967296 ≤ q ∨ q < 4294967296 ∧ 4294967296 * rh + u < q * v0
  · obtain ⟨q', e1, e2, e3⟩ := key ht
    have ht' : (4294967296 : Int) ≤ (q : Int) ∨ ¬ (4294967296 : Int) ≤ (q : Int) ∧ ((4294967296 * rh : Nat) : Int) + u < ((q * v0 : Nat) : Int) ∧ 0 ≤ ((q * v0 : Nat) : Int) ∧ ((q * v0 : Nat) : Int) ≤ 18446744065119617025 := by
      rcases ht with h | ⟨h, h'⟩
      · exact .inl (by omega)
      · have := hpb h
        exact .inr ⟨by omega, by omega, by omega, by omega⟩
    by_cases hb : 4294967296 ≤ rh + v1
    · refine .inr (.inl ⟨ht', by omega, ?_⟩)
      have hx : q' * v0 ≤ 4294967296 * (rh + v1) + u := by
        have := Nat.mul_le_mul (show q' ≤ 4294967296 by omega) (show v0 ≤ 4294967295 by omega)
        omega
      have := digit_le h1 e2 hx
      rw [hQ] at this
      omega
    · exact .inr (.inr ⟨ht', by omega, q', e1, e2, e3⟩)
  · have hql : q < 4294967296 := by omega
    have := hpb hql
    refine .inl ⟨by omega, by omega, by omega, by omega, ?_⟩
    have hx : q * v0 ≤ 4294967296 * rh + u := by omega
    have := digit_le h1 hq hx
    rw [hQ] at this
    omega

theorem tail64 (x U u Q Y U2 : Nat) (_hx : x = 0) (h : U * 4294967296 + u = Q * Y + U2) (h2 : U2 < 18446744073709551616) :
    IntKind.u64.wrap (IntKind.u64.wrap (IntKind.u64.wrap ((U : Int) * 4294967296) + u) - IntKind.u64.wrap ((Q : Int) * Y)) = (U2 : Int) := by
  have e : ((Q : Int) * Y) = ((Q * Y : Nat) : Int) := (Int.natCast_mul Q Y).symm
  rw [e]
  simp only [IntKind.wrap_u64]
  omega

theorem rest_facts {U v q r : Nat} (h : v * q + r = U) : (q : Int) * (v : Int) ≤ (U : Int) ∧ 0 ≤ (q : Int) * (v : Int) ∧ (U : Int) - (q : Int) * (v : Int) = (r : Int) := by
  have e : ((q : Int) * (v : Int)) = ((v * q : Nat) : Int) := by rw [Int.natCast_mul, Int.mul_comm]
  rw [e]
  omega

theorem ret_pair {a b c d : Int} (h1 : a = c) (h2 : b = d) : Ending.returned (.tuple #[.int .u64 a, .int .u64 b]) = .returned (.tuple #[.int .u64 c, .int .u64 d]) := by rw [h1, h2]

def DR (v1 U Q q rh : Nat) : Prop := q * v1 + rh = U ∧ rh < 4294967296 ∧ Q ≤ q ∧ q ≤ 4294967297

set_option maxHeartbeats 4000000 in
set_option maxRecDepth 100000 in
theorem div64_big (hi lo y s : Nat) (h0 : 0 < hi) (hlt : hi < y) (hy : y < 18446744073709551616) (hl : lo < 18446744073709551616) (hs : s + Lib.bitLen y = 64) (w : World) :
    Calls Try.prog 40 #[.int .u64 (hi : Int), .int .u64 (lo : Int), .int .u64 (y : Int)] w fun e w' => e = .returned (.tuple #[.int .u64 (((hi * 18446744073709551616 + lo) / y : Nat) : Int), .int .u64 (((hi * 18446744073709551616 + lo) % y : Nat) : Int)]) ∧ w = w' := by
  obtain ⟨hY1, hY2, hs63⟩ := norm (by omega) hy hs
  have hhi : hi * 2 ^ s < 18446744073709551616 := Nat.lt_of_le_of_lt (Nat.mul_le_mul_right _ (Nat.le_of_lt hlt)) hY2
  obtain ⟨rU', bU⟩ := upper hs63 hhi hl
  have hlow := lower (lo := lo) hs63
  obtain ⟨Y, hY⟩ : ∃ Y, y * 2 ^ s = Y := ⟨_, rfl⟩
  obtain ⟨U, hU⟩ : ∃ U, hi * 2 ^ s + lo / 2 ^ (64 - s) = U := ⟨_, rfl⟩
  obtain ⟨L, hL⟩ : ∃ L, lo * 2 ^ s % 18446744073709551616 = L := ⟨_, rfl⟩
  have bL : L < 18446744073709551616 := by rw [← hL]; exact Nat.mod_lt _ (by omega)
  have hUY : U < Y := by
    have h1 := Nat.mul_le_mul_right (2 ^ s) (show hi + 1 ≤ y by omega)
    rw [Nat.add_mul, Nat.one_mul, hY] at h1
    have h3 : lo / 2 ^ (64 - s) < 2 ^ s := by
      rw [Nat.div_lt_iff_lt_mul (Nat.pow_pos (by omega)), ← Nat.pow_add, show s + (64 - s) = 64 by omega]
      exact hl
    omega
  have rY : IntKind.u64.wrap ((y : Int) * 2 ^ s) = (Y : Int) := by
    have : ((y : Int) * 2 ^ s) = ((y * 2 ^ s : Nat) : Int) := by rw [Int.natCast_mul, Int.natCast_pow]; rfl
    rw [this, hY, IntKind.wrap_u64]
    omega
  have rL : IntKind.u64.wrap ((lo : Int) * 2 ^ s) = (L : Int) := by
    have : ((lo : Int) * 2 ^ s) = ((lo * 2 ^ s : Nat) : Int) := by rw [Int.natCast_mul, Int.natCast_pow]; rfl
    rw [this, ← hL, IntKind.wrap_u64]
    omega
  rw [hU] at rU' bU
  have hN : (hi * 18446744073709551616 + lo) * 2 ^ s = U * 18446744073709551616 + L := by
    rw [Nat.add_mul, Nat.mul_right_comm, hlow, hL, ← hU, Nat.add_mul]
    omega
  rw [hY] at hY1 hY2
  obtain ⟨N, hNN⟩ : ∃ N, hi * 18446744073709551616 + lo = N := ⟨_, rfl⟩
  rw [hNN] at hN ⊢
  obtain ⟨v1, hv1⟩ : ∃ v, Y / 4294967296 = v := ⟨_, rfl⟩
  obtain ⟨v0, hv0⟩ : ∃ v, Y % 4294967296 = v := ⟨_, rfl⟩
  obtain ⟨u1, hu1⟩ : ∃ v, L / 4294967296 = v := ⟨_, rfl⟩
  obtain ⟨u0, hu0⟩ : ∃ v, L % 4294967296 = v := ⟨_, rfl⟩
  have rV1 : (Y : Int) / 4294967296 = (v1 : Int) := by omega
  have rV0 : bits .and .u64 (Y : Int) 4294967295 = (v0 : Int) := by rw [Mul64.maskN Y hY2, hv0]
  have rU1 : (L : Int) / 4294967296 = (u1 : Int) := by omega
  have rU0 : bits .and .u64 (L : Int) 4294967295 = (u0 : Int) := by rw [Mul64.maskN L bL, hu0]
  have bv1 : 2147483648 ≤ v1 := by omega
  have bv1' : v1 < 4294967296 := by omega
  have bv0 : v0 < 4294967296 := by omega
  have bu1 : u1 < 4294967296 := by omega
  have bu0 : u0 < 4294967296 := by omega
  have eY : v1 * 4294967296 + v0 = Y := by rw [← hv1, ← hv0]; exact Nat.div_add_mod' Y 4294967296
  have eL : u1 * 4294967296 + u0 = L := by rw [← hu1, ← hu0]; exact Nat.div_add_mod' L 4294967296
  obtain ⟨Q1, hQ1⟩ : ∃ Q, (U * 4294967296 + u1) / (v1 * 4294967296 + v0) = Q := ⟨_, rfl⟩
  have bQ1 : Q1 < 4294967296 := by rw [← hQ1]; exact digit_lt (by omega) bu1
  obtain ⟨d1, d2⟩ := digit_first (u := u1) bv1 bv1' bv0 (U := U) (by omega) bu1
  rw [hQ1] at d1
  have hm := Nat.div_add_mod U v1
  have hmlt := Nat.mod_lt U (show v1 > 0 by omega)
  obtain ⟨q1, hq1⟩ : ∃ q, U / v1 = q := ⟨_, rfl⟩
  obtain ⟨r1, hr1⟩ : ∃ r, U % v1 = r := ⟨_, rfl⟩
  rw [hq1, hr1] at hm
  rw [hq1] at d1 d2
  rw [hr1] at hmlt
  have rq1 : (U : Int) / (v1 : Int) = (q1 : Int) := by rw [← Int.natCast_ediv, hq1]
  have emul : ((q1 : Int) * (v1 : Int)) = ((v1 * q1 : Nat) : Int) := by rw [Int.natCast_mul, Int.mul_comm]
  have rr0 : (q1 : Int) * (v1 : Int) ≤ (U : Int) := by rw [emul]; omega
  have rr00 : 0 ≤ (q1 : Int) * (v1 : Int) := by rw [emul]; omega
  have rr1 : (U : Int) - (q1 : Int) * (v1 : Int) = (r1 : Int) := by rw [emul]; omega
  have HS := Lib.hid hs
  have HQ1 := Lib.hid hQ1
  have HN := Lib.hid hN
  have HY := Lib.hid hY
  have HEY := Lib.hid eY
  have HEL := Lib.hid eL
  have hq1r : q1 * v1 + r1 = U := by rw [Nat.mul_comm]; exact hm
  have HM := Lib.hid hq1r
  obtain ⟨U2, hU2⟩ : ∃ v, (U * 4294967296 + u1) % (v1 * 4294967296 + v0) = v := ⟨_, rfl⟩
  have bU2 : U2 < v1 * 4294967296 + v0 := by rw [← hU2]; exact Nat.mod_lt _ (by omega)
  have eU2 : U * 4294967296 + u1 = Q1 * Y + U2 := by
    have := Nat.div_add_mod (U * 4294967296 + u1) (v1 * 4294967296 + v0)
    rw [HQ1.out, hU2, HEY.out, Nat.mul_comm] at this
    exact this.symm
  have rT := tail64 0 U u1 Q1 Y U2 rfl eU2 (by rw [HEY.out] at bU2; exact Nat.lt_trans bU2 hY2)
  obtain ⟨Q0, hQ0⟩ : ∃ Q, (U2 * 4294967296 + u0) / (v1 * 4294967296 + v0) = Q := ⟨_, rfl⟩
  have bQ0 : Q0 < 4294967296 := by rw [← hQ0]; exact digit_lt bU2 bu0
  obtain ⟨f1, f2⟩ := digit_first (u := u0) bv1 bv1' bv0 (U := U2) bU2 bu0
  rw [hQ0] at f1
  obtain ⟨q0, hq0⟩ : ∃ q, U2 / v1 = q := ⟨_, rfl⟩
  obtain ⟨r2, hr2⟩ : ∃ r, U2 % v1 = r := ⟨_, rfl⟩
  have hm2 := Nat.div_add_mod U2 v1
  have hm2lt := Nat.mod_lt U2 (show v1 > 0 by omega)
  rw [hq0, hr2] at hm2
  rw [hq0] at f1 f2
  rw [hr2] at hm2lt
  have rq0 : (U2 : Int) / (v1 : Int) = (q0 : Int) := by rw [← Int.natCast_ediv, hq0]
  obtain ⟨g0, g00, g1⟩ := rest_facts hm2
  have HM2 : Hid (q0 * v1 + r2 = U2) := Lib.hid (by rw [Nat.mul_comm]; exact hm2)
  obtain ⟨R, hR⟩ : ∃ v, (U2 * 4294967296 + u0) % (v1 * 4294967296 + v0) = v := ⟨_, rfl⟩
  have bR : R < v1 * 4294967296 + v0 := by rw [← hR]; exact Nat.mod_lt _ (by omega)
  have eR : U2 * 4294967296 + u0 = Q0 * Y + R := by
    have := Nat.div_add_mod (U2 * 4294967296 + u0) (v1 * 4294967296 + v0)
    rw [hQ0, hR, HEY.out, Nat.mul_comm] at this
    exact this.symm
  have rT2 := tail64 0 U2 u0 Q0 Y R rfl eR (by rw [HEY.out] at bR; exact Nat.lt_trans bR hY2)
  obtain ⟨fin1, fin2⟩ := div_end (y := y) (by omega) (by rw [HN.out, HEL.out]) HY.out.symm eU2 eR (by rw [HEY.out] at bR; exact bR)
  have HQ0 := Lib.hid hQ0
  have HF1 : Hid ((Q1 : Int) * 4294967296 + (Q0 : Int) = ((N / y : Nat) : Int)) := Lib.hid (by rw [fin1]; omega)
  have HF2 : Hid (((N % y : Nat) : Int) = (R : Int) / 2 ^ s) := Lib.hid (by rw [fin2, Int.natCast_ediv, Int.natCast_pow]; rfl)
  have bU2' : U2 < 18446744073709551616 := by rw [HEY.out] at bU2; exact Nat.lt_trans bU2 hY2
  have bR' : R < 18446744073709551616 := by rw [HEY.out] at bR; exact Nat.lt_trans bR hY2
  clear hU2 eU2 hQ0 hq0 hr2 hm2 hR eR fin1 fin2 bU2 bR
  have tb1 : ((y : Int) == 0) = false := by simp; omega
  have tb2 : ((hi : Int) == 0) = false := by simp; omega
  clear hs hQ1 hN hY eY eL hq1 hr1 hm emul hv1 hv0 hu1 hu0 hU hL hlow hhi hNN hq1r
  go_enter Try.func40, Try.ntmps40
  go_wp2_with fail
  refine (zeros_any y (s : Int) (by have := HS.out; omega) hy _).mono ?_
  rintro e w' ⟨rfl, rfl⟩
  go_wp2_with fail
  go_loop [15, 16] (fun a b => ∃ q rh : Nat, a = .int .u64 (q : Int) ∧ b = .int .u64 (rh : Int) ∧ DR v1 U Q1 q rh) (fun a _ => (intOf a).toNat)
  case atStart => exact ⟨q1, r1, rfl, rfl, HM.out, by omega, d1, d2⟩
  case round =>
    obtain ⟨q, rh, rfl, rfl, hqr, hrh, hle, hq97⟩ := hrel
    clear rq1 rr0 rr00 rr1 HM d1 d2 rU' rY rL rV1 rV0 rU1 rU0
    obtain ⟨z, hz, bz, hways⟩ := digit_ways bv1 bv0 HQ1.out bQ1 hqr hrh hle hq97
    clear hqr hle hrh
    rcases hways with ⟨t1, t2, p1, p2, hQ⟩ | ⟨ht, t3, hQ⟩ | ⟨ht, t3, q', hQ, hqr', hle'⟩
    · subst hQ
      clear hq97
      go_wp2_with fail
      go_loop [18, 16] (fun a b => ∃ q rh : Nat, a = .int .u64 (q : Int) ∧ b = .int .u64 (rh : Int) ∧ DR v1 U2 Q0 q rh) (fun a _ => (intOf a).toNat)
      case atStart => exact ⟨q0, r2, rfl, rfl, HM2.out, by omega, f1, f2⟩
      case round =>
        obtain ⟨q, rh, rfl, rfl, hqr, hrh, hle, hq97⟩ := hrel
        obtain ⟨z, hz, bz, hways⟩ := digit_ways bv1 bv0 HQ0.out bQ0 hqr hrh hle hq97
        clear hqr hle hrh
        rcases hways with ⟨t1, t2, p1, p2, hQ⟩ | ⟨ht, t3, hQ⟩ | ⟨ht, t3, q', hQ, hqr', hle'⟩
        · subst hQ
          clear hq97
          go_wp2_with fail
          go_ret2
          exact ⟨ret_pair HF1.out HF2.out.symm, rfl⟩
        · have hd : (q : Int) - 1 = (Q0 : Int) := by omega
          clear hQ hq97
          rcases ht with  t1 | ⟨t1, t2, p1, p2⟩
          · skip
            go_wp2_with fail
            go_ret2
            exact ⟨ret_pair HF1.out HF2.out.symm, rfl⟩
          · skip
            go_wp2_with fail
            go_ret2
            exact ⟨ret_pair HF1.out HF2.out.symm, rfl⟩
        · have HQR := Lib.hid hqr'
          have hd : (q : Int) - 1 = (q' : Int) := by omega
          have hq97' : q' ≤ 4294967297 := by omega
          clear hqr' hQ hq97
          rcases ht with t1 | ⟨t1, t2, p1, p2⟩
          · skip
            go_wp2_with fail
            go_round
            case rel => exact ⟨q', rh + v1, by go_num, by go_num, HQR.out, by simp at t3; omega, hle', hq97'⟩
            case measure => simp [intOf]; omega
          · go_wp2_with fail
            go_round
            case rel => exact ⟨q', rh + v1, by go_num, by go_num, HQR.out, by simp at t3; omega, hle', hq97'⟩
            case measure => simp [intOf]; omega
    · have hd : (q : Int) - 1 = (Q1 : Int) := by omega
      clear hQ hq97
      rcases ht with  t1 | ⟨t1, t2, p1, p2⟩
      · skip
        go_wp2_with fail
        go_loop [18, 16] (fun a b => ∃ q rh : Nat, a = .int .u64 (q : Int) ∧ b = .int .u64 (rh : Int) ∧ DR v1 U2 Q0 q rh) (fun a _ => (intOf a).toNat)
        case atStart => exact ⟨q0, r2, rfl, rfl, HM2.out, by omega, f1, f2⟩
        case round =>
          obtain ⟨q, rh, rfl, rfl, hqr, hrh, hle, hq97⟩ := hrel
          obtain ⟨z, hz, bz, hways⟩ := digit_ways bv1 bv0 HQ0.out bQ0 hqr hrh hle hq97
          clear hqr hle hrh
          rcases hways with ⟨t1, t2, p1, p2, hQ⟩ | ⟨ht, t3, hQ⟩ | ⟨ht, t3, q', hQ, hqr', hle'⟩
          · subst hQ
            clear hq97
            go_wp2_with fail
            go_ret2
            exact ⟨ret_pair HF1.out HF2.out.symm, rfl⟩
          · have hd : (q : Int) - 1 = (Q0 : Int) := by omega
            clear hQ hq97
            rcases ht with  t1 | ⟨t1, t2, p1, p2⟩
            · skip
              go_wp2_with fail
              go_ret2
              exact ⟨ret_pair HF1.out HF2.out.symm, rfl⟩
            · skip
              go_wp2_with fail
              go_ret2
              exact ⟨ret_pair HF1.out HF2.out.symm, rfl⟩
          · have HQR := Lib.hid hqr'
            have hd : (q : Int) - 1 = (q' : Int) := by omega
            have hq97' : q' ≤ 4294967297 := by omega
            clear hqr' hQ hq97
            rcases ht with t1 | ⟨t1, t2, p1, p2⟩
            · skip
              go_wp2_with fail
              go_round
              case rel => exact ⟨q', rh + v1, by go_num, by go_num, HQR.out, by simp at t3; omega, hle', hq97'⟩
              case measure => simp [intOf]; omega
            · go_wp2_with fail
              go_round
              case rel => exact ⟨q', rh + v1, by go_num, by go_num, HQR.out, by simp at t3; omega, hle', hq97'⟩
              case measure => simp [intOf]; omega
      · skip
        go_wp2_with fail
        go_loop [18, 16] (fun a b => ∃ q rh : Nat, a = .int .u64 (q : Int) ∧ b = .int .u64 (rh : Int) ∧ DR v1 U2 Q0 q rh) (fun a _ => (intOf a).toNat)
        case atStart => exact ⟨q0, r2, rfl, rfl, HM2.out, by omega, f1, f2⟩
        case round =>
          obtain ⟨q, rh, rfl, rfl, hqr, hrh, hle, hq97⟩ := hrel
          obtain ⟨z, hz, bz, hways⟩ := digit_ways bv1 bv0 HQ0.out bQ0 hqr hrh hle hq97
          clear hqr hle hrh
          rcases hways with ⟨t1, t2, p1, p2, hQ⟩ | ⟨ht, t3, hQ⟩ | ⟨ht, t3, q', hQ, hqr', hle'⟩
          · subst hQ
            clear hq97
            go_wp2_with fail
            go_ret2
            exact ⟨ret_pair HF1.out HF2.out.symm, rfl⟩
          · have hd : (q : Int) - 1 = (Q0 : Int) := by omega
            clear hQ hq97
            rcases ht with  t1 | ⟨t1, t2, p1, p2⟩
            · skip
              go_wp2_with fail
              go_ret2
              exact ⟨ret_pair HF1.out HF2.out.symm, rfl⟩
            · skip
              go_wp2_with fail
              go_ret2
              exact ⟨ret_pair HF1.out HF2.out.symm, rfl⟩
          · have HQR := Lib.hid hqr'
            have hd : (q : Int) - 1 = (q' : Int) := by omega
            have hq97' : q' ≤ 4294967297 := by omega
            clear hqr' hQ hq97
            rcases ht with t1 | ⟨t1, t2, p1, p2⟩
            · skip
              go_wp2_with fail
              go_round
              case rel => exact ⟨q', rh + v1, by go_num, by go_num, HQR.out, by simp at t3; omega, hle', hq97'⟩
              case measure => simp [intOf]; omega
            · go_wp2_with fail
              go_round
              case rel => exact ⟨q', rh + v1, by go_num, by go_num, HQR.out, by simp at t3; omega, hle', hq97'⟩
              case measure => simp [intOf]; omega
    · have HQR := Lib.hid hqr'
      have hd : (q : Int) - 1 = (q' : Int) := by omega
      have hq97' : q' ≤ 4294967297 := by omega
      clear hqr' hQ hq97
      rcases ht with t1 | ⟨t1, t2, p1, p2⟩
      · skip
        go_wp2_with fail
        go_round
        case rel => exact ⟨q', rh + v1, by go_num, by go_num, HQR.out, by simp at t3; omega, hle', hq97'⟩
        case measure => simp [intOf]; omega
      · go_wp2_with fail
        go_round
        case rel => exact ⟨q', rh + v1, by go_num, by go_num, HQR.out, by simp at t3; omega, hle', hq97'⟩
        case measure => simp [intOf]; omega

end Go.Proofs.Ytcmaoomcdmjimaa.Num
