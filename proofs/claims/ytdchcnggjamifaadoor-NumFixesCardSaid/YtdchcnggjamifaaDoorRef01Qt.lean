/-
  The reference of layer 1: long division bit by bit, quotients of fixed-point numbers.
-/
import Derived.Test.YtdchcnggjamifaaDoorNumRt
import Derived.Test.YtdchcnggjamifaaDoorRef01Fx
namespace Go.Proofs.YtdchcnggjamifaaDoor.Ref01
open Go.RowKit Go.Proofs.YtdchcnggjamifaaDoor Go.Proofs.YtdchcnggjamifaaDoor.NumPure Go.Proofs.YtdchcnggjamifaaDoor.Num

/-- The dividend's part that has been taken in after k rounds, and what is left of it, brought to the left. -/
def tkn (N k : Nat) : Nat := N / 2 ^ (128 - k)
def lft (N k : Nat) : Nat := N * 2 ^ k % 340282366920938463463374607431768211456

theorem tkn_zero {N : Nat} (h : N < 340282366920938463463374607431768211456) : tkn N 0 = 0 := by
  unfold tkn
  exact Nat.div_eq_of_lt h
theorem tkn_all (N : Nat) : tkn N 128 = N := by
  unfold tkn
  rw [Nat.sub_self, Nat.pow_zero, Nat.div_one]
theorem tkn_le (N k : Nat) : tkn N k ≤ N := Nat.div_le_self _ _
theorem lft_lt (N k : Nat) : lft N k < 340282366920938463463374607431768211456 := Nat.mod_lt _ (by decide)
theorem lft_zero {N : Nat} (h : N < 340282366920938463463374607431768211456) : lft N 0 = N := by
  unfold lft
  rw [Nat.pow_zero, Nat.mul_one]
  exact Nat.mod_eq_of_lt h
theorem lft_succ (N k : Nat) : lft N (k + 1) = lft N k * 2 % 340282366920938463463374607431768211456 := by
  unfold lft
  rw [Nat.pow_succ, ← Nat.mul_assoc, Nat.mod_mul_mod]
theorem tkn_succ (N k : Nat) (hk : k < 128) : tkn N (k + 1) = tkn N k * 2 + lft N k / 170141183460469231731687303715884105728 := by
  unfold tkn lft
  obtain ⟨m, hm⟩ : ∃ m, 128 - (k + 1) = m := ⟨_, rfl⟩
  have h1 : 128 - k = m + 1 := by omega
  have h2 : (170141183460469231731687303715884105728 : Nat) = 2 ^ m * 2 ^ k := by
    rw [← Nat.pow_add, show m + k = 127 by omega]
  have h3 : (340282366920938463463374607431768211456 : Nat) = 170141183460469231731687303715884105728 * 2 := by decide
  rw [hm, h1, h3, Nat.mod_mul_right_div_self, h2, Nat.mul_div_mul_right _ _ (Nat.pow_pos (by omega)), Nat.pow_succ, ← Nat.div_div_eq_div_mul]
  omega

/-- A bit put behind a word that was brought to the left. -/
theorem dbl_or (r h : Nat) (hh : h < 18446744073709551616) : bits .or .u64 (IntKind.u64.wrap ((r : Int) * 2)) ((h : Int) / 9223372036854775808) = ((r * 2 % 18446744073709551616 + h / 9223372036854775808 : Nat) : Int) := by
  have e1 : IntKind.u64.wrap ((r : Int) * 2) = ((r * 2 % 18446744073709551616 : Nat) : Int) := by
    rw [IntKind.wrap_u64]
    omega
  have e2 : (h : Int) / 9223372036854775808 = ((h / 9223372036854775808 : Nat) : Int) := by omega
  rw [e1, e2, u64_or_nat _ _ (Nat.mod_lt _ (by decide)) (by omega)]
  have e3 : r * 2 % 18446744073709551616 = 2 ^ 1 * (r % 9223372036854775808) := by omega
  rw [e3, ← Nat.two_pow_add_eq_or_of_lt (i := 1) (by omega)]

theorem left_gen {W hi lo b c h l : Nat} (h1 : hi * 2 = b * W + h) (h2 : lo * 2 = c * W + l) (hc : h + c + 1 ≤ W) (hl : l < W) : (hi * W + lo) * 2 % (W * W) = (h + c) * W + l := by
  have e : (hi * W + lo) * 2 = W * W * b + ((h + c) * W + l) := by
    have e1 : (hi * W + lo) * 2 = hi * 2 * W + lo * 2 := by rw [Nat.add_mul, Nat.mul_right_comm]
    rw [e1, h1, h2, Nat.add_mul, Nat.add_mul, Nat.mul_right_comm b W W, Nat.mul_comm (W * W) b, ← Nat.mul_assoc, Nat.add_assoc, Nat.add_assoc]
  have hlt : (h + c) * W + l < W * W := by
    have := Nat.mul_le_mul_right W hc
    rw [Nat.add_mul (h + c) 1 W, Nat.one_mul] at this
    omega
  rw [e, Nat.mul_add_mod, Nat.mod_eq_of_lt hlt]
theorem quo_gen {W q1 q0 c l Q : Nat} (h : q1 * W + q0 = Q) (h2 : q0 * 2 = c * W + l) : (q1 * 2 + c) * W + l = Q * 2 := by
  rw [← h, Nat.add_mul, Nat.add_mul, h2, Nat.mul_right_comm q1 2 W, Nat.add_assoc]
theorem q1_lt {q1 q0 Q : Nat} (h : q1 * 18446744073709551616 + q0 = Q) (hQ : Q * 2 < 340282366920938463463374607431768211456) : q1 < 9223372036854775808 := by
  rcases Nat.lt_or_ge q1 9223372036854775808 with hc | hc
  · exact hc
  · have := Nat.mul_le_mul_right 18446744073709551616 hc
    omega
theorem word_split (x : Nat) : x * 2 = x / 9223372036854775808 * 18446744073709551616 + x * 2 % 18446744073709551616 := by omega
theorem left_words {hi lo : Nat} (a2 : lo < 18446744073709551616) :
    (hi * 2 % 18446744073709551616 + lo / 9223372036854775808) * 18446744073709551616 + lo * 2 % 18446744073709551616 = (hi * 18446744073709551616 + lo) * 2 % 340282366920938463463374607431768211456 :=
  (left_gen (word_split hi) (word_split lo) (by omega) (Nat.mod_lt _ (by decide))).symm
theorem quo_words {q1 q0 Q : Nat} (h : q1 * 18446744073709551616 + q0 = Q) (hQ : Q * 2 < 340282366920938463463374607431768211456) :
    (q1 * 2 % 18446744073709551616 + q0 / 9223372036854775808) * 18446744073709551616 + q0 * 2 % 18446744073709551616 = Q * 2 := by
  have h1 := q1_lt h hQ
  rw [Nat.mod_eq_of_lt (show q1 * 2 < 18446744073709551616 by omega)]
  exact quo_gen h (word_split q0)

/-- One round: the words of the dividend that is left, of the rest and of the quotient. -/
structure Rnd (N d k hi lo r q1 q0 : Nat) : Prop where
  bhi : hi < 18446744073709551616
  blo : lo < 18446744073709551616
  br : r < d
  bq1 : q1 < 18446744073709551616
  bq0 : q0 < 18446744073709551616
  left : hi * 18446744073709551616 + lo = lft N k
  rest : r = tkn N k % d
  quo : q1 * 18446744073709551616 + q0 = tkn N k / d

theorem rnd_start {N d hi lo : Nat} (hd : 0 < d) (hhi : hi < 18446744073709551616) (hlo : lo < 18446744073709551616) (h : N = hi * 18446744073709551616 + lo) : Rnd N d 0 hi lo 0 0 0 := by
  have hN : N < 340282366920938463463374607431768211456 := by omega
  exact ⟨hhi, hlo, hd, by omega, by omega, by rw [lft_zero hN]; omega, by rw [tkn_zero hN]; simp, by rw [tkn_zero hN]; simp⟩
theorem rnd_end {N d hi lo r q1 q0 : Nat} (h : Rnd N d 128 hi lo r q1 q0) : r = N % d ∧ q1 * 18446744073709551616 + q0 = N / d := by
  have h1 := h.rest
  have h2 := h.quo
  rw [tkn_all] at h1 h2
  exact ⟨h1, h2⟩

/-- What a round computes: c is one where the divisor goes into the rest. -/
theorem rnd_step {N d k hi lo r q1 q0 : Nat} (hN : N < 340282366920938463463374607431768211456) (hd : d < 18446744073709551616) (hk : k < 128) (h : Rnd N d k hi lo r q1 q0) :
    (r * 2 + hi / 9223372036854775808 < d ∧ Rnd N d (k + 1) (hi * 2 % 18446744073709551616 + lo / 9223372036854775808) (lo * 2 % 18446744073709551616) (r * 2 + hi / 9223372036854775808) (q1 * 2 % 18446744073709551616 + q0 / 9223372036854775808) (q0 * 2 % 18446744073709551616)) ∨
    (d ≤ r * 2 + hi / 9223372036854775808 ∧ Rnd N d (k + 1) (hi * 2 % 18446744073709551616 + lo / 9223372036854775808) (lo * 2 % 18446744073709551616) (r * 2 + hi / 9223372036854775808 - d) (q1 * 2 % 18446744073709551616 + q0 / 9223372036854775808) (q0 * 2 % 18446744073709551616 + 1)) := by
  obtain ⟨a1, a2, a3, a4, a5, a6, a7, a8⟩ := h
  have hl := lft_succ N k
  have ht := tkn_succ N k hk
  rw [← a6] at hl ht
  have hb : (hi * 18446744073709551616 + lo) / 170141183460469231731687303715884105728 = hi / 9223372036854775808 := by omega
  rw [hb] at ht
  have hle := tkn_le N (k + 1)
  have hdm := Nat.div_add_mod (tkn N k) d
  rw [← a7, ← a8] at hdm
  obtain ⟨b, hb2⟩ : ∃ b, hi / 9223372036854775808 = b := ⟨_, rfl⟩
  rw [hb2] at ht ⊢
  have hb1 : b ≤ 1 := by omega
  obtain ⟨Q, hQ⟩ : ∃ Q, q1 * 18446744073709551616 + q0 = Q := ⟨_, rfl⟩
  rw [hQ] at hdm
  obtain ⟨T, hT⟩ : ∃ T, tkn N (k + 1) = T := ⟨_, rfl⟩
  rw [hT] at ht hle
  have hTd : T = d * (Q * 2) + (r * 2 + b) := by
    rw [ht, ← hdm, Nat.add_mul, ← Nat.mul_assoc, Nat.add_assoc]
  have left' : (hi * 2 % 18446744073709551616 + lo / 9223372036854775808) * 18446744073709551616 + lo * 2 % 18446744073709551616 = lft N (k + 1) := by
    rw [hl]
    exact left_words a2
  have hdpos : 0 < d := by omega
  by_cases hc : r * 2 + b < d
  · refine .inl ⟨hc, by omega, by omega, hc, by omega, by omega, left', ?_, ?_⟩
    · rw [hT, hTd, Nat.mul_add_mod, Nat.mod_eq_of_lt hc]
    · have e : T / d = Q * 2 := by rw [hTd, Nat.mul_add_div hdpos, Nat.div_eq_of_lt hc, Nat.add_zero]
      have hlt : T / d ≤ T := Nat.div_le_self _ _
      rw [hT, e]
      rw [e] at hlt
      exact quo_words hQ (by omega)
  · have e2 : T = d * (Q * 2 + 1) + (r * 2 + b - d) := by
      rw [hTd, Nat.mul_add d (Q * 2) 1, Nat.mul_one]
      omega
    have hc2 : r * 2 + b - d < d := by omega
    refine .inr ⟨by omega, by omega, by omega, hc2, by omega, by omega, left', ?_, ?_⟩
    · rw [hT, e2, Nat.mul_add_mod, Nat.mod_eq_of_lt hc2]
    · have e : T / d = Q * 2 + 1 := by rw [e2, Nat.mul_add_div hdpos, Nat.div_eq_of_lt hc2, Nat.add_zero]
      have hlt : T / d ≤ T := Nat.div_le_self _ _
      rw [hT, e]
      rw [e] at hlt
      rw [← Nat.add_assoc, quo_words hQ (by omega)]

theorem shr_top (x : Nat) : (x : Int) / 9223372036854775808 = ((x / 9223372036854775808 : Nat) : Int) := by omega
theorem dbl_word (x : Nat) : IntKind.u64.wrap ((x : Int) * 2) = ((x * 2 % 18446744073709551616 : Nat) : Int) := by
  rw [IntKind.wrap_u64]
  omega
theorem or_one (x : Nat) : bits .or .u64 ((x * 2 % 18446744073709551616 : Nat) : Int) 1 = ((x * 2 % 18446744073709551616 + 1 : Nat) : Int) := by
  have h := u64_or_nat (x * 2 % 18446744073709551616) 1 (Nat.mod_lt _ (by decide)) (by decide)
  have e3 : x * 2 % 18446744073709551616 = 2 ^ 1 * (x % 9223372036854775808) := by omega
  rw [e3, ← Nat.two_pow_add_eq_or_of_lt (i := 1) (by omega)] at h
  rw [e3]
  exact h
theorem sub_over (r b d : Nat) (hd : d < 18446744073709551616) (hr : r < d) (hc : d ≤ r * 2 + b) (hb : b ≤ 1) : IntKind.u64.wrap (((r * 2 % 18446744073709551616 + b : Nat) : Int) - (d : Int)) = ((r * 2 + b - d : Nat) : Int) := by
  rw [IntKind.wrap_u64]
  omega

def QV (N d : Nat) : Value := .tuple #[.int .u64 ((N / d / 18446744073709551616 : Nat) : Int), .int .u64 ((N / d % 18446744073709551616 : Nat) : Int), .int .u64 ((N % d : Nat) : Int)]
theorem QV_of {N d q1 q0 r : Nat} (b : q0 < 18446744073709551616) (h : q1 * 18446744073709551616 + q0 = N / d) (hr : r = N % d) : Ending.returned (.tuple #[.int .u64 (q1 : Int), .int .u64 (q0 : Int), .int .u64 (r : Int)]) = .returned (QV N d) := by
  unfold QV
  rw [← h, ← hr, show (q1 * 18446744073709551616 + q0) / 18446744073709551616 = q1 by omega, show (q1 * 18446744073709551616 + q0) % 18446744073709551616 = q0 by omega]

set_option maxHeartbeats 2000000 in
theorem quotient_any (hi lo d N : Nat) (hd0 : 0 < d) (hd : d < 18446744073709551616) (bh : hi < 18446744073709551616) (bl : lo < 18446744073709551616) (hN : N = hi * 18446744073709551616 + lo) (w : World) :
    Calls Tryd.prog 45 #[.int .u64 (hi : Int), .int .u64 (lo : Int), .int .u64 (d : Int)] w fun e w' => e = .returned (QV N d) ∧ w = w' := by
  have h0 := rnd_start hd0 bh bl hN
  have hNl : N < 340282366920938463463374607431768211456 := by omega
  have H0 := Lib.hid h0
  have HNL := Lib.hid hNl
  have HDL := Lib.hid hd
  clear h0 hNl hN bh bl hd
  go_enter Tryd.func45, Tryd.ntmps45
  go_wp2_with fail
  go_loop [0, 1, 9, 10, 11, 12] (fun v0 v1 v9 v10 v11 v12 => ∃ k hi lo r q1 q0 : Nat, k ≤ 128 ∧ v0 = .int .u64 (hi : Int) ∧ v1 = .int .u64 (lo : Int) ∧ v9 = .int .u64 (q1 : Int) ∧ v10 = .int .u64 (q0 : Int) ∧ v11 = .int .u64 (r : Int) ∧ v12 = .int .i64 (127 - (k : Int)) ∧ Rnd N d k hi lo r q1 q0) (fun _ _ _ _ _ v12 => (1 + intOf v12).toNat)
  case atStart => exact ⟨0, hi, lo, 0, 0, 0, by omega, rfl, rfl, rfl, rfl, rfl, rfl, H0.out⟩
  case round =>
    clear H0
    obtain ⟨k, hi, lo, r, q1, q0, hk, rfl, rfl, rfl, rfl, rfl, rfl, h⟩ := hrel
    by_cases hlt : k < 128
    · have HI : Hid (Value.int .i64 (127 - (k : Int) - 1) = .int .i64 (127 - ((k + 1 : Nat) : Int))) := Lib.hid (congrArg (Value.int .i64) (by omega))
      have a := dbl_or r hi h.bhi
      have b := dbl_or hi lo h.blo
      have c := dbl_or q1 q0 h.bq0
      have e1 := dbl_word lo
      have e2 := dbl_word q0
      have e3 := or_one q0
      have hs := rnd_step HNL.out HDL.out hlt h
      have hrd := h.br
      have hdd := HDL.out
      have hB1 : hi / 9223372036854775808 ≤ 1 := by have := h.bhi; omega
      have e4 : d ≤ r * 2 + hi / 9223372036854775808 → IntKind.u64.wrap (((r * 2 % 18446744073709551616 + hi / 9223372036854775808 : Nat) : Int) - (d : Int)) = ((r * 2 + hi / 9223372036854775808 - d : Nat) : Int) := fun hc => sub_over r _ d hdd hrd hc hB1
      have hR : r < 9223372036854775808 → r * 2 % 18446744073709551616 = r * 2 := fun hc => by omega
      obtain ⟨B, hB⟩ : ∃ B, hi / 9223372036854775808 = B := ⟨_, rfl⟩
      rw [hB] at hs e4 hB1 a
      obtain ⟨H2, hH2⟩ : ∃ x, hi * 2 % 18446744073709551616 + lo / 9223372036854775808 = x := ⟨_, rfl⟩
      obtain ⟨Q2, hQ2⟩ : ∃ x, q1 * 2 % 18446744073709551616 + q0 / 9223372036854775808 = x := ⟨_, rfl⟩
      obtain ⟨L2, hL2⟩ : ∃ x, lo * 2 % 18446744073709551616 = x := ⟨_, rfl⟩
      obtain ⟨P2, hP2⟩ : ∃ x, q0 * 2 % 18446744073709551616 = x := ⟨_, rfl⟩
      rw [hH2, hQ2, hL2, hP2] at hs
      rw [hH2] at b
      rw [hQ2] at c
      rw [hL2] at e1
      rw [hP2] at e2 e3
      clear hH2 hQ2 hL2 hP2 hB
      rcases hs with ⟨hc, hn⟩ | ⟨hc, hn⟩
      · have hr63 : r < 9223372036854775808 := by omega
        rw [hR hr63] at a
        obtain ⟨R, hRR⟩ : ∃ x, r * 2 + B = x := ⟨_, rfl⟩
        rw [hRR] at a hn hc
        have t1 : ((r : Int) / 9223372036854775808 == 1) = false := by simp; omega
        have t2 : decide (d ≤ R) = false := by simp; omega
        have HN := Lib.hid hn
        clear hn hRR hR e4 hrd hdd hB1 h hr63 hc
        go_wp2_with fail
        go_round
        case rel => exact ⟨k + 1, H2, L2, R, Q2, P2, by omega, rfl, rfl, rfl, rfl, rfl, HI.out, HN.out⟩
        case measure => simp [intOf]; omega
      · have e5 := e4 hc
        by_cases hr63 : r < 9223372036854775808
        · rw [hR hr63] at a e5
          obtain ⟨R, hRR⟩ : ∃ x, r * 2 + B = x := ⟨_, rfl⟩
          rw [hRR] at a e5 hn hc
          have t1 : ((r : Int) / 9223372036854775808 == 1) = false := by simp; omega
          have t2 : decide (d ≤ R) = true := by simp; omega
          have HN := Lib.hid hn
          clear hn hRR hR e4 hrd hdd hB1 h hr63 hc
          go_wp2_with fail
          go_round
          case rel => exact ⟨k + 1, H2, L2, R - d, Q2, P2 + 1, by omega, rfl, rfl, rfl, rfl, rfl, HI.out, HN.out⟩
          case measure => simp [intOf]; omega
        · obtain ⟨R, hRR⟩ : ∃ x, r * 2 + B = x := ⟨_, rfl⟩
          obtain ⟨R1, hR1⟩ : ∃ x, r * 2 % 18446744073709551616 + B = x := ⟨_, rfl⟩
          rw [hRR] at e5 hn
          rw [hR1] at a e5
          have t1 : ((r : Int) / 9223372036854775808 == 1) = true := by simp; omega
          have HN := Lib.hid hn
          clear hn hRR hR1 hR e4 hrd hdd hB1 h hr63 hc
          go_wp2_with fail
          go_round
          case rel => exact ⟨k + 1, H2, L2, R - d, Q2, P2 + 1, by omega, rfl, rfl, rfl, rfl, rfl, HI.out, HN.out⟩
          case measure => simp [intOf]; omega
    · obtain rfl : k = 128 := by omega
      have he := rnd_end h
      have HE := Lib.hid (QV_of h.bq0 he.2 he.1)
      clear he h
      go_wp2_with fail
      go_ret3
      exact ⟨HE.out, rfl⟩

theorem quotient_is (hi lo d N q1 q0 r : Nat) (hd0 : 0 < d) (hd : d < 18446744073709551616) (bh : hi < 18446744073709551616) (bl : lo < 18446744073709551616) (hN : N = hi * 18446744073709551616 + lo)
    (h1 : N / d / 18446744073709551616 = q1) (h2 : N / d % 18446744073709551616 = q0) (h3 : N % d = r) (w : World) :
    Calls Tryd.prog 45 #[.int .u64 (hi : Int), .int .u64 (lo : Int), .int .u64 (d : Int)] w fun e w' => e = .returned (.tuple #[.int .u64 (q1 : Int), .int .u64 (q0 : Int), .int .u64 (r : Int)]) ∧ w = w' := by
  have h := quotient_any hi lo d N hd0 hd bh bl hN w
  unfold QV at h
  rw [h1, h2, h3] at h
  exact h
theorem rnd_is (neg u : Bool) (N y r : Nat) (hr : N % y = r) (hu : (bif neg then decide (y - r < r) else decide (y - r ≤ r)) = u) : rnd neg N y = if u then N / y + 1 else N / y := by
  unfold rnd
  rw [hr, hu]

set_option maxHeartbeats 2000000 in
theorem ratio_any (a b : Int) (h0 : -9223372036854775808 ≤ a) (h1 : a ≤ 9223372036854775807) (g0 : -9223372036854775808 ≤ b) (g1 : b ≤ 9223372036854775807) (w : World) :
    Calls Tryd.prog 28 #[.int .i64 a, .int .i64 b] w fun e w' => e = .returned (.int .i64 (ratU a b)) ∧ w = w' := by
  by_cases hb : b = 0
  · subst hb
    have HF : Hid (ratU a 0 = 0) := Lib.hid (by unfold ratU; rw [if_pos rfl])
    go_enter Tryd.func28, Tryd.ntmps28
    go_wp2
    go_ret
    exact ⟨ret_int HF.out.symm, rfl⟩
  have tb : (b == 0) = false := by simpa using hb
  obtain ⟨x, hxa⟩ : ∃ x, a.natAbs = x := ⟨_, rfl⟩
  obtain ⟨y, hyb⟩ : ∃ y, b.natAbs = y := ⟨_, rfl⟩
  have hy0 : 0 < y := by omega
  have hx : x < 18446744073709551616 := by omega
  have hy : y < 18446744073709551616 := by omega
  obtain ⟨neg, hneg⟩ : ∃ neg, (decide (a < 0) != decide (b < 0)) = neg := ⟨_, rfl⟩
  have hrt : ratU a b = sgn neg (rnd neg (x * 65536) y) := by unfold ratU; rw [if_neg hb, hneg, hxa, hyb]
  have ts : (!(decide (a < 0) == decide (b < 0))) = neg := hneg
  obtain ⟨hi, hh⟩ : ∃ n, x * 65536 / 18446744073709551616 = n := ⟨_, rfl⟩
  obtain ⟨lo, hl⟩ : ∃ n, x * 65536 % 18446744073709551616 = n := ⟨_, rfl⟩
  have hhi : hi < 18446744073709551616 := by omega
  have hlo : lo < 18446744073709551616 := by omega
  have hm : x * 65536 = hi * 18446744073709551616 + lo := by omega
  obtain ⟨q, hq⟩ : ∃ q, x * 65536 / y = q := ⟨_, rfl⟩
  obtain ⟨r, hr⟩ : ∃ r, x * 65536 % y = r := ⟨_, rfl⟩
  have hry : r < y := by rw [← hr]; exact Nat.mod_lt _ hy0
  have hqb : q ≤ x * 65536 := by rw [← hq]; exact Nat.div_le_self _ _
  obtain ⟨q1, hq1⟩ : ∃ n, x * 65536 / y / 18446744073709551616 = n := ⟨_, rfl⟩
  obtain ⟨q0, hq0⟩ : ∃ n, x * 65536 / y % 18446744073709551616 = n := ⟨_, rfl⟩
  have hq10 : q = q1 * 18446744073709551616 + q0 := by rw [← hq, ← hq1, ← hq0]; omega
  have hq0l : q0 < 18446744073709551616 := by rw [← hq0]; exact Nat.mod_lt _ (by decide)
  have hq1l : q1 < 65536 := by omega
  obtain ⟨Z, hZ⟩ : ∃ Z, y - r = Z := ⟨_, rfl⟩
  have hZw : IntKind.u64.wrap ((y : Int) - (r : Int)) = (Z : Int) := by rw [IntKind.wrap_u64]; omega
  obtain ⟨u, hu⟩ : ∃ u, (bif neg then decide (Z < r) else decide (Z ≤ r)) = u := ⟨_, rfl⟩
  have hrn := rnd_is neg u (x * 65536) y r hr (by rw [hZ]; exact hu)
  rw [hq] at hrn
  have hw : q0 ≠ 18446744073709551615 → IntKind.u64.wrap ((q0 : Int) + 1) = ((q0 + 1 : Nat) : Int) := fun hne => by rw [IntKind.wrap_u64]; omega
  have hw0 : q0 = 18446744073709551615 → IntKind.u64.wrap ((q0 : Int) + 1) = 0 := fun hne => by rw [IntKind.wrap_u64]; omega
  have hw1 : IntKind.u64.wrap ((q1 : Int) + 1) = ((q1 + 1 : Nat) : Int) := by rw [IntKind.wrap_u64]; omega
  have HA := Lib.hid hxa
  have HB := Lib.hid hyb
  have HH := Lib.hid hh
  have HL := Lib.hid hl
  have HM := Lib.hid hm
  have HHI := Lib.hid hhi
  have HLO := Lib.hid hlo
  have HQ1 := Lib.hid hq1
  have HQ0 := Lib.hid hq0
  have HR := Lib.hid hr
  have HQ10 := Lib.hid hq10
  clear hxa hyb hh hl hm hhi hlo hq1 hq0 hr hq hneg hb
  cases hn : neg with
  | false =>
    rw [hn] at ts hrt hrn hu
    simp only [cond_false] at hu
    cases hc : u with
    | false =>
      rw [hc] at hu hrn
      have HF : Hid (q = q1 * 18446744073709551616 + q0) := HQ10
      have HRT : Hid (ratU a b = sgn false q) := Lib.hid (by rw [hrt, hrn]; rfl)
      clear hn hc hrt hrn hw hw0 hw1 hZ hqb hq10
      go_enter Tryd.func28, Tryd.ntmps28
      go_wp2_with fail
      refine (abs_is b y HB.out g0 g1 _).mono ?_
      rintro e w' ⟨rfl, rfl⟩
      go_wp2_with fail
      refine (abs_is a x HA.out h0 h1 _).mono ?_
      rintro e w' ⟨rfl, rfl⟩
      go_wp2_with fail
      refine (product_is x 65536 hi lo hx (by decide) HH.out HL.out _).mono ?_
      rintro e w' ⟨rfl, rfl⟩
      go_wp2_with fail
      refine (quotient_is hi lo y (x * 65536) q1 q0 r hy0 hy HHI.out HLO.out HM.out HQ1.out HQ0.out HR.out _).mono ?_
      rintro e w' ⟨rfl, rfl⟩
      go_wp2_with fail
      refine (signed_is _ _ q1 q0 q false (by first | rfl | exact HW1.out | omega) (by first | rfl | exact HW0.out | omega) hq0l HF.out _).mono ?_
      rintro e w' ⟨rfl, rfl⟩
      go_wp2
      go_ret
      exact ⟨ret_int HRT.out.symm, rfl⟩
    | true =>
      rw [hc] at hu hrn
      have HRT : Hid (ratU a b = sgn false (q + 1)) := Lib.hid (by rw [hrt, hrn]; rfl)
      by_cases h64 : q0 = 18446744073709551615
      · have HF : Hid (q + 1 = (q1 + 1) * 18446744073709551616 + 0) := Lib.hid (by rw [HQ10.out, h64]; omega)
        have e0 := hw0 h64
        clear hn hc hrt hrn hw hw0 hZ hqb h64 hq10
        go_enter Tryd.func28, Tryd.ntmps28
        go_wp2_with fail
        refine (abs_is b y HB.out g0 g1 _).mono ?_
        rintro e w' ⟨rfl, rfl⟩
        go_wp2_with fail
        refine (abs_is a x HA.out h0 h1 _).mono ?_
        rintro e w' ⟨rfl, rfl⟩
        go_wp2_with fail
        refine (product_is x 65536 hi lo hx (by decide) HH.out HL.out _).mono ?_
        rintro e w' ⟨rfl, rfl⟩
        go_wp2_with fail
        refine (quotient_is hi lo y (x * 65536) q1 q0 r hy0 hy HHI.out HLO.out HM.out HQ1.out HQ0.out HR.out _).mono ?_
        rintro e w' ⟨rfl, rfl⟩
        go_wp2_with fail
        refine (signed_is _ _ (q1 + 1) 0 (q + 1) false (by first | rfl | exact HW1.out | omega) (by first | rfl | exact HW0.out | omega) (by decide) HF.out _).mono ?_
        rintro e w' ⟨rfl, rfl⟩
        go_wp2
        go_ret
        exact ⟨ret_int HRT.out.symm, rfl⟩
      · have HF : Hid (q + 1 = q1 * 18446744073709551616 + (q0 + 1)) := Lib.hid (by rw [HQ10.out]; omega)
        have e0 := hw h64
        have hq2 : q0 + 1 < 18446744073709551616 := by omega
        have t0 : (((q0 + 1 : Nat) : Int) == 0) = false := by simp; omega
        obtain ⟨p, hp⟩ : ∃ p, q0 + 1 = p := ⟨_, rfl⟩
        rw [hp] at e0 hq2 t0 HF
        clear hn hc hrt hrn hw hw0 hw1 hZ hqb h64 hp hq10
        go_enter Tryd.func28, Tryd.ntmps28
        go_wp2_with fail
        refine (abs_is b y HB.out g0 g1 _).mono ?_
        rintro e w' ⟨rfl, rfl⟩
        go_wp2_with fail
        refine (abs_is a x HA.out h0 h1 _).mono ?_
        rintro e w' ⟨rfl, rfl⟩
        go_wp2_with fail
        refine (product_is x 65536 hi lo hx (by decide) HH.out HL.out _).mono ?_
        rintro e w' ⟨rfl, rfl⟩
        go_wp2_with fail
        refine (quotient_is hi lo y (x * 65536) q1 q0 r hy0 hy HHI.out HLO.out HM.out HQ1.out HQ0.out HR.out _).mono ?_
        rintro e w' ⟨rfl, rfl⟩
        go_wp2_with fail
        refine (signed_is _ _ q1 p (q + 1) false (by first | rfl | exact HW1.out | omega) (by first | rfl | exact HW0.out | omega) hq2 HF.out _).mono ?_
        rintro e w' ⟨rfl, rfl⟩
        go_wp2
        go_ret
        exact ⟨ret_int HRT.out.symm, rfl⟩
  | true =>
    rw [hn] at ts hrt hrn hu
    simp only [cond_true] at hu
    obtain ⟨v, hv⟩ : ∃ v, decide (Z ≤ r) = v := ⟨_, rfl⟩
    cases hc : u with
    | false =>
      rw [hc] at hu hrn
      have HF : Hid (q = q1 * 18446744073709551616 + q0) := HQ10
      have HRT : Hid (ratU a b = sgn true q) := Lib.hid (by rw [hrt, hrn]; rfl)
      clear hn hc hrt hrn hw hw0 hw1 hZ hqb hq10
      go_enter Tryd.func28, Tryd.ntmps28
      go_wp2_with fail
      refine (abs_is b y HB.out g0 g1 _).mono ?_
      rintro e w' ⟨rfl, rfl⟩
      go_wp2_with fail
      refine (abs_is a x HA.out h0 h1 _).mono ?_
      rintro e w' ⟨rfl, rfl⟩
      go_wp2_with fail
      refine (product_is x 65536 hi lo hx (by decide) HH.out HL.out _).mono ?_
      rintro e w' ⟨rfl, rfl⟩
      go_wp2_with fail
      refine (quotient_is hi lo y (x * 65536) q1 q0 r hy0 hy HHI.out HLO.out HM.out HQ1.out HQ0.out HR.out _).mono ?_
      rintro e w' ⟨rfl, rfl⟩
      go_wp2_with fail
      refine (signed_is _ _ q1 q0 q true (by first | rfl | exact HW1.out | omega) (by first | rfl | exact HW0.out | omega) hq0l HF.out _).mono ?_
      rintro e w' ⟨rfl, rfl⟩
      go_wp2
      go_ret
      exact ⟨ret_int HRT.out.symm, rfl⟩
    | true =>
      rw [hc] at hu hrn
      have HRT : Hid (ratU a b = sgn true (q + 1)) := Lib.hid (by rw [hrt, hrn]; rfl)
      by_cases h64 : q0 = 18446744073709551615
      · have HF : Hid (q + 1 = (q1 + 1) * 18446744073709551616 + 0) := Lib.hid (by rw [HQ10.out, h64]; omega)
        have e0 := hw0 h64
        clear hn hc hrt hrn hw hw0 hZ hqb h64 hq10
        go_enter Tryd.func28, Tryd.ntmps28
        go_wp2_with fail
        refine (abs_is b y HB.out g0 g1 _).mono ?_
        rintro e w' ⟨rfl, rfl⟩
        go_wp2_with fail
        refine (abs_is a x HA.out h0 h1 _).mono ?_
        rintro e w' ⟨rfl, rfl⟩
        go_wp2_with fail
        refine (product_is x 65536 hi lo hx (by decide) HH.out HL.out _).mono ?_
        rintro e w' ⟨rfl, rfl⟩
        go_wp2_with fail
        refine (quotient_is hi lo y (x * 65536) q1 q0 r hy0 hy HHI.out HLO.out HM.out HQ1.out HQ0.out HR.out _).mono ?_
        rintro e w' ⟨rfl, rfl⟩
        go_wp2_with fail
        refine (signed_is _ _ (q1 + 1) 0 (q + 1) true (by first | rfl | exact HW1.out | omega) (by first | rfl | exact HW0.out | omega) (by decide) HF.out _).mono ?_
        rintro e w' ⟨rfl, rfl⟩
        go_wp2
        go_ret
        exact ⟨ret_int HRT.out.symm, rfl⟩
      · have HF : Hid (q + 1 = q1 * 18446744073709551616 + (q0 + 1)) := Lib.hid (by rw [HQ10.out]; omega)
        have e0 := hw h64
        have hq2 : q0 + 1 < 18446744073709551616 := by omega
        have t0 : (((q0 + 1 : Nat) : Int) == 0) = false := by simp; omega
        obtain ⟨p, hp⟩ : ∃ p, q0 + 1 = p := ⟨_, rfl⟩
        rw [hp] at e0 hq2 t0 HF
        clear hn hc hrt hrn hw hw0 hw1 hZ hqb h64 hp hq10
        go_enter Tryd.func28, Tryd.ntmps28
        go_wp2_with fail
        refine (abs_is b y HB.out g0 g1 _).mono ?_
        rintro e w' ⟨rfl, rfl⟩
        go_wp2_with fail
        refine (abs_is a x HA.out h0 h1 _).mono ?_
        rintro e w' ⟨rfl, rfl⟩
        go_wp2_with fail
        refine (product_is x 65536 hi lo hx (by decide) HH.out HL.out _).mono ?_
        rintro e w' ⟨rfl, rfl⟩
        go_wp2_with fail
        refine (quotient_is hi lo y (x * 65536) q1 q0 r hy0 hy HHI.out HLO.out HM.out HQ1.out HQ0.out HR.out _).mono ?_
        rintro e w' ⟨rfl, rfl⟩
        go_wp2_with fail
        refine (signed_is _ _ q1 p (q + 1) true (by first | rfl | exact HW1.out | omega) (by first | rfl | exact HW0.out | omega) hq2 HF.out _).mono ?_
        rintro e w' ⟨rfl, rfl⟩
        go_wp2
        go_ret
        exact ⟨ret_int HRT.out.symm, rfl⟩

end Go.Proofs.YtdchcnggjamifaaDoor.Ref01
