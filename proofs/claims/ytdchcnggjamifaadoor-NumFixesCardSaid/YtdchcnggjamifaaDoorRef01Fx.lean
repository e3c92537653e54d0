/-
  The reference of layer 1: products of two words, magnitudes with a sign, products of fixed-point numbers.
-/
import Derived.Test.YtdchcnggjamifaaDoorNumFx
import Derived.Test.YtdchcnggjamifaaDoorRef01Fl
namespace Go.Proofs.YtdchcnggjamifaaDoor.Ref01
open Go.RowKit Go.Proofs.YtdchcnggjamifaaDoor Go.Proofs.YtdchcnggjamifaaDoor.NumPure Go.Proofs.YtdchcnggjamifaaDoor.Num

set_option maxHeartbeats 1000000 in
theorem product_any (x y : Nat) (hx : x < 18446744073709551616) (hy : y < 18446744073709551616) (w : World) :
    Calls Tryd.prog 36 #[.int .u64 x, .int .u64 y] w fun e w' => e = .returned (.tuple #[.int .u64 ((x * y / 18446744073709551616 : Nat) : Int), .int .u64 ((x * y % 18446744073709551616 : Nat) : Int)]) ∧ w = w' := by
  obtain ⟨bd, bt, bw, hhi⟩ := Lib.mul64_hi x y hx hy
  have ba := Lib.half_mul_le (a := x / 4294967296) (b := y / 4294967296) (by omega) (by omega)
  have bb := Lib.half_mul_le (a := x / 4294967296) (b := y % 4294967296) (by omega) (by omega)
  have bc := Lib.half_mul_le (a := x % 4294967296) (b := y / 4294967296) (by omega) (by omega)
  have ba' : x / 4294967296 * (y / 4294967296) < 18446744073709551616 := by omega
  have bb' : x / 4294967296 * (y % 4294967296) < 18446744073709551616 := by omega
  have bc' : x % 4294967296 * (y / 4294967296) < 18446744073709551616 := by omega
  rw [Nat.add_comm (_ % 4294967296) (x % 4294967296 * (y / 4294967296))] at bw hhi
  have bh1 : x / 4294967296 * (y / 4294967296) + (x / 4294967296 * (y % 4294967296) + x % 4294967296 * (y % 4294967296) / 4294967296) / 4294967296 < 18446744073709551616 := by omega
  have bh : x / 4294967296 * (y / 4294967296) + (x / 4294967296 * (y % 4294967296) + x % 4294967296 * (y % 4294967296) / 4294967296) / 4294967296 + (x % 4294967296 * (y / 4294967296) + (x / 4294967296 * (y % 4294967296) + x % 4294967296 * (y % 4294967296) / 4294967296) % 4294967296) / 4294967296 < 18446744073709551616 := by omega
  go_enter Tryd.func36, Tryd.ntmps36
  go_wp2
  simp only [Mul64.maskN x hx, Mul64.maskN y hy, Mul64.divN, Mul64.mulN, Mul64.addN, Mul64.wrapN _ bd, Mul64.wrapN _ bb', Mul64.wrapN _ bt, Mul64.maskN _ bt, Mul64.wrapN _ bc', Mul64.wrapN _ bw, Mul64.wrapN _ ba', Mul64.wrapN _ bh1, Mul64.wrapN _ bh, Mul64.wrapM (x * y)]
  rw [hhi]
  go_ret2
  exact ⟨rfl, rfl⟩

theorem product_is (x y hi lo : Nat) (hx : x < 18446744073709551616) (hy : y < 18446744073709551616) (hh : x * y / 18446744073709551616 = hi) (hl : x * y % 18446744073709551616 = lo) (w : World) :
    Calls Tryd.prog 36 #[.int .u64 x, .int .u64 y] w fun e w' => e = .returned (.tuple #[.int .u64 (hi : Int), .int .u64 (lo : Int)]) ∧ w = w' := by
  subst hh hl
  exact product_any x y hx hy w

theorem neg_word (lo : Nat) (h : lo ≤ 9223372036854775808) : wrap64 (IntKind.u64.wrap (-(lo : Int))) = -(lo : Int) := by
  rw [IntKind.wrap_u64]
  unfold wrap64
  omega

theorem sgn_t (q : Nat) : sgn true q = max (-9223372036854775808) (-(q : Int)) := rfl
theorem sgn_f (q : Nat) : sgn false q = min 9223372036854775807 (q : Int) := rfl

set_option maxHeartbeats 1000000 in
theorem signed_any (hi lo q : Nat) (neg : Bool) (bl : lo < 18446744073709551616) (hq : q = hi * 18446744073709551616 + lo) (w : World) :
    Calls Tryd.prog 43 #[.int .u64 (hi : Int), .int .u64 (lo : Int), .bool neg] w fun e w' => e = .returned (.int .i64 (sgn neg q)) ∧ w = w' := by
  cases neg with
  | true =>
    by_cases h1 : 0 < hi
    · have HF : Hid (sgn true q = -9223372036854775808) := by
        refine Lib.hid ?_
        rw [sgn_t]
        omega
      clear hq
      go_enter Tryd.func43, Tryd.ntmps43
      go_wp2
      go_ret
      exact ⟨ret_int HF.out.symm, rfl⟩
    · by_cases h2 : 9223372036854775808 < lo
      · have HF : Hid (sgn true q = -9223372036854775808) := by
          refine Lib.hid ?_
          rw [sgn_t]
          omega
        clear hq
        go_enter Tryd.func43, Tryd.ntmps43
        go_wp2
        go_ret
        exact ⟨ret_int HF.out.symm, rfl⟩
      · have HF : Hid (sgn true q = -(lo : Int)) := by
          refine Lib.hid ?_
          rw [sgn_t]
          omega
        have HN := Lib.hid (neg_word lo (by omega))
        clear hq
        go_enter Tryd.func43, Tryd.ntmps43
        go_wp2
        go_ret
        exact ⟨ret_int (by rw [HF.out]; exact HN.out), rfl⟩
  | false =>
    by_cases h1 : 0 < hi
    · have HF : Hid (sgn false q = 9223372036854775807) := by
        refine Lib.hid ?_
        rw [sgn_f]
        omega
      clear hq
      go_enter Tryd.func43, Tryd.ntmps43
      go_wp2
      go_ret
      exact ⟨ret_int HF.out.symm, rfl⟩
    · by_cases h2 : 9223372036854775807 < lo
      · have HF : Hid (sgn false q = 9223372036854775807) := by
          refine Lib.hid ?_
          rw [sgn_f]
          omega
        clear hq
        go_enter Tryd.func43, Tryd.ntmps43
        go_wp2
        go_ret
        exact ⟨ret_int HF.out.symm, rfl⟩
      · have HF : Hid (sgn false q = (lo : Int)) := by
          refine Lib.hid ?_
          rw [sgn_f]
          omega
        clear hq
        go_enter Tryd.func43, Tryd.ntmps43
        go_wp2
        go_ret
        exact ⟨ret_int HF.out.symm, rfl⟩

theorem signed_is (h l : Int) (hi lo q : Nat) (neg : Bool) (eh : h = hi) (el : l = lo) (bl : lo < 18446744073709551616) (hq : q = hi * 18446744073709551616 + lo) (w : World) :
    Calls Tryd.prog 43 #[.int .u64 h, .int .u64 l, .bool neg] w fun e w' => e = .returned (.int .i64 (sgn neg q)) ∧ w = w' := by
  subst eh el
  exact signed_any hi lo q neg bl hq w

theorem word_of (H L : Nat) (hL : L < 18446744073709551616) : bits .or .u64 (IntKind.u64.wrap ((H : Int) * 281474976710656)) ((L : Int) / 65536) = (((H * 281474976710656 + L / 65536) % 18446744073709551616 : Nat) : Int) := by
  have e1 : IntKind.u64.wrap ((H : Int) * 281474976710656) = ((H % 65536 * 281474976710656 : Nat) : Int) := by
    rw [IntKind.wrap_u64]
    omega
  have e2 : (L : Int) / 65536 = ((L / 65536 : Nat) : Int) := by omega
  rw [e1, e2, or48 _ _ (by omega) (by omega)]
  omega

theorem fixU_neg (m : Nat) (a b : Int) (h : a * b = -(m : Int)) : fixU a b = sgn true ((m + 32767) / 65536) := by
  unfold fixU
  rw [h, Int.fdiv_eq_ediv_of_nonneg _ (by omega)]
  rw [sgn_t, sat]
  omega
theorem fixU_pos (m : Nat) (a b : Int) (h : a * b = (m : Int)) : fixU a b = sgn false ((m + 32768) / 65536) := by
  unfold fixU
  rw [h, Int.fdiv_eq_ediv_of_nonneg _ (by omega)]
  rw [sgn_f, sat]
  omega

set_option maxHeartbeats 1000000 in
theorem fixed_any (a b : Int) (h0 : -9223372036854775808 ≤ a) (h1 : a ≤ 9223372036854775807) (g0 : -9223372036854775808 ≤ b) (g1 : b ≤ 9223372036854775807) (w : World) :
    Calls Tryd.prog 26 #[.int .i64 a, .int .i64 b] w fun e w' => e = .returned (.int .i64 (fixU a b)) ∧ w = w' := by
  obtain ⟨x, ha⟩ : ∃ x, a.natAbs = x := ⟨_, rfl⟩
  obtain ⟨y, hb⟩ : ∃ y, b.natAbs = y := ⟨_, rfl⟩
  have hx' : x ≤ 9223372036854775808 := by omega
  have hy' : y ≤ 9223372036854775808 := by omega
  have hx : x < 18446744073709551616 := by omega
  have hy : y < 18446744073709551616 := by omega
  have hxy := Nat.mul_le_mul hx' hy'
  obtain ⟨hi, hh⟩ : ∃ n, x * y / 18446744073709551616 = n := ⟨_, rfl⟩
  obtain ⟨lo, hl⟩ : ∃ n, x * y % 18446744073709551616 = n := ⟨_, rfl⟩
  have bh : hi ≤ 4611686018427387904 := by omega
  have bl : lo < 18446744073709551616 := by omega
  have hm : x * y = hi * 18446744073709551616 + lo := by omega
  clear hx' hy' hxy
  have HA := Lib.hid ha
  have HB := Lib.hid hb
  have HH := Lib.hid hh
  have HL := Lib.hid hl
  clear hh hl
  have key : ∀ (half : Nat) (neg : Bool), half ≤ 32768 → fixU a b = sgn neg ((x * y + half) / 65536) → ∃ (S H W q : Nat) (Hz : Int), IntKind.u64.wrap ((lo : Int) + half) = S ∧ S < 18446744073709551616 ∧ ((S < lo ∧ Hz = hi + 1) ∨ (lo ≤ S ∧ Hz = hi)) ∧
      Hid (Hz / 65536 = (H : Int)) ∧ Hid (bits .or .u64 (IntKind.u64.wrap (Hz * 281474976710656)) ((S : Int) / 65536) = (W : Int)) ∧ W < 18446744073709551616 ∧ Hid (q = H * 18446744073709551616 + W) ∧ Hid (fixU a b = sgn neg q) := by
    intro half neg hf he
    rw [hm] at he
    by_cases hc : lo + half < 18446744073709551616
    · refine ⟨lo + half, hi / 65536, (hi * 281474976710656 + (lo + half) / 65536) % 18446744073709551616, (hi * 18446744073709551616 + lo + half) / 65536, hi, by rw [IntKind.wrap_u64]; omega, hc, .inr ⟨by omega, rfl⟩, Lib.hid (by omega), Lib.hid (word_of hi (lo + half) hc), by omega, Lib.hid (by omega), Lib.hid he⟩
    · refine ⟨lo + half - 18446744073709551616, (hi + 1) / 65536, ((hi + 1) * 281474976710656 + (lo + half - 18446744073709551616) / 65536) % 18446744073709551616, (hi * 18446744073709551616 + lo + half) / 65536, hi + 1, by rw [IntKind.wrap_u64]; omega, by omega, .inl ⟨by omega, rfl⟩, Lib.hid (by omega), Lib.hid ?_, by omega, Lib.hid (by omega), Lib.hid he⟩
      have := word_of (hi + 1) (lo + half - 18446744073709551616) (by omega)
      rwa [Int.natCast_add] at this
  by_cases hs : decide (a < 0) = decide (b < 0)
  · have ts : (!(decide (a < 0) == decide (b < 0))) = false := by rw [hs]; simp
    have hp := prod_same hs
    rw [ha, hb] at hp
    obtain ⟨S, H, W, q, Hz, hS, bS, hc, HH2, HW, bW, HQ, HF⟩ := key 32768 false (by omega) (fixU_pos _ a b hp)
    clear key ha hb hs hp hm
    have hS' : IntKind.u64.wrap ((lo : Int) + 32768) = S := hS
    clear hS
    rcases hc with ⟨hc, rfl⟩ | ⟨hc, rfl⟩
    all_goals
      go_enter Tryd.func26, Tryd.ntmps26
      go_wp2_with fail
      refine (abs_is a x HA.out h0 h1 _).mono ?_
      rintro e w' ⟨rfl, rfl⟩
      go_wp2_with fail
      refine (abs_is b y HB.out g0 g1 _).mono ?_
      rintro e w' ⟨rfl, rfl⟩
      go_wp2_with fail
      refine (product_is x y hi lo hx hy HH.out HL.out _).mono ?_
      rintro e w' ⟨rfl, rfl⟩
      go_wp2_with fail
      refine (signed_is _ _ H W q false HH2.out HW.out bW HQ.out _).mono ?_
      rintro e w' ⟨rfl, rfl⟩
      go_wp2
      go_ret
      exact ⟨ret_int HF.out.symm, rfl⟩
  · have ts : (!(decide (a < 0) == decide (b < 0))) = true := by simpa using hs
    have hp := prod_other hs
    rw [ha, hb] at hp
    obtain ⟨S, H, W, q, Hz, hS, bS, hc, HH2, HW, bW, HQ, HF⟩ := key 32767 true (by omega) (fixU_neg _ a b hp)
    clear key ha hb hs hp hm
    have hS' : IntKind.u64.wrap ((lo : Int) + 32767) = S := hS
    clear hS
    rcases hc with ⟨hc, rfl⟩ | ⟨hc, rfl⟩
    all_goals
      go_enter Tryd.func26, Tryd.ntmps26
      go_wp2_with fail
      refine (abs_is a x HA.out h0 h1 _).mono ?_
      rintro e w' ⟨rfl, rfl⟩
      go_wp2_with fail
      refine (abs_is b y HB.out g0 g1 _).mono ?_
      rintro e w' ⟨rfl, rfl⟩
      go_wp2_with fail
      refine (product_is x y hi lo hx hy HH.out HL.out _).mono ?_
      rintro e w' ⟨rfl, rfl⟩
      go_wp2_with fail
      refine (signed_is _ _ H W q true HH2.out HW.out bW HQ.out _).mono ?_
      rintro e w' ⟨rfl, rfl⟩
      go_wp2
      go_ret
      exact ⟨ret_int HF.out.symm, rfl⟩

end Go.Proofs.YtdchcnggjamifaaDoor.Ref01
