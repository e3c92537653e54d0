/-
  Package num and the reference of layer 1: integer roots.
-/
import Derived.Test.YtdchcnggjamifaaDoorNumFx
import Derived.LoopTactic
namespace Go.Proofs.YtdchcnggjamifaaDoor.Num
open Go.RowKit Go.Proofs.YtdchcnggjamifaaDoor Go.Proofs.YtdchcnggjamifaaDoor.NumPure

theorem or_pow (r k : Nat) (h : r % 2 ^ (k + 1) = 0) : r ||| 2 ^ k = r + 2 ^ k := by
  have e := Nat.two_pow_add_eq_or_of_lt (i := k + 1) (b := 2 ^ k) (Nat.pow_lt_pow_right (by omega) (by omega)) (r / 2 ^ (k + 1))
  have e2 : 2 ^ (k + 1) * (r / 2 ^ (k + 1)) = r := by
    have := Nat.div_add_mod r (2 ^ (k + 1))
    omega
  rw [e2] at e
  exact e.symm

/-- One more bit: what the walk of a round needs. -/
theorem bit_parts (n N m r : Nat) (hm : 0 < m) (hmN : m ≤ N) (h0 : r % 2 ^ m = 0) (hr : r + 2 ^ m ≤ 2 ^ N) :
    ∃ p c : Nat, 2 ^ m / 2 = p ∧ r ||| p = c ∧ c = r + p ∧ 0 < p ∧ r + 2 * p ≤ 2 ^ N ∧ p / 2 = 2 ^ (m - 1) / 2 ∧ c % 2 ^ (m - 1) = 0 ∧ r % 2 ^ (m - 1) = 0 ∧ c + 2 ^ (m - 1) ≤ 2 ^ N ∧ r + 2 ^ (m - 1) ≤ 2 ^ N ∧
      (c * c ≤ n → sqGo n m r = sqGo n (m - 1) c) ∧ (¬ c * c ≤ n → sqGo n m r = sqGo n (m - 1) r) := by
  obtain ⟨k, rfl⟩ : ∃ k, m = k + 1 := ⟨m - 1, by omega⟩
  have e2 : 2 ^ (k + 1) = 2 * 2 ^ k := by rw [Nat.pow_succ, Nat.mul_comm]
  have hpos : 0 < 2 ^ k := Nat.pow_pos (by omega)
  have hp : 2 ^ (k + 1) / 2 = 2 ^ k := by rw [e2]; omega
  have hd : r % 2 ^ k = 0 := by
    rw [e2] at h0
    exact Nat.mod_eq_zero_of_dvd (Nat.dvd_trans ⟨2, by rw [Nat.mul_comm]⟩ (Nat.dvd_of_mod_eq_zero h0))
  refine ⟨2 ^ k, r + 2 ^ k, hp, or_pow r k h0, rfl, hpos, by omega, by simp, by simp [hd], by simpa using hd, by simp; omega, by simp; omega, ?_, ?_⟩
  · intro h
    rw [sqGo, if_pos h]
    simp
  · intro h
    rw [sqGo, if_neg h]
    simp

def sqrtU (n : Int) : Int := if n < 0 then 0 else sqGo n.toNat 32 0

set_option maxHeartbeats 1000000 in
theorem sqrt_any (n : Int) (h1 : n ≤ 9223372036854775807) (w : World) :
    Calls Tryd.prog 29 #[.int .i64 n] w fun e w' => e = .returned (.int .i64 (sqrtU n)) ∧ w = w' := by
  rcases Int.lt_or_le n 0 with hn | hn
  · have HF : Hid (sqrtU n = 0) := Lib.hid (by rw [sqrtU, if_pos hn])
    go_enter Tryd.func29, Tryd.ntmps29
    go_wp2
    go_ret
    exact ⟨ret_int HF.out.symm, rfl⟩
  obtain ⟨N, rfl⟩ := Int.eq_ofNat_of_zero_le hn
  have HF : Hid (sqrtU (N : Int) = sqGo N 32 0) := Lib.hid (by rw [sqrtU, if_neg (by omega)]; rfl)
  clear hn
  go_enter Tryd.func29, Tryd.ntmps29
  go_wp2
  go_loop [3, 4] (fun vr vb => ∃ m r : Nat, vr = .int .u64 (r : Int) ∧ vb = .int .u64 ((2 ^ m / 2 : Nat) : Int) ∧ m ≤ 32 ∧ r % 2 ^ m = 0 ∧ r + 2 ^ m ≤ 2 ^ 32 ∧ sqGo N 32 0 = sqGo N m r) (fun _ vb => (intOf vb).toNat)
  case atStart => exact ⟨32, 0, rfl, rfl, by omega, by simp, by simp, rfl⟩
  case round =>
    obtain ⟨m, r, rfl, rfl, hm, hr0, hr1, hgo⟩ := hrel
    by_cases hz : m = 0
    · subst hz
      have HG := Lib.hid hgo
      have hr2 : r < 4294967296 := by simp at hr1; omega
      clear hgo hr0 hr1
      have e0 : ((2 ^ 0 / 2 : Nat) : Int) = 0 := rfl
      rw [e0]
      clear e0
      go_wp2
      go_ret
      exact ⟨ret_int (by rw [HF.out, HG.out]; rfl), rfl⟩
    · obtain ⟨p, c, hp, hc, hcs, p0, p1, hp2, hc0, hr0', hc1, hr1', hyes, hno⟩ := bit_parts N 32 m r (by omega) hm hr0 hr1
      have hpow : (2 : Nat) ^ 32 = 4294967296 := by decide
      rw [hpow] at p1 hc1 hr1'
      have hcc : c * c ≤ 4294967295 * 4294967295 := Nat.mul_le_mul (by omega) (by omega)
      have hor : bits .or .u64 (r : Int) (p : Int) = (c : Int) := by rw [u64_or_nat _ _ (by omega) (by omega), hc]
      rw [hp]
      have hcc2 : (c : Int) * (c : Int) ≤ 18446744065119617025 := by rw [← Int.natCast_mul]; omega
      have hcc3 : 0 ≤ (c : Int) * (c : Int) := by rw [← Int.natCast_mul]; omega
      have hpp : ((p : Int) != 0) = true := by simp; omega
      have hbound : c < 4294967296 := by omega
      have HG := Lib.hid hgo
      have HP2 := Lib.hid hp2
      have HY := Lib.hid hyes
      have HN := Lib.hid hno
      have HC0 := Lib.hid hc0
      have HR0 := Lib.hid hr0'
      have HC1 := Lib.hid hc1
      have HR1 := Lib.hid hr1'
      clear hgo hp2 hyes hno hc0 hr0' hc1 hr1' hr0 hr1 hp hc hcs hpow hcc
      by_cases hle : c * c ≤ N
      · have hle2 : (c : Int) * (c : Int) ≤ (N : Int) := by rw [← Int.natCast_mul]; omega
        have HLE := Lib.hid hle
        clear hle
        go_wp2
        go_round
        case rel => exact ⟨m - 1, c, rfl, by rw [← HP2.out]; go_num, by omega, HC0.out, HC1.out, by rw [HG.out, HY.out HLE.out]⟩
        case measure => simp [intOf]; omega
      · have hle2 : (N : Int) < (c : Int) * (c : Int) := by rw [← Int.natCast_mul]; omega
        have HLE := Lib.hid hle
        clear hle
        go_wp2
        go_round
        case rel => exact ⟨m - 1, r, rfl, by rw [← HP2.out]; go_num, by omega, HR0.out, HR1.out, by rw [HG.out, HN.out HLE.out]⟩
        case measure => simp [intOf]; omega

theorem add64_c (x y z : Int) (L c : Nat) (hx : 0 ≤ x) (hy : 0 ≤ y) (hz : 0 ≤ z) (hz1 : z ≤ 1) (h : x + y + z = c * 18446744073709551616 + L) (hL : L < 18446744073709551616) (w : World) :
    (callFunc 41 #[.int .u64 x, .int .u64 y, .int .u64 z]).run Tryd.prog w = .ok (.value (.tuple #[.int .u64 (L : Int), .int .u64 (c : Int)])) w := by
  rw [add64 x y z hx hy hz hz1]
  rw [show (x + y + z) % 18446744073709551616 = (L : Int) by omega, show (x + y + z) / 18446744073709551616 = (c : Int) by omega]

/-- The length of a vector: rounded down, saturated. -/
def hypU (x y : Int) : Int := min 9223372036854775807 ((sqGo (x.natAbs * x.natAbs + y.natAbs * y.natAbs) 64 0 : Nat) : Int)

/-- Two numbers of two words, compared. -/
theorem two_le {c s hi lo h l : Nat} (hs : s = hi * 18446744073709551616 + lo) (bl : lo < 18446744073709551616) (hh : c * c / 18446744073709551616 = h) (hl : c * c % 18446744073709551616 = l) :
    (c * c ≤ s ∧ (h < hi ∨ ((h : Int) == (hi : Int)) = true ∧ hi ≤ h ∧ l ≤ lo)) ∨ (¬ c * c ≤ s ∧ hi ≤ h ∧ (((h : Int) == (hi : Int)) = false ∨ ((h : Int) == (hi : Int)) = true ∧ lo < l)) := by
  by_cases hc : c * c ≤ s
  · left
    refine ⟨hc, ?_⟩
    by_cases h1 : h < hi
    · exact .inl h1
    · exact .inr ⟨by simp; omega, by omega, by omega⟩
  · right
    refine ⟨hc, by omega, ?_⟩
    by_cases h1 : h = hi
    · exact .inr ⟨by simp; omega, by omega⟩
    · exact .inl (by simp; omega)

set_option maxHeartbeats 2000000 in
theorem hypot_any (a b : Int) (h0 : -9223372036854775808 ≤ a) (h1 : a ≤ 9223372036854775807) (g0 : -9223372036854775808 ≤ b) (g1 : b ≤ 9223372036854775807) (w : World) :
    Calls Tryd.prog 31 #[.int .i64 a, .int .i64 b] w fun e w' => e = .returned (.int .i64 (hypU a b)) ∧ w = w' := by
  obtain ⟨x, ha⟩ : ∃ x, a.natAbs = x := ⟨_, rfl⟩
  obtain ⟨y, hb⟩ : ∃ y, b.natAbs = y := ⟨_, rfl⟩
  have hx' : x ≤ 9223372036854775808 := by omega
  have hy' : y ≤ 9223372036854775808 := by omega
  have hx : x < 18446744073709551616 := by omega
  have hy : y < 18446744073709551616 := by omega
  have hxx := Nat.mul_le_mul hx' hx'
  have hyy := Nat.mul_le_mul hy' hy'
  obtain ⟨hi1, hh1⟩ : ∃ n, x * x / 18446744073709551616 = n := ⟨_, rfl⟩
  obtain ⟨lo1, hl1⟩ : ∃ n, x * x % 18446744073709551616 = n := ⟨_, rfl⟩
  obtain ⟨hi2, hh2⟩ : ∃ n, y * y / 18446744073709551616 = n := ⟨_, rfl⟩
  obtain ⟨lo2, hl2⟩ : ∃ n, y * y % 18446744073709551616 = n := ⟨_, rfl⟩
  obtain ⟨c, lo, hsum, bl, hc⟩ : ∃ c L : Nat, (lo1 : Int) + lo2 = c * 18446744073709551616 + L ∧ L < 18446744073709551616 ∧ c ≤ 1 := ⟨(lo1 + lo2) / 18446744073709551616, (lo1 + lo2) % 18446744073709551616, by omega, by omega, by omega⟩
  obtain ⟨hi, hhi⟩ : ∃ n, hi1 + hi2 + c = n := ⟨_, rfl⟩
  obtain ⟨s, hs⟩ : ∃ s, x * x + y * y = s := ⟨_, rfl⟩
  have hs2 : s = hi * 18446744073709551616 + lo := by omega
  have hadd1 := add64_is lo1 lo2 lo c (by omega) (by omega) hsum bl
  have hadd2 := add64_c hi1 hi2 c hi 0 (by omega) (by omega) (by omega) (by omega) (by omega) (by omega)
  have HF : Hid (hypU a b = min 9223372036854775807 ((sqGo s 64 0 : Nat) : Int)) := Lib.hid (by rw [hypU, ha, hb, hs])
  have HA := Lib.hid ha
  have HB := Lib.hid hb
  have HH1 := Lib.hid hh1
  have HL1 := Lib.hid hl1
  have HH2 := Lib.hid hh2
  have HL2 := Lib.hid hl2
  have HS := Lib.hid hs2
  clear ha hb hx' hy' hxx hyy hh1 hl1 hh2 hl2 hsum hhi hs hs2
  go_enter Tryd.func31, Tryd.ntmps31
  go_wp2_with fail
  refine (mag_is a x HA.out h0 h1 _).mono ?_
  rintro e w' ⟨rfl, rfl⟩
  go_wp2_with fail
  refine (mag_is a x HA.out h0 h1 _).mono ?_
  rintro e w' ⟨rfl, rfl⟩
  go_wp2_with fail
  refine (mul64_is x x hi1 lo1 hx hx HH1.out HL1.out _).mono ?_
  rintro e w' ⟨rfl, rfl⟩
  go_wp2_with fail
  refine (mag_is b y HB.out g0 g1 _).mono ?_
  rintro e w' ⟨rfl, rfl⟩
  go_wp2_with fail
  refine (mag_is b y HB.out g0 g1 _).mono ?_
  rintro e w' ⟨rfl, rfl⟩
  go_wp2_with fail
  refine (mul64_is y y hi2 lo2 hy hy HH2.out HL2.out _).mono ?_
  rintro e w' ⟨rfl, rfl⟩
  go_wp2_with fail
  go_loop [10, 11] (fun vr vb => ∃ m r : Nat, vr = .int .u64 (r : Int) ∧ vb = .int .u64 ((2 ^ m / 2 : Nat) : Int) ∧ m ≤ 64 ∧ r % 2 ^ m = 0 ∧ r + 2 ^ m ≤ 2 ^ 64 ∧ sqGo s 64 0 = sqGo s m r) (fun _ vb => (intOf vb).toNat)
  case atStart => exact ⟨64, 0, rfl, rfl, by omega, by simp, by simp, rfl⟩
  case round =>
    obtain ⟨m, r, rfl, rfl, hm, hr0, hr1, hgo⟩ := hrel
    clear hadd1 hadd2
    by_cases hz : m = 0
    · subst hz
      have HG := Lib.hid hgo
      have hr2 : r < 18446744073709551616 := by simp at hr1; omega
      clear hgo hr0 hr1
      have e0 : ((2 ^ 0 / 2 : Nat) : Int) = 0 := rfl
      rw [e0]
      clear e0
      have HR : Hid (hypU a b = min 9223372036854775807 (r : Int)) := Lib.hid (by rw [HF.out, HG.out]; rfl)
      by_cases hbig : 9223372036854775807 < r
      · go_wp2
        go_ret
        exact ⟨ret_int (by rw [HR.out]; omega), rfl⟩
      · go_wp2
        go_ret
        exact ⟨ret_int (by rw [HR.out]; omega), rfl⟩
    · obtain ⟨p, c', hp, hc', hcs, p0, p1, hp2, hc0, hr0', hc1, hr1', hyes, hno⟩ := bit_parts s 64 m r (by omega) hm hr0 hr1
      have hpow : (2 : Nat) ^ 64 = 18446744073709551616 := by decide
      rw [hpow] at p1 hc1 hr1'
      have hor : bits .or .u64 (r : Int) (p : Int) = (c' : Int) := by rw [u64_or_nat _ _ (by omega) (by omega), hc']
      rw [hp]
      have hpp : ((p : Int) != 0) = true := by simp; omega
      have hbound : c' < 18446744073709551616 := by omega
      obtain ⟨h, hh⟩ : ∃ n, c' * c' / 18446744073709551616 = n := ⟨_, rfl⟩
      obtain ⟨l, hl⟩ : ∃ n, c' * c' % 18446744073709551616 = n := ⟨_, rfl⟩
      have hcmp := two_le HS.out bl hh hl
      have HH := Lib.hid hh
      have HL := Lib.hid hl
      have HG := Lib.hid hgo
      have HP2 := Lib.hid hp2
      have HY := Lib.hid hyes
      have HN := Lib.hid hno
      have HC0 := Lib.hid hc0
      have HR0 := Lib.hid hr0'
      have HC1 := Lib.hid hc1
      have HR1 := Lib.hid hr1'
      clear hgo hp2 hyes hno hc0 hr0' hc1 hr1' hr0 hr1 hp hc' hcs hpow hh hl
      rcases hcmp with ⟨hle, hq | ⟨t1, hq0, hq⟩⟩ | ⟨hle, hq0, t1 | ⟨t1, hq⟩⟩
      · have HLE := Lib.hid hle
        clear hle
        go_wp2_with fail
        refine (mul64_is c' c' h l hbound hbound HH.out HL.out _).mono ?_
        rintro e w' ⟨rfl, rfl⟩
        go_wp2
        go_round
        case rel => exact ⟨m - 1, c', rfl, by rw [← HP2.out]; go_num, by omega, HC0.out, HC1.out, by rw [HG.out, HY.out HLE.out]⟩
        case measure => simp [intOf]; omega
      · have HLE := Lib.hid hle
        clear hle
        go_wp2_with fail
        refine (mul64_is c' c' h l hbound hbound HH.out HL.out _).mono ?_
        rintro e w' ⟨rfl, rfl⟩
        go_wp2
        go_round
        case rel => exact ⟨m - 1, c', rfl, by rw [← HP2.out]; go_num, by omega, HC0.out, HC1.out, by rw [HG.out, HY.out HLE.out]⟩
        case measure => simp [intOf]; omega
      · have HLE := Lib.hid hle
        clear hle
        go_wp2_with fail
        refine (mul64_is c' c' h l hbound hbound HH.out HL.out _).mono ?_
        rintro e w' ⟨rfl, rfl⟩
        go_wp2
        go_round
        case rel => exact ⟨m - 1, r, rfl, by rw [← HP2.out]; go_num, by omega, HR0.out, HR1.out, by rw [HG.out, HN.out HLE.out]⟩
        case measure => simp [intOf]; omega
      · have HLE := Lib.hid hle
        clear hle
        go_wp2_with fail
        refine (mul64_is c' c' h l hbound hbound HH.out HL.out _).mono ?_
        rintro e w' ⟨rfl, rfl⟩
        go_wp2
        go_round
        case rel => exact ⟨m - 1, r, rfl, by rw [← HP2.out]; go_num, by omega, HR0.out, HR1.out, by rw [HG.out, HN.out HLE.out]⟩
        case measure => simp [intOf]; omega

end Go.Proofs.YtdchcnggjamifaaDoor.Num
