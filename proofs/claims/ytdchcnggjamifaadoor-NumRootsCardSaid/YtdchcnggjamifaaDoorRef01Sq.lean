/-
  The reference of layer 1: integer roots and lengths.
-/
import Derived.Test.YtdchcnggjamifaaDoorNumSq
import Derived.Test.YtdchcnggjamifaaDoorRef01Fx
namespace Go.Proofs.YtdchcnggjamifaaDoor.Ref01
open Go.RowKit Go.Proofs.YtdchcnggjamifaaDoor Go.Proofs.YtdchcnggjamifaaDoor.NumPure Go.Proofs.YtdchcnggjamifaaDoor.Num

theorem root_small {c n : Int} (h : c * c ≤ n) (hn : n ≤ 9223372036854775807) : c ≤ 3037000499 := by
  rcases Int.lt_or_le 3037000499 c with hc | hc
  · have := Int.mul_le_mul (show (3037000500 : Int) ≤ c by omega) (show (3037000500 : Int) ≤ c by omega) (by omega) (by omega)
    omega
  · exact hc

theorem sq_small {c : Int} (h : c ≤ 3037000499) (h0 : 0 ≤ c) : c * c ≤ 9223372030926249001 := by
  have := Int.mul_le_mul h h h0 (by omega)
  omega

set_option maxHeartbeats 1000000 in
theorem sqrt_any (n : Int) (h1 : n ≤ 9223372036854775807) (w : World) :
    Calls Tryd.prog 30 #[.int .i64 n] w fun e w' => e = .returned (.int .i64 (sqrtU n)) ∧ w = w' := by
  rcases Int.lt_or_le n 0 with hn | hn
  · have HF : Hid (sqrtU n = 0) := Lib.hid (by rw [sqrtU, if_pos hn])
    go_enter Tryd.func30, Tryd.ntmps30
    go_wp2
    go_ret
    exact ⟨ret_int HF.out.symm, rfl⟩
  obtain ⟨N, rfl⟩ := Int.eq_ofNat_of_zero_le hn
  have HF : Hid (sqrtU (N : Int) = sqGo N 32 0) := Lib.hid (by rw [sqrtU, if_neg (by omega)]; rfl)
  clear hn
  go_enter Tryd.func30, Tryd.ntmps30
  go_wp2
  go_loop [3, 4] (fun vr vb => ∃ m r : Nat, vr = .int .i64 (r : Int) ∧ vb = .int .i64 ((2 ^ m / 2 : Nat) : Int) ∧ m ≤ 32 ∧ r % 2 ^ m = 0 ∧ r + 2 ^ m ≤ 2 ^ 32 ∧ sqGo N 32 0 = sqGo N m r) (fun _ vb => (intOf vb).toNat)
  case atStart => exact ⟨32, 0, rfl, rfl, by omega, by simp, by simp, rfl⟩
  case round =>
    obtain ⟨m, r, rfl, rfl, hm, hr0, hr1, hgo⟩ := hrel
    by_cases hz : m = 0
    · subst hz
      have HG := Lib.hid hgo
      have hr2 : r < 4294967296 := by simp at hr1; omega
      clear hgo hr0 hr1
      have e0 : ((2 ^ 0 / 2 : Nat) : Int) = 0 := rfl
      rw [e0]
      clear e0
      go_wp2
      go_ret
      exact ⟨ret_int (by rw [HF.out, HG.out]; rfl), rfl⟩
    · obtain ⟨p, c, hp, hc, hcs, p0, p1, hp2, hc0, hr0', hc1, hr1', hyes, hno⟩ := bit_parts N 32 m r (by omega) hm hr0 hr1
      have hpow : (2 : Nat) ^ 32 = 4294967296 := by decide
      rw [hpow] at p1 hc1 hr1'
      have hcc : c * c ≤ 4294967295 * 4294967295 := Nat.mul_le_mul (by omega) (by omega)
      have hcz : (r : Int) + (p : Int) = (c : Int) := by omega
      rw [hp]
      have hcc2 : (c : Int) * (c : Int) ≤ 18446744065119617025 := by rw [← Int.natCast_mul]; omega
      have hcc3 : 0 ≤ (c : Int) * (c : Int) := by rw [← Int.natCast_mul]; omega
      have hbound : c < 4294967296 := by omega
      have HG := Lib.hid hgo
      have HP2 := Lib.hid hp2
      have HY := Lib.hid hyes
      have HN := Lib.hid hno
      have HC0 := Lib.hid hc0
      have HR0 := Lib.hid hr0'
      have HC1 := Lib.hid hc1
      have HR1 := Lib.hid hr1'
      clear hgo hp2 hyes hno hc0 hr0' hc1 hr1' hr0 hr1 hp hc hpow hcc hcs
      by_cases hle : c * c ≤ N
      · have hle2 : (c : Int) * (c : Int) ≤ (N : Int) := by rw [← Int.natCast_mul]; omega
        have hbig : (c : Int) ≤ 3037000499 := root_small hle2 h1
        have hcc5 := sq_small hbig (by omega)
        have HLE := Lib.hid hle
        clear hle
        go_wp2
        go_round
        case rel => exact ⟨m - 1, c, rfl, by rw [← HP2.out]; go_num, by omega, HC0.out, HC1.out, by rw [HG.out, HY.out HLE.out]⟩
        case measure => simp [intOf]; omega
      · have hle2 : (N : Int) < (c : Int) * (c : Int) := by rw [← Int.natCast_mul]; omega
        have HLE := Lib.hid hle
        clear hle
        by_cases hbig : (c : Int) ≤ 3037000499
        · have hcc5 := sq_small hbig (by omega)
          go_wp2
          go_round
          case rel => exact ⟨m - 1, r, rfl, by rw [← HP2.out]; go_num, by omega, HR0.out, HR1.out, by rw [HG.out, HN.out HLE.out]⟩
          case measure => simp [intOf]; omega
        · go_wp2
          go_round
          case rel => exact ⟨m - 1, r, rfl, by rw [← HP2.out]; go_num, by omega, HR0.out, HR1.out, by rw [HG.out, HN.out HLE.out]⟩
          case measure => simp [intOf]; omega

set_option maxHeartbeats 2000000 in
theorem hypot_any (a b : Int) (h0 : -9223372036854775808 ≤ a) (h1 : a ≤ 9223372036854775807) (g0 : -9223372036854775808 ≤ b) (g1 : b ≤ 9223372036854775807) (w : World) :
    Calls Tryd.prog 32 #[.int .i64 a, .int .i64 b] w fun e w' => e = .returned (.int .i64 (hypU a b)) ∧ w = w' := by
  obtain ⟨x, ha⟩ : ∃ x, a.natAbs = x := ⟨_, rfl⟩
  obtain ⟨y, hb⟩ : ∃ y, b.natAbs = y := ⟨_, rfl⟩
  have hx' : x ≤ 9223372036854775808 := by omega
  have hy' : y ≤ 9223372036854775808 := by omega
  have hx : x < 18446744073709551616 := by omega
  have hy : y < 18446744073709551616 := by omega
  have hxx := Nat.mul_le_mul hx' hx'
  have hyy := Nat.mul_le_mul hy' hy'
  obtain ⟨hi1, hh1⟩ : ∃ n, x * x / 18446744073709551616 = n := ⟨_, rfl⟩
  obtain ⟨lo1, hl1⟩ : ∃ n, x * x % 18446744073709551616 = n := ⟨_, rfl⟩
  obtain ⟨hi2, hh2⟩ : ∃ n, y * y / 18446744073709551616 = n := ⟨_, rfl⟩
  obtain ⟨lo2, hl2⟩ : ∃ n, y * y % 18446744073709551616 = n := ⟨_, rfl⟩
  obtain ⟨c, lo, hsum, bl, hc⟩ : ∃ c L : Nat, (lo1 : Int) + lo2 = c * 18446744073709551616 + L ∧ L < 18446744073709551616 ∧ c ≤ 1 := ⟨(lo1 + lo2) / 18446744073709551616, (lo1 + lo2) % 18446744073709551616, by omega, by omega, by omega⟩
  obtain ⟨hi, hhi⟩ : ∃ n, hi1 + hi2 + c = n := ⟨_, rfl⟩
  obtain ⟨s, hs⟩ : ∃ s, x * x + y * y = s := ⟨_, rfl⟩
  have hs2 : s = hi * 18446744073709551616 + lo := by omega
  have hadd1 : IntKind.u64.wrap ((lo1 : Int) + lo2) = lo := by rw [IntKind.wrap_u64]; omega
  have bh1 : hi1 ≤ 4611686018427387904 := by omega
  have bh2 : hi2 ≤ 4611686018427387904 := by omega
  have hcar : (decide (lo < lo1) = true ∧ (hi1 : Int) + hi2 + 1 = hi) ∨ (decide (lo < lo1) = false ∧ (hi1 : Int) + hi2 = hi) := by simp only [decide_eq_true_eq, decide_eq_false_iff_not]; omega
  have HF : Hid (hypU a b = min 9223372036854775807 ((sqGo s 64 0 : Nat) : Int)) := Lib.hid (by rw [hypU, ha, hb, hs])
  have HA := Lib.hid ha
  have HB := Lib.hid hb
  have HH1 := Lib.hid hh1
  have HL1 := Lib.hid hl1
  have HH2 := Lib.hid hh2
  have HL2 := Lib.hid hl2
  have HS := Lib.hid hs2
  clear ha hb hx' hy' hxx hyy hh1 hl1 hh2 hl2 hsum hhi hs hs2
  rcases hcar with ⟨hcar, hcz⟩ | ⟨hcar, hcz⟩
  all_goals
    go_enter Tryd.func32, Tryd.ntmps32
    go_wp2_with fail
    refine (abs_is a x HA.out h0 h1 _).mono ?_
    rintro e w' ⟨rfl, rfl⟩
    go_wp2_with fail
    refine (abs_is a x HA.out h0 h1 _).mono ?_
    rintro e w' ⟨rfl, rfl⟩
    go_wp2_with fail
    refine (product_is x x hi1 lo1 hx hx HH1.out HL1.out _).mono ?_
    rintro e w' ⟨rfl, rfl⟩
    go_wp2_with fail
    refine (abs_is b y HB.out g0 g1 _).mono ?_
    rintro e w' ⟨rfl, rfl⟩
    go_wp2_with fail
    refine (abs_is b y HB.out g0 g1 _).mono ?_
    rintro e w' ⟨rfl, rfl⟩
    go_wp2_with fail
    refine (product_is y y hi2 lo2 hy hy HH2.out HL2.out _).mono ?_
    rintro e w' ⟨rfl, rfl⟩
    go_wp2_with fail
    go_loop [11, 12] (fun vr vb => ∃ m r : Nat, vr = .int .u64 (r : Int) ∧ vb = .int .u64 ((2 ^ m / 2 : Nat) : Int) ∧ m ≤ 64 ∧ r % 2 ^ m = 0 ∧ r + 2 ^ m ≤ 2 ^ 64 ∧ sqGo s 64 0 = sqGo s m r) (fun _ vb => (intOf vb).toNat)
    case atStart => exact ⟨64, 0, rfl, rfl, by omega, by simp, by simp, rfl⟩
    case round =>
      obtain ⟨m, r, rfl, rfl, hm, hr0, hr1, hgo⟩ := hrel
      clear hadd1
      by_cases hz : m = 0
      · subst hz
        have HG := Lib.hid hgo
        have hr2 : r < 18446744073709551616 := by simp at hr1; omega
        clear hgo hr0 hr1
        have e0 : ((2 ^ 0 / 2 : Nat) : Int) = 0 := rfl
        rw [e0]
        clear e0
        have HR : Hid (hypU a b = min 9223372036854775807 (r : Int)) := Lib.hid (by rw [HF.out, HG.out]; rfl)
        go_wp2_with fail
        refine (signed_is 0 r 0 r r false rfl rfl hr2 (by omega) _).mono ?_
        rintro e w' ⟨rfl, rfl⟩
        go_wp2
        go_ret
        exact ⟨ret_int HR.out.symm, rfl⟩
      · obtain ⟨p, c', hp, hc', hcs, p0, p1, hp2, hc0, hr0', hc1, hr1', hyes, hno⟩ := bit_parts s 64 m r (by omega) hm hr0 hr1
        have hpow : (2 : Nat) ^ 64 = 18446744073709551616 := by decide
        rw [hpow] at p1 hc1 hr1'
        have hor : bits .or .u64 (r : Int) (p : Int) = (c' : Int) := by rw [u64_or_nat _ _ (by omega) (by omega), hc']
        rw [hp]
        have hbound : c' < 18446744073709551616 := by omega
        obtain ⟨h, hh⟩ : ∃ n, c' * c' / 18446744073709551616 = n := ⟨_, rfl⟩
        obtain ⟨l, hl⟩ : ∃ n, c' * c' % 18446744073709551616 = n := ⟨_, rfl⟩
        have hcmp := two_le HS.out bl hh hl
        have HH := Lib.hid hh
        have HL := Lib.hid hl
        have HG := Lib.hid hgo
        have HP2 := Lib.hid hp2
        have HY := Lib.hid hyes
        have HN := Lib.hid hno
        have HC0 := Lib.hid hc0
        have HR0 := Lib.hid hr0'
        have HC1 := Lib.hid hc1
        have HR1 := Lib.hid hr1'
        clear hgo hp2 hyes hno hc0 hr0' hc1 hr1' hr0 hr1 hp hc' hcs hpow hh hl
        rcases hcmp with ⟨hle, hq | ⟨t1, hq0, hq⟩⟩ | ⟨hle, hq0, t1 | ⟨t1, hq⟩⟩
        · have HLE := Lib.hid hle
          clear hle
          go_wp2_with fail
          refine (product_is c' c' h l hbound hbound HH.out HL.out _).mono ?_
          rintro e w' ⟨rfl, rfl⟩
          go_wp2
          go_round
          case rel => exact ⟨m - 1, c', rfl, by rw [← HP2.out]; go_num, by omega, HC0.out, HC1.out, by rw [HG.out, HY.out HLE.out]⟩
          case measure => simp [intOf]; omega
        · have HLE := Lib.hid hle
          clear hle
          go_wp2_with fail
          refine (product_is c' c' h l hbound hbound HH.out HL.out _).mono ?_
          rintro e w' ⟨rfl, rfl⟩
          go_wp2
          go_round
          case rel => exact ⟨m - 1, c', rfl, by rw [← HP2.out]; go_num, by omega, HC0.out, HC1.out, by rw [HG.out, HY.out HLE.out]⟩
          case measure => simp [intOf]; omega
        · have HLE := Lib.hid hle
          clear hle
          go_wp2_with fail
          refine (product_is c' c' h l hbound hbound HH.out HL.out _).mono ?_
          rintro e w' ⟨rfl, rfl⟩
          go_wp2
          go_round
          case rel => exact ⟨m - 1, r, rfl, by rw [← HP2.out]; go_num, by omega, HR0.out, HR1.out, by rw [HG.out, HN.out HLE.out]⟩
          case measure => simp [intOf]; omega
        · have HLE := Lib.hid hle
          clear hle
          go_wp2_with fail
          refine (product_is c' c' h l hbound hbound HH.out HL.out _).mono ?_
          rintro e w' ⟨rfl, rfl⟩
          go_wp2
          go_round
          case rel => exact ⟨m - 1, r, rfl, by rw [← HP2.out]; go_num, by omega, HR0.out, HR1.out, by rw [HG.out, HN.out HLE.out]⟩
          case measure => simp [intOf]; omega

end Go.Proofs.YtdchcnggjamifaaDoor.Ref01
