/-
  The reference of layer 8: one element of an inverse.
-/
import Derived.Test.YtcmaoomcdmjimaaRMatE
namespace Go.Proofs.Ytcmaoomcdmjimaa.Mat
open Go.RowKit Go.Proofs.Ytcmaoomcdmjimaa Go.Proofs.Ytcmaoomcdmjimaa.NumPure Go.Proofs.Ytcmaoomcdmjimaa.MatPure

theorem long_step (x y k : Nat) (hy : 0 < y) : (2 * (x * 2 ^ k % y) < y ∧ x * 2 ^ (k + 1) / y = x * 2 ^ k / y * 2 ∧ x * 2 ^ (k + 1) % y = x * 2 ^ k % y * 2) ∨
    (y ≤ 2 * (x * 2 ^ k % y) ∧ x * 2 ^ (k + 1) / y = x * 2 ^ k / y * 2 + 1 ∧ x * 2 ^ (k + 1) % y = x * 2 ^ k % y * 2 - y) := by
  have h1 := Nat.div_add_mod (x * 2 ^ k) y
  have h2 := Nat.mod_lt (x * 2 ^ k) hy
  have e : x * 2 ^ (k + 1) = x * 2 ^ k * 2 := by rw [Nat.pow_succ, Nat.mul_assoc]
  rw [e]
  generalize x * 2 ^ k = a at *
  generalize hq : a / y = q at *
  generalize hr : a % y = r at *
  have ey : y * (q * 2) = y * q * 2 := by rw [Nat.mul_assoc]
  by_cases h : 2 * r < y
  · refine .inl ⟨h, ?_, ?_⟩
    · rw [Nat.div_eq_of_lt_le (k := q * 2)]
      · rw [Nat.mul_comm]; omega
      · rw [Nat.add_mul, Nat.one_mul, Nat.mul_comm (q * 2) y]; omega
    · have h4 : (a * 2) % y = r * 2 := by
        have e2 : a * 2 = r * 2 + y * (q * 2) := by omega
        rw [e2, Nat.add_mul_mod_self_left, Nat.mod_eq_of_lt (by omega)]
      exact h4
  · refine .inr ⟨by omega, ?_, ?_⟩
    · have e2 : a * 2 = (r * 2 - y) + y * (q * 2 + 1) := by rw [Nat.mul_add, Nat.mul_one]; omega
      rw [e2, Nat.add_mul_div_left _ _ hy, Nat.div_eq_of_lt (by omega), Nat.zero_add]
    · have e2 : a * 2 = (r * 2 - y) + y * (q * 2 + 1) := by rw [Nat.mul_add, Nat.mul_one]; omega
      rw [e2, Nat.add_mul_mod_self_left, Nat.mod_eq_of_lt (by omega)]

def elB (neg : Bool) (x y : Nat) : Bool := decide (rnd neg (x * 2 ^ 32) y ≤ 1048576)
def elZ (neg : Bool) (x y : Nat) : Int := if rnd neg (x * 2 ^ 32) y ≤ 1048576 then (bif neg then -(rnd neg (x * 2 ^ 32) y : Int) else (rnd neg (x * 2 ^ 32) y : Int)) else 0
def elV (neg : Bool) (x y : Nat) : Value := .tuple #[.int .i64 (elZ neg x y), .bool (elB neg x y)]
theorem el_no {neg : Bool} {x y : Nat} (h : 1048576 < rnd neg (x * 2 ^ 32) y) : elV neg x y = .tuple #[.int .i64 0, .bool false] := by
  unfold elV elZ elB
  rw [if_neg (by omega), show decide (rnd neg (x * 2 ^ 32) y ≤ 1048576) = false by simp; omega]
theorem el_yes {neg : Bool} {x y q : Nat} (hq : rnd neg (x * 2 ^ 32) y = q) (h : q ≤ 1048576) : elV neg x y = .tuple #[.int .i64 (bif neg then -(q : Int) else (q : Int)), .bool true] := by
  unfold elV elZ elB
  rw [hq, if_pos h, show decide (q ≤ 1048576) = true by simp; omega]
theorem el_big {neg : Bool} {x y k : Nat} (hk : k ≤ 32) (h : 2097152 < x * 2 ^ k / y) : elV neg x y = .tuple #[.int .i64 0, .bool false] := by
  apply el_no
  have h1 := (Num.rnd_ge neg (x * 2 ^ 32) y).1
  have h2 : x * 2 ^ k / y ≤ x * 2 ^ 32 / y := Nat.div_le_div_right (Nat.mul_le_mul_left _ (Nat.pow_le_pow_right (by omega) hk))
  omega

set_option maxHeartbeats 4000000 in
set_option maxRecDepth 100000 in
theorem element_any (n d : Int) (hn0 : -2199023255552 ≤ n) (hn1 : n ≤ 2199023255552) (hd0 : -6917529027641081856 ≤ d) (hd1 : d ≤ 6917529027641081856) (hd : d ≠ 0) (w : World) :
    Calls Try.prog 32 #[.int .i64 n, .int .i64 d] w fun e w' => e = .returned (elV (decide (n < 0) != decide (d < 0)) n.natAbs d.natAbs) ∧ w = w' := by
  obtain ⟨x, hx⟩ : ∃ x, n.natAbs = x := ⟨_, rfl⟩
  obtain ⟨y, hy⟩ : ∃ y, d.natAbs = y := ⟨_, rfl⟩
  have hy0 : 0 < y := by omega
  have hyl : y ≤ 6917529027641081856 := by omega
  have hxl : x ≤ 2199023255552 := by omega
  have hty : ((y : Int) == 0) = false := by simp; omega
  have h0 : x * 2 ^ 0 / y = x / y ∧ x * 2 ^ 0 % y = x % y := by rw [Nat.pow_zero, Nat.mul_one]; exact ⟨rfl, rfl⟩
  have hqx : x / y ≤ 2199023255552 := Nat.le_trans (Nat.div_le_self _ _) hxl
  have hrx : x % y < y := Nat.mod_lt _ hy0
  rw [hx, hy]
  have hcase : (decide (n < 0) = true ∧ decide (d < 0) = true ∧ n < 0 ∧ d < 0 ∧ -n = (x : Int) ∧ -d = (y : Int) ∧ (decide (n < 0) != decide (d < 0)) = false) ∨ (decide (n < 0) = true ∧ decide (d < 0) = false ∧ n < 0 ∧ 0 ≤ d ∧ -n = (x : Int) ∧ d = (y : Int) ∧ (decide (n < 0) != decide (d < 0)) = true) ∨
      (decide (n < 0) = false ∧ decide (d < 0) = true ∧ 0 ≤ n ∧ d < 0 ∧ n = (x : Int) ∧ -d = (y : Int) ∧ (decide (n < 0) != decide (d < 0)) = true) ∨ (decide (n < 0) = false ∧ decide (d < 0) = false ∧ 0 ≤ n ∧ 0 ≤ d ∧ n = (x : Int) ∧ d = (y : Int) ∧ (decide (n < 0) != decide (d < 0)) = false) := by
    by_cases a : n < 0 <;> by_cases b : d < 0
    · exact .inl ⟨by simp [a], by simp [b], a, b, by omega, by omega, by simp [a, b]⟩
    · exact .inr (.inl ⟨by simp [a], by simp [b], a, by omega, by omega, by omega, by simp [a, b]⟩)
    · exact .inr (.inr (.inl ⟨by simp [a], by simp [b], by omega, b, by omega, by omega, by simp [a, b]⟩))
    · exact .inr (.inr (.inr ⟨by simp [a], by simp [b], by omega, by omega, by omega, by omega, by simp [a, b]⟩))
  clear hx hy hd
  obtain ⟨q0, hq0⟩ : ∃ q, x / y = q := ⟨_, rfl⟩
  obtain ⟨r0, hr0⟩ : ∃ r, x % y = r := ⟨_, rfl⟩
  have f0 : IntKind.u64.wrap ((x : Int) / (y : Int)) = (q0 : Int) := by rw [Num.quo_wrap x y (by omega), hq0]
  have f1 : (x : Int) % (y : Int) = (r0 : Int) := by rw [← hr0]; rfl
  rw [hq0] at h0 hqx
  rw [hr0] at h0
  have H0 := Lib.hid h0
  clear hq0 hr0 h0 hrx
  rcases hcase with ⟨s1, s2, s3, s4, e1, e2, s5⟩ | ⟨s1, s2, s3, s4, e1, e2, s5⟩ | ⟨s1, s2, s3, s4, e1, e2, s5⟩ | ⟨s1, s2, s3, s4, e1, e2, s5⟩
  · rw [s5]
    clear s5
    go_enter Try.func32, Try.ntmps32
    go_wp2_with fail
    have f0' := f0
    have f1' := f1
    clear s1 s2 s3 s4 e1 e2 f0 f1
    go_loop [9, 10, 11] (fun v9 v10 v11 => ∃ k q r : Nat, k ≤ 32 ∧ v11 = .int .i64 k ∧ v9 = .int .u64 q ∧ v10 = .int .u64 r ∧ x * 2 ^ k / y = q ∧ x * 2 ^ k % y = r ∧ q ≤ 2199023255552) (fun _ _ v11 => 32 - (intOf v11).toNat)
    case atStart => exact ⟨0, q0, r0, by omega, rfl, rfl, by rw [f1'], H0.out.1, H0.out.2, hqx⟩
    case round =>
      obtain ⟨k, q, r, hk, rfl, rfl, rfl, hq, hr, hql⟩ := hrel
      have hrl : r < y := by rw [← hr]; exact Nat.mod_lt _ hy0
      have HQ := Lib.hid hq
      have HR := Lib.hid hr
      clear hq hr
      by_cases hbig : 2097152 < q
      · have HB : Hid (elV false x y = .tuple #[.int .i64 0, .bool false]) := Lib.hid (el_big hk (by rw [HQ.out]; exact hbig))
        by_cases hlt : k < 32
        all_goals
          go_wp2_with fail
          go_ret2
          exact ⟨by rw [HB.out]; rfl, rfl⟩
      · by_cases hlt : k < 32
        · rcases long_step x y k hy0 with ⟨h1, h2, h3⟩ | ⟨h1, h2, h3⟩
          · rw [HR.out] at h1 h3
            rw [HQ.out] at h2
            have H2 := Lib.hid h2
            have H3 := Lib.hid h3
            clear h2 h3
            go_wp2_with fail
            go_round
            case rel => exact ⟨k + 1, q * 2, r * 2, by omega, by go_num, by go_num, by go_num, H2.out, H3.out, by omega⟩
            case measure => simp [intOf]; omega
          · rw [HR.out] at h1 h3
            rw [HQ.out] at h2
            have H2 := Lib.hid h2
            have H3 := Lib.hid h3
            clear h2 h3
            go_wp2_with fail
            go_round
            case rel => exact ⟨k + 1, q * 2 + 1, r * 2 - y, by omega, by go_num, by go_num, by simp; omega, H2.out, H3.out, by omega⟩
            case measure => simp [intOf]; omega
        · have hk2 : k = 32 := by omega
          have hq3 : x * 2 ^ 32 / y = q := by rw [← hk2]; exact HQ.out
          have hr3 : x * 2 ^ 32 % y = r := by rw [← hk2]; exact HR.out
          clear HQ HR hk2
          obtain ⟨q2, hq2⟩ : ∃ q2, rnd false (x * 2 ^ 32) y = q2 := ⟨_, rfl⟩
          have hup : (decide ((y : Int) ≤ 2 * (r : Int)) = true ∧ q2 = q + 1) ∨ (decide ((y : Int) ≤ 2 * (r : Int)) = false ∧ q2 = q) := by
            rw [← hq2]
            unfold rnd
            rw [hq3, hr3]
            by_cases hu : y ≤ 2 * r
            · exact .inl ⟨by simp; omega, if_pos (by simp; omega)⟩
            · exact .inr ⟨by simp; omega, if_neg (by simp; omega)⟩
          have HQ2 := Lib.hid hq2
          clear hq2 hq3 hr3
          by_cases hb2 : 1048576 < q2
          · have HB : Hid (elV false x y = .tuple #[.int .i64 0, .bool false]) := Lib.hid (el_no (by rw [HQ2.out]; exact hb2))
            clear HQ2
            rcases hup with ⟨t1, rfl⟩ | ⟨t1, rfl⟩
            · have hb3 : (1048576 : Int) < (q : Int) + 1 := by omega
              clear hb2
              go_wp2_with fail
              go_ret2
              exact ⟨by rw [HB.out]; rfl, rfl⟩
            · have hb3 : (1048576 : Int) < (q2 : Int) := by omega
              clear hb2
              go_wp2_with fail
              go_ret2
              exact ⟨by rw [HB.out]; rfl, rfl⟩
          · have HB : Hid (elV false x y = .tuple #[.int .i64 ((q2 : Int)), .bool true]) := Lib.hid (el_yes HQ2.out (by omega))
            clear HQ2
            rcases hup with ⟨t1, e5⟩ | ⟨t1, rfl⟩
            · have e6 : (q : Int) + 1 = (q2 : Int) := by omega
              have hb3 : (q2 : Int) ≤ 1048576 := by omega
              clear hb2 e5
              go_wp2_with fail
              go_ret2
              exact ⟨by rw [HB.out]; go_num, rfl⟩
            · have hb3 : (q2 : Int) ≤ 1048576 := by omega
              clear hb2
              go_wp2_with fail
              go_ret2
              exact ⟨by rw [HB.out]; go_num, rfl⟩
  · rw [s5]
    clear s5
    go_enter Try.func32, Try.ntmps32
    go_wp2_with fail
    have f0' := f0
    have f1' := f1
    clear s1 s2 s3 s4 e1 e2 f0 f1
    go_loop [9, 10, 11] (fun v9 v10 v11 => ∃ k q r : Nat, k ≤ 32 ∧ v11 = .int .i64 k ∧ v9 = .int .u64 q ∧ v10 = .int .u64 r ∧ x * 2 ^ k / y = q ∧ x * 2 ^ k % y = r ∧ q ≤ 2199023255552) (fun _ _ v11 => 32 - (intOf v11).toNat)
    case atStart => exact ⟨0, q0, r0, by omega, rfl, rfl, by rw [f1'], H0.out.1, H0.out.2, hqx⟩
    case round =>
      obtain ⟨k, q, r, hk, rfl, rfl, rfl, hq, hr, hql⟩ := hrel
      have hrl : r < y := by rw [← hr]; exact Nat.mod_lt _ hy0
      have HQ := Lib.hid hq
      have HR := Lib.hid hr
      clear hq hr
      by_cases hbig : 2097152 < q
      · have HB : Hid (elV true x y = .tuple #[.int .i64 0, .bool false]) := Lib.hid (el_big hk (by rw [HQ.out]; exact hbig))
        by_cases hlt : k < 32
        all_goals
          go_wp2_with fail
          go_ret2
          exact ⟨by rw [HB.out]; rfl, rfl⟩
      · by_cases hlt : k < 32
        · rcases long_step x y k hy0 with ⟨h1, h2, h3⟩ | ⟨h1, h2, h3⟩
          · rw [HR.out] at h1 h3
            rw [HQ.out] at h2
            have H2 := Lib.hid h2
            have H3 := Lib.hid h3
            clear h2 h3
            go_wp2_with fail
            go_round
            case rel => exact ⟨k + 1, q * 2, r * 2, by omega, by go_num, by go_num, by go_num, H2.out, H3.out, by omega⟩
            case measure => simp [intOf]; omega
          · rw [HR.out] at h1 h3
            rw [HQ.out] at h2
            have H2 := Lib.hid h2
            have H3 := Lib.hid h3
            clear h2 h3
            go_wp2_with fail
            go_round
            case rel => exact ⟨k + 1, q * 2 + 1, r * 2 - y, by omega, by go_num, by go_num, by simp; omega, H2.out, H3.out, by omega⟩
            case measure => simp [intOf]; omega
        · have hk2 : k = 32 := by omega
          have hq3 : x * 2 ^ 32 / y = q := by rw [← hk2]; exact HQ.out
          have hr3 : x * 2 ^ 32 % y = r := by rw [← hk2]; exact HR.out
          clear HQ HR hk2
          obtain ⟨q2, hq2⟩ : ∃ q2, rnd true (x * 2 ^ 32) y = q2 := ⟨_, rfl⟩
          have hup : (decide ((y : Int) < 2 * (r : Int)) = true ∧ q2 = q + 1) ∨ (decide ((y : Int) < 2 * (r : Int)) = false ∧ q2 = q) := by
            rw [← hq2]
            unfold rnd
            rw [hq3, hr3]
            by_cases hu : y < 2 * r
            · exact .inl ⟨by simp; omega, if_pos (by simp; omega)⟩
            · exact .inr ⟨by simp; omega, if_neg (by simp; omega)⟩
          have HQ2 := Lib.hid hq2
          clear hq2 hq3 hr3
          by_cases hb2 : 1048576 < q2
          · have HB : Hid (elV true x y = .tuple #[.int .i64 0, .bool false]) := Lib.hid (el_no (by rw [HQ2.out]; exact hb2))
            clear HQ2
            rcases hup with ⟨t1, rfl⟩ | ⟨t1, rfl⟩
            · have hb3 : (1048576 : Int) < (q : Int) + 1 := by omega
              clear hb2
              go_wp2_with fail
              go_ret2
              exact ⟨by rw [HB.out]; rfl, rfl⟩
            · have hb3 : (1048576 : Int) < (q2 : Int) := by omega
              clear hb2
              go_wp2_with fail
              go_ret2
              exact ⟨by rw [HB.out]; rfl, rfl⟩
          · have HB : Hid (elV true x y = .tuple #[.int .i64 (-(q2 : Int)), .bool true]) := Lib.hid (el_yes HQ2.out (by omega))
            clear HQ2
            rcases hup with ⟨t1, e5⟩ | ⟨t1, rfl⟩
            · have e6 : (q : Int) + 1 = (q2 : Int) := by omega
              have hb3 : (q2 : Int) ≤ 1048576 := by omega
              clear hb2 e5
              go_wp2_with fail
              go_ret2
              exact ⟨by rw [HB.out]; go_num, rfl⟩
            · have hb3 : (q2 : Int) ≤ 1048576 := by omega
              clear hb2
              go_wp2_with fail
              go_ret2
              exact ⟨by rw [HB.out]; go_num, rfl⟩
  · rw [s5]
    clear s5
    go_enter Try.func32, Try.ntmps32
    go_wp2_with fail
    have f0' := f0
    have f1' := f1
    clear s1 s2 s3 s4 e1 e2 f0 f1
    go_loop [9, 10, 11] (fun v9 v10 v11 => ∃ k q r : Nat, k ≤ 32 ∧ v11 = .int .i64 k ∧ v9 = .int .u64 q ∧ v10 = .int .u64 r ∧ x * 2 ^ k / y = q ∧ x * 2 ^ k % y = r ∧ q ≤ 2199023255552) (fun _ _ v11 => 32 - (intOf v11).toNat)
    case atStart => exact ⟨0, q0, r0, by omega, rfl, rfl, by rw [f1'], H0.out.1, H0.out.2, hqx⟩
    case round =>
      obtain ⟨k, q, r, hk, rfl, rfl, rfl, hq, hr, hql⟩ := hrel
      have hrl : r < y := by rw [← hr]; exact Nat.mod_lt _ hy0
      have HQ := Lib.hid hq
      have HR := Lib.hid hr
      clear hq hr
      by_cases hbig : 2097152 < q
      · have HB : Hid (elV true x y = .tuple #[.int .i64 0, .bool false]) := Lib.hid (el_big hk (by rw [HQ.out]; exact hbig))
        by_cases hlt : k < 32
        all_goals
          go_wp2_with fail
          go_ret2
          exact ⟨by rw [HB.out]; rfl, rfl⟩
      · by_cases hlt : k < 32
        · rcases long_step x y k hy0 with ⟨h1, h2, h3⟩ | ⟨h1, h2, h3⟩
          · rw [HR.out] at h1 h3
            rw [HQ.out] at h2
            have H2 := Lib.hid h2
            have H3 := Lib.hid h3
            clear h2 h3
            go_wp2_with fail
            go_round
            case rel => exact ⟨k + 1, q * 2, r * 2, by omega, by go_num, by go_num, by go_num, H2.out, H3.out, by omega⟩
            case measure => simp [intOf]; omega
          · rw [HR.out] at h1 h3
            rw [HQ.out] at h2
            have H2 := Lib.hid h2
            have H3 := Lib.hid h3
            clear h2 h3
            go_wp2_with fail
            go_round
            case rel => exact ⟨k + 1, q * 2 + 1, r * 2 - y, by omega, by go_num, by go_num, by simp; omega, H2.out, H3.out, by omega⟩
            case measure => simp [intOf]; omega
        · have hk2 : k = 32 := by omega
          have hq3 : x * 2 ^ 32 / y = q := by rw [← hk2]; exact HQ.out
          have hr3 : x * 2 ^ 32 % y = r := by rw [← hk2]; exact HR.out
          clear HQ HR hk2
          obtain ⟨q2, hq2⟩ : ∃ q2, rnd true (x * 2 ^ 32) y = q2 := ⟨_, rfl⟩
          have hup : (decide ((y : Int) < 2 * (r : Int)) = true ∧ q2 = q + 1) ∨ (decide ((y : Int) < 2 * (r : Int)) = false ∧ q2 = q) := by
            rw [← hq2]
            unfold rnd
            rw [hq3, hr3]
            by_cases hu : y < 2 * r
            · exact .inl ⟨by simp; omega, if_pos (by simp; omega)⟩
            · exact .inr ⟨by simp; omega, if_neg (by simp; omega)⟩
          have HQ2 := Lib.hid hq2
          clear hq2 hq3 hr3
          by_cases hb2 : 1048576 < q2
          · have HB : Hid (elV true x y = .tuple #[.int .i64 0, .bool false]) := Lib.hid (el_no (by rw [HQ2.out]; exact hb2))
            clear HQ2
            rcases hup with ⟨t1, rfl⟩ | ⟨t1, rfl⟩
            · have hb3 : (1048576 : Int) < (q : Int) + 1 := by omega
              clear hb2
              go_wp2_with fail
              go_ret2
              exact ⟨by rw [HB.out]; rfl, rfl⟩
            · have hb3 : (1048576 : Int) < (q2 : Int) := by omega
              clear hb2
              go_wp2_with fail
              go_ret2
              exact ⟨by rw [HB.out]; rfl, rfl⟩
          · have HB : Hid (elV true x y = .tuple #[.int .i64 (-(q2 : Int)), .bool true]) := Lib.hid (el_yes HQ2.out (by omega))
            clear HQ2
            rcases hup with ⟨t1, e5⟩ | ⟨t1, rfl⟩
            · have e6 : (q : Int) + 1 = (q2 : Int) := by omega
              have hb3 : (q2 : Int) ≤ 1048576 := by omega
              clear hb2 e5
              go_wp2_with fail
              go_ret2
              exact ⟨by rw [HB.out]; go_num, rfl⟩
            · have hb3 : (q2 : Int) ≤ 1048576 := by omega
              clear hb2
              go_wp2_with fail
              go_ret2
              exact ⟨by rw [HB.out]; go_num, rfl⟩
  · rw [s5]
    clear s5
    go_enter Try.func32, Try.ntmps32
    go_wp2_with fail
    have f0' := f0
    have f1' := f1
    clear s1 s2 s3 s4 e1 e2 f0 f1
    go_loop [9, 10, 11] (fun v9 v10 v11 => ∃ k q r : Nat, k ≤ 32 ∧ v11 = .int .i64 k ∧ v9 = .int .u64 q ∧ v10 = .int .u64 r ∧ x * 2 ^ k / y = q ∧ x * 2 ^ k % y = r ∧ q ≤ 2199023255552) (fun _ _ v11 => 32 - (intOf v11).toNat)
    case atStart => exact ⟨0, q0, r0, by omega, rfl, rfl, by rw [f1'], H0.out.1, H0.out.2, hqx⟩
    case round =>
      obtain ⟨k, q, r, hk, rfl, rfl, rfl, hq, hr, hql⟩ := hrel
      have hrl : r < y := by rw [← hr]; exact Nat.mod_lt _ hy0
      have HQ := Lib.hid hq
      have HR := Lib.hid hr
      clear hq hr
      by_cases hbig : 2097152 < q
      · have HB : Hid (elV false x y = .tuple #[.int .i64 0, .bool false]) := Lib.hid (el_big hk (by rw [HQ.out]; exact hbig))
        by_cases hlt : k < 32
        all_goals
          go_wp2_with fail
          go_ret2
          exact ⟨by rw [HB.out]; rfl, rfl⟩
      · by_cases hlt : k < 32
        · rcases long_step x y k hy0 with ⟨h1, h2, h3⟩ | ⟨h1, h2, h3⟩
          · rw [HR.out] at h1 h3
            rw [HQ.out] at h2
            have H2 := Lib.hid h2
            have H3 := Lib.hid h3
            clear h2 h3
            go_wp2_with fail
            go_round
            case rel => exact ⟨k + 1, q * 2, r * 2, by omega, by go_num, by go_num, by go_num, H2.out, H3.out, by omega⟩
            case measure => simp [intOf]; omega
          · rw [HR.out] at h1 h3
            rw [HQ.out] at h2
            have H2 := Lib.hid h2
            have H3 := Lib.hid h3
            clear h2 h3
            go_wp2_with fail
            go_round
            case rel => exact ⟨k + 1, q * 2 + 1, r * 2 - y, by omega, by go_num, by go_num, by simp; omega, H2.out, H3.out, by omega⟩
            case measure => simp [intOf]; omega
        · have hk2 : k = 32 := by omega
          have hq3 : x * 2 ^ 32 / y = q := by rw [← hk2]; exact HQ.out
          have hr3 : x * 2 ^ 32 % y = r := by rw [← hk2]; exact HR.out
          clear HQ HR hk2
          obtain ⟨q2, hq2⟩ : ∃ q2, rnd false (x * 2 ^ 32) y = q2 := ⟨_, rfl⟩
          have hup : (decide ((y : Int) ≤ 2 * (r : Int)) = true ∧ q2 = q + 1) ∨ (decide ((y : Int) ≤ 2 * (r : Int)) = false ∧ q2 = q) := by
            rw [← hq2]
            unfold rnd
            rw [hq3, hr3]
            by_cases hu : y ≤ 2 * r
            · exact .inl ⟨by simp; omega, if_pos (by simp; omega)⟩
            · exact .inr ⟨by simp; omega, if_neg (by simp; omega)⟩
          have HQ2 := Lib.hid hq2
          clear hq2 hq3 hr3
          by_cases hb2 : 1048576 < q2
          · have HB : Hid (elV false x y = .tuple #[.int .i64 0, .bool false]) := Lib.hid (el_no (by rw [HQ2.out]; exact hb2))
            clear HQ2
            rcases hup with ⟨t1, rfl⟩ | ⟨t1, rfl⟩
            · have hb3 : (1048576 : Int) < (q : Int) + 1 := by omega
              clear hb2
              go_wp2_with fail
              go_ret2
              exact ⟨by rw [HB.out]; rfl, rfl⟩
            · have hb3 : (1048576 : Int) < (q2 : Int) := by omega
              clear hb2
              go_wp2_with fail
              go_ret2
              exact ⟨by rw [HB.out]; rfl, rfl⟩
          · have HB : Hid (elV false x y = .tuple #[.int .i64 ((q2 : Int)), .bool true]) := Lib.hid (el_yes HQ2.out (by omega))
            clear HQ2
            rcases hup with ⟨t1, e5⟩ | ⟨t1, rfl⟩
            · have e6 : (q : Int) + 1 = (q2 : Int) := by omega
              have hb3 : (q2 : Int) ≤ 1048576 := by omega
              clear hb2 e5
              go_wp2_with fail
              go_ret2
              exact ⟨by rw [HB.out]; go_num, rfl⟩
            · have hb3 : (q2 : Int) ≤ 1048576 := by omega
              clear hb2
              go_wp2_with fail
              go_ret2
              exact ⟨by rw [HB.out]; go_num, rfl⟩

end Go.Proofs.Ytcmaoomcdmjimaa.Mat
