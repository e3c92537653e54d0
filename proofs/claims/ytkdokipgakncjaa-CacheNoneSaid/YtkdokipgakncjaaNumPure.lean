/-
  The plain side of package num: quotients rounded down and to the nearest, limits, fixed-point products and quotients, roots. No program in sight.
-/
import Derived.WalkKit
namespace Go.Proofs.Ytkdokipgakncjaa.NumPure

theorem fdiv_pos {a b : Int} (hb : 0 < b) : b * a.fdiv b ≤ a ∧ a < b * a.fdiv b + b := by
  rw [Int.fdiv_eq_ediv_of_nonneg _ (Int.le_of_lt hb)]
  have h1 := Int.mul_ediv_add_emod a b
  have h2 := Int.emod_nonneg a (Int.ne_of_gt hb)
  have h3 := Int.emod_lt_of_pos a hb
  constructor <;> omega
theorem fdiv_neg {a b : Int} (hb : b < 0) : a ≤ b * a.fdiv b ∧ b * a.fdiv b + b < a := by
  have h := fdiv_pos (a := -a) (b := -b) (by omega)
  rw [Int.neg_fdiv_neg, Int.neg_mul] at h
  constructor <;> omega
theorem fdiv_pos_unique {a b q : Int} (hb : 0 < b) (h1 : b * q ≤ a) (h2 : a < b * q + b) : a.fdiv b = q := by
  rw [Int.fdiv_eq_ediv_of_nonneg _ (Int.le_of_lt hb)]
  exact ((Int.ediv_emod_unique hb (r := a - b * q)).2 ⟨by omega, by omega, by omega⟩).1
theorem fdiv_neg_unique {a b q : Int} (hb : b < 0) (h1 : a ≤ b * q) (h2 : b * q + b < a) : a.fdiv b = q := by
  rw [← Int.neg_fdiv_neg]
  apply fdiv_pos_unique (by omega) <;> rw [Int.neg_mul] <;> omega

/-- What Go's quotient and remainder are. -/
theorem t_parts (a b : Int) : b * a.tdiv b + a.tmod b = a := Int.mul_tdiv_add_tmod a b
theorem tmod_pos {a b : Int} (ha : 0 ≤ a) (hb : b ≠ 0) : 0 ≤ a.tmod b ∧ (a.tmod b < b ∨ a.tmod b < -b) := by
  refine ⟨Int.tmod_nonneg b ha, ?_⟩
  rcases Int.lt_or_gt_of_ne hb with h | h
  · right
    have := Int.tmod_lt_of_pos a (b := -b) (by omega)
    rwa [Int.tmod_neg] at this
  · left
    exact Int.tmod_lt_of_pos a h
theorem tmod_neg {a b : Int} (ha : a ≤ 0) (hb : b ≠ 0) : a.tmod b ≤ 0 ∧ (-b < a.tmod b ∨ b < a.tmod b) := by
  have h := tmod_pos (a := -a) (b := b) (by omega) hb
  rw [Int.neg_tmod] at h
  omega

/-- The quotient rounded down, out of Go's quotient and remainder. -/
theorem floor_of (a b : Int) (hb : b ≠ 0) : a.fdiv b = if a.tmod b ≠ 0 ∧ (decide (a < 0) ≠ decide (b < 0)) then a.tdiv b - 1 else a.tdiv b := by
  have h := t_parts a b
  have e : b * (a.tdiv b - 1) = b * a.tdiv b - b := by rw [Int.mul_sub, Int.mul_one]
  rcases Int.lt_or_gt_of_ne hb with hb' | hb'
  · apply fdiv_neg_unique hb'
    · split
      · rename_i hc
        rw [e]
        by_cases ha : a < 0
        · simp [ha, hb'] at hc
        · have := tmod_pos (a := a) (b := b) (by omega) hb
          omega
      · rename_i hc
        by_cases ha : a < 0
        · have := tmod_neg (a := a) (b := b) (by omega) hb
          omega
        · simp [ha, hb'] at hc
          omega
    · split
      · rename_i hc
        rw [e]
        by_cases ha : a < 0
        · simp [ha, hb'] at hc
        · have := tmod_pos (a := a) (b := b) (by omega) hb
          omega
      · rename_i hc
        by_cases ha : a < 0
        · have := tmod_neg (a := a) (b := b) (by omega) hb
          omega
        · simp [ha, hb'] at hc
          omega
  · have hb2 : ¬ b < 0 := by omega
    apply fdiv_pos_unique hb'
    · split
      · rename_i hc
        rw [e]
        by_cases ha : a < 0
        · have := tmod_neg (a := a) (b := b) (by omega) hb
          omega
        · simp [ha, hb2] at hc
      · rename_i hc
        by_cases ha : a < 0
        · simp [ha, hb2] at hc
          omega
        · have := tmod_pos (a := a) (b := b) (by omega) hb
          omega
    · split
      · rename_i hc
        rw [e]
        by_cases ha : a < 0
        · have := tmod_neg (a := a) (b := b) (by omega) hb
          omega
        · simp [ha, hb2] at hc
      · rename_i hc
        by_cases ha : a < 0
        · simp [ha, hb2] at hc
          omega
        · have := tmod_pos (a := a) (b := b) (by omega) hb
          omega

/-- A quotient of two numbers of 64 bits is one, but for the least one by -1. -/
theorem tdiv_in {a b : Int} (h0 : -9223372036854775808 ≤ a) (h1 : a ≤ 9223372036854775807) (hx : ¬ (a = -9223372036854775808 ∧ b = -1)) : -9223372036854775808 ≤ a.tdiv b ∧ a.tdiv b ≤ 9223372036854775807 := by
  have h := Int.natAbs_tdiv_le_natAbs a b
  by_cases e : a = -9223372036854775808
  · subst e
    by_cases hb : b.natAbs ≤ 1
    · have : b = 0 ∨ b = 1 := by omega
      rcases this with rfl | rfl
      · simp
      · simp
    · have h2 : (Int.tdiv (-9223372036854775808) b).natAbs = 9223372036854775808 / b.natAbs := Int.natAbs_tdiv _ _
      have h3 : 9223372036854775808 / b.natAbs ≤ 9223372036854775808 / 2 := Nat.div_le_div_left (by omega) (by omega)
      omega
  · omega

def flr (a b : Int) : Int := if b = 0 then 0 else if a = -9223372036854775808 ∧ b = -1 then 9223372036854775807 else a.fdiv b

/-- Half up. -/
def up (a b : Int) : Bool := decide (0 < b ∧ b - (a - b * a.fdiv b) ≤ a - b * a.fdiv b ∨ b < 0 ∧ a - b * a.fdiv b ≤ b - (a - b * a.fdiv b))
def dvr (a b : Int) : Int := if b = 0 then 0 else if a = -9223372036854775808 ∧ b = -1 then 9223372036854775807 else if up a b then a.fdiv b + 1 else a.fdiv b

theorem tdiv_half {a b : Int} (h0 : -9223372036854775808 ≤ a) (h1 : a ≤ 9223372036854775807) (hb : 2 ≤ b.natAbs) : -4611686018427387904 ≤ a.tdiv b ∧ a.tdiv b ≤ 4611686018427387904 := by
  have h2 : (Int.tdiv a b).natAbs = a.natAbs / b.natAbs := Int.natAbs_tdiv _ _
  have h3 : a.natAbs / b.natAbs ≤ a.natAbs / 2 := Nat.div_le_div_left hb (by omega)
  omega
theorem tmod_one {a b : Int} (hb : b.natAbs = 1) : a.tmod b = 0 := by
  have : b = 1 ∨ b = -1 := by omega
  rcases this with rfl | rfl
  · exact Int.tmod_one a
  · rw [Int.tmod_neg]; exact Int.tmod_one a

theorem fdiv_in {a b : Int} (h0 : -9223372036854775808 ≤ a) (h1 : a ≤ 9223372036854775807) (hb : b ≠ 0) (hx : ¬ (a = -9223372036854775808 ∧ b = -1)) : -9223372036854775808 ≤ a.fdiv b ∧ a.fdiv b ≤ 9223372036854775807 := by
  rw [floor_of a b hb]
  have hq := tdiv_in h0 h1 hx
  split
  · rename_i hc
    by_cases h2 : 2 ≤ b.natAbs
    · have := tdiv_half h0 h1 h2
      omega
    · exact absurd (tmod_one (a := a) (b := b) (by omega)) hc.1
  · exact hq

theorem up_in {a b : Int} (h0 : -9223372036854775808 ≤ a) (h1 : a ≤ 9223372036854775807) (hb : b ≠ 0) (hu : up a b = true) : -9223372036854775808 ≤ a.fdiv b ∧ a.fdiv b + 1 ≤ 9223372036854775807 := by
  by_cases h2 : 2 ≤ b.natAbs
  · have := tdiv_half h0 h1 h2
    rw [floor_of a b hb]
    split <;> omega
  · exfalso
    have e : a.tmod b = 0 := tmod_one (by omega)
    have h3 := t_parts a b
    have h4 : a.fdiv b = a.tdiv b := by rw [floor_of a b hb, if_neg (by simp [e])]
    simp only [up, h4, decide_eq_true_eq] at hu
    omega

theorem flr_zero (a : Int) : flr a 0 = 0 := by simp [flr]
theorem flr_over : flr (-9223372036854775808) (-1) = 9223372036854775807 := by simp [flr]
theorem flr_of {a b : Int} (hb : b ≠ 0) (hx : ¬ (a = -9223372036854775808 ∧ b = -1)) : flr a b = a.fdiv b := by rw [flr, if_neg hb, if_neg hx]
theorem flr_in {a b : Int} (h0 : -9223372036854775808 ≤ a) (h1 : a ≤ 9223372036854775807) : -9223372036854775808 ≤ flr a b ∧ flr a b ≤ 9223372036854775807 := by
  unfold flr
  split
  · omega
  · split
    · omega
    · exact fdiv_in h0 h1 ‹_› ‹_›
theorem flr_down {a b : Int} (hb : b ≠ 0) (hx : ¬ (a = -9223372036854775808 ∧ b = -1)) (hm : a.tmod b ≠ 0) (hs : decide (a < 0) ≠ decide (b < 0)) : flr a b = a.tdiv b - 1 := by
  rw [flr_of hb hx, floor_of a b hb, if_pos ⟨hm, hs⟩]
theorem flr_keep {a b : Int} (hb : b ≠ 0) (hx : ¬ (a = -9223372036854775808 ∧ b = -1)) (h : ¬ (a.tmod b ≠ 0 ∧ decide (a < 0) ≠ decide (b < 0))) : flr a b = a.tdiv b := by
  rw [flr_of hb hx, floor_of a b hb, if_neg h]

theorem dvr_zero (a : Int) : dvr a 0 = 0 := by simp [dvr]
theorem dvr_over : dvr (-9223372036854775808) (-1) = 9223372036854775807 := by simp [dvr]
theorem dvr_up {a b : Int} (hb : b ≠ 0) (hx : ¬ (a = -9223372036854775808 ∧ b = -1)) (h : up a b = true) : dvr a b = flr a b + 1 := by
  rw [flr_of hb hx, dvr, if_neg hb, if_neg hx, if_pos h]
theorem dvr_down {a b : Int} (hb : b ≠ 0) (hx : ¬ (a = -9223372036854775808 ∧ b = -1)) (h : up a b = false) : dvr a b = flr a b := by
  rw [flr_of hb hx, dvr, if_neg hb, if_neg hx, h]; rfl
theorem dvr_in {a b : Int} (h0 : -9223372036854775808 ≤ a) (h1 : a ≤ 9223372036854775807) : -9223372036854775808 ≤ dvr a b ∧ dvr a b ≤ 9223372036854775807 := by
  unfold dvr
  split
  · omega
  · split
    · omega
    · split
      · have := up_in h0 h1 ‹_› ‹_›
        omega
      · exact fdiv_in h0 h1 ‹_› ‹_›

def clp (x lo hi : Int) : Int := min hi (max x lo)
def unt (x : Int) : Int := clp x 0 65535

theorem unt_in (x : Int) : 0 ≤ unt x ∧ unt x ≤ 65535 := by unfold unt clp; omega
theorem mul_bd {x y : Int} (x0 : 0 ≤ x) (x1 : x ≤ 65535) (y0 : 0 ≤ y) (y1 : y ≤ 65535) : 0 ≤ x * y ∧ x * y ≤ 4294836225 := by
  refine ⟨Int.mul_nonneg x0 y0, ?_⟩
  have := Int.mul_le_mul x1 y1 y0 (by omega)
  omega
theorem mul_bd2 {x u : Int} (x0 : -1099511627776 ≤ x) (x1 : x ≤ 1099511627776) (u0 : 0 ≤ u) (u1 : u ≤ 65535) : -72056494526300160 ≤ x * u ∧ x * u ≤ 72056494526300160 := by
  have h1 := Int.mul_le_mul_of_nonneg_right x1 u0
  have h2 := Int.mul_le_mul_of_nonneg_right x0 u0
  omega
def mulU (a b : Int) : Int := dvr (unt a * unt b) 65535
def quoU (a b : Int) : Int := min 65535 (dvr (unt a * 65535) (unt b))
def lerpU (a b t : Int) : Int := dvr (clp a (-1099511627776) 1099511627776 * (65535 - unt t) + clp b (-1099511627776) 1099511627776 * unt t) 65535

def sat (x : Int) : Int := max (-9223372036854775808) (min 9223372036854775807 x)
/-- The product of two fixed-point numbers: rounded to the nearest (halves up), saturated. -/
def fixU (a b : Int) : Int := sat ((a * b + 32768).fdiv 65536)

/-- A magnitude with a sign, saturated. -/
def sgn (neg : Bool) (q : Nat) : Int := bif neg then max (-9223372036854775808) (-(q : Int)) else min 9223372036854775807 (q : Int)

/-- A quotient of magnitudes, rounded to the nearest integer (halves up, as numbers with their sign). -/
def rnd (neg : Bool) (n d : Nat) : Nat := if (bif neg then decide (d - n % d < n % d) else decide (d - n % d ≤ n % d)) then n / d + 1 else n / d
/-- The quotient of two fixed-point numbers. -/
def ratU (a b : Int) : Int := if b = 0 then 0 else sgn (decide (a < 0) != decide (b < 0)) (rnd (decide (a < 0) != decide (b < 0)) (a.natAbs * 65536) b.natAbs)

/-- The root by bits, from the highest one. -/
def sqGo (n : Nat) : Nat → Nat → Nat
  | 0, r => r
  | m + 1, r => sqGo n m (if (r + 2 ^ m) * (r + 2 ^ m) ≤ n then r + 2 ^ m else r)

theorem sqGo_spec (n : Nat) : ∀ m r, r * r ≤ n → n < (r + 2 ^ m) * (r + 2 ^ m) → sqGo n m r * sqGo n m r ≤ n ∧ n < (sqGo n m r + 1) * (sqGo n m r + 1)
  | 0, r, h1, h2 => ⟨h1, h2⟩
  | m + 1, r, h1, h2 => by
    rw [sqGo]
    split
    · rename_i h
      refine sqGo_spec n m _ h ?_
      rw [Nat.pow_succ] at h2
      rwa [show r + 2 ^ m + 2 ^ m = r + 2 ^ m * 2 by omega]
    · rename_i h
      exact sqGo_spec n m _ h1 (by omega)

theorem sq_unique {n r s : Nat} (h1 : r * r ≤ n) (h2 : n < (r + 1) * (r + 1)) (h3 : s * s ≤ n) (h4 : n < (s + 1) * (s + 1)) : r = s := by
  rcases Nat.lt_trichotomy r s with h | h | h
  · have := Nat.mul_le_mul (show r + 1 ≤ s by omega) (show r + 1 ≤ s by omega)
    omega
  · exact h
  · have := Nat.mul_le_mul (show s + 1 ≤ r by omega) (show s + 1 ≤ r by omega)
    omega

end Go.Proofs.Ytkdokipgakncjaa.NumPure
