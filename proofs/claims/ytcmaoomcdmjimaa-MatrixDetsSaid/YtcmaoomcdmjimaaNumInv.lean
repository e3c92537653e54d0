/-
  Plain facts on quotients rounded to the nearest: a quotient undoes a product; a mixture lies between its ends. No program in sight.
-/
import Derived.Test.YtcmaoomcdmjimaaNumPure
namespace Go.Proofs.Ytcmaoomcdmjimaa.NumPure

theorem dvr_spec {v d : Int} (hd : 0 < d) : 2 * (d * dvr v d) ≤ 2 * v + d ∧ 2 * v + d < 2 * (d * dvr v d) + 2 * d := by
  have hf := fdiv_pos (a := v) hd
  by_cases hu : up v d = true
  · rw [dvr_up (by omega) (by omega) hu, flr_of (by omega) (by omega), Int.mul_add]
    simp only [up, decide_eq_true_eq] at hu
    constructor <;> omega
  · rw [dvr_down (by omega) (by omega) (by simpa using hu), flr_of (by omega) (by omega)]
    simp only [up, decide_eq_true_eq] at hu
    constructor <;> omega
theorem dvr_le {v d q : Int} (hd : 0 < d) (h : 2 * v + d < 2 * (d * q) + 2 * d) : dvr v d ≤ q := by
  have hs := dvr_spec (v := v) hd
  by_cases hq : dvr v d ≤ q
  · exact hq
  · have h1 : d * (q + 1) ≤ d * dvr v d := Int.mul_le_mul_of_nonneg_left (by omega) (by omega)
    rw [Int.mul_add] at h1
    omega
theorem dvr_ge {v d q : Int} (hd : 0 < d) (h : 2 * (d * q) ≤ 2 * v + d) : q ≤ dvr v d := by
  have hs := dvr_spec (v := v) hd
  by_cases hq : q ≤ dvr v d
  · exact hq
  · have h1 : d * (dvr v d + 1) ≤ d * q := Int.mul_le_mul_of_nonneg_left (by omega) (by omega)
    rw [Int.mul_add] at h1
    omega
theorem dvr_mul {q d : Int} (hd : 0 < d) : dvr (q * d) d = q := by
  have e : q * d = d * q := Int.mul_comm _ _
  have h1 := dvr_le (v := q * d) (q := q) hd (by omega)
  have h2 := dvr_ge (v := q * d) (q := q) hd (by omega)
  omega

theorem mulU_comm (a b : Int) : mulU a b = mulU b a := by unfold mulU; rw [Int.mul_comm]
theorem mulU_in (a b : Int) : 0 ≤ mulU a b ∧ mulU a b ≤ unt a ∧ mulU a b ≤ unt b := by
  have ha := unt_in a
  have hb := unt_in b
  have h1 := Int.mul_nonneg ha.1 hb.1
  have h2 : unt a * unt b ≤ unt a * 65535 := Int.mul_le_mul_of_nonneg_left hb.2 ha.1
  have h3 : unt a * unt b ≤ 65535 * unt b := Int.mul_le_mul_of_nonneg_right ha.2 hb.1
  unfold mulU
  refine ⟨dvr_ge (by omega) (by omega), dvr_le (by omega) (by omega), dvr_le (by omega) (by omega)⟩
theorem mulU_one (a : Int) : mulU a 65535 = unt a := by
  unfold mulU
  rw [show unt 65535 = 65535 by decide]
  exact dvr_mul (by omega)
theorem unt_of {x : Int} (h0 : 0 ≤ x) (h1 : x ≤ 65535) : unt x = x := by unfold unt clp; omega
theorem quo_near (a b : Int) (hb : 0 < unt b) : 2 * (unt b * (quoU (mulU a b) b - unt a)) ≤ 65535 + unt b ∧ 2 * (unt b * (unt a - quoU (mulU a b) b)) ≤ 65535 + unt b := by
  have hx := unt_in a
  have hy := unt_in b
  have hm := mulU_in a b
  have h1 := dvr_spec (v := unt a * unt b) (d := 65535) (by omega)
  have h2 := dvr_spec (v := mulU a b * 65535) (d := unt b) hb
  have e1 : quoU (mulU a b) b = min 65535 (dvr (mulU a b * 65535) (unt b)) := by
    unfold quoU
    rw [unt_of hm.1 (by omega)]
  have e2 : dvr (unt a * unt b) 65535 = mulU a b := rfl
  rw [e2] at h1
  rw [e1]
  obtain ⟨q, hq⟩ : ∃ q, dvr (mulU a b * 65535) (unt b) = q := ⟨_, rfl⟩
  rw [hq] at h2 ⊢
  clear e1 e2 hq
  generalize unt a = x at *
  generalize unt b = y at *
  generalize mulU a b = m at *
  have e3 : x * y = y * x := Int.mul_comm _ _
  rw [e3] at h1
  by_cases hc : q ≤ 65535
  · rw [show min 65535 q = q by omega, Int.mul_sub y q x, Int.mul_sub y x q]
    omega
  · have h4 : y * 65535 ≤ y * q := Int.mul_le_mul_of_nonneg_left (by omega) (by omega)
    rw [show min 65535 q = 65535 by omega, Int.mul_sub y 65535 x, Int.mul_sub y x 65535]
    have h5 : y * x ≤ y * 65535 := Int.mul_le_mul_of_nonneg_left hx.2 (by omega)
    omega
/-- What the law asks: the distance is at most 65535 / (2 y) + 1. -/
theorem quo_close (a b : Int) (hb : 0 < unt b) : quoU (mulU a b) b - unt a ≤ 65535 / (2 * unt b) + 1 ∧ unt a - quoU (mulU a b) b ≤ 65535 / (2 * unt b) + 1 := by
  have h := quo_near a b hb
  generalize quoU (mulU a b) b - unt a = d at *
  generalize unt a - quoU (mulU a b) b = f at *
  generalize unt b = y at *
  have hd : 65535 < (2 * y) * (65535 / (2 * y)) + 2 * y := by
    have h1 := Int.mul_ediv_add_emod 65535 (2 * y)
    have h2 := Int.emod_lt_of_pos 65535 (b := 2 * y) (by omega)
    omega
  generalize 65535 / (2 * y) = k at *
  have key : ∀ z : Int, 2 * (y * z) ≤ 65535 + y → z ≤ k + 1 := by
    intro z hz
    by_cases hc : z ≤ k + 1
    · exact hc
    · have h4 : y * (k + 2) ≤ y * z := Int.mul_le_mul_of_nonneg_left (by omega) (by omega)
      rw [Int.mul_add] at h4
      rw [Int.mul_assoc] at hd
      omega
  exact ⟨key d h.1, key f h.2⟩

theorem clp_of {x : Int} (h0 : -1099511627776 ≤ x) (h1 : x ≤ 1099511627776) : clp x (-1099511627776) 1099511627776 = x := by unfold clp; omega
theorem lerp_zero (a b : Int) (a0 : -1099511627776 ≤ a) (a1 : a ≤ 1099511627776) : lerpU a b 0 = a := by
  unfold lerpU
  rw [clp_of a0 a1, show unt 0 = 0 by decide, Int.mul_zero, Int.add_zero]
  exact dvr_mul (by omega)
theorem lerp_one (a b : Int) (b0 : -1099511627776 ≤ b) (b1 : b ≤ 1099511627776) : lerpU a b 65535 = b := by
  unfold lerpU
  rw [clp_of b0 b1, show unt 65535 = 65535 by decide, Int.sub_self, Int.mul_zero, Int.zero_add]
  exact dvr_mul (by omega)
theorem lerp_between (a b t : Int) (a0 : -1099511627776 ≤ a) (a1 : a ≤ 1099511627776) (b0 : -1099511627776 ≤ b) (b1 : b ≤ 1099511627776) : min a b ≤ lerpU a b t ∧ lerpU a b t ≤ max a b := by
  have hu := unt_in t
  unfold lerpU
  rw [clp_of a0 a1, clp_of b0 b1]
  generalize unt t = u at *
  have e : a * (65535 - u) = a * 65535 - a * u := Int.mul_sub _ _ _
  rw [e]
  have h1 : 0 ≤ u := hu.1
  by_cases hab : a ≤ b
  · have h2 : a * u ≤ b * u := Int.mul_le_mul_of_nonneg_right hab h1
    have h3 : a * (65535 - u) ≤ b * (65535 - u) := Int.mul_le_mul_of_nonneg_right hab (by omega)
    have e2 : b * (65535 - u) = b * 65535 - b * u := Int.mul_sub _ _ _
    rw [show min a b = a by omega, show max a b = b by omega]
    exact ⟨dvr_ge (by omega) (by omega), dvr_le (by omega) (by omega)⟩
  · have h2 : b * u ≤ a * u := Int.mul_le_mul_of_nonneg_right (by omega) h1
    have h3 : b * (65535 - u) ≤ a * (65535 - u) := Int.mul_le_mul_of_nonneg_right (by omega) (by omega)
    have e2 : b * (65535 - u) = b * 65535 - b * u := Int.mul_sub _ _ _
    rw [show min a b = b by omega, show max a b = a by omega]
    exact ⟨dvr_ge (by omega) (by omega), dvr_le (by omega) (by omega)⟩

end Go.Proofs.Ytcmaoomcdmjimaa.NumPure
