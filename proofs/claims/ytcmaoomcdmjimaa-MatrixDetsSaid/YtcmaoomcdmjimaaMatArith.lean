/-
  Arithmetic behind package matrix: determinants, cofactors, and an inverse that was rounded. No program in sight.
-/
import Derived.Test.YtcmaoomcdmjimaaNumInv
namespace Go.Proofs.Ytcmaoomcdmjimaa.MatPure
open Go.Proofs.Ytcmaoomcdmjimaa.NumPure

theorem ring_det (a b c d e f g h i : Int) : a * (e * i - f * h) + b * (f * g - d * i) + c * (d * h - e * g) = a * (e * i - h * f) + d * (h * c - b * i) + g * (b * f - e * c) := by grind

/-- |x y| = |x| |y|, with bounds. -/
theorem abs_mul_le {x y m : Int} (h0 : -m ≤ x) (h1 : x ≤ m) (hm : 0 ≤ m) (a : Int) (ha : -a ≤ y) (ha1 : y ≤ a) (ha0 : 0 ≤ a) : -(m * a) ≤ x * y ∧ x * y ≤ m * a := by
  have h2 : x.natAbs ≤ m.natAbs := by omega
  have h3 : y.natAbs ≤ a.natAbs := by omega
  have h4 := Nat.mul_le_mul h2 h3
  rw [← Int.natAbs_mul, ← Int.natAbs_mul] at h4
  have h5 : 0 ≤ m * a := Int.mul_nonneg hm ha0
  omega

/-- Three rounded quotients t over the same divisor d, of the numbers c times 2^32: what their products with three numbers sum to. -/
theorem back_sum (d t0 t1 t2 c0 c1 c2 m0 m1 m2 D K : Int) (hd : d ≠ 0)
    (h0 : 2 * (t0 * d - c0 * K) ≤ (d.natAbs : Int)) (h0' : -(d.natAbs : Int) ≤ 2 * (t0 * d - c0 * K))
    (h1 : 2 * (t1 * d - c1 * K) ≤ (d.natAbs : Int)) (h1' : -(d.natAbs : Int) ≤ 2 * (t1 * d - c1 * K))
    (h2 : 2 * (t2 * d - c2 * K) ≤ (d.natAbs : Int)) (h2' : -(d.natAbs : Int) ≤ 2 * (t2 * d - c2 * K))
    (hs : c0 * m0 + c1 * m1 + c2 * m2 = d * D) :
    2 * (t0 * m0 + t1 * m1 + t2 * m2 - D * K) ≤ (m0.natAbs + m1.natAbs + m2.natAbs : Nat) ∧ -((m0.natAbs + m1.natAbs + m2.natAbs : Nat) : Int) ≤ 2 * (t0 * m0 + t1 * m1 + t2 * m2 - D * K) := by
  obtain ⟨e0, he0⟩ : ∃ e, e = t0 * d - c0 * K := ⟨_, rfl⟩
  obtain ⟨e1, he1⟩ : ∃ e, e = t1 * d - c1 * K := ⟨_, rfl⟩
  obtain ⟨e2, he2⟩ : ∃ e, e = t2 * d - c2 * K := ⟨_, rfl⟩
  rw [← he0] at h0 h0'
  rw [← he1] at h1 h1'
  rw [← he2] at h2 h2'
  obtain ⟨S, hS⟩ : ∃ S, S = t0 * m0 + t1 * m1 + t2 * m2 - D * K := ⟨_, rfl⟩
  rw [← hS]
  have key : d * S = e0 * m0 + e1 * m1 + e2 * m2 := by
    have e : d * (D * K) = (c0 * m0 + c1 * m1 + c2 * m2) * K := by rw [hs, Int.mul_assoc]
    grind
  have hn : ∀ e m : Int, 2 * e ≤ (d.natAbs : Int) → -(d.natAbs : Int) ≤ 2 * e → 2 * (e * m).natAbs ≤ d.natAbs * m.natAbs := by
    intro e m u v
    rw [Int.natAbs_mul, ← Nat.mul_assoc]
    exact Nat.mul_le_mul_right _ (by omega)
  have n0 := hn e0 m0 h0 h0'
  have n1 := hn e1 m1 h1 h1'
  have n2 := hn e2 m2 h2 h2'
  have hS2 : d.natAbs * (2 * S.natAbs) ≤ d.natAbs * (m0.natAbs + m1.natAbs + m2.natAbs) := by
    have ek : d.natAbs * S.natAbs = (d * S).natAbs := (Int.natAbs_mul d S).symm
    rw [Nat.mul_left_comm, ek, key, Nat.mul_add, Nat.mul_add]
    omega
  have hpos : 0 < d.natAbs := by omega
  have := Nat.le_of_mul_le_mul_left hS2 hpos
  omega

theorem rnd_spec (neg : Bool) (n d : Nat) (hd : 0 < d) : 2 * (rnd neg n d * d) ≤ 2 * n + d ∧ 2 * n ≤ 2 * (rnd neg n d * d) + d := by
  have h1 := Nat.div_add_mod n d
  have h2 := Nat.mod_lt n hd
  rw [Nat.mul_comm] at h1
  unfold rnd
  cases neg
  · simp only [cond_false, decide_eq_true_eq]
    split
    · rw [Nat.add_mul, Nat.one_mul]; omega
    · omega
  · simp only [cond_true, decide_eq_true_eq]
    split
    · rw [Nat.add_mul, Nat.one_mul]; omega
    · omega

/-- A quotient that was not saturated lies within half of the divisor. -/
theorem rat_near (a b : Int) (hb : b ≠ 0) (h0 : -9223372036854775808 < ratU a b) (h1 : ratU a b < 9223372036854775807) :
    2 * (ratU a b * b - a * 65536) ≤ (b.natAbs : Int) ∧ -(b.natAbs : Int) ≤ 2 * (ratU a b * b - a * 65536) := by
  have hs := rnd_spec (decide (a < 0) != decide (b < 0)) (a.natAbs * 65536) b.natAbs (by omega)
  unfold ratU at h0 h1 ⊢
  rw [if_neg hb] at h0 h1 ⊢
  generalize hq : rnd (decide (a < 0) != decide (b < 0)) (a.natAbs * 65536) b.natAbs = q at *
  cases hneg : (decide (a < 0) != decide (b < 0))
  · rw [hneg] at h0 h1
    simp only [sgn, cond_false] at h0 h1 ⊢
    rw [show min 9223372036854775807 (q : Int) = q by omega]
    by_cases hb0 : b < 0
    · have ha : a < 0 := by
        by_cases ha : a < 0
        · exact ha
        · simp [ha, hb0] at hneg
      have e : (q : Int) * b = -((q * b.natAbs : Nat) : Int) := by
        rw [Int.natCast_mul, ← Int.mul_neg]
        congr 1
        omega
      rw [e]
      omega
    · have ha : ¬ a < 0 := by
        intro ha
        simp [ha, hb0] at hneg
      have e : (q : Int) * b = ((q * b.natAbs : Nat) : Int) := by
        rw [Int.natCast_mul]
        congr 1
        omega
      rw [e]
      omega
  · rw [hneg] at h0 h1
    simp only [sgn, cond_true] at h0 h1 ⊢
    rw [show max (-9223372036854775808) (-(q : Int)) = -q by omega]
    by_cases hb0 : b < 0
    · have ha : ¬ a < 0 := by
        intro ha
        simp [ha, hb0] at hneg
      have e : -(q : Int) * b = ((q * b.natAbs : Nat) : Int) := by
        rw [Int.natCast_mul, Int.neg_mul, ← Int.mul_neg]
        congr 1
        omega
      rw [e]
      omega
    · have ha : a < 0 := by
        by_cases ha : a < 0
        · exact ha
        · simp [ha, hb0] at hneg
      have e : -(q : Int) * b = -((q * b.natAbs : Nat) : Int) := by
        rw [Int.natCast_mul, Int.neg_mul]
        congr 2
        omega
      rw [e]
      omega

end Go.Proofs.Ytcmaoomcdmjimaa.MatPure
