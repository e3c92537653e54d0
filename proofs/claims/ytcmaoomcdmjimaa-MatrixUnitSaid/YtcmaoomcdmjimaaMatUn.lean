/-
  MatrixUnit: the plain facts.
-/
import Derived.Test.YtcmaoomcdmjimaaMatLw
namespace Go.Proofs.Ytcmaoomcdmjimaa.MatrixUnit
open Go.RowKit Go.Proofs.Ytcmaoomcdmjimaa Go.Proofs.Ytcmaoomcdmjimaa.NumPure Go.Proofs.Ytcmaoomcdmjimaa.MatPure Go.Proofs.Ytcmaoomcdmjimaa.Mat

theorem dvr_one (x : Int) : dvr (x * 65536) 65536 = x := by
  have hf : (x * 65536).fdiv 65536 = x := by rw [Int.fdiv_eq_ediv_of_nonneg _ (by omega)]; omega
  have hu : up (x * 65536) 65536 = false := by
    unfold up
    simp [hf]
    omega
  unfold dvr
  rw [if_neg (by omega), if_neg (by omega), hu, hf]
  rfl
theorem lim_lim (x : Int) : lim (lim x) = lim x := by unfold lim clp; omega
theorem same_at : sameM 0 = 65536 ∧ sameM 1 = 0 ∧ sameM 2 = 0 ∧ sameM 3 = 0 ∧ sameM 4 = 65536 ∧ sameM 5 = 0 ∧ sameM 6 = 0 ∧ sameM 7 = 0 ∧ sameM 8 = 65536 := by decide
theorem same_ok : okM sameM = true := by decide +kernel
theorem inv_same (n : Nat) (hn : n < 9) : invM sameM n = sameM n := (by decide +kernel : ∀ n, n < 9 → invM sameM n = sameM n) n hn
theorem inv_same_x : invX sameM = 0 := by decide +kernel
def limV (v : Nat → Int) : Nat → Int := fun n => lim (v n)
theorem app_same (v : Nat → Int) (n : Nat) (hn : n < 3) : appM sameM (limV v) n = limV v n := by
  obtain ⟨a0, a1, a2, a3, a4, a5, a6, a7, a8⟩ := same_at
  unfold appM
  rw [same_ok]
  simp only [if_true, limV, app9, lim_lim]
  obtain rfl | rfl | rfl : n = 0 ∨ n = 1 ∨ n = 2 := by omega
  all_goals simp only [Nat.reduceMul, Nat.reduceAdd, a0, a1, a2, a3, a4, a5, a6, a7, a8, Int.zero_mul, Int.add_zero, Int.zero_add]
  all_goals rw [Int.mul_comm, dvr_one]
theorem mul_same (m : Nat → Int) (hm : okM m = true) (n : Nat) (hn : n < 9) : mulM m sameM n = m n ∧ mulM sameM m n = m n := by
  obtain ⟨a0, a1, a2, a3, a4, a5, a6, a7, a8⟩ := same_at
  unfold mulM
  rw [same_ok, hm]
  simp only [Bool.and_self, if_true, mul9]
  have hn9 : n = 0 ∨ n = 1 ∨ n = 2 ∨ n = 3 ∨ n = 4 ∨ n = 5 ∨ n = 6 ∨ n = 7 ∨ n = 8 := by omega
  rcases hn9 with rfl | rfl | rfl | rfl | rfl | rfl | rfl | rfl | rfl
  all_goals simp only [Nat.reduceMul, Nat.reduceAdd, Nat.reduceMod, Nat.reduceDiv, a0, a1, a2, a3, a4, a5, a6, a7, a8, Int.zero_mul, Int.mul_zero, Int.add_zero, Int.zero_add]
  all_goals exact ⟨dvr_one _, by rw [Int.mul_comm]; exact dvr_one _⟩
theorem mul_bad (m : Nat → Int) (hm : okM m = false) (n : Nat) : mulM m sameM n = li [] n ∧ mulM sameM m n = li [] n := by
  unfold mulM
  rw [same_ok, hm]
  exact ⟨rfl, rfl⟩

end Go.Proofs.Ytcmaoomcdmjimaa.MatrixUnit
