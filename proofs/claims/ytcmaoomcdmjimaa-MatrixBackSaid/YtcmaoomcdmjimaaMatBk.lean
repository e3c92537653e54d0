/-
  MatrixBack: the plain facts.
-/
import Derived.Test.YtcmaoomcdmjimaaMatLw
namespace Go.Proofs.Ytcmaoomcdmjimaa.MatrixBack
open Go.RowKit Go.Proofs.Ytcmaoomcdmjimaa Go.Proofs.Ytcmaoomcdmjimaa.NumPure Go.Proofs.Ytcmaoomcdmjimaa.MatPure Go.Proofs.Ytcmaoomcdmjimaa.Mat

/-- Cofactors of a column against a column: the determinant, or zero. -/
theorem cof_col (m : Nat → Int) (i j : Nat) (hi : i < 3) (hj : j < 3) :
    cof m 0 i * m (3 * 0 + j) + cof m 1 i * m (3 * 1 + j) + cof m 2 i * m (3 * 2 + j) = det9 m * (if i = j then 1 else 0) := by
  obtain rfl | rfl | rfl : i = 0 ∨ i = 1 ∨ i = 2 := by omega
  all_goals obtain rfl | rfl | rfl : j = 0 ∨ j = 1 ∨ j = 2 := by omega
  all_goals simp only [det9, esum, cof, Int.zero_add, Nat.reduceAdd, Nat.reduceMod, Nat.reduceMul, Nat.reduceEqDiff, if_true, if_false, Nat.zero_add, Nat.add_zero]
  all_goals grind

/-- A sum of the inverse's row against the matrix's column, and how near it lies to the identity's. -/
theorem back_any (m : Nat → Int) (hd : det9 m ≠ 0) (ho : okM (invE m) = true) (i j : Nat) (hi : i < 3) (hj : j < 3) :
    2 * (invE m (3 * i) * m j + invE m (3 * i + 1) * m (3 + j) + invE m (3 * i + 2) * m (6 + j) - (if i = j then 1 else 0) * 4294967296) ≤ ((m j).natAbs + (m (3 + j)).natAbs + (m (6 + j)).natAbs : Nat) ∧
    -(((m j).natAbs + (m (3 + j)).natAbs + (m (6 + j)).natAbs : Nat) : Int) ≤ 2 * (invE m (3 * i) * m j + invE m (3 * i + 1) * m (3 + j) + invE m (3 * i + 2) * m (6 + j) - (if i = j then 1 else 0) * 4294967296) := by
  have hk : ∀ k, k < 3 → invE m (3 * i + k) = ratU (cof m k i * 65536) (det9 m) := fun k h => by
    unfold invE
    rw [show (3 * i + k) % 3 = k by omega, show (3 * i + k) / 3 = i by omega]
  have near : ∀ k, k < 3 → 2 * (invE m (3 * i + k) * det9 m - cof m k i * 4294967296) ≤ ((det9 m).natAbs : Int) ∧ -((det9 m).natAbs : Int) ≤ 2 * (invE m (3 * i + k) * det9 m - cof m k i * 4294967296) := fun k h => by
    have hb := okM_iff.1 ho (3 * i + k) (by omega)
    rw [hk k h] at hb ⊢
    have := rat_near (cof m k i * 65536) (det9 m) hd (by omega) (by omega)
    rw [Int.mul_assoc] at this
    exact this
  have hs := cof_col m i j hi hj
  rw [show 3 * 0 + j = j by omega, show 3 * 1 + j = 3 + j by omega, show 3 * 2 + j = 6 + j by omega] at hs
  exact back_sum (det9 m) (invE m (3 * i)) (invE m (3 * i + 1)) (invE m (3 * i + 2)) _ _ _ _ _ _ _ 4294967296 hd (near 0 (by omega)).1 (near 0 (by omega)).2 (near 1 (by omega)).1 (near 1 (by omega)).2 (near 2 (by omega)).1 (near 2 (by omega)).2 hs

def asz (m : Nat → Int) (j : Nat) : Nat → Nat
  | 0 => 0
  | k + 1 => asz m j k + (m (3 * k + j)).natAbs
theorem asz_in (m : Nat → Int) (hm : okM m = true) (j : Nat) (hj : j < 3) : ∀ k : Nat, k ≤ 3 → asz m j k ≤ 1048576 * k
  | 0, _ => by simp [asz]
  | k + 1, hk => by
    have h := asz_in m hm j hj k (by omega)
    have h1 := okM_iff.1 hm (3 * k + j) (by omega)
    simp only [asz]
    omega
theorem back_sums (m : Nat → Int) (hd : det9 m ≠ 0) (ho : okM (invE m) = true) (i j : Nat) (hi : i < 3) (hj : j < 3) :
    2 * (psum (invE m) m i j 3 - (if i = j then 1 else 0) * 4294967296) ≤ (asz m j 3 : Nat) ∧ -((asz m j 3 : Nat) : Int) ≤ 2 * (psum (invE m) m i j 3 - (if i = j then 1 else 0) * 4294967296) := by
  have h := back_any m hd ho i j hi hj
  simp only [psum, asz, Nat.mul_zero, Nat.add_zero, Nat.zero_add, Int.zero_add, Nat.mul_one, show 3 * 2 = 6 from rfl]
  exact h
theorem _root_.Go.Proofs.Ytcmaoomcdmjimaa.Mat.Two.drewN {B g1 g2 : Nat} {w wr : World} {A1 A2 : Array Value} (h : Two B g1 g2 w A1 A2 wr) (n : Nat) : Two B g1 g2 w A1 A2 (wr.drewN n) :=
  ⟨h.1, h.2.1, below_drewN h.2.2.1 n, h.2.2.2⟩

end Go.Proofs.Ytcmaoomcdmjimaa.MatrixBack
