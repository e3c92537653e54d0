/-
  MatrixDets: the plain facts: determinants of products of whole matrices.
-/
import Derived.Test.YtcmaoomcdmjimaaMatLw
namespace Go.Proofs.Ytcmaoomcdmjimaa.MatrixDets
open Go.RowKit Go.Proofs.Ytcmaoomcdmjimaa Go.Proofs.Ytcmaoomcdmjimaa.NumPure Go.Proofs.Ytcmaoomcdmjimaa.MatPure Go.Proofs.Ytcmaoomcdmjimaa.Mat

def tm (a : Nat → Int) (n : Nat) : Int := (a n).tmod 3
def small (c : Int) (x : Nat → Int) : Prop := ∀ n, n < 9 → -c ≤ x n ∧ x n ≤ c
theorem tm_in (a : Nat → Int) (n : Nat) : -2 ≤ tm a n ∧ tm a n ≤ 2 := by
  unfold tm
  rcases Int.lt_or_le (a n) 0 with h | h
  · have := tmod_neg (a := a n) (b := 3) (by omega) (by omega)
    omega
  · have := tmod_pos (a := a n) (b := 3) h (by omega)
    omega
theorem tm_small (a : Nat → Int) : small 2 (tm a) := fun n _ => tm_in a n

theorem dvr_exact (q b : Int) (hb : 1 < b) : dvr (b * q) b = q := by
  have h0 : (b * q).fdiv b = q := fdiv_pos_unique (by omega) (Int.le_refl _) (by omega)
  have hu : up (b * q) b = false := by
    unfold up
    rw [h0]
    simp; try omega
  unfold dvr
  rw [if_neg (by omega), if_neg (by omega), hu, h0]
  rfl

theorem wh_ok {x : Nat → Int} (h : small 16 x) : okM (whM x) = true := okM_iff.2 fun j hj => by
  have := h j hj
  unfold whM
  omega
theorem small_up {x : Nat → Int} (h : small 2 x) : small 16 x := fun n hn => by
  have := h n hn
  omega
theorem det_wh (x : Nat → Int) : det9 (whM x) = 4294967296 * (65536 * det9 x) := by
  simp only [det9, esum, cof, whM, Int.zero_add, Nat.reduceAdd, Nat.reduceMod, Nat.reduceMul]
  grind
theorem detM_wh {x : Nat → Int} (h : small 16 x) : detM (whM x) = 65536 * det9 x := by
  unfold detM
  rw [wh_ok h, det_wh, if_pos rfl, dvr_exact _ _ (by omega)]

theorem abs3 {a b c : Int} (ha : -2 ≤ a ∧ a ≤ 2) (hb : -2 ≤ b ∧ b ≤ 2) (hc : -8 ≤ c ∧ c ≤ 8) : (-4 ≤ a * b ∧ a * b ≤ 4) ∧ (-16 ≤ a * c ∧ a * c ≤ 16) := by
  have h1 := abs_mul_le ha.1 ha.2 (by omega) 2 hb.1 hb.2 (by omega)
  have h2 := abs_mul_le ha.1 ha.2 (by omega) 8 hc.1 hc.2 (by omega)
  omega
theorem det_small {x : Nat → Int} (h : small 2 x) : -48 ≤ det9 x ∧ det9 x ≤ 48 := by
  have c8 : ∀ i j, -8 ≤ cof x i j ∧ cof x i j ≤ 8 := fun i j => by
    unfold cof
    have a1 := h (3 * ((i + 1) % 3) + (j + 1) % 3) (by omega)
    have a2 := h (3 * ((i + 2) % 3) + (j + 2) % 3) (by omega)
    have a3 := h (3 * ((i + 1) % 3) + (j + 2) % 3) (by omega)
    have a4 := h (3 * ((i + 2) % 3) + (j + 1) % 3) (by omega)
    have h1 := (abs3 a1 a2 (c := 0) (by omega)).1
    have h2 := (abs3 a3 a4 (c := 0) (by omega)).1
    omega
  have b0 := (abs3 (h 0 (by omega)) (h 0 (by omega)) (c8 0 0)).2
  have b1 := (abs3 (h 1 (by omega)) (h 1 (by omega)) (c8 0 1)).2
  have b2 := (abs3 (h 2 (by omega)) (h 2 (by omega)) (c8 0 2)).2
  simp only [det9, esum, Int.zero_add]
  omega

def prd (x y : Nat → Int) (n : Nat) : Int := x (3 * (n / 3)) * y (n % 3) + x (3 * (n / 3) + 1) * y (3 + n % 3) + x (3 * (n / 3) + 2) * y (6 + n % 3)
theorem prd_small {x y : Nat → Int} (hx : small 2 x) (hy : small 2 y) : small 16 (prd x y) := fun n hn => by
  unfold prd
  have h1 := (abs3 (hx (3 * (n / 3)) (by omega)) (hy (n % 3) (by omega)) (c := 0) (by omega)).1
  have h2 := (abs3 (hx (3 * (n / 3) + 1) (by omega)) (hy (3 + n % 3) (by omega)) (c := 0) (by omega)).1
  have h3 := (abs3 (hx (3 * (n / 3) + 2) (by omega)) (hy (6 + n % 3) (by omega)) (c := 0) (by omega)).1
  omega
theorem mul_wh {x y : Nat → Int} (hx : small 2 x) (hy : small 2 y) : ac 9 (mulM (whM x) (whM y)) = ac 9 (whM (prd x y)) := ac_ext fun n hn => by
  unfold mulM
  rw [wh_ok (small_up hx), wh_ok (small_up hy)]
  show mul9 (whM x) (whM y) n = _
  have e : whM x (3 * (n / 3)) * whM y (n % 3) + whM x (3 * (n / 3) + 1) * whM y (3 + n % 3) + whM x (3 * (n / 3) + 2) * whM y (6 + n % 3) = 65536 * (prd x y n * 65536) := by
    unfold whM prd
    grind
  unfold mul9
  rw [e, dvr_exact _ _ (by omega)]
  rfl
theorem det_prd (x y : Nat → Int) : det9 (prd x y) = det9 x * det9 y := by
  simp only [det9, esum, cof, prd, Int.zero_add, Nat.reduceAdd, Nat.reduceMod, Nat.reduceMul, Nat.reduceDiv, Nat.mul_zero, Nat.zero_add, Nat.add_zero]
  generalize x 0 = a0; generalize x 1 = a1; generalize x 2 = a2; generalize x 3 = a3; generalize x 4 = a4; generalize x 5 = a5; generalize x 6 = a6; generalize x 7 = a7; generalize x 8 = a8
  generalize y 0 = b0; generalize y 1 = b1; generalize y 2 = b2; generalize y 3 = b3; generalize y 4 = b4; generalize y 5 = b5; generalize y 6 = b6; generalize y 7 = b7; generalize y 8 = b8
  grind

/-- What the law asks of the three determinants. -/
theorem dets (a b : Nat → Int) : ∃ D E : Int, -48 ≤ D ∧ D ≤ 48 ∧ -48 ≤ E ∧ E ≤ 48 ∧ detM (whM (tm a)) = 65536 * D ∧ detM (whM (tm b)) = 65536 * E ∧ detM (whM (prd (tm a) (tm b))) = D * (65536 * E) := by
  have h1 := det_small (tm_small a)
  have h2 := det_small (tm_small b)
  refine ⟨det9 (tm a), det9 (tm b), h1.1, h1.2, h2.1, h2.2, detM_wh (small_up (tm_small a)), detM_wh (small_up (tm_small b)), ?_⟩
  rw [detM_wh (prd_small (tm_small a) (tm_small b)), det_prd, Int.mul_left_comm]

end Go.Proofs.Ytcmaoomcdmjimaa.MatrixDets
