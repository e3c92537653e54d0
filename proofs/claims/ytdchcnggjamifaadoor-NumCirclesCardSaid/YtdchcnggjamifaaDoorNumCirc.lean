/-
  The plain side of package num: sines and cosines of opposite angles, and their squares.
-/
import Derived.Test.YtdchcnggjamifaaDoorNumCirc0
namespace Go.Proofs.YtdchcnggjamifaaDoor.NumPure

theorem qrt_zero : qrt 0 = 0 := by decide +kernel

def cosA (a : Nat) : Int := sinA ((a + 16384) % 65536)
theorem sin_q {a q r : Nat} (hq : a / 16384 = q) (hr : a % 16384 = r) : sinA a = if q = 0 then qrt r else if q = 1 then qrt (16384 - r) else if q = 2 then -qrt r else -qrt (16384 - r) := by rw [sinA, hq, hr]
theorem cos_q {a q r : Nat} (ha : a < 65536) (hq : a / 16384 = q) (hr : a % 16384 = r) : cosA a = if q = 0 then qrt (16384 - r) else if q = 1 then -qrt r else if q = 2 then -qrt (16384 - r) else qrt r := by
  have hcase : q = 0 ∨ q = 1 ∨ q = 2 ∨ q = 3 := by omega
  rcases hcase with rfl | rfl | rfl | rfl
  · rw [cosA, sin_q (q := 1) (r := r) (by omega) (by omega)]; rfl
  · rw [cosA, sin_q (q := 2) (r := r) (by omega) (by omega)]; rfl
  · rw [cosA, sin_q (q := 3) (r := r) (by omega) (by omega)]; rfl
  · rw [cosA, sin_q (q := 0) (r := r) (by omega) (by omega)]; rfl

theorem neg_q {a : Nat} (ha : a < 65536) : sinA ((65536 - a) % 65536) = -sinA a ∧ cosA ((65536 - a) % 65536) = cosA a := by
  obtain ⟨q, hq⟩ : ∃ q, a / 16384 = q := ⟨_, rfl⟩
  obtain ⟨r, hr⟩ : ∃ r, a % 16384 = r := ⟨_, rfl⟩
  have hcase : q = 0 ∨ q = 1 ∨ q = 2 ∨ q = 3 := by omega
  by_cases h0 : r = 0
  · subst h0
    rcases hcase with rfl | rfl | rfl | rfl
    · rw [sin_q hq hr, cos_q ha hq hr, sin_q (q := 0) (r := 0) (by omega) (by omega), cos_q (q := 0) (r := 0) (by omega) (by omega) (by omega)]
      simp [qrt_zero]
    · rw [sin_q hq hr, cos_q ha hq hr, sin_q (q := 3) (r := 0) (by omega) (by omega), cos_q (q := 3) (r := 0) (by omega) (by omega) (by omega)]
      simp [qrt_zero]
    · rw [sin_q hq hr, cos_q ha hq hr, sin_q (q := 2) (r := 0) (by omega) (by omega), cos_q (q := 2) (r := 0) (by omega) (by omega) (by omega)]
      simp [qrt_zero]
    · rw [sin_q hq hr, cos_q ha hq hr, sin_q (q := 1) (r := 0) (by omega) (by omega), cos_q (q := 1) (r := 0) (by omega) (by omega) (by omega)]
      simp [qrt_zero]
  · have e : 16384 - (16384 - r) = r := by omega
    rcases hcase with rfl | rfl | rfl | rfl
    · rw [sin_q hq hr, cos_q ha hq hr, sin_q (q := 3) (r := 16384 - r) (by omega) (by omega), cos_q (q := 3) (r := 16384 - r) (by omega) (by omega) (by omega)]
      simp [e]
    · rw [sin_q hq hr, cos_q ha hq hr, sin_q (q := 2) (r := 16384 - r) (by omega) (by omega), cos_q (q := 2) (r := 16384 - r) (by omega) (by omega) (by omega)]
      simp [e]
    · rw [sin_q hq hr, cos_q ha hq hr, sin_q (q := 1) (r := 16384 - r) (by omega) (by omega), cos_q (q := 1) (r := 16384 - r) (by omega) (by omega) (by omega)]
      simp [e]
    · rw [sin_q hq hr, cos_q ha hq hr, sin_q (q := 0) (r := 16384 - r) (by omega) (by omega), cos_q (q := 0) (r := 16384 - r) (by omega) (by omega) (by omega)]
      simp [e]

theorem circ_a {a : Nat} (ha : a < 65536) : (-65536 ≤ sinA a ∧ sinA a ≤ 65536) ∧ (-65536 ≤ cosA a ∧ cosA a ≤ 65536) ∧ -2097152 ≤ sinA a * sinA a + cosA a * cosA a - 4294967296 ∧ sinA a * sinA a + cosA a * cosA a - 4294967296 ≤ 2097152 := by
  obtain ⟨q, hq⟩ : ∃ q, a / 16384 = q := ⟨_, rfl⟩
  obtain ⟨r, hr⟩ : ∃ r, a % 16384 = r := ⟨_, rfl⟩
  have hcase : q = 0 ∨ q = 1 ∨ q = 2 ∨ q = 3 := by omega
  have c := circ_u r (by omega)
  have b1 := qrt_bd r (by omega)
  have b2 := qrt_bd (16384 - r) (by omega)
  rcases hcase with rfl | rfl | rfl | rfl
  all_goals
    rw [sin_q hq hr, cos_q ha hq hr]
    simp +decide only [if_true, if_false, Int.neg_mul_neg]
    omega

theorem sinZ_of (z : Int) (a : Nat) (h : (z % 65536).toNat = a) : sinZ z = sinA a ∧ cosZ z = cosA a := by
  subst h
  exact ⟨rfl, rfl⟩

/-- What the law of circles asks. -/
theorem circles (z : Int) : ∃ s c : Int, sinZ z = s ∧ cosZ z = c ∧ -65536 ≤ s ∧ s ≤ 65536 ∧ -65536 ≤ c ∧ c ≤ 65536 ∧ -2097152 ≤ s * s + c * c - 4294967296 ∧ s * s + c * c - 4294967296 ≤ 2097152 ∧
    (∀ z', (z' + z) % 65536 = 0 → sinZ z' = -s ∧ cosZ z' = c) ∧ (∀ z', (z' - z) % 65536 = 0 → sinZ z' = s ∧ cosZ z' = c) := by
  obtain ⟨a, ha⟩ : ∃ a, (z % 65536).toNat = a := ⟨_, rfl⟩
  have ha2 : a < 65536 := by omega
  obtain ⟨e1, e2⟩ := sinZ_of z a ha
  obtain ⟨c1, c2, c3⟩ := circ_a ha2
  obtain ⟨n1, n2⟩ := neg_q ha2
  refine ⟨sinA a, cosA a, e1, e2, c1.1, c1.2, c2.1, c2.2, c3.1, c3.2, fun z' h => ?_, fun z' h => ?_⟩
  · obtain ⟨f1, f2⟩ := sinZ_of z' ((65536 - a) % 65536) (by omega)
    rw [f1, f2]
    exact ⟨n1, n2⟩
  · obtain ⟨f1, f2⟩ := sinZ_of z' a (by omega)
    exact ⟨f1, f2⟩

end Go.Proofs.YtdchcnggjamifaaDoor.NumPure
