/-
  Package num: products of fixed-point numbers.
-/
import Derived.Test.YtcmaoomcdmjimaaNumBits
import Derived.Laws.BitsAllLaws
import Derived.Laws.Bits64
namespace Go.Proofs.Ytcmaoomcdmjimaa.Num
open Go.RowKit Go.Proofs.Ytcmaoomcdmjimaa Go.Proofs.Ytcmaoomcdmjimaa.NumPure

theorem or48 (A B : Nat) (hA : A < 65536) (hB : B < 281474976710656) : bits .or .u64 ((A * 281474976710656 : Nat) : Int) (B : Int) = ((A * 281474976710656 + B : Nat) : Int) := by
  rw [u64_or_nat _ _ (by omega) (by omega)]
  have h := Nat.two_pow_add_eq_or_of_lt (i := 48) (b := B) (by simpa using hB) A
  rw [Nat.mul_comm A, show (281474976710656 : Nat) = 2 ^ 48 from rfl, ← h]

theorem low_of (H L : Nat) (hL : L < 18446744073709551616) : wrap64 (bits .or .u64 (IntKind.u64.wrap ((H : Int) * 281474976710656)) ((L : Int) / 65536)) = wrap64 ((H : Int) * 281474976710656 + (L : Int) / 65536) := by
  have e1 : IntKind.u64.wrap ((H : Int) * 281474976710656) = ((H % 65536 * 281474976710656 : Nat) : Int) := by
    rw [IntKind.wrap_u64]
    omega
  have e2 : (L : Int) / 65536 = ((L / 65536 : Nat) : Int) := by omega
  rw [e1, e2, or48 _ _ (by omega) (by omega)]
  unfold wrap64
  omega

/-- The last part: the upper part s and the lower part L of the sum, shifted by 16 and saturated. -/
theorem fix_end (s L low V : Int) (h0 : -9223372036854775808 ≤ s) (h1 : s ≤ 9223372036854775807) (hL : 0 ≤ L) (hL2 : L < 18446744073709551616) (hlow : low = wrap64 (s * 281474976710656 + L / 65536)) (hV : V = s * 18446744073709551616 + L) :
    (s / 65536 = low / 9223372036854775808 ∧ sat (V.fdiv 65536) = low) ∨ (s / 65536 ≠ low / 9223372036854775808 ∧ s / 65536 < 0 ∧ sat (V.fdiv 65536) = -9223372036854775808) ∨ (s / 65536 ≠ low / 9223372036854775808 ∧ 0 ≤ s / 65536 ∧ sat (V.fdiv 65536) = 9223372036854775807) := by
  subst hV
  rw [Int.fdiv_eq_ediv_of_nonneg _ (by omega)]
  have e : (s * 18446744073709551616 + L) / 65536 = s / 65536 * 18446744073709551616 + (s % 65536 * 281474976710656 + L / 65536) := by omega
  have e2 : s * 281474976710656 + L / 65536 = s / 65536 * 18446744073709551616 + (s % 65536 * 281474976710656 + L / 65536) := by omega
  rw [e]
  rw [e2] at hlow
  have b0 : 0 ≤ s % 65536 * 281474976710656 + L / 65536 := by omega
  have b1 : s % 65536 * 281474976710656 + L / 65536 < 18446744073709551616 := by omega
  generalize s % 65536 * 281474976710656 + L / 65536 = v at *
  generalize s / 65536 = t at *
  unfold sat
  unfold wrap64 at hlow
  rcases Int.lt_or_le v 9223372036854775808 with hv | hv
  · have hl : low = v := by omega
    subst hl
    rcases Int.lt_trichotomy t 0 with ht | ht | ht
    · exact .inr (.inl ⟨by omega, ht, by omega⟩)
    · exact .inl ⟨by omega, by omega⟩
    · exact .inr (.inr ⟨by omega, by omega, by omega⟩)
  · have hl : low = v - 18446744073709551616 := by omega
    subst hl
    rcases Int.lt_trichotomy t (-1) with ht | ht | ht
    · exact .inr (.inl ⟨by omega, by omega, by omega⟩)
    · exact .inl ⟨by omega, by omega⟩
    · exact .inr (.inr ⟨by omega, by omega, by omega⟩)

theorem sat_any (c : Bool) (w : World) : Calls Try.prog 39 #[.bool c] w fun e w' => e = .returned (.int .i64 (bif c then -9223372036854775808 else 9223372036854775807)) ∧ w = w' := by
  cases c
  · exact sat_no w
  · exact sat_yes w

/-- The signs of two numbers are equal, or not: their product. -/
theorem prod_same {a b : Int} (h : decide (a < 0) = decide (b < 0)) : a * b = ((a.natAbs * b.natAbs : Nat) : Int) := by
  rw [Int.natCast_mul]
  by_cases ha : a < 0
  · have hb : b < 0 := by simpa [ha] using h
    rw [show (a.natAbs : Int) = -a by omega, show (b.natAbs : Int) = -b by omega, Int.neg_mul_neg]
  · have hb : ¬ b < 0 := by simpa [ha] using h
    rw [show (a.natAbs : Int) = a by omega, show (b.natAbs : Int) = b by omega]
theorem prod_other {a b : Int} (h : decide (a < 0) ≠ decide (b < 0)) : a * b = -((a.natAbs * b.natAbs : Nat) : Int) := by
  rw [Int.natCast_mul]
  by_cases ha : a < 0
  · have hb : ¬ b < 0 := by simpa [ha] using h
    rw [show (a.natAbs : Int) = -a by omega, show (b.natAbs : Int) = b by omega, Int.neg_mul, Int.neg_neg]
  · have hb : b < 0 := by simpa [ha] using h
    rw [show (a.natAbs : Int) = a by omega, show (b.natAbs : Int) = -b by omega, Int.mul_neg, Int.neg_neg]

theorem fin_sat {t L low F : Int} (hl : L = low) (h : (t != L / 9223372036854775808) = true) (he : (t = low / 9223372036854775808 ∧ F = low) ∨ (t ≠ low / 9223372036854775808 ∧ F = bif decide (t < 0) then -9223372036854775808 else 9223372036854775807)) :
    (bif decide (t < 0) then -9223372036854775808 else 9223372036854775807) = F := by
  subst hl
  rcases he with ⟨h1, _⟩ | ⟨_, h2⟩
  · rw [h1] at h
    simp at h
  · exact h2.symm
theorem fin_low {t L low F : Int} (hl : L = low) (h : (t != L / 9223372036854775808) = false) (he : (t = low / 9223372036854775808 ∧ F = low) ∨ (t ≠ low / 9223372036854775808 ∧ F = bif decide (t < 0) then -9223372036854775808 else 9223372036854775807)) :
    L = F := by
  subst hl
  rcases he with ⟨_, h2⟩ | ⟨h1, _⟩
  · exact h2.symm
  · simp at h
    exact absurd h h1

/-- The two words of the opposite number. -/
theorem xor_max (h : Nat) (hh : h < 18446744073709551616) : bits BinOp.xor IntKind.u64 IntKind.u64.max (h : Int) = ((18446744073709551615 - h : Nat) : Int) := by
  show IntKind.u64.wrap ((BitVec.ofInt 64 18446744073709551615 ^^^ BitVec.ofInt 64 (h : Int)).toNat : Int) = _
  have e : BitVec.ofInt 64 18446744073709551615 = BitVec.allOnes 64 := by decide
  rw [e, BitVec.allOnes_xor, BitVec.toNat_not, BitVec.ofInt_natCast, BitVec.toNat_ofNat, Nat.mod_eq_of_lt (by omega), IntKind.wrap_u64]
  omega

theorem end_of (s L low : Int) (a b : Int) (h0 : -9223372036854775808 ≤ s) (h1 : s ≤ 9223372036854775807) (hL : 0 ≤ L) (hL2 : L < 18446744073709551616) (hlow : low = wrap64 (s * 281474976710656 + L / 65536)) (hV : a * b + 32768 = s * 18446744073709551616 + L) :
    (s / 65536 = low / 9223372036854775808 ∧ fixU a b = low) ∨ (s / 65536 ≠ low / 9223372036854775808 ∧ fixU a b = bif decide (s / 65536 < 0) then -9223372036854775808 else 9223372036854775807) := by
  rcases fix_end s L low _ h0 h1 hL hL2 hlow hV with h | ⟨h, h2, h3⟩ | ⟨h, h2, h3⟩
  · exact .inl h
  · exact .inr ⟨h, by rw [decide_eq_true h2]; exact h3⟩
  · exact .inr ⟨h, by rw [decide_eq_false (by omega)]; exact h3⟩

end Go.Proofs.Ytcmaoomcdmjimaa.Num
