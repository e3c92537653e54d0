/-
  The plain side of package wire's reader: what each call of a reader answers, as a function on the bytes that are left. No program in sight.
-/
import Derived.Lib.Varint
import Derived.Lib.VarintDec
namespace Go.Proofs.Ytmnlijeflcedcaa.WirePure

def uv (i acc : Nat) : List UInt8 → Int × Nat × List UInt8
  | [] => (5, 0, [])
  | c :: t =>
    if (i = 9 ∧ 1 < c.toNat) ∨ (0 < i ∧ c.toNat = 0) then (4, 0, [])
    else if c.toNat < 128 then (0, acc + c.toNat * 2 ^ (7 * i), t)
    else uv (i + 1) (acc + c.toNat % 128 * 2 ^ (7 * i)) t

theorem uv_nil (i acc : Nat) : uv i acc [] = (5, 0, []) := rfl
theorem uv_form (i acc : Nat) (c : UInt8) (t : List UInt8) (h : (i = 9 ∧ 1 < c.toNat) ∨ (0 < i ∧ c.toNat = 0)) : uv i acc (c :: t) = (4, 0, []) := by
  rw [uv, if_pos h]
theorem uv_last (i acc : Nat) (c : UInt8) (t : List UInt8) (h : ¬ ((i = 9 ∧ 1 < c.toNat) ∨ (0 < i ∧ c.toNat = 0))) (h2 : c.toNat < 128) : uv i acc (c :: t) = (0, acc + c.toNat * 2 ^ (7 * i), t) := by
  rw [uv, if_neg h, if_pos h2]
theorem uv_more (i acc : Nat) (c : UInt8) (t : List UInt8) (h : ¬ ((i = 9 ∧ 1 < c.toNat) ∨ (0 < i ∧ c.toNat = 0))) (h2 : 128 ≤ c.toNat) : uv i acc (c :: t) = uv (i + 1) (acc + c.toNat % 128 * 2 ^ (7 * i)) t := by
  rw [uv, if_neg h, if_neg (by omega)]

theorem pow7 (i : Nat) : 2 ^ (7 * (i + 1)) = 128 * 2 ^ (7 * i) := by
  rw [Nat.mul_add, Nat.pow_add, Nat.mul_comm]

/-- What is read fits in 64 bits, and is what the bytes in front of the rest say. -/
theorem uv_lt (l : List UInt8) : ∀ i acc, i ≤ 9 → acc < 2 ^ (7 * i) → (uv i acc l).2.1 < 18446744073709551616 := by
  induction l with
  | nil => intro i acc _ _; simp [uv_nil]
  | cons c t ih =>
    intro i acc hi ha
    by_cases h : (i = 9 ∧ 1 < c.toNat) ∨ (0 < i ∧ c.toNat = 0)
    · rw [uv_form _ _ _ _ h]; simp
    · by_cases h2 : c.toNat < 128
      · rw [uv_last _ _ _ _ h h2]
        show acc + c.toNat * 2 ^ (7 * i) < _
        by_cases h9 : i = 9
        · subst h9
          have : c.toNat ≤ 1 := by omega
          have : c.toNat * 2 ^ (7 * 9) ≤ 1 * 2 ^ (7 * 9) := Nat.mul_le_mul_right _ this
          omega
        · have h3 : c.toNat * 2 ^ (7 * i) ≤ 127 * 2 ^ (7 * i) := Nat.mul_le_mul_right _ (by omega)
          have h4 : 2 ^ (7 * i) ≤ 2 ^ (7 * 8) := Nat.pow_le_pow_right (by omega) (by omega)
          omega
      · rw [uv_more _ _ _ _ h (by omega)]
        have h3 : c.toNat % 128 * 2 ^ (7 * i) ≤ 127 * 2 ^ (7 * i) := Nat.mul_le_mul_right _ (by omega)
        refine ih _ _ ?_ ?_
        · have := c.toNat_lt
          omega
        · rw [pow7]
          omega

theorem uv_err (l : List UInt8) : ∀ i acc, (uv i acc l).1 = 0 ∨ (uv i acc l).1 = 4 ∨ (uv i acc l).1 = 5 := by
  induction l with
  | nil => intro i acc; simp [uv_nil]
  | cons c t ih =>
    intro i acc
    by_cases h : (i = 9 ∧ 1 < c.toNat) ∨ (0 < i ∧ c.toNat = 0)
    · rw [uv_form _ _ _ _ h]; simp
    · by_cases h2 : c.toNat < 128
      · rw [uv_last _ _ _ _ h h2]; simp
      · rw [uv_more _ _ _ _ h (by omega)]; exact ih _ _

theorem uv_zero (l : List UInt8) : ∀ i acc, (uv i acc l).1 ≠ 0 → (uv i acc l).2.1 = 0 := by
  induction l with
  | nil => intro i acc _; simp [uv_nil]
  | cons c t ih =>
    intro i acc h0
    by_cases h : (i = 9 ∧ 1 < c.toNat) ∨ (0 < i ∧ c.toNat = 0)
    · rw [uv_form _ _ _ _ h]
    · by_cases h2 : c.toNat < 128
      · rw [uv_last _ _ _ _ h h2] at h0; simp at h0
      · rw [uv_more _ _ _ _ h (by omega)] at h0 ⊢; exact ih _ _ h0

/-- The state of a reader: bytes that are left, or the error that it has. -/
inductive A where
  | ready (l : List UInt8)
  | bad (e : Int)

def A.uint : A → Nat × A
  | .bad e => (0, .bad e)
  | .ready l => if (uv 0 0 l).1 = 0 then ((uv 0 0 l).2.1, .ready (uv 0 0 l).2.2) else (0, .bad (uv 0 0 l).1)
theorem A.uint_lt (a : A) : a.uint.1 < 18446744073709551616 := by
  cases a with
  | bad e => simp [A.uint]
  | ready l =>
    simp only [A.uint]
    split
    · exact uv_lt l 0 0 (by omega) (by simp)
    · exact (by decide : 0 < 18446744073709551616)
def A.int (a : A) : Int × A := (Lib.unzigzag a.uint.1, a.uint.2)
def A.count (most : Int) (a : A) : Nat × A :=
  match a.uint with
  | (_, .bad e) => (0, .bad e)
  | (n, .ready l) => if max most 0 < (n : Int) then (0, .bad 3) else (n, .ready l)
def A.text (most : Int) (a : A) : List UInt8 × A :=
  match a.count most with
  | (_, .bad e) => ([], .bad e)
  | (n, .ready l) => if l.length < n then ([], .bad 5) else (l.take n, .ready (l.drop n))
def intsN : Nat → List UInt8 → List Int × A
  | 0, l => ([], .ready l)
  | n + 1, l =>
    match (A.ready l).int with
    | (_, .bad e) => ([], .bad e)
    | (z, .ready l') =>
      match intsN n l' with
      | (_, .bad e) => ([], .bad e)
      | (zs, .ready l'') => (z :: zs, .ready l'')
def A.ints (most : Int) (a : A) : List Int × A :=
  match a.count most with
  | (_, .bad e) => ([], .bad e)
  | (n, .ready l) => intsN n l
def A.left : A → Nat
  | .ready l => l.length
  | .bad _ => 0
def A.err : A → Int
  | .ready _ => 0
  | .bad e => e
def A.fin : A → Int
  | .ready l => if l.length = 0 then 0 else 6
  | .bad e => e
def A.fail (e : Int) : A → A
  | .ready l => if e = 0 then .ready l else .bad e
  | .bad e' => .bad e'

end Go.Proofs.Ytmnlijeflcedcaa.WirePure
