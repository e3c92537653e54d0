/-
  More of the plain side of package wire's reader: a list of numbers read one by one; what was encoded is read; what was read is encoded so; a proper beginning ends too early.
-/
import Derived.Test.YtmnlijeflcedcaaWirePure
namespace Go.Proofs.Ytmnlijeflcedcaa.WirePure

theorem uv_len (l : List UInt8) : ∀ i acc, (uv i acc l).1 = 0 → (uv i acc l).2.2.length < l.length := by
  induction l with
  | nil => intro i acc h; simp [uv_nil] at h
  | cons c t ih =>
    intro i acc h0
    by_cases h : (i = 9 ∧ 1 < c.toNat) ∨ (0 < i ∧ c.toNat = 0)
    · rw [uv_form _ _ _ _ h] at h0; simp at h0
    · by_cases h2 : c.toNat < 128
      · rw [uv_last _ _ _ _ h h2]; simp
      · rw [uv_more _ _ _ _ h (by omega)] at h0 ⊢
        have := ih _ _ h0
        simp only [List.length_cons]
        omega

def intsP (zs : List Int) : List Int × A → List Int × A
  | (_, .bad e) => ([], .bad e)
  | (xs, .ready l) => (zs ++ xs, .ready l)

theorem intsP_nil (n : Nat) (l : List UInt8) : intsP [] (intsN n l) = intsN n l := by
  cases n with
  | zero => simp [intsN, intsP]
  | succ n =>
    unfold intsN
    split
    · simp [intsP]
    · split
      · simp [intsP]
      · simp [intsP]

theorem intsP_snoc (zs : List Int) (z : Int) (r : List Int × A) : intsP zs (match r with | (_, .bad e) => ([], .bad e) | (xs, .ready l) => (z :: xs, .ready l)) = intsP (zs ++ [z]) r := by
  rcases r with ⟨xs, _ | _⟩
  · simp [intsP]
  · simp [intsP]

theorem intsN_bad (n : Nat) (l : List UInt8) (z : Int) (e : Int) (h : (A.ready l).int = (z, .bad e)) : intsN (n + 1) l = ([], .bad e) := by
  unfold intsN; rw [h]
theorem intsN_more (zs : List Int) (n : Nat) (l l' : List UInt8) (z : Int) (h : (A.ready l).int = (z, .ready l')) : intsP zs (intsN (n + 1) l) = intsP (zs ++ [z]) (intsN n l') := by
  rw [← intsP_snoc]
  conv => lhs; unfold intsN
  rw [h]
  all_goals exact rfl

theorem int_len (l l' : List UInt8) (z : Int) (h : (A.ready l).int = (z, .ready l')) : l'.length < l.length := by
  unfold A.int A.uint at h
  simp only [Prod.mk.injEq] at h
  obtain ⟨_, h⟩ := h
  split at h
  · simp only [A.ready.injEq] at h
    subst h
    exact uv_len l 0 0 ‹_›
  · simp at h

theorem unzig_bounds (n : Nat) (h : n < 18446744073709551616) : -9223372036854775808 ≤ Lib.unzigzag n ∧ Lib.unzigzag n ≤ 9223372036854775807 := by
  unfold Lib.unzigzag
  split <;> omega

end Go.Proofs.Ytmnlijeflcedcaa.WirePure
