/-
  Package wire, the plain law: what is encoded is decoded, what is decoded has that encoding alone, a proper beginning ends too early.
-/
import Derived.Test.YtmnlijeflcedcaaWirePure2
namespace Go.Proofs.Ytmnlijeflcedcaa.WirePure

theorem toUInt8_id (c : UInt8) : c.toNat.toUInt8 = c := UInt8.ofNat_toNat
theorem toNat_small (x : Nat) (h : x < 256) : x.toUInt8.toNat = x := by
  simp only [Nat.toUInt8, UInt8.toNat_ofNat']
  omega

/-- What is encoded is decoded. -/
theorem uv_enc (x : Nat) : ∀ (i acc : Nat) (t : List UInt8), i ≤ 9 → x * 2 ^ (7 * i) < 18446744073709551616 → (i = 0 ∨ 0 < x) → uv i acc (Lib.uvarint x ++ t) = (0, acc + x * 2 ^ (7 * i), t) := by
  induction x using Nat.strongRecOn with
  | _ x ih =>
    intro i acc t hi hx h0
    by_cases h : x < 128
    · rw [Lib.uvarint_small h]
      have e := toNat_small x (by omega)
      have hf : ¬ ((i = 9 ∧ 1 < x.toUInt8.toNat) ∨ (0 < i ∧ x.toUInt8.toNat = 0)) := by
        rw [e]
        rintro (⟨h1, h2⟩ | ⟨h1, h2⟩)
        · subst h1
          have : 2 * 2 ^ (7 * 9) ≤ x * 2 ^ (7 * 9) := Nat.mul_le_mul_right _ h2
          omega
        · omega
      rw [List.singleton_append, uv_last _ _ _ _ hf (by rw [e]; exact h), e]
    · rw [Lib.uvarint_big (by omega)]
      have e := toNat_small (x % 128 + 128) (by omega)
      have hi9 : i ≠ 9 := by
        intro h1
        subst h1
        have : 128 * 2 ^ (7 * 9) ≤ x * 2 ^ (7 * 9) := Nat.mul_le_mul_right _ (by omega)
        omega
      have hf : ¬ ((i = 9 ∧ 1 < (x % 128 + 128).toUInt8.toNat) ∨ (0 < i ∧ (x % 128 + 128).toUInt8.toNat = 0)) := by
        rw [e]
        omega
      rw [List.cons_append, uv_more _ _ _ _ hf (by rw [e]; omega), e, ih (x / 128) (by omega) (i + 1) _ _ (by omega) ?_ (.inr (by omega))]
      · rw [pow7, Nat.add_mod_right, Nat.mod_mod, ← Nat.mul_assoc, Nat.mul_comm (x / 128) 128, Nat.add_assoc, ← Nat.add_mul, Nat.mod_add_div]
      · rw [pow7, ← Nat.mul_assoc]
        refine Nat.lt_of_le_of_lt (Nat.mul_le_mul_right _ ?_) hx
        omega

/-- What is decoded has one encoding. -/
theorem uv_dec (l : List UInt8) : ∀ (i acc n : Nat) (t : List UInt8), uv i acc l = (0, n, t) → ∃ m, n = acc + m * 2 ^ (7 * i) ∧ (i = 0 ∨ 0 < m) ∧ l = Lib.uvarint m ++ t := by
  induction l with
  | nil => intro i acc n t h; simp [uv_nil] at h
  | cons c r ih =>
    intro i acc n t h
    have hc := c.toNat_lt
    by_cases hf : (i = 9 ∧ 1 < c.toNat) ∨ (0 < i ∧ c.toNat = 0)
    · rw [uv_form _ _ _ _ hf] at h; simp at h
    · by_cases h2 : c.toNat < 128
      · rw [uv_last _ _ _ _ hf h2] at h
        simp only [Prod.mk.injEq, true_and] at h
        obtain ⟨rfl, rfl⟩ := h
        refine ⟨c.toNat, rfl, by omega, ?_⟩
        rw [Lib.uvarint_small h2, toUInt8_id]
        rfl
      · rw [uv_more _ _ _ _ hf (by omega)] at h
        obtain ⟨m, rfl, hm, rfl⟩ := ih _ _ _ _ h
        refine ⟨c.toNat % 128 + 128 * m, ?_, by omega, ?_⟩
        · rw [pow7, Nat.add_mul, ← Nat.mul_assoc, Nat.mul_comm m 128]
          omega
        · rw [Lib.uvarint_big (x := c.toNat % 128 + 128 * m) (by omega), show (c.toNat % 128 + 128 * m) % 128 + 128 = c.toNat by omega, show (c.toNat % 128 + 128 * m) / 128 = m by omega, toUInt8_id]
          rfl

/-- A proper beginning ends too early. -/
theorem uv_cut (x : Nat) : ∀ (i acc k : Nat), i ≤ 9 → x * 2 ^ (7 * i) < 18446744073709551616 → (i = 0 ∨ 0 < x) → k < (Lib.uvarint x).length → (uv i acc ((Lib.uvarint x).take k)).1 = 5 := by
  induction x using Nat.strongRecOn with
  | _ x ih =>
    intro i acc k hi hx h0 hk
    cases k with
    | zero => simp [uv_nil]
    | succ k =>
      by_cases h : x < 128
      · rw [Lib.uvarint_small h] at hk
        simp at hk
      · rw [Lib.uvarint_big (by omega)] at hk ⊢
        have e := toNat_small (x % 128 + 128) (by omega)
        have hi9 : i ≠ 9 := by
          intro h1
          subst h1
          have : 128 * 2 ^ (7 * 9) ≤ x * 2 ^ (7 * 9) := Nat.mul_le_mul_right _ (by omega)
          omega
        have hf : ¬ ((i = 9 ∧ 1 < (x % 128 + 128).toUInt8.toNat) ∨ (0 < i ∧ (x % 128 + 128).toUInt8.toNat = 0)) := by
          rw [e]
          omega
        rw [List.take_succ_cons, uv_more _ _ _ _ hf (by rw [e]; omega)]
        refine ih (x / 128) (by omega) (i + 1) _ _ (by omega) ?_ (.inr (by omega)) (by simpa using hk)
        rw [pow7, ← Nat.mul_assoc]
        refine Nat.lt_of_le_of_lt (Nat.mul_le_mul_right _ ?_) hx
        omega

theorem uint_enc (x : Nat) (t : List UInt8) (hx : x < 18446744073709551616) : (A.ready (Lib.uvarint x ++ t)).uint = (x, .ready t) := by
  have h := uv_enc x 0 0 t (by omega) (by omega) (.inl rfl)
  simp only [A.uint, h]
  simp
theorem unzig_zig (z : Int) : Lib.unzigzag (Lib.zigzag z) = z := by
  unfold Lib.unzigzag Lib.zigzag
  split <;> split <;> omega
theorem zig_unzig (n : Nat) : Lib.zigzag (Lib.unzigzag n) = n := by
  unfold Lib.unzigzag Lib.zigzag
  split <;> split <;> omega
theorem zig_lt (n : Int) (h0 : -9223372036854775808 ≤ n) (h1 : n ≤ 9223372036854775807) : Lib.zigzag n < 18446744073709551616 := by
  unfold Lib.zigzag
  split <;> omega
theorem int_enc (z : Int) (t : List UInt8) (h0 : -9223372036854775808 ≤ z) (h1 : z ≤ 9223372036854775807) : (A.ready (Lib.uvarint (Lib.zigzag z) ++ t)).int = (z, .ready t) := by
  simp only [A.int, uint_enc _ t (zig_lt z h0 h1), unzig_zig]
theorem count_enc (x : Nat) (t : List UInt8) (most : Int) (hx : x < 18446744073709551616) (hm : (x : Int) ≤ most) : (A.ready (Lib.uvarint x ++ t)).count most = (x, .ready t) := by
  simp only [A.count, uint_enc x t hx]
  rw [if_neg (by omega)]
theorem text_enc (l t : List UInt8) (most : Int) (hx : l.length < 18446744073709551616) (hm : (l.length : Int) ≤ most) : (A.ready (Lib.uvarint l.length ++ (l ++ t))).text most = (l, .ready t) := by
  simp only [A.text, count_enc _ _ most hx hm]
  rw [if_neg (by simp)]
  simp
theorem intsN_enc (zs : List Int) (t : List UInt8) (hz : ∀ z ∈ zs, -9223372036854775808 ≤ z ∧ z ≤ 9223372036854775807) : intsN zs.length (zs.flatMap (fun n => Lib.uvarint (Lib.zigzag n)) ++ t) = (zs, .ready t) := by
  induction zs with
  | nil => simp [intsN]
  | cons z zs ih =>
    have h := hz z (by simp)
    simp only [List.length_cons, intsN, List.flatMap_cons, List.append_assoc]
    rw [int_enc z _ h.1 h.2]
    simp only
    rw [ih (fun y hy => hz y (by simp [hy]))]
theorem ints_enc (zs : List Int) (t : List UInt8) (most : Int) (hl : zs.length < 18446744073709551616) (hz : ∀ z ∈ zs, -9223372036854775808 ≤ z ∧ z ≤ 9223372036854775807) (hm : (zs.length : Int) ≤ most) :
    (A.ready (Lib.uvarint zs.length ++ (zs.flatMap (fun n => Lib.uvarint (Lib.zigzag n)) ++ t))).ints most = (zs, .ready t) := by
  simp only [A.ints, count_enc _ _ most hl hm]
  exact intsN_enc zs t hz

/-- Decoded, each kind: the bytes in front are the encoding. -/
theorem uint_dec (l t : List UInt8) (n : Nat) (h : (A.ready l).uint = (n, .ready t)) : l = Lib.uvarint n ++ t := by
  simp only [A.uint] at h
  split at h
  · rename_i h0
    simp only [Prod.mk.injEq, A.ready.injEq] at h
    obtain ⟨rfl, rfl⟩ := h
    obtain ⟨m, h1, _, h3⟩ := uv_dec l 0 0 _ _ (show uv 0 0 l = (0, (uv 0 0 l).2.1, (uv 0 0 l).2.2) by rw [← h0])
    rw [h1, show 0 + m * 2 ^ (7 * 0) = m by omega]
    exact h3
  · simp at h
theorem int_dec (l t : List UInt8) (z : Int) (h : (A.ready l).int = (z, .ready t)) : l = Lib.uvarint (Lib.zigzag z) ++ t := by
  simp only [A.int, Prod.mk.injEq] at h
  obtain ⟨h1, h2⟩ := h
  rw [← h1, zig_unzig]
  exact uint_dec l t _ (by rw [← h2])
theorem count_dec (l t : List UInt8) (n : Nat) (most : Int) (h : (A.ready l).count most = (n, .ready t)) : l = Lib.uvarint n ++ t := by
  unfold A.count at h
  split at h
  · simp at h
  · rename_i n' t' hu
    split at h
    · simp at h
    · simp only [Prod.mk.injEq, A.ready.injEq] at h
      obtain ⟨rfl, rfl⟩ := h
      exact uint_dec l _ _ hu
theorem text_dec (l t x : List UInt8) (most : Int) (h : (A.ready l).text most = (x, .ready t)) : l = (Lib.uvarint x.length ++ x) ++ t := by
  unfold A.text at h
  split at h
  · simp at h
  · rename_i n' t' hu
    split at h
    · simp at h
    · simp only [Prod.mk.injEq, A.ready.injEq] at h
      obtain ⟨rfl, rfl⟩ := h
      rw [count_dec l _ _ _ hu, List.length_take, Nat.min_eq_left (by omega), List.append_assoc, List.take_append_drop]
theorem intsN_dec (n : Nat) : ∀ (l t : List UInt8) (zs : List Int), intsN n l = (zs, .ready t) → zs.length = n ∧ l = zs.flatMap (fun n => Lib.uvarint (Lib.zigzag n)) ++ t := by
  induction n with
  | zero =>
    intro l t zs h
    simp only [intsN, Prod.mk.injEq, A.ready.injEq] at h
    obtain ⟨rfl, rfl⟩ := h
    exact ⟨rfl, by simp⟩
  | succ n ih =>
    intro l t zs h
    unfold intsN at h
    split at h
    · simp at h
    · rename_i z l' hz
      split at h
      · simp at h
      · rename_i zs' l'' hN
        simp only [Prod.mk.injEq, A.ready.injEq] at h
        obtain ⟨rfl, rfl⟩ := h
        obtain ⟨h1, h2⟩ := ih _ _ _ hN
        refine ⟨by simp [h1], ?_⟩
        rw [int_dec l _ _ hz, h2]
        simp
theorem ints_dec (l t : List UInt8) (zs : List Int) (most : Int) (h : (A.ready l).ints most = (zs, .ready t)) : l = (Lib.uvarint zs.length ++ zs.flatMap (fun n => Lib.uvarint (Lib.zigzag n))) ++ t := by
  unfold A.ints at h
  split at h
  · simp at h
  · rename_i n' t' hu
    obtain ⟨h1, h2⟩ := intsN_dec _ _ _ _ h
    rw [count_dec l _ _ _ hu, h2, h1, List.append_assoc]

theorem intsN_size (n : Nat) : ∀ (l : List UInt8) (zs : List Int) (a : A), intsN n l = (zs, a) → zs.length ≤ l.length ∧ ∀ z ∈ zs, -9223372036854775808 ≤ z ∧ z ≤ 9223372036854775807 := by
  induction n with
  | zero =>
    intro l zs a h
    simp only [intsN, Prod.mk.injEq] at h
    obtain ⟨rfl, _⟩ := h
    simp
  | succ n ih =>
    intro l zs a h
    unfold intsN at h
    split at h
    · simp only [Prod.mk.injEq] at h
      obtain ⟨rfl, _⟩ := h
      simp
    · rename_i z l' hz
      split at h
      · simp only [Prod.mk.injEq] at h
        obtain ⟨rfl, _⟩ := h
        simp
      · rename_i zs' l'' hN
        simp only [Prod.mk.injEq] at h
        obtain ⟨rfl, _⟩ := h
        obtain ⟨h1, h2⟩ := ih _ _ _ hN
        have h3 := int_len _ _ _ hz
        refine ⟨by simp only [List.length_cons]; omega, fun y hy => ?_⟩
        rcases List.mem_cons.1 hy with rfl | hy
        · have h4 := (A.ready l).uint_lt
          simp only [A.int, Prod.mk.injEq] at hz
          rw [← hz.1]
          exact unzig_bounds _ h4
        · exact h2 y hy
theorem count_left (l t : List UInt8) (n : Nat) (most : Int) (h : (A.ready l).count most = (n, .ready t)) : t.length ≤ l.length := by
  rw [count_dec l t n most h, List.length_append]
  omega
theorem ints_size (l : List UInt8) (most : Int) (zs : List Int) (a : A) (h : (A.ready l).ints most = (zs, a)) : zs.length ≤ l.length ∧ ∀ z ∈ zs, -9223372036854775808 ≤ z ∧ z ≤ 9223372036854775807 := by
  unfold A.ints at h
  split at h
  · simp only [Prod.mk.injEq] at h
    obtain ⟨rfl, _⟩ := h
    simp
  · rename_i n' t' hu
    have h1 := count_left l t' n' most hu
    have h2 := intsN_size _ _ _ _ h
    exact ⟨by omega, h2.2⟩
theorem text_size (l : List UInt8) (most : Int) (x : List UInt8) (a : A) (h : (A.ready l).text most = (x, a)) : x.length ≤ l.length := by
  unfold A.text at h
  split at h
  · simp only [Prod.mk.injEq] at h
    obtain ⟨rfl, _⟩ := h
    simp
  · rename_i n' t' hu
    have h1 := count_left l t' n' most hu
    split at h
    · simp only [Prod.mk.injEq] at h
      obtain ⟨rfl, _⟩ := h
      simp
    · simp only [Prod.mk.injEq] at h
      obtain ⟨rfl, _⟩ := h
      rw [List.length_take]
      omega

/-- Cut, each kind: the bytes end too early. -/
theorem uint_cut (x k : Nat) (hx : x < 18446744073709551616) (hk : k < (Lib.uvarint x).length) : (A.ready ((Lib.uvarint x).take k)).uint = (0, .bad 5) := by
  have h := uv_cut x 0 0 k (by omega) (by omega) (.inl rfl) hk
  simp only [A.uint, h]
  simp
theorem int_cut (z : Int) (k : Nat) (h0 : -9223372036854775808 ≤ z) (h1 : z ≤ 9223372036854775807) (hk : k < (Lib.uvarint (Lib.zigzag z)).length) : (A.ready ((Lib.uvarint (Lib.zigzag z)).take k)).int.2 = .bad 5 := by
  simp only [A.int, uint_cut _ k (zig_lt z h0 h1) hk]
theorem count_cut (x k : Nat) (most : Int) (hx : x < 18446744073709551616) (hk : k < (Lib.uvarint x).length) : (A.ready ((Lib.uvarint x).take k)).count most = (0, .bad 5) := by
  simp only [A.count, uint_cut x k hx hk]
theorem text_cut (l : List UInt8) (k : Nat) (most : Int) (hx : l.length < 18446744073709551616) (hm : (l.length : Int) ≤ most) (hk : k < (Lib.uvarint l.length ++ l).length) : ((A.ready ((Lib.uvarint l.length ++ l).take k)).text most).2 = .bad 5 := by
  rw [List.take_append]
  by_cases h : k < (Lib.uvarint l.length).length
  · rw [show k - (Lib.uvarint l.length).length = 0 by omega, List.take_zero, List.append_nil]
    simp only [A.text, count_cut _ _ most hx h]
  · rw [List.take_of_length_le (by omega)]
    simp only [A.text, count_enc _ _ most hx hm]
    rw [List.length_append] at hk
    rw [if_pos (by rw [List.length_take]; omega)]
theorem intsN_cut (zs : List Int) : ∀ (j : Nat), (∀ z ∈ zs, -9223372036854775808 ≤ z ∧ z ≤ 9223372036854775807) → j < (zs.flatMap (fun n => Lib.uvarint (Lib.zigzag n))).length → (intsN zs.length ((zs.flatMap (fun n => Lib.uvarint (Lib.zigzag n))).take j)).2 = .bad 5 := by
  induction zs with
  | nil => intro j _ h; simp at h
  | cons z zs ih =>
    intro j hz h
    have hz0 := hz z (by simp)
    simp only [List.length_cons, List.flatMap_cons] at h ⊢
    rw [List.take_append]
    by_cases hj : j < (Lib.uvarint (Lib.zigzag z)).length
    · rw [show j - (Lib.uvarint (Lib.zigzag z)).length = 0 by omega, List.take_zero, List.append_nil]
      have hc := int_cut z j hz0.1 hz0.2 hj
      obtain ⟨y, a, ha⟩ : ∃ y a, (A.ready ((Lib.uvarint (Lib.zigzag z)).take j)).int = (y, a) := ⟨_, _, rfl⟩
      rw [ha] at hc
      simp only at hc
      subst hc
      rw [intsN_bad _ _ _ _ ha]
    · rw [List.take_of_length_le (by omega)]
      rw [List.length_append] at h
      have hr := ih (j - (Lib.uvarint (Lib.zigzag z)).length) (fun y hy => hz y (by simp [hy])) (by omega)
      have hm := intsN_more [] zs.length _ _ z (int_enc z ((zs.flatMap (fun n => Lib.uvarint (Lib.zigzag n))).take (j - (Lib.uvarint (Lib.zigzag z)).length)) hz0.1 hz0.2)
      rw [intsP_nil] at hm
      rw [hm]
      revert hr
      generalize intsN zs.length _ = r
      rintro hr
      rcases r with ⟨xs, a⟩
      simp only at hr
      subst hr
      rfl
theorem ints_cut (zs : List Int) (k : Nat) (most : Int) (hl : zs.length < 18446744073709551616) (hz : ∀ z ∈ zs, -9223372036854775808 ≤ z ∧ z ≤ 9223372036854775807) (hm : (zs.length : Int) ≤ most) (hk : k < (Lib.uvarint zs.length ++ zs.flatMap (fun n => Lib.uvarint (Lib.zigzag n))).length) :
    ((A.ready ((Lib.uvarint zs.length ++ zs.flatMap (fun n => Lib.uvarint (Lib.zigzag n))).take k)).ints most).2 = .bad 5 := by
  rw [List.take_append]
  by_cases h : k < (Lib.uvarint zs.length).length
  · rw [show k - (Lib.uvarint zs.length).length = 0 by omega, List.take_zero, List.append_nil]
    simp only [A.ints, count_cut _ _ most hl h]
  · rw [List.take_of_length_le (by omega)]
    simp only [A.ints, count_enc _ _ most hl hm]
    rw [List.length_append] at hk
    exact intsN_cut zs _ hz (by omega)

end Go.Proofs.Ytmnlijeflcedcaa.WirePure
