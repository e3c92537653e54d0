/-
  The plain side of package digest: the checksums as functions of the bytes, by tables and bit by bit. No program in sight.
-/
import Derived.Lib.Varint
namespace Go.Proofs.Ytokdbpalkfghaaa.DigPure

/-- One bit's step of the CRC. -/
def st (c : Nat) : Nat := if c % 2 = 1 then (c / 2) ^^^ 3988292384 else c / 2
def it : Nat → Nat → Nat
  | 0, c => c
  | n + 1, c => it n (st c)
def tab (k : Nat) : Nat := it 8 k
def crcGo (c : Nat) : List UInt8 → Nat
  | [] => c
  | b :: t => crcGo (it 8 (c ^^^ b.toNat)) t
def crc (l : List UInt8) : Nat := 4294967295 ^^^ crcGo 4294967295 l

theorem it_snoc (n c : Nat) : it (n + 1) c = st (it n c) := by
  induction n generalizing c with
  | zero => rfl
  | succ n ih => rw [it, ih, it]

theorem st_odd {c : Nat} (h : c % 2 = 1) : st c = (c / 2) ^^^ 3988292384 := if_pos h
theorem st_even {c : Nat} (h : ¬ c % 2 = 1) : st c = c / 2 := if_neg h
theorem st_lt {c : Nat} (h : c < 4294967296) : st c < 4294967296 := by
  unfold st
  split
  · exact Nat.xor_lt_two_pow (n := 32) (by omega) (by omega)
  · omega
theorem it_lt (n : Nat) : ∀ {c : Nat}, c < 4294967296 → it n c < 4294967296 := by
  induction n with
  | zero => intro c h; exact h
  | succ n ih => intro c h; exact ih (st_lt h)
theorem byte_xor_lt {c : Nat} (h : c < 4294967296) (b : UInt8) : c ^^^ b.toNat < 4294967296 :=
  Nat.xor_lt_two_pow (n := 32) (by omega) (by have := b.toNat_lt; omega)
theorem crcGo_lt : ∀ (l : List UInt8) {c : Nat}, c < 4294967296 → crcGo c l < 4294967296
  | [], _, h => h
  | b :: t, _, h => crcGo_lt t (it_lt 8 (byte_xor_lt h b))
theorem crc_lt (l : List UInt8) : crc l < 4294967296 :=
  Nat.xor_lt_two_pow (n := 32) (by omega) (by have := crcGo_lt l (c := 4294967295) (by omega); omega)

theorem crcGo_append (l m : List UInt8) : ∀ c, crcGo c (l ++ m) = crcGo (crcGo c l) m := by
  induction l with
  | nil => intro c; rfl
  | cons b t ih => intro c; exact ih _

theorem xor_left_comm (a b c : Nat) : a ^^^ (b ^^^ c) = b ^^^ (a ^^^ c) := by
  rw [← Nat.xor_assoc, Nat.xor_comm a b, Nat.xor_assoc]

theorem st_xor (a b : Nat) : st (a ^^^ b) = st a ^^^ st b := by
  have h := @Nat.xor_mod_two_eq_one a b
  unfold st
  rw [Nat.xor_div_two]
  by_cases ha : a % 2 = 1 <;> by_cases hb : b % 2 = 1
  · rw [if_neg (fun e => (h.1 e) ⟨fun _ => hb, fun _ => ha⟩), if_pos ha, if_pos hb, Nat.xor_assoc, Nat.xor_comm (b / 2), ← Nat.xor_assoc 3988292384, Nat.xor_self, Nat.zero_xor]
  · rw [if_pos (h.2 (fun e => hb (e.1 ha))), if_pos ha, if_neg hb, Nat.xor_assoc, Nat.xor_comm (b / 2), ← Nat.xor_assoc]
  · rw [if_pos (h.2 (fun e => ha (e.2 hb))), if_neg ha, if_pos hb, Nat.xor_assoc]
  · rw [if_neg (fun e => (h.1 e) ⟨fun x => absurd x ha, fun x => absurd x hb⟩), if_neg ha, if_neg hb]
theorem it_xor (n : Nat) : ∀ a b, it n (a ^^^ b) = it n a ^^^ it n b := by
  induction n with
  | zero => intro a b; rfl
  | succ n ih => intro a b; rw [it, st_xor, ih]; rfl
theorem it_zero (n : Nat) : it n 0 = 0 := by
  induction n with
  | zero => rfl
  | succ n ih => exact ih
theorem it_up (n : Nat) : ∀ x, it n (2 ^ n * x) = x := by
  induction n with
  | zero => intro x; simp [it]
  | succ n ih =>
    intro x
    have e : 2 ^ (n + 1) * x = 2 * (2 ^ n * x) := by rw [Nat.pow_succ, Nat.mul_comm (2 ^ n) 2, Nat.mul_assoc]
    rw [it, st_even (by omega), e, Nat.mul_div_cancel_left _ (by omega : 0 < 2)]
    exact ih x

theorem split8 (c : Nat) : c = (2 ^ 8 * (c / 256)) ^^^ (c % 256) := by
  apply Nat.eq_of_testBit_eq
  intro j
  have e : c = 2 ^ 8 * (c / 256) + c % 256 := by omega
  conv => lhs; rw [e]
  rw [Nat.testBit_two_pow_mul_add _ (by omega), Nat.testBit_xor]
  by_cases h : j < 8
  · have e8 : decide (j ≥ 8) = false := by simp; omega
    rw [if_pos h, Nat.testBit_two_pow_mul, e8]
    simp
  · rw [if_neg h, Nat.testBit_two_pow_mul, Nat.testBit_lt_two_pow (x := c % 256) (by
      have : 2 ^ 8 ≤ 2 ^ j := Nat.pow_le_pow_right (by omega) (by omega)
      omega)]
    simp
    omega

/-- A byte's step by the table. -/
theorem by_table (c : Nat) (b : UInt8) : it 8 (c ^^^ b.toNat) = (c / 256) ^^^ tab ((c % 256) ^^^ b.toNat) := by
  conv => lhs; rw [split8 c, Nat.xor_assoc, it_xor, it_up]
  rfl

theorem st_inj {x y : Nat} (hx : x < 4294967296) (hy : y < 4294967296) (h : st x = st y) : x = y := by
  have key : ∀ z, z < 4294967296 → ((st z).testBit 31 = true ↔ z % 2 = 1) := by
    intro z hz
    have hd : (z / 2).testBit 31 = false := Nat.testBit_lt_two_pow (by omega)
    by_cases e : z % 2 = 1
    · rw [st_odd e, Nat.testBit_xor, hd]
      simp [e]
      decide
    · rw [st_even e, hd]
      simp [e]
  have h2 := (key x hx).symm.trans ((by rw [h] : (st x).testBit 31 = true ↔ (st y).testBit 31 = true).trans (key y hy))
  by_cases e : x % 2 = 1
  · have e2 := h2.1 e
    rw [st_odd e, st_odd e2] at h
    have h3 := congrArg (· ^^^ 3988292384) h
    simp only [Nat.xor_assoc, Nat.xor_self, Nat.xor_zero] at h3
    omega
  · have e2 : ¬ y % 2 = 1 := fun k => e (h2.2 k)
    rw [st_even e, st_even e2] at h
    omega
theorem it_inj (n : Nat) : ∀ {x y : Nat}, x < 4294967296 → y < 4294967296 → it n x = it n y → x = y := by
  induction n with
  | zero => intro x y _ _ h; exact h
  | succ n ih => intro x y hx hy h; exact st_inj hx hy (ih (st_lt hx) (st_lt hy) h)
theorem xor_cancel {a x y : Nat} (h : a ^^^ x = a ^^^ y) : x = y := by
  have h2 := congrArg (a ^^^ ·) h
  simp only [← Nat.xor_assoc, Nat.xor_self, Nat.zero_xor] at h2
  exact h2
theorem xor_cancel_right {a x y : Nat} (h : x ^^^ a = y ^^^ a) : x = y := by
  rw [Nat.xor_comm x, Nat.xor_comm y] at h
  exact xor_cancel h
theorem crcGo_inj : ∀ (l : List UInt8) {x y : Nat}, x < 4294967296 → y < 4294967296 → crcGo x l = crcGo y l → x = y
  | [], _, _, _, _, h => h
  | b :: t, _, _, hx, hy, h => xor_cancel_right (it_inj 8 (byte_xor_lt hx b) (byte_xor_lt hy b) (crcGo_inj t (it_lt 8 (byte_xor_lt hx b)) (it_lt 8 (byte_xor_lt hy b)) h))

/-- Another byte at one place: another CRC. -/
theorem crc_told (l m : List UInt8) (a b : UInt8) (h : crc (l ++ a :: m) = crc (l ++ b :: m)) : a = b := by
  have h1 := xor_cancel h
  rw [crcGo_append, crcGo_append] at h1
  have hl := crcGo_lt l (c := 4294967295) (by omega)
  have h2 := crcGo_inj m (it_lt 8 (byte_xor_lt hl a)) (it_lt 8 (byte_xor_lt hl b)) h1
  have h3 := xor_cancel (it_inj 8 (byte_xor_lt hl a) (byte_xor_lt hl b) h2)
  exact UInt8.toNat_inj.1 h3

theorem crcGo_xor : ∀ (s t x z : List UInt8) (_ : s.length = t.length) (_ : x = List.zipWith (· ^^^ ·) s t) (_ : z = List.replicate s.length 0) (c d e f : Nat) (_ : c ^^^ d ^^^ e ^^^ f = 0),
    crcGo c s ^^^ crcGo d t ^^^ crcGo e x ^^^ crcGo f z = 0
  | [], [], x, z, _, hx, hz, c, d, e, f, h => by subst hx hz; exact h
  | a :: s, b :: t, x, z, hl, hx, hz, c, d, e, f, h => by
    subst hx hz
    refine crcGo_xor s t _ _ (by simpa using hl) rfl rfl _ _ _ _ ?_
    rw [← it_xor, ← it_xor, ← it_xor]
    have e1 : (c ^^^ a.toNat ^^^ (d ^^^ b.toNat) ^^^ (e ^^^ (a ^^^ b).toNat) ^^^ (f ^^^ (0 : UInt8).toNat)) = 0 := by
      rw [UInt8.toNat_xor]
      have e2 : (c ^^^ a.toNat ^^^ (d ^^^ b.toNat) ^^^ (e ^^^ (a.toNat ^^^ b.toNat)) ^^^ (f ^^^ (0 : UInt8).toNat)) = (c ^^^ d ^^^ e ^^^ f) ^^^ ((a.toNat ^^^ a.toNat) ^^^ (b.toNat ^^^ b.toNat)) := by
        rw [show (0 : UInt8).toNat = 0 from rfl, Nat.xor_zero]
        ac_rfl
      rw [e2, h, Nat.xor_self, Nat.xor_self]
      rfl
    rw [e1]
    exact it_zero 8

/-- The CRCs of two strings, of their exclusive-or and of zeros cancel. -/
theorem crc_linear (s t : List UInt8) (hl : s.length = t.length) : crc s ^^^ crc t ^^^ crc (List.zipWith (· ^^^ ·) s t) ^^^ crc (List.replicate s.length 0) = 0 := by
  have h := crcGo_xor s t _ _ hl rfl rfl 4294967295 4294967295 4294967295 4294967295 (by decide)
  unfold crc
  rw [show ∀ a b c d k : Nat, (k ^^^ a) ^^^ (k ^^^ b) ^^^ (k ^^^ c) ^^^ (k ^^^ d) = ((k ^^^ k) ^^^ (k ^^^ k)) ^^^ (a ^^^ b ^^^ c ^^^ d) from fun a b c d k => by ac_rfl, h, Nat.xor_self]
  rfl

/-- Adler's two sums. -/
def adGo : Nat × Nat → List UInt8 → Nat × Nat
  | p, [] => p
  | (a, b), c :: t => adGo ((a + c.toNat) % 65521, (b + (a + c.toNat) % 65521) % 65521) t
def ad (l : List UInt8) : Nat × Nat := adGo (1, 0) l
def adler (l : List UInt8) : Nat := (ad l).2 * 65536 + (ad l).1
theorem adGo_snoc (l : List UInt8) (c : UInt8) : ∀ p, adGo p (l ++ [c]) = (((adGo p l).1 + c.toNat) % 65521, ((adGo p l).2 + ((adGo p l).1 + c.toNat) % 65521) % 65521) := by
  induction l with
  | nil => intro p; rfl
  | cons d t ih => intro p; exact ih _
theorem adGo_append (l m : List UInt8) : ∀ p, adGo p (l ++ m) = adGo (adGo p l) m := by
  induction l with
  | nil => intro p; rfl
  | cons d t ih => intro p; exact ih _
theorem adGo_lt : ∀ (l : List UInt8) (p : Nat × Nat), p.1 < 65521 → p.2 < 65521 → (adGo p l).1 < 65521 ∧ (adGo p l).2 < 65521
  | [], _, h1, h2 => ⟨h1, h2⟩
  | c :: t, p, _, _ => adGo_lt t _ (Nat.mod_lt _ (by omega)) (Nat.mod_lt _ (by omega))
theorem ad_lt (l : List UInt8) : (ad l).1 < 65521 ∧ (ad l).2 < 65521 := adGo_lt l (1, 0) (by decide) (by decide)

def sums : List UInt8 → Nat
  | [] => 0
  | c :: t => c.toNat + sums t
def sumw : List UInt8 → Nat
  | [] => 0
  | c :: t => (t.length + 1) * c.toNat + sumw t
theorem adGo_eq : ∀ (l : List UInt8) (a b : Nat), a < 65521 → b < 65521 → adGo (a, b) l = ((a + sums l) % 65521, (b + l.length * a + sumw l) % 65521)
  | [], a, b, ha, hb => by simp [adGo, sums, sumw, Nat.mod_eq_of_lt ha, Nat.mod_eq_of_lt hb]
  | c :: t, a, b, ha, hb => by
    rw [adGo, adGo_eq t _ _ (Nat.mod_lt _ (by omega)) (Nat.mod_lt _ (by omega))]
    have e1 : ((a + c.toNat) % 65521 + sums t) % 65521 = (a + sums (c :: t)) % 65521 := by
      simp only [sums]
      omega
    have h3 : (t.length * ((a + c.toNat) % 65521)) % 65521 = (t.length * (a + c.toNat)) % 65521 := by
      rw [Nat.mul_mod, Nat.mod_mod, ← Nat.mul_mod]
    have e2 : ((b + (a + c.toNat) % 65521) % 65521 + t.length * ((a + c.toNat) % 65521) + sumw t) % 65521 = (b + (c :: t).length * a + sumw (c :: t)) % 65521 := by
      simp only [sumw, List.length_cons]
      rw [Nat.mul_add] at h3
      rw [Nat.add_mul, Nat.add_mul, Nat.one_mul, Nat.one_mul]
      omega
    rw [e1, e2]

theorem join_arith {b u v n w : Nat} (h : v % 65521 = (u + n * 65520) % 65521) : (b + u + w) % 65521 = (b + (0 + n * 1 + w) % 65521 + v) % 65521 := by omega
theorem ad_join (s t : List UInt8) : (ad (s ++ t)).1 = ((ad s).1 + (ad t).1 + 65520) % 65521 ∧
    (ad (s ++ t)).2 = ((ad s).2 + (ad t).2 + t.length % 65521 * ((ad s).1 + 65520)) % 65521 := by
  have hs := ad_lt s
  have ht := adGo_eq t 1 0 (by omega) (by omega)
  have hj : ad (s ++ t) = adGo ((ad s).1, (ad s).2) t := by unfold ad; rw [adGo_append]
  have e : ad t = adGo (1, 0) t := rfl
  rw [hj, adGo_eq t _ _ hs.1 hs.2, e, ht]
  generalize (ad s).1 = a at *
  generalize (ad s).2 = b at *
  refine ⟨by simp only; omega, ?_⟩
  simp only
  have h1 : (t.length % 65521 * (a + 65520)) % 65521 = (t.length * (a + 65520)) % 65521 := by
    rw [Nat.mul_mod, Nat.mod_mod, ← Nat.mul_mod]
  rw [Nat.mul_add t.length a 65520] at h1
  exact join_arith h1

def fnvGo (h : Nat) : List UInt8 → Nat
  | [] => h
  | b :: t => fnvGo ((h ^^^ b.toNat) * 1099511628211 % 18446744073709551616) t
def fnv (l : List UInt8) : Nat := fnvGo 14695981039346656037 l
theorem fnvGo_snoc (l : List UInt8) (b : UInt8) : ∀ h, fnvGo h (l ++ [b]) = (fnvGo h l ^^^ b.toNat) * 1099511628211 % 18446744073709551616 := by
  induction l with
  | nil => intro h; rfl
  | cons d t ih => intro h; exact ih _
theorem fnvGo_lt : ∀ (l : List UInt8) (h : Nat), h < 18446744073709551616 → fnvGo h l < 18446744073709551616
  | [], _, h => h
  | _ :: t, _, _ => fnvGo_lt t _ (Nat.mod_lt _ (by omega))

end Go.Proofs.Ytokdbpalkfghaaa.DigPure
