/-
  Texts of this claim, joined (3 of 8): WirePure, WireNum, WireRd, WireRd2, WirePure2, WireRd3, WirePure3, WireEx, RegG, ProPure, ProA, ProB, ProC.
-/
import Derived.Test.YtcighjeiimjbiaaAll2
import Derived.Lib.Varint
import Derived.Lib.VarintDec
import Derived.Laws.BitsAllLaws
import Derived.Laws.Bits64
import Derived.WalkKit
import Derived.WalkSpells
import Derived.WalkLawsBesides
import Derived.Outline
import Derived.Deep.QuietTactic
import Derived.BigQuiet
import Derived.Lib.Hide
import Derived.OrdersHeld
import Derived.Deep.RegionHeld

/- WirePure: The plain side of package wire's reader: what each call of a reader answers, as a function on the bytes that are left. No program in sight. -/
namespace Go.Proofs.Ytcighjeiimjbiaa.WirePure

def uv (i acc : Nat) : List UInt8 → Int × Nat × List UInt8
  | [] => (5, 0, [])
  | c :: t =>
    if (i = 9 ∧ 1 < c.toNat) ∨ (0 < i ∧ c.toNat = 0) then (4, 0, [])
    else if c.toNat < 128 then (0, acc + c.toNat * 2 ^ (7 * i), t)
    else uv (i + 1) (acc + c.toNat % 128 * 2 ^ (7 * i)) t

theorem uv_nil (i acc : Nat) : uv i acc [] = (5, 0, []) := rfl
theorem uv_form (i acc : Nat) (c : UInt8) (t : List UInt8) (h : (i = 9 ∧ 1 < c.toNat) ∨ (0 < i ∧ c.toNat = 0)) : uv i acc (c :: t) = (4, 0, []) := by
  rw [uv, if_pos h]
theorem uv_last (i acc : Nat) (c : UInt8) (t : List UInt8) (h : ¬ ((i = 9 ∧ 1 < c.toNat) ∨ (0 < i ∧ c.toNat = 0))) (h2 : c.toNat < 128) : uv i acc (c :: t) = (0, acc + c.toNat * 2 ^ (7 * i), t) := by
  rw [uv, if_neg h, if_pos h2]
theorem uv_more (i acc : Nat) (c : UInt8) (t : List UInt8) (h : ¬ ((i = 9 ∧ 1 < c.toNat) ∨ (0 < i ∧ c.toNat = 0))) (h2 : 128 ≤ c.toNat) : uv i acc (c :: t) = uv (i + 1) (acc + c.toNat % 128 * 2 ^ (7 * i)) t := by
  rw [uv, if_neg h, if_neg (by omega)]

theorem pow7 (i : Nat) : 2 ^ (7 * (i + 1)) = 128 * 2 ^ (7 * i) := by
  rw [Nat.mul_add, Nat.pow_add, Nat.mul_comm]

/-- What is read fits in 64 bits, and is what the bytes in front of the rest say. -/
theorem uv_lt (l : List UInt8) : ∀ i acc, i ≤ 9 → acc < 2 ^ (7 * i) → (uv i acc l).2.1 < 18446744073709551616 := by
  induction l with
  | nil => intro i acc _ _; simp [uv_nil]
  | cons c t ih =>
    intro i acc hi ha
    by_cases h : (i = 9 ∧ 1 < c.toNat) ∨ (0 < i ∧ c.toNat = 0)
    · rw [uv_form _ _ _ _ h]; simp
    · by_cases h2 : c.toNat < 128
      · rw [uv_last _ _ _ _ h h2]
        show acc + c.toNat * 2 ^ (7 * i) < _
        by_cases h9 : i = 9
        · subst h9
          have : c.toNat ≤ 1 := by omega
          have : c.toNat * 2 ^ (7 * 9) ≤ 1 * 2 ^ (7 * 9) := Nat.mul_le_mul_right _ this
          omega
        · have h3 : c.toNat * 2 ^ (7 * i) ≤ 127 * 2 ^ (7 * i) := Nat.mul_le_mul_right _ (by omega)
          have h4 : 2 ^ (7 * i) ≤ 2 ^ (7 * 8) := Nat.pow_le_pow_right (by omega) (by omega)
          omega
      · rw [uv_more _ _ _ _ h (by omega)]
        have h3 : c.toNat % 128 * 2 ^ (7 * i) ≤ 127 * 2 ^ (7 * i) := Nat.mul_le_mul_right _ (by omega)
        refine ih _ _ ?_ ?_
        · have := c.toNat_lt
          omega
        · rw [pow7]
          omega

theorem uv_err (l : List UInt8) : ∀ i acc, (uv i acc l).1 = 0 ∨ (uv i acc l).1 = 4 ∨ (uv i acc l).1 = 5 := by
  induction l with
  | nil => intro i acc; simp [uv_nil]
  | cons c t ih =>
    intro i acc
    by_cases h : (i = 9 ∧ 1 < c.toNat) ∨ (0 < i ∧ c.toNat = 0)
    · rw [uv_form _ _ _ _ h]; simp
    · by_cases h2 : c.toNat < 128
      · rw [uv_last _ _ _ _ h h2]; simp
      · rw [uv_more _ _ _ _ h (by omega)]; exact ih _ _

theorem uv_zero (l : List UInt8) : ∀ i acc, (uv i acc l).1 ≠ 0 → (uv i acc l).2.1 = 0 := by
  induction l with
  | nil => intro i acc _; simp [uv_nil]
  | cons c t ih =>
    intro i acc h0
    by_cases h : (i = 9 ∧ 1 < c.toNat) ∨ (0 < i ∧ c.toNat = 0)
    · rw [uv_form _ _ _ _ h]
    · by_cases h2 : c.toNat < 128
      · rw [uv_last _ _ _ _ h h2] at h0; simp at h0
      · rw [uv_more _ _ _ _ h (by omega)] at h0 ⊢; exact ih _ _ h0

/-- The state of a reader: bytes that are left, or the error that it has. -/
inductive A where
  | ready (l : List UInt8)
  | bad (e : Int)

def A.uint : A → Nat × A
  | .bad e => (0, .bad e)
  | .ready l => if (uv 0 0 l).1 = 0 then ((uv 0 0 l).2.1, .ready (uv 0 0 l).2.2) else (0, .bad (uv 0 0 l).1)
theorem A.uint_lt (a : A) : a.uint.1 < 18446744073709551616 := by
  cases a with
  | bad e => simp [A.uint]
  | ready l =>
    simp only [A.uint]
    split
    · exact uv_lt l 0 0 (by omega) (by simp)
    · exact (by decide : 0 < 18446744073709551616)
def A.int (a : A) : Int × A := (Lib.unzigzag a.uint.1, a.uint.2)
def A.count (most : Int) (a : A) : Nat × A :=
  match a.uint with
  | (_, .bad e) => (0, .bad e)
  | (n, .ready l) => if max most 0 < (n : Int) then (0, .bad 3) else (n, .ready l)
def A.text (most : Int) (a : A) : List UInt8 × A :=
  match a.count most with
  | (_, .bad e) => ([], .bad e)
  | (n, .ready l) => if l.length < n then ([], .bad 5) else (l.take n, .ready (l.drop n))
def intsN : Nat → List UInt8 → List Int × A
  | 0, l => ([], .ready l)
  | n + 1, l =>
    match (A.ready l).int with
    | (_, .bad e) => ([], .bad e)
    | (z, .ready l') =>
      match intsN n l' with
      | (_, .bad e) => ([], .bad e)
      | (zs, .ready l'') => (z :: zs, .ready l'')
def A.ints (most : Int) (a : A) : List Int × A :=
  match a.count most with
  | (_, .bad e) => ([], .bad e)
  | (n, .ready l) => intsN n l
def A.left : A → Nat
  | .ready l => l.length
  | .bad _ => 0
def A.err : A → Int
  | .ready _ => 0
  | .bad e => e
def A.fin : A → Int
  | .ready l => if l.length = 0 then 0 else 6
  | .bad e => e
def A.fail (e : Int) : A → A
  | .ready l => if e = 0 then .ready l else .bad e
  | .bad e' => .bad e'

end Go.Proofs.Ytcighjeiimjbiaa.WirePure

/- WireNum: The numbers of a varint's reading: one group of seven bits joined to those that were read. -/
namespace Go.Proofs.Ytcighjeiimjbiaa.WirePure
open Go.RowKit

theorem grp_lt (i c : Nat) (hi : i ≤ 9) (h9 : i = 9 → c ≤ 1) (hc : c < 128) : c * 2 ^ (7 * i) < 18446744073709551616 := by
  by_cases e : i = 9
  · subst e
    have := h9 rfl
    omega
  · have h3 : c * 2 ^ (7 * i) ≤ 127 * 2 ^ (7 * i) := Nat.mul_le_mul_right _ (by omega)
    have h4 : 2 ^ (7 * i) ≤ 2 ^ (7 * 8) := Nat.pow_le_pow_right (by omega) (by omega)
    omega

theorem orb (i acc c : Nat) (hi : i ≤ 9) (ha : acc < 2 ^ (7 * i)) (hc : c < 256) (h9 : i = 9 → c % 128 ≤ 1) :
    bits .or .u64 (acc : Int) (IntKind.u64.wrap (IntKind.u64.wrap (bits .and .u8 (c : Int) 127) * 2 ^ (7 * i))) = ((acc + c % 128 * 2 ^ (7 * i) : Nat) : Int) := by
  have e1 : bits .and .u8 (c : Int) 127 = ((c % 128 : Nat) : Int) := by
    have := u8_and_nat c 127 hc (by decide)
    rw [nat_mask7] at this
    exact this
  have hg := grp_lt i (c % 128) hi h9 (by omega)
  have e2 : IntKind.u64.wrap ((c % 128 : Nat) : Int) = ((c % 128 : Nat) : Int) := by rw [IntKind.wrap_u64]; omega
  have e3 : (((c % 128 : Nat) : Int) * 2 ^ (7 * i)) = ((c % 128 * 2 ^ (7 * i) : Nat) : Int) := by
    rw [Int.natCast_mul, Int.natCast_pow]
    rfl
  rw [e1, e2, e3]
  have e4 : IntKind.u64.wrap ((c % 128 * 2 ^ (7 * i) : Nat) : Int) = ((c % 128 * 2 ^ (7 * i) : Nat) : Int) := by
    rw [IntKind.wrap_u64]
    generalize c % 128 * 2 ^ (7 * i) = z at *
    omega
  have ha2 : acc < 18446744073709551616 := by
    have h4 : 2 ^ (7 * i) ≤ 2 ^ (7 * 9) := Nat.pow_le_pow_right (by omega) (by omega)
    omega
  rw [e4, u64_or_nat _ _ ha2 hg, Nat.or_comm, nat_join (7 * i) _ _ (by simp) ha, Nat.add_comm]

theorem not_i64 (k : Nat) (h : k < 9223372036854775808) : bits .xor .i64 (-1) (k : Int) = -(k : Int) - 1 := by
  show IntKind.i64.wrap ((BitVec.ofInt 64 (-1) ^^^ BitVec.ofInt 64 (k : Int)).toNat : Int) = _
  have e : BitVec.ofInt 64 (-1) = BitVec.allOnes 64 := by decide
  rw [e, BitVec.allOnes_xor, BitVec.toNat_not, BitVec.ofInt_natCast, BitVec.toNat_ofNat, Nat.mod_eq_of_lt (by omega)]
  rw [show ((2 ^ 64 - 1 - k : Nat) : Int) = 18446744073709551615 - k by omega]
  simp [IntKind.wrap, IntKind.bits, IntKind.signed]
  omega

theorem orb_lt (i acc c : Nat) (ha : acc < 2 ^ (7 * i)) : acc + c % 128 * 2 ^ (7 * i) < 2 ^ (7 * (i + 1)) := by
  have h3 : c % 128 * 2 ^ (7 * i) ≤ 127 * 2 ^ (7 * i) := Nat.mul_le_mul_right _ (by omega)
  rw [pow7]
  omega

end Go.Proofs.Ytcighjeiimjbiaa.WirePure

/- WireRd: What each method of package wire's reader answers and makes of the reader, in every state of the reader (nil, not made, with an error, ready). -/
namespace Go.Proofs.Ytcighjeiimjbiaa.WireRd
open Go.RowKit Go.Proofs.Ytcighjeiimjbiaa Go.Proofs.Ytcighjeiimjbiaa.WirePure

def rdCells (made : Bool) (s : ByteArray) (at_ : Nat) (e : Int) : Array Value := #[.bool made, .string s, .int .i64 at_, .int .i64 e]

def Is (w : World) (g : Option Nat) : A → Prop
  | .ready l => ∃ b s p, g = some b ∧ Blk w b 103 (rdCells true s p 0) ∧ p ≤ s.size ∧ s.size ≤ 140737488355328 ∧ l = s.data.toList.drop p
  | .bad e => (g = none ∧ e = 14) ∨ (∃ b s p e', g = some b ∧ e = 14 ∧ Blk w b 103 (rdCells false s p e')) ∨ (∃ b s p, g = some b ∧ (e == 0) = false ∧ Blk w b 103 (rdCells true s p e))
def pt (g : Option Nat) : Value := .pointer (g.map fun b => ⟨b, 0, none⟩)

theorem ready_bad (g : Option Nat) (x : Int) (w : World) (h : Is w g (.bad x)) :
    Calls Try.prog 88 #[pt g] w fun e w' => e = .returned (.bool false) ∧ w = w' := by
  rcases h with ⟨rfl, rfl⟩ | ⟨b, s, p, e', rfl, rfl, hb⟩ | ⟨b, s, p, rfl, hx, hb⟩
  · simp only [pt, Option.map_none]
    go_enter Try.func88, Try.ntmps88
    go_wp2
    go_ret
    exact ⟨rfl, rfl⟩
  · have c0 := hb.cell 0
    simp only [rdCells] at c0
    simp only [pt, Option.map_some]
    go_enter Try.func88, Try.ntmps88
    go_wp2
    go_ret
    exact ⟨rfl, rfl⟩
  · have c0 := hb.cell 0
    have c3 := hb.cell 3
    simp only [rdCells] at c0 c3
    simp only [pt, Option.map_some]
    go_enter Try.func88, Try.ntmps88
    go_wp2
    go_ret
    exact ⟨rfl, rfl⟩

theorem ready_at (b : Nat) (s : ByteArray) (p : Nat) (w : World) (hb : Blk w b 103 (rdCells true s p 0)) :
    Calls Try.prog 88 #[.pointer (some ⟨b, 0, none⟩)] w fun e w' => e = .returned (.bool true) ∧ w = w' := by
  have c0 := hb.cell 0
  have c3 := hb.cell 3
  simp only [rdCells] at c0 c3
  go_enter Try.func88, Try.ntmps88
  go_wp2
  go_ret
  exact ⟨rfl, rfl⟩

theorem uint_bad (g : Option Nat) (x : Int) (w : World) (h : Is w g (.bad x)) :
    Calls Try.prog 90 #[pt g] w fun e w' => e = .returned (.int .u64 0) ∧ w = w' := by
  go_enter Try.func90, Try.ntmps90
  go_wp2_with (go_at_call 88; refine (ready_bad _ _ _ h).mono ?_; rintro e w' ⟨rfl, rfl⟩)
  go_ret
  exact ⟨rfl, rfl⟩

theorem grown_set {w W : World} {g : Nat} (h : w.grownBy W (some g)) (i : Nat) (u : Value) : w.grownBy (W.setCell ⟨g, i, none⟩ u) (some g) :=
  ⟨h.os, h.tape, h.output, by simpa [World.setCell] using h.size, fun k hk hne => (Below.heap_setCell _ _ _ _ (by simpa using hne)).trans (h.block k hk hne)⟩
theorem grown_drewN {w W : World} {r : Option Nat} (h : w.grownBy W r) (n : Nat) : w.grownBy (W.drewN n) r := ⟨h.os, h.tape, h.output, h.size, h.block⟩

def UPost (w : World) (g : Nat) (s : ByteArray) (p : Nat) (e : Ending) (w' : World) : Prop :=
  ∃ p' : Nat, e = .returned (.int .u64 (uv 0 0 (s.data.toList.drop p)).2.1) ∧ w.grownBy w' (some g) ∧ Blk w' g 103 (rdCells true s p' (uv 0 0 (s.data.toList.drop p)).1) ∧ p' ≤ s.size ∧ ((uv 0 0 (s.data.toList.drop p)).1 = 0 → s.data.toList.drop p' = (uv 0 0 (s.data.toList.drop p)).2.2)

theorem end_bad {w W : World} {g : Nat} {s : ByteArray} {p q : Nat} {x : Int} (hg : w.grownBy W (some g)) (hb : Blk W g 103 (rdCells true s q 0)) (hq : q ≤ s.size) (hx : x ≠ 0) (h : uv 0 0 (s.data.toList.drop p) = (x, 0, [])) :
    UPost w g s p (.returned (.int .u64 0)) (W.setCell ⟨g, 3, none⟩ (.int .i64 x)) := by
  refine ⟨q, by rw [h]; rfl, grown_set hg _ _, ?_, hq, ?_⟩
  · have := hb.set_ 3 (.int .i64 x)
    rw [h]
    simpa [rdCells] using this
  · rw [h]
    intro h0
    exact absurd h0 hx

theorem blk_at {W : World} {g q : Nat} {s : ByteArray} (hb : Blk W g 103 (rdCells true s q 0)) : Blk (W.setCell ⟨g, 2, none⟩ (.int .i64 (q + 1))) g 103 (rdCells true s (q + 1) 0) := by
  have := hb.set_ 2 (.int .i64 (q + 1))
  simpa [rdCells] using this

theorem end_last {w W : World} {g : Nat} {s : ByteArray} {p q : Nat} {v : Int} {n : Nat} (hg : w.grownBy W (some g)) (hb : Blk W g 103 (rdCells true s q 0)) (hq : q < s.size) (hv : v = n) (h : uv 0 0 (s.data.toList.drop p) = (0, n, s.data.toList.drop (q + 1))) :
    UPost w g s p (.returned (.int .u64 v)) (W.setCell ⟨g, 2, none⟩ (.int .i64 (q + 1))) := by
  subst hv
  refine ⟨q + 1, by rw [h], grown_set hg _ _, ?_, hq, ?_⟩
  · have := hb.set_ 2 (.int .i64 (q + 1))
    rw [h]
    simpa [rdCells] using this
  · rw [h]
    exact fun _ => rfl

set_option maxHeartbeats 1000000 in
set_option maxRecDepth 100000 in
theorem uint_at (g : Nat) (s : ByteArray) (p : Nat) (w : World) (hs : s.size ≤ 140737488355328) (hp : p ≤ s.size) (hb : Blk w g 103 (rdCells true s p 0)) :
    Calls Try.prog 90 #[.pointer (some ⟨g, 0, none⟩)] w (UPost w g s p) := by
  go_enter Try.func90, Try.ntmps90
  go_wp2_with (go_at_call 88; refine (ready_at _ _ _ _ hb).mono ?_; rintro e w' ⟨rfl, rfl⟩)
  go_loopw [3, 4] (fun vn vi wr => ∃ i acc q : Nat, vi = .int .i64 i ∧ vn = .int .u64 acc ∧ i ≤ 9 ∧ acc < 2 ^ (7 * i) ∧ w.grownBy wr (some g) ∧ Blk wr g 103 (rdCells true s q 0) ∧ q ≤ s.size ∧ uv 0 0 (s.data.toList.drop p) = uv i acc (s.data.toList.drop q))
    (fun _ vi _ => 10 - (intOf vi).toNat)
  case atStart => exact ⟨0, 0, p, rfl, rfl, by omega, by simp, World.grownBy.refl _ _, hb, hp, rfl⟩
  case round =>
    obtain ⟨i, acc, q, rfl, rfl, hi, hacc, hg, hbr, hq, huv⟩ := hrel
    clear hb
    have HU := Lib.hid huv
    clear huv
    have HA := Lib.hid hacc
    clear hacc
    have c1 := hbr.cell 1
    have c2 := hbr.cell 2
    have c3 := hbr.cell 3
    have f2 := hbr.frozen 2
    have f3 := hbr.frozen 3
    simp only [rdCells] at c1 c2 c3
    rcases Nat.lt_or_ge q s.size with hlt | hge
    · have hdr : s.data.toList.drop q = s[q] :: s.data.toList.drop (q + 1) := List.drop_eq_getElem_cons (by simpa using hlt)
      have HD := Lib.hid hdr
      clear hdr
      have hc256 : s[q].toNat < 256 := s[q].toNat_lt
      by_cases hform : (i = 9 ∧ 1 < s[q].toNat) ∨ (0 < i ∧ s[q].toNat = 0)
      · have HE : Hid (uv 0 0 (s.data.toList.drop p) = (4, 0, [])) := by
          rw [HU.out, HD.out, uv_form _ _ _ _ hform]
          exact rfl
        rcases hform with ⟨h9, h1⟩ | ⟨h9, h1⟩
        · have H9 := Lib.hid h9
          have t1 : ((i : Int) == 9) = true := by simp; omega
          clear h9
          go_wp2
          go_quiet (fail)
          go_wp2
          go_quiet (fail)
          go_wp2
          go_ret
          exact end_bad (grown_drewN hg _) hbr hq (by decide) HE.out
        · have t0 : ((s[q].toNat : Int) == 0) = true := by simp; omega
          have hle : s[q].toNat ≤ 1 := by omega
          clear h1
          by_cases h9' : i = 9
          · have t1 : ((i : Int) == 9) = true := by simp; omega
            clear h9'
            go_wp2
            go_quiet (fail)
            go_wp2
            go_quiet (fail)
            go_wp2
            go_ret
            exact end_bad (grown_drewN hg _) hbr hq (by decide) HE.out
          · have t1 : ((i : Int) == 9) = false := by simp; omega
            go_wp2
            go_quiet (fail)
            go_wp2
            go_quiet (fail)
            go_wp2
            go_ret
            exact end_bad (grown_drewN hg _) hbr hq (by decide) HE.out
      · have HF := Lib.hid hform
        clear hform
        by_cases h128 : s[q].toNat < 128
        · have HE : Hid (uv 0 0 (s.data.toList.drop p) = (0, acc + s[q].toNat * 2 ^ (7 * i), s.data.toList.drop (q + 1))) := by
            rw [HU.out, HD.out, uv_last _ _ _ _ HF.out h128]
            exact rfl
          have hF := HF.out
          have HL : i = 9 → s[q].toNat % 128 ≤ 1 := by omega
          by_cases h9 : i = 9
          · have t1 : ((i : Int) == 9) = true := by simp; omega
            have t0 : ((s[q].toNat : Int) == 0) = false := by simp; omega
            have hle : s[q].toNat ≤ 1 := by omega
            have hi0 : 0 < i := by omega
            clear h9 hF
            go_wp2
            go_quiet (fail)
            go_wp2
            go_quiet (fail)
            go_wp2
            go_ret
            exact end_last (grown_drewN hg _) hbr hlt (orb i acc _ hi HA.out hc256 HL) (by rw [HE.out, Nat.mod_eq_of_lt h128])
          · have t1 : ((i : Int) == 9) = false := by simp; omega
            by_cases hi0 : 0 < i
            · have t0 : ((s[q].toNat : Int) == 0) = false := by simp; omega
              clear h9 hF
              go_wp2
              go_quiet (fail)
              go_wp2
              go_quiet (fail)
              go_wp2
              go_ret
              exact end_last (grown_drewN hg _) hbr hlt (orb i acc _ hi HA.out hc256 HL) (by rw [HE.out, Nat.mod_eq_of_lt h128])
            · clear h9 hF
              go_wp2
              go_quiet (fail)
              go_wp2
              go_quiet (fail)
              go_wp2
              go_ret
              exact end_last (grown_drewN hg _) hbr hlt (orb i acc _ hi HA.out hc256 HL) (by rw [HE.out, Nat.mod_eq_of_lt h128])
        · have HE : Hid (uv 0 0 (s.data.toList.drop p) = uv (i + 1) (acc + s[q].toNat % 128 * 2 ^ (7 * i)) (s.data.toList.drop (q + 1))) := by
            rw [HU.out, HD.out, uv_more _ _ _ _ HF.out (by omega)]
            exact rfl
          have hF := HF.out
          have h9 : i < 9 := by omega
          have HL : i = 9 → s[q].toNat % 128 ≤ 1 := by omega
          have t1 : ((i : Int) == 9) = false := by simp; omega
          have t0 : ((s[q].toNat : Int) == 0) = false := by simp; omega
          clear hF
          by_cases hi0 : 0 < i
          · clear HF
            go_wp2
            go_quiet (fail)
            go_wp2
            go_quiet (fail)
            go_wp2
            go_roundw
            case rel =>
              refine ⟨i + 1, _, q + 1, by go_num, congrArg (Value.int .u64) (orb i acc _ hi HA.out hc256 HL), by omega, orb_lt _ _ _ HA.out, grown_set (grown_drewN hg _) _ _, blk_at (Blk.drewN hbr _), hlt, HE.out⟩
            case measure => simp [intOf]; omega
          · clear HF
            go_wp2
            go_quiet (fail)
            go_wp2
            go_quiet (fail)
            go_wp2
            go_roundw
            case rel =>
              refine ⟨i + 1, _, q + 1, by go_num, congrArg (Value.int .u64) (orb i acc _ hi HA.out hc256 HL), by omega, orb_lt _ _ _ HA.out, grown_set (grown_drewN hg _) _ _, blk_at (Blk.drewN hbr _), hlt, HE.out⟩
            case measure => simp [intOf]; omega
    · go_wp2
      go_quiet (fail)
      go_wp2
      go_ret
      exact end_bad (grown_drewN hg _) hbr hq (by decide) (by rw [HU.out, List.drop_eq_nil_of_le (by simpa using hge)]; rfl)

end Go.Proofs.Ytcighjeiimjbiaa.WireRd

/- WireRd2: The methods of package wire's reader, in every state, by what they answer on the bytes that are left. -/
namespace Go.Proofs.Ytcighjeiimjbiaa.WireRd
open Go.RowKit Go.Proofs.Ytcighjeiimjbiaa Go.Proofs.Ytcighjeiimjbiaa.WirePure

def RP (g : Option Nat) (v : Value) (a' : A) (w : World) (e : Ending) (w' : World) : Prop := e = .returned v ∧ w.grownBy w' g ∧ Is w' g a'

theorem Is.ready_of {w : World} {b : Nat} {s : ByteArray} {p : Nat} (hb : Blk w b 103 (rdCells true s p 0)) (hp : p ≤ s.size) (hs : s.size ≤ 140737488355328) : Is w (some b) (.ready (s.data.toList.drop p)) :=
  ⟨b, s, p, rfl, hb, hp, hs, rfl⟩
theorem Is.bad_of {w : World} {b : Nat} {s : ByteArray} {p : Nat} {e : Int} (hb : Blk w b 103 (rdCells true s p e)) (he : e ≠ 0) : Is w (some b) (.bad e) :=
  .inr (.inr ⟨b, s, p, rfl, by simpa using he, hb⟩)

theorem ready_yes (g : Option Nat) (l : List UInt8) (w : World) (h : Is w g (.ready l)) :
    Calls Try.prog 88 #[pt g] w fun e w' => e = .returned (.bool true) ∧ w = w' := by
  obtain ⟨b, s, p, rfl, hb, hp, hs, rfl⟩ := h
  exact ready_at b s p w hb

theorem uint_any (g : Option Nat) (a : A) (w : World) (h : Is w g a) :
    Calls Try.prog 90 #[pt g] w (RP g (.int .u64 a.uint.1) a.uint.2 w) := by
  cases a with
  | bad x =>
    refine (uint_bad g x w h).mono ?_
    rintro e w' ⟨rfl, rfl⟩
    exact ⟨rfl, World.grownBy.refl _ _, h⟩
  | ready l =>
    obtain ⟨b, s, p, rfl, hb, hp, hs, rfl⟩ := h
    refine (uint_at b s p w hs hp hb).mono ?_
    rintro e w' ⟨p', rfl, hg, hb', hp', hl⟩
    by_cases h0 : (uv 0 0 (s.data.toList.drop p)).1 = 0
    · have e1 : (A.ready (s.data.toList.drop p)).uint = ((uv 0 0 (s.data.toList.drop p)).2.1, .ready (uv 0 0 (s.data.toList.drop p)).2.2) := by simp only [A.uint]; rw [if_pos h0]
      rw [e1]
      rw [h0] at hb'
      refine ⟨rfl, hg, ?_⟩
      rw [← hl h0]
      exact Is.ready_of hb' hp' hs
    · have e1 : (A.ready (s.data.toList.drop p)).uint = (0, .bad (uv 0 0 (s.data.toList.drop p)).1) := by simp only [A.uint]; rw [if_neg h0]
      rw [e1]
      refine ⟨by rw [uv_zero _ _ _ h0], hg, Is.bad_of hb' h0⟩

set_option maxHeartbeats 400000 in
theorem int_any (g : Option Nat) (a : A) (w : World) (h : Is w g a) :
    Calls Try.prog 60 #[pt g] w (RP g (.int .i64 a.int.1) a.int.2 w) := by
  have hlt := a.uint_lt
  obtain ⟨n, a', hu⟩ : ∃ n a', a.uint = (n, a') := ⟨_, _, rfl⟩
  have hc := uint_any g a w h
  unfold A.int
  rw [hu] at hc hlt ⊢
  simp only at hlt
  clear hu
  have hsg : IntKind.i64.signed = true := rfl
  by_cases h2 : n % 2 = 1
  · have t : (((n : Int) % 2) == 1) = true := by simp; omega
    have HZ : Hid (Lib.unzigzag n = -((n / 2 : Nat) : Int) - 1) := by unfold Lib.unzigzag; rw [if_neg (by omega)]; exact rfl
    clear h2
    go_enter Try.func60, Try.ntmps60
    go_wp2_with (go_at_call 90; refine hc.mono ?_; rintro e w' ⟨rfl, hg, hi⟩)
    go_ret
    exact ⟨congrArg (fun z => Ending.returned (.int .i64 z)) (by rw [HZ.out]; exact not_i64 (n / 2) (by omega)), hg, hi⟩
  · have t : (((n : Int) % 2) == 1) = false := by simp; omega
    have HZ : Hid (Lib.unzigzag n = ((n / 2 : Nat) : Int)) := by unfold Lib.unzigzag; rw [if_pos (by omega)]; exact rfl
    clear h2
    go_enter Try.func60, Try.ntmps60
    go_wp2_with (go_at_call 90; refine hc.mono ?_; rintro e w' ⟨rfl, hg, hi⟩)
    go_ret
    exact ⟨congrArg (fun z => Ending.returned (.int .i64 z)) (by rw [HZ.out]; rfl), hg, hi⟩

theorem blk_to {W : World} {g q : Nat} {s : ByteArray} (n : Nat) (hb : Blk W g 103 (rdCells true s q 0)) : Blk (W.setCell ⟨g, 2, none⟩ (.int .i64 ((q : Int) + n))) g 103 (rdCells true s (q + n) 0) := by
  have := hb.set_ 2 (.int .i64 ((q : Int) + n))
  simpa [rdCells] using this

theorem blk_err {W : World} {g q : Nat} {s : ByteArray} {x : Int} (hb : Blk W g 103 (rdCells true s q 0)) : Blk (W.setCell ⟨g, 3, none⟩ (.int .i64 x)) g 103 (rdCells true s q x) := by
  have := hb.set_ 3 (.int .i64 x)
  simpa [rdCells] using this

theorem count_bad (most : Int) (a : A) (n : Nat) (e : Int) (h : a.uint = (n, .bad e)) : a.count most = (0, .bad e) := by
  unfold A.count; rw [h]
theorem count_big (most : Int) (a : A) (n : Nat) (l : List UInt8) (h : a.uint = (n, .ready l)) (hn : max most 0 < n) : a.count most = (0, .bad 3) := by
  unfold A.count; rw [h]; simp only; rw [if_pos hn]
theorem count_ok (most : Int) (a : A) (n : Nat) (l : List UInt8) (h : a.uint = (n, .ready l)) (hn : ¬ max most 0 < n) : a.count most = (n, .ready l) := by
  unfold A.count; rw [h]; simp only; rw [if_neg hn]

theorem count_le (a : A) (most : Int) (hm : most ≤ 9223372036854775807) : ((a.count most).1 : Int) ≤ 9223372036854775807 := by
  obtain ⟨n, a', hu⟩ : ∃ n a', a.uint = (n, a') := ⟨_, _, rfl⟩
  cases a' with
  | bad x => rw [count_bad most a n x hu]; simp
  | ready l =>
    by_cases hn : max most 0 < n
    · rw [count_big most a n l hu hn]; simp
    · rw [count_ok most a n l hu hn]; simp only; omega

set_option maxHeartbeats 400000 in
theorem count_any (g : Option Nat) (a : A) (most : Int) (w : World) (h : Is w g a) (hm : most ≤ 9223372036854775807) :
    Calls Try.prog 59 #[pt g, .int .i64 most] w (RP g (.int .i64 (a.count most).1) (a.count most).2 w) := by
  obtain ⟨n, a', hu⟩ : ∃ n a', a.uint = (n, a') := ⟨_, _, rfl⟩
  have hc := uint_any g a w h
  have hlt := a.uint_lt
  rw [hu] at hc hlt
  simp only at hlt
  cases a' with
  | bad x =>
    rw [count_bad most a n x hu]
    clear hu
    go_enter Try.func59, Try.ntmps59
    go_wp2_with fail
    refine hc.mono ?_
    rintro e w' ⟨rfl, hg, hi⟩
    go_wp2_with (go_at_call 88; refine (ready_bad _ _ _ hi).mono ?_; rintro e w' ⟨rfl, rfl⟩)
    go_ret
    exact ⟨rfl, hg, hi⟩
  | ready l =>
    by_cases hn : max most 0 < n
    · rw [count_big most a n l hu hn]
      clear hu
      go_enter Try.func59, Try.ntmps59
      go_wp2_with fail
      refine hc.mono ?_
      rintro e w' ⟨rfl, hg, b, s, p, rfl, hb, hp, hs, rfl⟩
      have c0 := hb.cell 3
      have f0 := hb.frozen 3
      have hpt : pt (some b) = .pointer (some ⟨b, 0, none⟩) := rfl
      simp only [rdCells] at c0
      go_wp2_with (go_at_call 88; refine (ready_at _ _ _ _ hb).mono ?_; rintro e w' ⟨rfl, rfl⟩)
      all_goals
        go_ret
        exact ⟨rfl, grown_set hg _ _, Is.bad_of (blk_err hb) (by decide)⟩
    · rw [count_ok most a n l hu hn]
      clear hu
      go_enter Try.func59, Try.ntmps59
      go_wp2_with fail
      refine hc.mono ?_
      rintro e w' ⟨rfl, hg, hi⟩
      go_wp2_with (go_at_call 88; refine (ready_yes _ _ _ hi).mono ?_; rintro e w' ⟨rfl, rfl⟩)
      all_goals
        go_ret
        exact ⟨rfl, hg, hi⟩

theorem left_any (g : Option Nat) (a : A) (w : World) (h : Is w g a) :
    Calls Try.prog 89 #[pt g] w fun e w' => e = .returned (.int .i64 a.left) ∧ ∃ n, w' = w.drewN n := by
  cases a with
  | bad x =>
    go_enter Try.func89, Try.ntmps89
    go_wp2_with (go_at_call 88; refine (ready_bad _ _ _ h).mono ?_; rintro e w' ⟨rfl, rfl⟩)
    go_ret
    exact ⟨rfl, 0, rfl⟩
  | ready l =>
    obtain ⟨b, s, p, rfl, hb, hp, hs, rfl⟩ := h
    have c1 := hb.cell 1
    have c2 := hb.cell 2
    have hpt : pt (some b) = .pointer (some ⟨b, 0, none⟩) := rfl
    simp only [rdCells] at c1 c2
    have HL : Hid ((A.ready (s.data.toList.drop p)).left = s.size - p) := by
      show (s.data.toList.drop p).length = s.size - p
      rw [List.length_drop, Array.length_toList]
      exact rfl
    go_enter Try.func89, Try.ntmps89
    go_wp2_with (go_at_call 88; refine (ready_at _ _ _ _ hb).mono ?_; rintro e w' ⟨rfl, rfl⟩)
    go_quiet (fail)
    go_wp2
    go_ret
    refine ⟨congrArg (fun z => Ending.returned (.int .i64 z)) ?_, _, rfl⟩
    rw [HL.out]
    omega

theorem err_any (g : Option Nat) (a : A) (w : World) (h : Is w g a) :
    Calls Try.prog 91 #[pt g] w fun e w' => e = .returned (.int .i64 a.err) ∧ w = w' := by
  cases a with
  | bad x =>
    rcases h with ⟨rfl, rfl⟩ | ⟨b, s, p, e', rfl, rfl, hb⟩ | ⟨b, s, p, rfl, hx, hb⟩
    · have hpt : pt none = .pointer none := rfl
      go_enter Try.func91, Try.ntmps91
      go_wp2
      go_ret
      exact ⟨rfl, rfl⟩
    · have c0 := hb.cell 0
      have hpt : pt (some b) = .pointer (some ⟨b, 0, none⟩) := rfl
      simp only [rdCells] at c0
      go_enter Try.func91, Try.ntmps91
      go_wp2
      go_ret
      exact ⟨rfl, rfl⟩
    · have c0 := hb.cell 0
      have c3 := hb.cell 3
      have hpt : pt (some b) = .pointer (some ⟨b, 0, none⟩) := rfl
      simp only [rdCells] at c0 c3
      go_enter Try.func91, Try.ntmps91
      go_wp2
      go_ret
      exact ⟨rfl, rfl⟩
  | ready l =>
    obtain ⟨b, s, p, rfl, hb, hp, hs, rfl⟩ := h
    have c0 := hb.cell 0
    have c3 := hb.cell 3
    have hpt : pt (some b) = .pointer (some ⟨b, 0, none⟩) := rfl
    simp only [rdCells] at c0 c3
    go_enter Try.func91, Try.ntmps91
    go_wp2
    go_ret
    exact ⟨rfl, rfl⟩

theorem Is.bad_ne {w : World} {g : Option Nat} {x : Int} (h : Is w g (.bad x)) : x ≠ 0 := by
  rcases h with ⟨rfl, rfl⟩ | ⟨b, s, p, e', rfl, rfl, hb⟩ | ⟨b, s, p, rfl, hx, hb⟩
  · decide
  · decide
  · simpa using hx

theorem Is.grown {w w' : World} {g : Option Nat} {a : A} (h : Is w g a) {r : Option Nat} (hg : w.grownBy w' r) (hne : ∀ b, g = some b → some b ≠ r) : Is w' g a := by
  cases a with
  | bad x =>
    rcases h with ⟨rfl, rfl⟩ | ⟨b, s, p, e', rfl, rfl, hb⟩ | ⟨b, s, p, rfl, hx, hb⟩
    · exact .inl ⟨rfl, rfl⟩
    · exact .inr (.inl ⟨b, s, p, e', rfl, rfl, hb.grown hg (hne b rfl)⟩)
    · exact .inr (.inr ⟨b, s, p, rfl, hx, hb.grown hg (hne b rfl)⟩)
  | ready l =>
    obtain ⟨b, s, p, rfl, hb, hp, hs, rfl⟩ := h
    exact ⟨b, s, p, rfl, hb.grown hg (hne b rfl), hp, hs, rfl⟩
theorem Is.drewN {w : World} {g : Option Nat} {a : A} (h : Is w g a) (n : Nat) : Is (w.drewN n) g a := by
  cases a with
  | bad x => exact h
  | ready l => exact h

set_option maxHeartbeats 400000 in
theorem fin_any (g : Option Nat) (a : A) (w : World) (h : Is w g a) :
    Calls Try.prog 61 #[pt g] w fun e w' => e = .returned (.int .i64 a.fin) ∧ ∃ n, w' = w.drewN n := by
  cases a with
  | bad x =>
    have hx := h.bad_ne
    have t : (x != 0) = true := by simpa using hx
    have t2 : (x == 0) = false := by simpa using hx
    clear hx
    go_enter Try.func61, Try.ntmps61
    go_wp2_with (go_at_call 91; refine (err_any _ _ _ h).mono ?_; rintro e w' ⟨rfl, rfl⟩; simp only [A.err])
    go_ret
    exact ⟨rfl, 0, rfl⟩
  | ready l =>
    by_cases hl : l.length = 0
    · have HL : Hid ((A.ready l).fin = 0) := by simp only [A.fin]; rw [if_pos hl]; exact rfl
      have HT : Hid ((A.ready l).left = 0) := hl
      clear hl
      go_enter Try.func61, Try.ntmps61
      go_wp2_with fail
      refine (err_any _ _ _ h).mono ?_
      rintro e w' ⟨rfl, rfl⟩
      simp only [A.err]
      go_wp2_with fail
      refine (left_any _ _ _ h).mono ?_
      rintro e w' ⟨rfl, n, rfl⟩
      rw [HT.out]
      go_wp2
      go_ret
      exact ⟨by rw [HL.out]; rfl, _, rfl⟩
    · have HL : Hid ((A.ready l).fin = 6) := by simp only [A.fin]; rw [if_neg hl]; exact rfl
      have hp : 0 < (A.ready l).left := by simp only [A.left]; omega
      clear hl
      go_enter Try.func61, Try.ntmps61
      go_wp2_with fail
      refine (err_any _ _ _ h).mono ?_
      rintro e w' ⟨rfl, rfl⟩
      simp only [A.err]
      go_wp2_with fail
      refine (left_any _ _ _ h).mono ?_
      rintro e w' ⟨rfl, n, rfl⟩
      go_wp2
      go_ret
      exact ⟨by rw [HL.out]; rfl, _, rfl⟩

theorem text_bad (most : Int) (a : A) (n : Nat) (e : Int) (h : a.count most = (n, .bad e)) : a.text most = ([], .bad e) := by
  unfold A.text; rw [h]
theorem text_short (most : Int) (a : A) (n : Nat) (l : List UInt8) (h : a.count most = (n, .ready l)) (hn : l.length < n) : a.text most = ([], .bad 5) := by
  unfold A.text; rw [h]; simp only; rw [if_pos hn]
theorem text_ok (most : Int) (a : A) (n : Nat) (l : List UInt8) (h : a.count most = (n, .ready l)) (hn : n ≤ l.length) : a.text most = (l.take n, .ready (l.drop n)) := by
  unfold A.text; rw [h]; simp only; rw [if_neg (by omega)]

theorem left_at (g : Nat) (s : ByteArray) (p : Nat) (w : World) (hb : Blk w g 103 (rdCells true s p 0)) (hp : p ≤ s.size) (hs : s.size ≤ 140737488355328) :
    Calls Try.prog 89 #[.pointer (some ⟨g, 0, none⟩)] w fun e w' => e = .returned (.int .i64 ((s.size : Int) - p)) ∧ ∃ n, w' = w.drewN n := by
  refine (left_any (some g) _ w (Is.ready_of hb hp hs)).mono ?_
  rintro e w' ⟨rfl, h⟩
  refine ⟨congrArg (fun z => Ending.returned (.int .i64 z)) ?_, h⟩
  show ((s.data.toList.drop p).length : Int) = _
  rw [List.length_drop, Array.length_toList]
  show ((s.size - p : Nat) : Int) = _
  omega

theorem extract_eq (s : ByteArray) (p n : Nat) : s.extract p (p + n) = ⟨((s.data.toList.drop p).take n).toArray⟩ := by
  apply ByteArray.ext
  rw [ByteArray.data_extract]
  apply Array.ext'
  simp [List.take_drop]

set_option maxHeartbeats 1000000 in
theorem text_any (g : Option Nat) (a : A) (most : Int) (w : World) (h : Is w g a) (hm : most ≤ 9223372036854775807) :
    Calls Try.prog 58 #[pt g, .int .i64 most] w (RP g (.string ⟨(a.text most).1.toArray⟩) (a.text most).2 w) := by
  obtain ⟨n, a', hu⟩ : ∃ n a', a.count most = (n, a') := ⟨_, _, rfl⟩
  have hc := count_any g a most w h hm
  have hlt : n ≤ 9223372036854775807 := by
    have : (n : Int) ≤ 9223372036854775807 := by
      rw [show n = (a.count most).1 by rw [hu]]
      exact count_le a most hm
    omega
  rw [hu] at hc
  cases a' with
  | bad x =>
    rw [text_bad most a n x hu]
    clear hu
    go_enter Try.func58, Try.ntmps58
    go_wp2_with fail
    refine hc.mono ?_
    rintro e w' ⟨rfl, hg, hi⟩
    go_wp2_with (go_at_call 88; refine (ready_bad _ _ _ hi).mono ?_; rintro e w' ⟨rfl, rfl⟩)
    go_ret
    exact ⟨rfl, hg, hi⟩
  | ready l =>
    by_cases hn : l.length < n
    · rw [text_short most a n l hu hn]
      clear hu
      go_enter Try.func58, Try.ntmps58
      go_wp2_with fail
      refine hc.mono ?_
      rintro e w' ⟨rfl, hg, b, s, p, rfl, hb, hp, hs, rfl⟩
      have hpt : pt (some b) = .pointer (some ⟨b, 0, none⟩) := rfl
      have hn' : (s.size : Int) - p < n := by
        rw [List.length_drop, Array.length_toList] at hn
        have : s.data.size = s.size := rfl
        omega
      clear hn
      have c3 := hb.cell 3
      have f3 := hb.frozen 3
      simp only [rdCells] at c3
      go_wp2_with (first | (go_at_call 88; refine (ready_at _ _ _ _ hb).mono ?_; rintro e w' ⟨rfl, rfl⟩) | (go_at_call 89; refine (left_at _ _ _ _ hb hp hs).mono ?_; rintro e w' ⟨rfl, nd, rfl⟩))
      go_ret
      exact ⟨rfl, grown_set (grown_drewN hg _) _ _, Is.bad_of (blk_err (hb.drewN _)) (by decide)⟩
    · rw [text_ok most a n l hu (by omega)]
      clear hu
      go_enter Try.func58, Try.ntmps58
      go_wp2_with fail
      refine hc.mono ?_
      rintro e w' ⟨rfl, hg, b, s, p, rfl, hb, hp, hs, rfl⟩
      have hpt : pt (some b) = .pointer (some ⟨b, 0, none⟩) := rfl
      have hn' : (n : Int) ≤ (s.size : Int) - p := by
        rw [List.length_drop, Array.length_toList] at hn
        have : s.data.size = s.size := rfl
        omega
      clear hn
      have c1 := hb.cell 1
      have c2 := hb.cell 2
      have f2 := hb.frozen 2
      simp only [rdCells] at c1 c2
      go_wp2_with (first | (go_at_call 88; refine (ready_at _ _ _ _ hb).mono ?_; rintro e w' ⟨rfl, rfl⟩) | (go_at_call 89; refine (left_at _ _ _ _ hb hp hs).mono ?_; rintro e w' ⟨rfl, nd, rfl⟩))
      go_quiet (fail)
      go_wp2
      go_ret
      refine ⟨by rw [← extract_eq]; rfl, grown_set (grown_drewN hg _) _ _, ?_⟩
      rw [List.drop_drop]
      exact Is.ready_of (blk_to n (hb.drewN _)) (by omega) hs

end Go.Proofs.Ytcighjeiimjbiaa.WireRd

/- WirePure2: More of the plain side of package wire's reader: a list of numbers read one by one; what was encoded is read; what was read is encoded so; a proper beginning ends too early. -/
namespace Go.Proofs.Ytcighjeiimjbiaa.WirePure

theorem uv_len (l : List UInt8) : ∀ i acc, (uv i acc l).1 = 0 → (uv i acc l).2.2.length < l.length := by
  induction l with
  | nil => intro i acc h; simp [uv_nil] at h
  | cons c t ih =>
    intro i acc h0
    by_cases h : (i = 9 ∧ 1 < c.toNat) ∨ (0 < i ∧ c.toNat = 0)
    · rw [uv_form _ _ _ _ h] at h0; simp at h0
    · by_cases h2 : c.toNat < 128
      · rw [uv_last _ _ _ _ h h2]; simp
      · rw [uv_more _ _ _ _ h (by omega)] at h0 ⊢
        have := ih _ _ h0
        simp only [List.length_cons]
        omega

def intsP (zs : List Int) : List Int × A → List Int × A
  | (_, .bad e) => ([], .bad e)
  | (xs, .ready l) => (zs ++ xs, .ready l)

theorem intsP_nil (n : Nat) (l : List UInt8) : intsP [] (intsN n l) = intsN n l := by
  cases n with
  | zero => simp [intsN, intsP]
  | succ n =>
    unfold intsN
    split
    · simp [intsP]
    · split
      · simp [intsP]
      · simp [intsP]

theorem intsP_snoc (zs : List Int) (z : Int) (r : List Int × A) : intsP zs (match r with | (_, .bad e) => ([], .bad e) | (xs, .ready l) => (z :: xs, .ready l)) = intsP (zs ++ [z]) r := by
  rcases r with ⟨xs, _ | _⟩
  · simp [intsP]
  · simp [intsP]

theorem intsN_bad (n : Nat) (l : List UInt8) (z : Int) (e : Int) (h : (A.ready l).int = (z, .bad e)) : intsN (n + 1) l = ([], .bad e) := by
  unfold intsN; rw [h]
theorem intsN_more (zs : List Int) (n : Nat) (l l' : List UInt8) (z : Int) (h : (A.ready l).int = (z, .ready l')) : intsP zs (intsN (n + 1) l) = intsP (zs ++ [z]) (intsN n l') := by
  rw [← intsP_snoc]
  conv => lhs; unfold intsN
  rw [h]
  all_goals exact rfl

theorem int_len (l l' : List UInt8) (z : Int) (h : (A.ready l).int = (z, .ready l')) : l'.length < l.length := by
  unfold A.int A.uint at h
  simp only [Prod.mk.injEq] at h
  obtain ⟨_, h⟩ := h
  split at h
  · simp only [A.ready.injEq] at h
    subst h
    exact uv_len l 0 0 ‹_›
  · simp at h

theorem unzig_bounds (n : Nat) (h : n < 18446744073709551616) : -9223372036854775808 ≤ Lib.unzigzag n ∧ Lib.unzigzag n ≤ 9223372036854775807 := by
  unfold Lib.unzigzag
  split <;> omega

end Go.Proofs.Ytcighjeiimjbiaa.WirePure

/- WireRd3: Package wire's reader: Ints and New. -/
namespace Go.Proofs.Ytcighjeiimjbiaa.WireRd
open Go.RowKit Go.Proofs.Ytcighjeiimjbiaa Go.Proofs.Ytcighjeiimjbiaa.WirePure

theorem info64 : (Try.prog.info? 3).map (fun i => (i.zero, i.size, i.bytes)) = some (some (.int .i64 0), 1, 8) := by kernel_rfl

def IP (g : Option Nat) (zs : List Int) (a' : A) (w : World) (e : Ending) (w' : World) : Prop := ∃ v, e = .returned v ∧ w'.ownsRow w.heap.size 3 1 v zs.length (zs.map (Value.int .i64)) ∧ w.grownBy w' g ∧ Is w' g a'

theorem ints_bad (most : Int) (a : A) (n : Nat) (e : Int) (h : a.count most = (n, .bad e)) : a.ints most = ([], .bad e) := by
  unfold A.ints; rw [h]
theorem ints_ok (most : Int) (a : A) (n : Nat) (l : List UInt8) (h : a.count most = (n, .ready l)) : a.ints most = intsN n l := by
  unfold A.ints; rw [h]
theorem count_len (most : Int) (a : A) (n : Nat) (l : List UInt8) (h : a.count most = (n, .ready l)) : l.length ≤ a.left := by
  cases a with
  | bad e => simp [A.count, A.uint] at h
  | ready l0 =>
    unfold A.count A.uint at h
    by_cases h0 : (uv 0 0 l0).1 = 0
    · simp only [h0, if_pos] at h
      split at h
      · simp at h
      · have := uv_len l0 0 0 h0
        simp only [Prod.mk.injEq, A.ready.injEq] at h
        rw [← h.2]
        simp only [A.left]
        omega
    · simp [h0] at h

theorem grown_trans {w w1 w2 : World} {g r : Option Nat} (h : w.grownBy w1 g) (k : w1.grownBy w2 r) (hr : ∀ b, r = some b → w.heap.size ≤ b ∨ r = g) : w.grownBy w2 g :=
  ⟨k.os.trans h.os, k.tape.trans h.tape, k.output.trans h.output, Nat.le_trans h.size k.size, fun i hi hne => (k.block i (Nat.lt_of_lt_of_le hi h.size) (fun e => by
    rcases hr i e.symm with h1 | h1
    · omega
    · exact hne (e.trans h1))).trans (h.block i hi hne)⟩

theorem Is.lt {w : World} {g : Option Nat} {a : A} (h : Is w g a) (b : Nat) (hb : g = some b) : b < w.heap.size := by
  cases a with
  | bad x =>
    rcases h with ⟨rfl, rfl⟩ | ⟨b', s, p, e', rfl, rfl, hb'⟩ | ⟨b', s, p, rfl, hx, hb'⟩
    · cases hb
    · cases hb; exact hb'.lt
    · cases hb; exact hb'.lt
  | ready l =>
    obtain ⟨b', s, p, rfl, hb', hp, hs, rfl⟩ := h
    cases hb
    exact hb'.lt

theorem own_apart {w wr w2 : World} {g : Option Nat} {e : TypeId} {size n : Nat} {v : Value} {xs : List Value} (hown : wr.ownsRow w.heap.size e size v n xs) (hg : wr.grownBy w2 g) (hlt : ∀ b, g = some b → b < w.heap.size) : w2.ownsRow w.heap.size e size v n xs := by
  refine hown.kept hg ?_
  cases hv : v.ownBlock with
  | none => exact .inl rfl
  | some k =>
    refine .inr (fun e => ?_)
    have h1 := (hown.lt k hv).1
    have h2 := hlt k e.symm
    omega

/-- Behind an append onto a row of the call's own. -/
theorem app_grown {w w2 w3 : World} {g : Option Nat} {o : Obj} {e : TypeId} {size n : Nat} {v : Value} {xs : List Value} (hgr : w.grownBy w2 g) (hown : w2.ownsRow w.heap.size e size v n xs) (hgrow : (w2.alloc o).grownBy w3 v.ownBlock) : w.grownBy w3 g :=
  grown_trans (grown_trans hgr (World.grownBy_alloc w2 o none) (fun b hb => by cases hb)) hgrow (fun b hb => .inl (hown.lt b hb).1)
theorem app_is {w w2 w3 : World} {g : Option Nat} {a : A} {o : Obj} {e : TypeId} {size n : Nat} {v : Value} {xs : List Value} (hi : Is w2 g a) (hown : w2.ownsRow w.heap.size e size v n xs) (hgrow : (w2.alloc o).grownBy w3 v.ownBlock) (hlt : ∀ b, g = some b → b < w.heap.size) : Is w3 g a :=
  (hi.grown (World.grownBy_alloc w2 o none) (fun _ _ => by simp)).grown hgrow (fun b hb hv => by have := (hown.lt b hv.symm).1; have := hlt b hb; omega)

end Go.Proofs.Ytcighjeiimjbiaa.WireRd

/- WirePure3: Package wire, the plain law: what is encoded is decoded, what is decoded has that encoding alone, a proper beginning ends too early. -/
namespace Go.Proofs.Ytcighjeiimjbiaa.WirePure

theorem toUInt8_id (c : UInt8) : c.toNat.toUInt8 = c := UInt8.ofNat_toNat
theorem toNat_small (x : Nat) (h : x < 256) : x.toUInt8.toNat = x := by
  simp only [Nat.toUInt8, UInt8.toNat_ofNat']
  omega

/-- What is encoded is decoded. -/
theorem uv_enc (x : Nat) : ∀ (i acc : Nat) (t : List UInt8), i ≤ 9 → x * 2 ^ (7 * i) < 18446744073709551616 → (i = 0 ∨ 0 < x) → uv i acc (Lib.uvarint x ++ t) = (0, acc + x * 2 ^ (7 * i), t) := by
  induction x using Nat.strongRecOn with
  | _ x ih =>
    intro i acc t hi hx h0
    by_cases h : x < 128
    · rw [Lib.uvarint_small h]
      have e := toNat_small x (by omega)
      have hf : ¬ ((i = 9 ∧ 1 < x.toUInt8.toNat) ∨ (0 < i ∧ x.toUInt8.toNat = 0)) := by
        rw [e]
        rintro (⟨h1, h2⟩ | ⟨h1, h2⟩)
        · subst h1
          have : 2 * 2 ^ (7 * 9) ≤ x * 2 ^ (7 * 9) := Nat.mul_le_mul_right _ h2
          omega
        · omega
      rw [List.singleton_append, uv_last _ _ _ _ hf (by rw [e]; exact h), e]
    · rw [Lib.uvarint_big (by omega)]
      have e := toNat_small (x % 128 + 128) (by omega)
      have hi9 : i ≠ 9 := by
        intro h1
        subst h1
        have : 128 * 2 ^ (7 * 9) ≤ x * 2 ^ (7 * 9) := Nat.mul_le_mul_right _ (by omega)
        omega
      have hf : ¬ ((i = 9 ∧ 1 < (x % 128 + 128).toUInt8.toNat) ∨ (0 < i ∧ (x % 128 + 128).toUInt8.toNat = 0)) := by
        rw [e]
        omega
      rw [List.cons_append, uv_more _ _ _ _ hf (by rw [e]; omega), e, ih (x / 128) (by omega) (i + 1) _ _ (by omega) ?_ (.inr (by omega))]
      · rw [pow7, Nat.add_mod_right, Nat.mod_mod, ← Nat.mul_assoc, Nat.mul_comm (x / 128) 128, Nat.add_assoc, ← Nat.add_mul, Nat.mod_add_div]
      · rw [pow7, ← Nat.mul_assoc]
        refine Nat.lt_of_le_of_lt (Nat.mul_le_mul_right _ ?_) hx
        omega

/-- What is decoded has one encoding. -/
theorem uv_dec (l : List UInt8) : ∀ (i acc n : Nat) (t : List UInt8), uv i acc l = (0, n, t) → ∃ m, n = acc + m * 2 ^ (7 * i) ∧ (i = 0 ∨ 0 < m) ∧ l = Lib.uvarint m ++ t := by
  induction l with
  | nil => intro i acc n t h; simp [uv_nil] at h
  | cons c r ih =>
    intro i acc n t h
    have hc := c.toNat_lt
    by_cases hf : (i = 9 ∧ 1 < c.toNat) ∨ (0 < i ∧ c.toNat = 0)
    · rw [uv_form _ _ _ _ hf] at h; simp at h
    · by_cases h2 : c.toNat < 128
      · rw [uv_last _ _ _ _ hf h2] at h
        simp only [Prod.mk.injEq, true_and] at h
        obtain ⟨rfl, rfl⟩ := h
        refine ⟨c.toNat, rfl, by omega, ?_⟩
        rw [Lib.uvarint_small h2, toUInt8_id]
        rfl
      · rw [uv_more _ _ _ _ hf (by omega)] at h
        obtain ⟨m, rfl, hm, rfl⟩ := ih _ _ _ _ h
        refine ⟨c.toNat % 128 + 128 * m, ?_, by omega, ?_⟩
        · rw [pow7, Nat.add_mul, ← Nat.mul_assoc, Nat.mul_comm m 128]
          omega
        · rw [Lib.uvarint_big (x := c.toNat % 128 + 128 * m) (by omega), show (c.toNat % 128 + 128 * m) % 128 + 128 = c.toNat by omega, show (c.toNat % 128 + 128 * m) / 128 = m by omega, toUInt8_id]
          rfl

/-- A proper beginning ends too early. -/
theorem uv_cut (x : Nat) : ∀ (i acc k : Nat), i ≤ 9 → x * 2 ^ (7 * i) < 18446744073709551616 → (i = 0 ∨ 0 < x) → k < (Lib.uvarint x).length → (uv i acc ((Lib.uvarint x).take k)).1 = 5 := by
  induction x using Nat.strongRecOn with
  | _ x ih =>
    intro i acc k hi hx h0 hk
    cases k with
    | zero => simp [uv_nil]
    | succ k =>
      by_cases h : x < 128
      · rw [Lib.uvarint_small h] at hk
        simp at hk
      · rw [Lib.uvarint_big (by omega)] at hk ⊢
        have e := toNat_small (x % 128 + 128) (by omega)
        have hi9 : i ≠ 9 := by
          intro h1
          subst h1
          have : 128 * 2 ^ (7 * 9) ≤ x * 2 ^ (7 * 9) := Nat.mul_le_mul_right _ (by omega)
          omega
        have hf : ¬ ((i = 9 ∧ 1 < (x % 128 + 128).toUInt8.toNat) ∨ (0 < i ∧ (x % 128 + 128).toUInt8.toNat = 0)) := by
          rw [e]
          omega
        rw [List.take_succ_cons, uv_more _ _ _ _ hf (by rw [e]; omega)]
        refine ih (x / 128) (by omega) (i + 1) _ _ (by omega) ?_ (.inr (by omega)) (by simpa using hk)
        rw [pow7, ← Nat.mul_assoc]
        refine Nat.lt_of_le_of_lt (Nat.mul_le_mul_right _ ?_) hx
        omega

theorem uint_enc (x : Nat) (t : List UInt8) (hx : x < 18446744073709551616) : (A.ready (Lib.uvarint x ++ t)).uint = (x, .ready t) := by
  have h := uv_enc x 0 0 t (by omega) (by omega) (.inl rfl)
  simp only [A.uint, h]
  simp
theorem unzig_zig (z : Int) : Lib.unzigzag (Lib.zigzag z) = z := by
  unfold Lib.unzigzag Lib.zigzag
  split <;> split <;> omega
theorem zig_unzig (n : Nat) : Lib.zigzag (Lib.unzigzag n) = n := by
  unfold Lib.unzigzag Lib.zigzag
  split <;> split <;> omega
theorem zig_lt (n : Int) (h0 : -9223372036854775808 ≤ n) (h1 : n ≤ 9223372036854775807) : Lib.zigzag n < 18446744073709551616 := by
  unfold Lib.zigzag
  split <;> omega
theorem int_enc (z : Int) (t : List UInt8) (h0 : -9223372036854775808 ≤ z) (h1 : z ≤ 9223372036854775807) : (A.ready (Lib.uvarint (Lib.zigzag z) ++ t)).int = (z, .ready t) := by
  simp only [A.int, uint_enc _ t (zig_lt z h0 h1), unzig_zig]
theorem count_enc (x : Nat) (t : List UInt8) (most : Int) (hx : x < 18446744073709551616) (hm : (x : Int) ≤ most) : (A.ready (Lib.uvarint x ++ t)).count most = (x, .ready t) := by
  simp only [A.count, uint_enc x t hx]
  rw [if_neg (by omega)]
theorem text_enc (l t : List UInt8) (most : Int) (hx : l.length < 18446744073709551616) (hm : (l.length : Int) ≤ most) : (A.ready (Lib.uvarint l.length ++ (l ++ t))).text most = (l, .ready t) := by
  simp only [A.text, count_enc _ _ most hx hm]
  rw [if_neg (by simp)]
  simp
theorem intsN_enc (zs : List Int) (t : List UInt8) (hz : ∀ z ∈ zs, -9223372036854775808 ≤ z ∧ z ≤ 9223372036854775807) : intsN zs.length (zs.flatMap (fun n => Lib.uvarint (Lib.zigzag n)) ++ t) = (zs, .ready t) := by
  induction zs with
  | nil => simp [intsN]
  | cons z zs ih =>
    have h := hz z (by simp)
    simp only [List.length_cons, intsN, List.flatMap_cons, List.append_assoc]
    rw [int_enc z _ h.1 h.2]
    simp only
    rw [ih (fun y hy => hz y (by simp [hy]))]
theorem ints_enc (zs : List Int) (t : List UInt8) (most : Int) (hl : zs.length < 18446744073709551616) (hz : ∀ z ∈ zs, -9223372036854775808 ≤ z ∧ z ≤ 9223372036854775807) (hm : (zs.length : Int) ≤ most) :
    (A.ready (Lib.uvarint zs.length ++ (zs.flatMap (fun n => Lib.uvarint (Lib.zigzag n)) ++ t))).ints most = (zs, .ready t) := by
  simp only [A.ints, count_enc _ _ most hl hm]
  exact intsN_enc zs t hz

/-- Decoded, each kind: the bytes in front are the encoding. -/
theorem uint_dec (l t : List UInt8) (n : Nat) (h : (A.ready l).uint = (n, .ready t)) : l = Lib.uvarint n ++ t := by
  simp only [A.uint] at h
  split at h
  · rename_i h0
    simp only [Prod.mk.injEq, A.ready.injEq] at h
    obtain ⟨rfl, rfl⟩ := h
    obtain ⟨m, h1, _, h3⟩ := uv_dec l 0 0 _ _ (show uv 0 0 l = (0, (uv 0 0 l).2.1, (uv 0 0 l).2.2) by rw [← h0])
    rw [h1, show 0 + m * 2 ^ (7 * 0) = m by omega]
    exact h3
  · simp at h
theorem int_dec (l t : List UInt8) (z : Int) (h : (A.ready l).int = (z, .ready t)) : l = Lib.uvarint (Lib.zigzag z) ++ t := by
  simp only [A.int, Prod.mk.injEq] at h
  obtain ⟨h1, h2⟩ := h
  rw [← h1, zig_unzig]
  exact uint_dec l t _ (by rw [← h2])
theorem count_dec (l t : List UInt8) (n : Nat) (most : Int) (h : (A.ready l).count most = (n, .ready t)) : l = Lib.uvarint n ++ t := by
  unfold A.count at h
  split at h
  · simp at h
  · rename_i n' t' hu
    split at h
    · simp at h
    · simp only [Prod.mk.injEq, A.ready.injEq] at h
      obtain ⟨rfl, rfl⟩ := h
      exact uint_dec l _ _ hu
theorem text_dec (l t x : List UInt8) (most : Int) (h : (A.ready l).text most = (x, .ready t)) : l = (Lib.uvarint x.length ++ x) ++ t := by
  unfold A.text at h
  split at h
  · simp at h
  · rename_i n' t' hu
    split at h
    · simp at h
    · simp only [Prod.mk.injEq, A.ready.injEq] at h
      obtain ⟨rfl, rfl⟩ := h
      rw [count_dec l _ _ _ hu, List.length_take, Nat.min_eq_left (by omega), List.append_assoc, List.take_append_drop]
theorem intsN_dec (n : Nat) : ∀ (l t : List UInt8) (zs : List Int), intsN n l = (zs, .ready t) → zs.length = n ∧ l = zs.flatMap (fun n => Lib.uvarint (Lib.zigzag n)) ++ t := by
  induction n with
  | zero =>
    intro l t zs h
    simp only [intsN, Prod.mk.injEq, A.ready.injEq] at h
    obtain ⟨rfl, rfl⟩ := h
    exact ⟨rfl, by simp⟩
  | succ n ih =>
    intro l t zs h
    unfold intsN at h
    split at h
    · simp at h
    · rename_i z l' hz
      split at h
      · simp at h
      · rename_i zs' l'' hN
        simp only [Prod.mk.injEq, A.ready.injEq] at h
        obtain ⟨rfl, rfl⟩ := h
        obtain ⟨h1, h2⟩ := ih _ _ _ hN
        refine ⟨by simp [h1], ?_⟩
        rw [int_dec l _ _ hz, h2]
        simp
theorem ints_dec (l t : List UInt8) (zs : List Int) (most : Int) (h : (A.ready l).ints most = (zs, .ready t)) : l = (Lib.uvarint zs.length ++ zs.flatMap (fun n => Lib.uvarint (Lib.zigzag n))) ++ t := by
  unfold A.ints at h
  split at h
  · simp at h
  · rename_i n' t' hu
    obtain ⟨h1, h2⟩ := intsN_dec _ _ _ _ h
    rw [count_dec l _ _ _ hu, h2, h1, List.append_assoc]

theorem intsN_size (n : Nat) : ∀ (l : List UInt8) (zs : List Int) (a : A), intsN n l = (zs, a) → zs.length ≤ l.length ∧ ∀ z ∈ zs, -9223372036854775808 ≤ z ∧ z ≤ 9223372036854775807 := by
  induction n with
  | zero =>
    intro l zs a h
    simp only [intsN, Prod.mk.injEq] at h
    obtain ⟨rfl, _⟩ := h
    simp
  | succ n ih =>
    intro l zs a h
    unfold intsN at h
    split at h
    · simp only [Prod.mk.injEq] at h
      obtain ⟨rfl, _⟩ := h
      simp
    · rename_i z l' hz
      split at h
      · simp only [Prod.mk.injEq] at h
        obtain ⟨rfl, _⟩ := h
        simp
      · rename_i zs' l'' hN
        simp only [Prod.mk.injEq] at h
        obtain ⟨rfl, _⟩ := h
        obtain ⟨h1, h2⟩ := ih _ _ _ hN
        have h3 := int_len _ _ _ hz
        refine ⟨by simp only [List.length_cons]; omega, fun y hy => ?_⟩
        rcases List.mem_cons.1 hy with rfl | hy
        · have h4 := (A.ready l).uint_lt
          simp only [A.int, Prod.mk.injEq] at hz
          rw [← hz.1]
          exact unzig_bounds _ h4
        · exact h2 y hy
theorem count_left (l t : List UInt8) (n : Nat) (most : Int) (h : (A.ready l).count most = (n, .ready t)) : t.length ≤ l.length := by
  rw [count_dec l t n most h, List.length_append]
  omega
theorem ints_size (l : List UInt8) (most : Int) (zs : List Int) (a : A) (h : (A.ready l).ints most = (zs, a)) : zs.length ≤ l.length ∧ ∀ z ∈ zs, -9223372036854775808 ≤ z ∧ z ≤ 9223372036854775807 := by
  unfold A.ints at h
  split at h
  · simp only [Prod.mk.injEq] at h
    obtain ⟨rfl, _⟩ := h
    simp
  · rename_i n' t' hu
    have h1 := count_left l t' n' most hu
    have h2 := intsN_size _ _ _ _ h
    exact ⟨by omega, h2.2⟩
theorem text_size (l : List UInt8) (most : Int) (x : List UInt8) (a : A) (h : (A.ready l).text most = (x, a)) : x.length ≤ l.length := by
  unfold A.text at h
  split at h
  · simp only [Prod.mk.injEq] at h
    obtain ⟨rfl, _⟩ := h
    simp
  · rename_i n' t' hu
    have h1 := count_left l t' n' most hu
    split at h
    · simp only [Prod.mk.injEq] at h
      obtain ⟨rfl, _⟩ := h
      simp
    · simp only [Prod.mk.injEq] at h
      obtain ⟨rfl, _⟩ := h
      rw [List.length_take]
      omega

/-- Cut, each kind: the bytes end too early. -/
theorem uint_cut (x k : Nat) (hx : x < 18446744073709551616) (hk : k < (Lib.uvarint x).length) : (A.ready ((Lib.uvarint x).take k)).uint = (0, .bad 5) := by
  have h := uv_cut x 0 0 k (by omega) (by omega) (.inl rfl) hk
  simp only [A.uint, h]
  simp
theorem int_cut (z : Int) (k : Nat) (h0 : -9223372036854775808 ≤ z) (h1 : z ≤ 9223372036854775807) (hk : k < (Lib.uvarint (Lib.zigzag z)).length) : (A.ready ((Lib.uvarint (Lib.zigzag z)).take k)).int.2 = .bad 5 := by
  simp only [A.int, uint_cut _ k (zig_lt z h0 h1) hk]
theorem count_cut (x k : Nat) (most : Int) (hx : x < 18446744073709551616) (hk : k < (Lib.uvarint x).length) : (A.ready ((Lib.uvarint x).take k)).count most = (0, .bad 5) := by
  simp only [A.count, uint_cut x k hx hk]
theorem text_cut (l : List UInt8) (k : Nat) (most : Int) (hx : l.length < 18446744073709551616) (hm : (l.length : Int) ≤ most) (hk : k < (Lib.uvarint l.length ++ l).length) : ((A.ready ((Lib.uvarint l.length ++ l).take k)).text most).2 = .bad 5 := by
  rw [List.take_append]
  by_cases h : k < (Lib.uvarint l.length).length
  · rw [show k - (Lib.uvarint l.length).length = 0 by omega, List.take_zero, List.append_nil]
    simp only [A.text, count_cut _ _ most hx h]
  · rw [List.take_of_length_le (by omega)]
    simp only [A.text, count_enc _ _ most hx hm]
    rw [List.length_append] at hk
    rw [if_pos (by rw [List.length_take]; omega)]
theorem intsN_cut (zs : List Int) : ∀ (j : Nat), (∀ z ∈ zs, -9223372036854775808 ≤ z ∧ z ≤ 9223372036854775807) → j < (zs.flatMap (fun n => Lib.uvarint (Lib.zigzag n))).length → (intsN zs.length ((zs.flatMap (fun n => Lib.uvarint (Lib.zigzag n))).take j)).2 = .bad 5 := by
  induction zs with
  | nil => intro j _ h; simp at h
  | cons z zs ih =>
    intro j hz h
    have hz0 := hz z (by simp)
    simp only [List.length_cons, List.flatMap_cons] at h ⊢
    rw [List.take_append]
    by_cases hj : j < (Lib.uvarint (Lib.zigzag z)).length
    · rw [show j - (Lib.uvarint (Lib.zigzag z)).length = 0 by omega, List.take_zero, List.append_nil]
      have hc := int_cut z j hz0.1 hz0.2 hj
      obtain ⟨y, a, ha⟩ : ∃ y a, (A.ready ((Lib.uvarint (Lib.zigzag z)).take j)).int = (y, a) := ⟨_, _, rfl⟩
      rw [ha] at hc
      simp only at hc
      subst hc
      rw [intsN_bad _ _ _ _ ha]
    · rw [List.take_of_length_le (by omega)]
      rw [List.length_append] at h
      have hr := ih (j - (Lib.uvarint (Lib.zigzag z)).length) (fun y hy => hz y (by simp [hy])) (by omega)
      have hm := intsN_more [] zs.length _ _ z (int_enc z ((zs.flatMap (fun n => Lib.uvarint (Lib.zigzag n))).take (j - (Lib.uvarint (Lib.zigzag z)).length)) hz0.1 hz0.2)
      rw [intsP_nil] at hm
      rw [hm]
      revert hr
      generalize intsN zs.length _ = r
      rintro hr
      rcases r with ⟨xs, a⟩
      simp only at hr
      subst hr
      rfl
theorem ints_cut (zs : List Int) (k : Nat) (most : Int) (hl : zs.length < 18446744073709551616) (hz : ∀ z ∈ zs, -9223372036854775808 ≤ z ∧ z ≤ 9223372036854775807) (hm : (zs.length : Int) ≤ most) (hk : k < (Lib.uvarint zs.length ++ zs.flatMap (fun n => Lib.uvarint (Lib.zigzag n))).length) :
    ((A.ready ((Lib.uvarint zs.length ++ zs.flatMap (fun n => Lib.uvarint (Lib.zigzag n))).take k)).ints most).2 = .bad 5 := by
  rw [List.take_append]
  by_cases h : k < (Lib.uvarint zs.length).length
  · rw [show k - (Lib.uvarint zs.length).length = 0 by omega, List.take_zero, List.append_nil]
    simp only [A.ints, count_cut _ _ most hl h]
  · rw [List.take_of_length_le (by omega)]
    simp only [A.ints, count_enc _ _ most hl hm]
    rw [List.length_append] at hk
    exact intsN_cut zs _ hz (by omega)

end Go.Proofs.Ytcighjeiimjbiaa.WirePure

/- WireEx: Package wire: New, and the examples of the chapter, which hold. -/
namespace Go.Proofs.Ytcighjeiimjbiaa.WireRd
open Go.RowKit Go.Proofs.Ytcighjeiimjbiaa Go.Proofs.Ytcighjeiimjbiaa.WirePure

def NP (s : ByteArray) (w : World) (e : Ending) (w' : World) : Prop := e = .returned (pt (some w.heap.size)) ∧ Below w.heap.size w w' ∧ Is w' (some w.heap.size) (.ready s.data.toList)

theorem new_any (s : ByteArray) (w : World) (hs : s.size ≤ 140737488355328) : Calls Try.prog 57 #[.string s] w (NP s w) := by
  go_enter Try.func57, Try.ntmps57
  go_wp2
  go_ret
  exact ⟨rfl, (Below.refl _ _).alloc (Nat.le_refl _) _, Is.ready_of (p := 0) (Blk.new w _ _) (Nat.zero_le _) hs⟩

theorem uint_is {g : Option Nat} {a : A} {w : World} (h : Is w g a) (n : Nat) (a' : A) (e : a.uint = (n, a')) : Calls Try.prog 90 #[pt g] w (RP g (.int .u64 n) a' w) := by
  have := uint_any g a w h
  rwa [e] at this
theorem int_is {g : Option Nat} {a : A} {w : World} (h : Is w g a) (n : Int) (a' : A) (e : a.int = (n, a')) : Calls Try.prog 60 #[pt g] w (RP g (.int .i64 n) a' w) := by
  have := int_any g a w h
  rwa [e] at this
theorem text_is {g : Option Nat} {a : A} {w : World} (h : Is w g a) (most : Int) (hm : most ≤ 9223372036854775807) (t : List UInt8) (a' : A) (e : a.text most = (t, a')) : Calls Try.prog 58 #[pt g, .int .i64 most] w (RP g (.string ⟨t.toArray⟩) a' w) := by
  have := text_any g a most w h hm
  rwa [e] at this
theorem left_is {g : Option Nat} {a : A} {w : World} (h : Is w g a) (n : Nat) (e : a.left = n) : Calls Try.prog 89 #[pt g] w fun e w' => e = .returned (.int .i64 n) ∧ ∃ n, w' = w.drewN n := by
  have := left_any g a w h
  rwa [e] at this
theorem err_is {g : Option Nat} {a : A} {w : World} (h : Is w g a) (n : Int) (e : a.err = n) : Calls Try.prog 91 #[pt g] w fun e w' => e = .returned (.int .i64 n) ∧ w = w' := by
  have := err_any g a w h
  rwa [e] at this
theorem fin_is {g : Option Nat} {a : A} {w : World} (h : Is w g a) (n : Int) (e : a.fin = n) : Calls Try.prog 61 #[pt g] w fun e w' => e = .returned (.int .i64 n) ∧ ∃ n, w' = w.drewN n := by
  have := fin_any g a w h
  rwa [e] at this

theorem below_grown {B : Nat} {a w w' : World} {b : Nat} (h : Below B a w) (hg : w.grownBy w' (some b)) (hB : B ≤ w.heap.size) (hb : B ≤ b) : Below B a w' :=
  h.grown hg hB (fun k hk => by cases hk; exact hb)

theorem bdN {B : Nat} {a w : World} (h : Below B a w) (n : Nat) : Below B a (w.drewN n) := ⟨h.os, h.tape, h.output, h.size, h.block⟩

theorem uv300 : Lib.uvarint 300 = [172, 2] := by rw [Lib.uvarint_big (by decide), Lib.uvarint_small (by decide)]; rfl
theorem uv3 : Lib.uvarint (Lib.zigzag (-2)) = [3] := by rw [show Lib.zigzag (-2) = 3 from rfl, Lib.uvarint_small (by decide)]; rfl
theorem enAb : WireEnc.encText ⟨#[97, 98]⟩ = [2, 97, 98] := by unfold WireEnc.encText; rw [show (ByteArray.mk #[97, 98]).size = 2 from rfl, Lib.uvarint_small (by decide)]; rfl
theorem en11 : WireEnc.encInts [1, -1] = [2, 2, 1] := by
  unfold WireEnc.encInts
  simp only [List.flatMap_cons, List.flatMap_nil, List.length_cons, List.length_nil]
  rw [show Lib.zigzag 1 = 2 from rfl, show Lib.zigzag (-1) = 1 from rfl, Lib.uvarint_small (by decide), Lib.uvarint_small (by decide)]
  rfl

theorem reads_new (w : World) (cs : Array Value) (t : TypeId) (n : Nat) (hn : cs.size = n) : Reads (w.alloc (.cells cs t)) (w.alloc (.cells cs t)).heap.size 1 (some ⟨w.heap.size, 0, none⟩) n cs.toList := by
  refine ⟨by simpa using hn, fun _ => ⟨_, rfl, by simp, fun j u hu => ?_⟩⟩
  have h := (Blk.new w t cs).cell j
  have e : (Addr.mk w.heap.size 0 none).add j = ⟨w.heap.size, j, none⟩ := by
    unfold Addr.add
    split
    · subst_vars; rfl
    · simp
  rw [e, h]
  simpa using hu

end Go.Proofs.Ytcighjeiimjbiaa.WireRd

/- RegG: Regions that draw their order: a load may be taken first where the cell is written only by operations that wait for the load. -/
namespace Go.Proofs.Ytcighjeiimjbiaa.RegG
open Go

section
variable {P : Program} {ops : Array Oper} {Q : Exit → Act → World → Prop} {md : Region.Mode} {S : Array Bool → World → Prop}

/-- Whatever order is picked from here on, and behind every operation that is carried out S holds of what has come up so far. -/
def wpAnyG (P : Program) (md : Region.Mode) (ops : Array Oper) (Q : Exit → Act → World → Prop) (S : Array Bool → World → Prop) : Nat → Array Bool → Act → World → Prop
  | 0, listed, a, w => Region.ready md ops listed = [] ∧ Q .normal a w
  | fuel + 1, listed, a, w =>
    (Region.ready md ops listed = [] → Q .normal a w) ∧
    ∀ i ∈ Region.ready md ops listed, wpOp P ops Q i (fun a' w' => S (listed.setIfInBounds i true) w' ∧ wpAnyG P md ops Q S fuel (listed.setIfInBounds i true) a' w') a w
theorem wpAny_of_G : ∀ (fuel : Nat) (listed : Array Bool) (a : Act) (w : World), wpAnyG P md ops Q S fuel listed a w → wpAny P md ops Q fuel listed a w
  | 0, _, _, _, h => h
  | fuel + 1, _, _, _, h => ⟨h.1, fun i hi => wpOp_mono (fun a' w' h' => wpAny_of_G fuel _ a' w' h'.2) (h.2 i hi)⟩
/-- What has come up has come up behind what it waits for. -/
def Closed (md : Region.Mode) (ops : Array Oper) (l : Array Bool) : Prop := ∀ j o, ops[j]? = some o → l.getD j false = true → ∀ e ∈ o.after, Region.binds md e = true → l.getD e.on false = true
def closedB (md : Region.Mode) (ops : Array Oper) (l : Array Bool) : Bool := (List.range ops.size).all fun j => match ops[j]? with | none => true | some o => !(l.getD j false) || o.after.all fun e => !(Region.binds md e) || l.getD e.on false
theorem closed_of_B {l : Array Bool} (h : closedB md ops l = true) : Closed md ops l := fun j o ho hl e he hb => by
  have hj : j < ops.size := (Array.getElem?_eq_some_iff.1 ho).1
  have h1 := List.all_eq_true.1 h j (List.mem_range.2 hj)
  simp only [ho, hl, Bool.not_true, Bool.false_or] at h1
  have h2 := Array.all_eq_true_iff_forall_mem.1 h1 e he
  simpa [hb] using h2
theorem Closed.next {l : Array Bool} {j : Nat} (h : Closed md ops l) (hj : j ∈ Region.ready md ops l) : Closed md ops (l.setIfInBounds j true) := fun k o ho hl e he hb => by
  obtain ⟨_, oj, hoj, hall⟩ := mem_ready.1 hj
  by_cases hk : j = k
  · subst hk
    rw [ho] at hoj
    injection hoj with hoj
    subst hoj
    exact getD_set_true (hall e he hb)
  · rw [getD_set_ne false hk] at hl
    exact getD_set_true (h k o ho hl e he hb)
/-- What waits for an operation that has not come up has not come up. -/
theorem Closed.back {l : Array Bool} (h : Closed md ops l) (i j : Nat) {o : Oper} (ho : ops[j]? = some o) (hw : (o.after.toList.any fun e => e.on == i && Region.binds md e) = true) (hi : l.getD i false = false) : l.getD j false = false := by
  obtain ⟨e, he, h2⟩ := List.any_eq_true.1 hw
  simp only [Bool.and_eq_true, beq_iff_eq] at h2
  cases hj : l.getD j false with
  | false => rfl
  | true =>
    have := h j o ho hj e (Array.mem_toList_iff.1 he) h2.2
    rw [h2.1, hi] at this
    cases this
theorem unlisted {l : Array Bool} {i : Nat} (h : l.getD i true = false) : l.getD i false = false := by
  simp only [Array.getD_eq_getD_getElem?] at h ⊢
  cases hl : l[i]? with
  | none => rfl
  | some b => rw [hl] at h; simpa using h

theorem wpAnyG_first {i : Nat} {oi : Oper} {v : Value} (hi : ops[i]? = some oi) (hsel : ∀ (j : Nat) (o : Oper) cs b, ops[j]? = some o → o.op ≠ .select cs b)
    (hQ : ∀ c a w, Q (.panic c) (a.put oi.dst v) w → Q (.panic c) a w) (hSi : ∀ l w, S (l.setIfInBounds i true) w → S l w) :
    ∀ (fuel : Nat) (listed : Array Bool) (a : Act) (w : World),
      (∀ j oj, ops[j]? = some oj → j ≠ i → listed.getD j true = false → (∀ e ∈ oj.after, Region.binds md e = true → e.on ≠ i) → oi.apart ops oj = true) →
      i ∈ Region.ready md ops listed → Closed md ops listed → YieldsIf P ops (fun w => ∃ l, Closed md ops l ∧ l.getD i true = false ∧ S l w) oi v a → S (listed.setIfInBounds i true) w →
      wpAnyG P md ops Q S fuel (listed.setIfInBounds i true) (a.put oi.dst v) w → wpAnyG P md ops Q S (fuel + 1) listed a w := by
  intro fuel
  induction fuel with
  | zero =>
    intro listed a w _ hr hcl hy hS H
    refine ⟨fun h => (by rw [h] at hr; cases hr), fun j hj => ?_⟩
    by_cases hji : j = i
    · subst hji; exact hy.wpOp hi ⟨listed, hcl, (mem_ready.1 hr).1, hSi _ _ hS⟩ ⟨hS, H⟩
    · have := ready_mono hj hji
      rw [H.1] at this
      cases this
  | succ fuel ih =>
    intro listed a w hfree hr hcl hy hS H
    refine ⟨fun h => (by rw [h] at hr; cases hr), fun j hj => ?_⟩
    by_cases hji : j = i
    · subst hji; exact hy.wpOp hi ⟨listed, hcl, (mem_ready.1 hr).1, hSi _ _ hS⟩ ⟨hS, H⟩
    · have h1 := H.2 j (ready_mono hj hji)
      obtain ⟨hjun, oj, hoj, hall⟩ := mem_ready.1 hj
      have hnot : ∀ e ∈ oj.after, Region.binds md e = true → e.on ≠ i := fun e he hb heq => by
        have h1 := hall e he hb
        have h0 := (mem_ready.1 hr).1
        rw [heq] at h1
        rcases Nat.lt_or_ge i listed.size with h' | h'
        · simp [h'] at h0 h1; rw [h0] at h1; cases h1
        · simp [Array.getElem?_eq_none h'] at h1
      have h2 := wpOp_putIf hoj (hfree j oj hoj hji hjun hnot) (fun cs b => hsel i oi cs b hi) (fun cs b => hsel j oj cs b hoj) hQ hy h1
      have hfree' : ∀ k ok, ops[k]? = some ok → k ≠ i → (listed.setIfInBounds j true).getD k true = false →
          (∀ e ∈ ok.after, Region.binds md e = true → e.on ≠ i) → oi.apart ops ok = true := fun k ok hk hki hun hno => by
        refine hfree k ok hk hki ?_ hno
        by_cases hjk : j = k
        · subst hjk; exact hjun
        · rw [getD_set_ne true hjk] at hun; exact hun
      have hcomm : (listed.setIfInBounds i true).setIfInBounds j true = (listed.setIfInBounds j true).setIfInBounds i true := Array.setIfInBounds_comm _ _ (Ne.symm hji)
      rw [hcomm] at h2
      exact wpOp_mono (fun a' w' h3 => ⟨hSi _ _ h3.2.1, ih (listed.setIfInBounds j true) a' w' hfree' (ready_mono hr (Ne.symm hji)) (hcl.next hj) h3.1 h3.2.1 h3.2.2⟩) h2
/-- Take number 'i' first. -/
theorem wpAnyG_take {i : Nat} {oi : Oper} {v : Value} {fuel : Nat} {listed : Array Bool} {a : Act} {w : World} (hi : ops[i]? = some oi)
    (hs : Region.noSelect ops = true) (hf : Region.free md ops listed i = true) (hr : (Region.ready md ops listed).contains i = true)
    (hQ : ∀ c a w, Q (.panic c) (a.put oi.dst v) w → Q (.panic c) a w) (hSi : ∀ l w, S (l.setIfInBounds i true) w → S l w) (hc : closedB md ops listed = true)
    (hy : YieldsIf P ops (fun w => ∃ l, Closed md ops l ∧ l.getD i true = false ∧ S l w) oi v a) (hS : S (listed.setIfInBounds i true) w)
    (h : S (listed.setIfInBounds i true) w → wpAnyG P md ops Q S fuel (listed.setIfInBounds i true) (a.put oi.dst v) w) : wpAnyG P md ops Q S (fuel + 1) listed a w :=
  wpAnyG_first hi (Region.noSelect_spec hs) hQ hSi fuel listed a w (Region.free_spec hi hf) (by simpa using hr) (closed_of_B hc) hy hS (h hS)
theorem wpAnyG_done {listed : Array Bool} {a : Act} {w : World} (hr : Region.ready md ops listed = []) (h : Q .normal a w) :
    ∀ fuel, wpAnyG P md ops Q S fuel listed a w
  | 0 => ⟨hr, h⟩
  | _ + 1 => ⟨fun _ => h, by rw [hr]; simp⟩
def AllReadyG (P : Program) (md : Region.Mode) (ops : Array Oper) (Q : Exit → Act → World → Prop) (S : Array Bool → World → Prop) (fuel : Nat) (listed : Array Bool) (a : Act) (w : World) (rs : List Nat) : Prop :=
  ∀ i ∈ rs, wpOp P ops Q i (fun a' w' => S (listed.setIfInBounds i true) w' ∧ wpAnyG P md ops Q S fuel (listed.setIfInBounds i true) a' w') a w
theorem AllReadyG.nil {fuel : Nat} {listed : Array Bool} {a : Act} {w : World} : AllReadyG P md ops Q S fuel listed a w [] := fun _ h => by cases h
theorem AllReadyG.cons {fuel : Nat} {listed : Array Bool} {a : Act} {w : World} {i : Nat} {o : Oper} {rs : List Nat} (ho : ops[i]? = some o)
    (h : ∀ K' : Act → World → Prop, Shut (∀ a w, S (listed.setIfInBounds i true) w → (S (listed.setIfInBounds i true) w → wpAnyG P md ops Q S fuel (listed.setIfInBounds i true) a w) → K' a w) → if Region.wanted o (yielded ops a.tmps) = true then Oper.wp P o a w K' Q else K' (a.put o.dst undef) w)
    (hs : AllReadyG P md ops Q S fuel listed a w rs) : AllReadyG P md ops Q S fuel listed a w (i :: rs) := fun j hj => by
  rcases List.mem_cons.1 hj with rfl | hj
  · exact wpOp_step ho (fun K' hK => h K' (fun a w hS hW => hK a w ⟨hS, hW hS⟩))
  · exact hs j hj
theorem wpAnyG_ready {rs : List Nat} {fuel : Nat} {listed : Array Bool} {a : Act} {w : World} (hr : Region.ready md ops listed = rs) (hne : rs ≠ [])
    (h : AllReadyG P md ops Q S fuel listed a w rs) : wpAnyG P md ops Q S (fuel + 1) listed a w :=
  ⟨fun h0 => absurd (hr ▸ h0) hne, hr ▸ h⟩
theorem wp_region_G {id : Nat} {a : Act} {w : World} (hm : P.follows .mixedOrders = true) (hS : S (Array.replicate ops.size false) w.drew)
    (h : S (Array.replicate ops.size false) w.drew → wpAnyG P .any ops Q S ops.size (Array.replicate ops.size false) a w.drew) : (Code.region id ops true).wp P Q a w :=
  wp_region_any hm (wpAny_of_G _ _ _ _ (h hS))
end

/-- What holds all along (t), and what holds till operation k has come up (c). -/
structure S1 (k : Nat) (c t : World → Prop) (l : Array Bool) (w : World) : Prop where
  C : l.getD k false = false → c w
  T : t w
structure S2 (k k' : Nat) (c c' t : World → Prop) (l : Array Bool) (w : World) : Prop where
  C : l.getD k false = false → c w
  D : l.getD k' false = false → c' w
  T : t w
section
variable {k k' i : Nat} {c c' t : World → Prop} {l : Array Bool} {w : World}
theorem S1.un (hik : i ≠ k) (h : S1 k c t (l.setIfInBounds i true) w) : S1 k c t l w := ⟨fun hl => h.C (by rw [getD_set_ne false hik]; exact hl), h.T⟩
theorem S1.set (hik : i ≠ k) (h : S1 k c t l w) : S1 k c t (l.setIfInBounds i true) w := ⟨fun hl => h.C (by rw [getD_set_ne false hik] at hl; exact hl), h.T⟩
theorem S2.un (hik : i ≠ k) (hik' : i ≠ k') (h : S2 k k' c c' t (l.setIfInBounds i true) w) : S2 k k' c c' t l w := ⟨fun hl => h.C (by rw [getD_set_ne false hik]; exact hl), fun hl => h.D (by rw [getD_set_ne false hik']; exact hl), h.T⟩
theorem S2.set (hik : i ≠ k) (hik' : i ≠ k') (h : S2 k k' c c' t l w) : S2 k k' c c' t (l.setIfInBounds i true) w := ⟨fun hl => h.C (by rw [getD_set_ne false hik] at hl; exact hl), fun hl => h.D (by rw [getD_set_ne false hik'] at hl; exact hl), h.T⟩
end

end Go.Proofs.Ytcighjeiimjbiaa.RegG

/- ProPure: Layer 9: curves as plain data. -/
namespace Go.Proofs.Ytcighjeiimjbiaa.Pro
open Go.RowKit Go.Proofs.Ytcighjeiimjbiaa Go.Proofs.Ytcighjeiimjbiaa.NumPure

/-- A knot. -/
abbrev K2 := Int × Int
def kn (k : K2) : List Value := [.int .i64 k.1, .int .i64 k.2]
def kns : List K2 → List Value
  | [] => []
  | k :: l => kn k ++ kns l
theorem kns_len (l : List K2) : (kns l).length = l.length * 2 := by
  induction l with
  | nil => rfl
  | cons k l ih => simp only [kns, List.length_append, ih, List.length_cons, kn, List.length_nil]; omega
theorem kns_app (l m : List K2) : kns (l ++ m) = kns l ++ kns m := by
  induction l with
  | nil => rfl
  | cons k l ih => simp only [List.cons_append, kns, ih, List.append_assoc]
theorem kns_at (l : List K2) (i : Nat) (h : i < l.length) (c : Nat) (hc : c < 2) : (kns l)[i * 2 + c]? = (kn l[i])[c]? := by
  have e : kns l = kns (l.take i) ++ (kn l[i] ++ kns (l.drop (i + 1))) := by
    rw [← kns, ← kns_app, ← List.drop_eq_getElem_cons h, List.take_append_drop]
  have hl : (kns (l.take i)).length = i * 2 := by rw [kns_len, List.length_take, Nat.min_eq_left (by omega)]
  rw [e, List.getElem?_append_right (by omega), hl, Nat.add_sub_cancel_left, List.getElem?_append_left (by simp [kn]; exact hc)]
theorem kns_one (l : List K2) : ∀ u ∈ kns l, u.oneCell' = true := by
  induction l with
  | nil => intro u hu; simp [kns] at hu
  | cons k l ih =>
    intro u hu
    rcases List.mem_append.1 hu with h | h
    · simp only [kn, List.mem_cons, List.not_mem_nil, or_false] at h
      rcases h with rfl | rfl <;> rfl
    · exact ih u h

/-- A unit value. -/
def uOk (x : Int) : Bool := decide (0 ≤ x ∧ x ≤ 65535)
theorem unt_ok {x : Int} : unt x = x ↔ uOk x = true := by unfold unt clp uOk; rw [decide_eq_true_eq]; omega
/-- The first fault of the knots behind a place. -/
def kBad : List K2 → Option Int → Int
  | [], _ => 0
  | k :: l, p => if uOk k.1 && uOk k.2 then (match p with | none => kBad l (some k.1) | some q => if k.1 ≤ q then 24 else kBad l (some k.1)) else 2
theorem kBad_cons (k : K2) (l : List K2) (p : Option Int) : kBad (k :: l) p = if uOk k.1 && uOk k.2 then (match p with | none => kBad l (some k.1) | some q => if k.1 ≤ q then 24 else kBad l (some k.1)) else 2 := rfl
/-- The error of a curve. -/
def kErr (l : List K2) : Int := if l.length < 2 then 1 else if 16 < l.length then 3 else kBad l none
def prevX (l : List K2) (j : Nat) : Option Int := if j = 0 then none else (l[j - 1]?).map (·.1)
theorem kBad_step (l : List K2) (j : Nat) (h : j < l.length) : kBad (l.drop j) (prevX l j) = if uOk l[j].1 && uOk l[j].2 then (if j = 0 then kBad (l.drop (j + 1)) (prevX l (j + 1)) else if l[j].1 ≤ (l[j - 1]'(by omega)).1 then 24 else kBad (l.drop (j + 1)) (prevX l (j + 1))) else 2 := by
  have e2 : prevX l (j + 1) = some l[j].1 := by
    unfold prevX
    rw [if_neg (by omega)]
    simp [h]
  rw [List.drop_eq_getElem_cons h, e2, kBad_cons]
  by_cases hu : (uOk l[j].1 && uOk l[j].2) = true
  · rw [if_pos hu, if_pos hu]
    by_cases hj : j = 0
    · rw [if_pos hj]
      unfold prevX
      rw [if_pos hj]
    · rw [if_neg hj]
      unfold prevX
      rw [if_neg hj]
      rw [List.getElem?_eq_getElem (show j - 1 < l.length by omega)]
      rfl
  · rw [if_neg hu, if_neg hu]
/-- A curve without a fault. -/
structure GoodK (l : List K2) : Prop where
  two : 2 ≤ l.length
  max : l.length ≤ 16
  ok : ∀ j (h : j < l.length), uOk l[j].1 = true ∧ uOk l[j].2 = true
  ord : ∀ j (h : j + 1 < l.length), l[j].1 < l[j + 1].1
theorem kBad_zero (l : List K2) : ∀ (n j : Nat), l.length - j = n → j ≤ l.length → kBad (l.drop j) (prevX l j) = 0 → (∀ i (h : i < l.length), j ≤ i → uOk l[i].1 = true ∧ uOk l[i].2 = true) ∧ (∀ i (h : i + 1 < l.length), j ≤ i + 1 → l[i].1 < l[i + 1].1) := by
  intro n
  induction n with
  | zero =>
    intro j hn hj _
    exact ⟨fun i h hi => by omega, fun i h hi => by omega⟩
  | succ n ih =>
    intro j hn hj h0
    have hlt : j < l.length := by omega
    rw [kBad_step l j hlt] at h0
    by_cases hu : (uOk l[j].1 && uOk l[j].2) = true
    · rw [if_pos hu] at h0
      rw [Bool.and_eq_true] at hu
      by_cases hj0 : j = 0
      · rw [if_pos hj0] at h0
        obtain ⟨a, b⟩ := ih (j + 1) (by omega) (by omega) h0
        refine ⟨fun i h hi => ?_, fun i h hi => b i h (by omega)⟩
        by_cases e : i = j
        · subst e; exact hu
        · exact a i h (by omega)
      · rw [if_neg hj0] at h0
        by_cases hle : l[j].1 ≤ (l[j - 1]'(by omega)).1
        · rw [if_pos hle] at h0; omega
        · rw [if_neg hle] at h0
          obtain ⟨a, b⟩ := ih (j + 1) (by omega) (by omega) h0
          refine ⟨fun i h hi => ?_, fun i h hi => ?_⟩
          · by_cases e : i = j
            · subst e; exact hu
            · exact a i h (by omega)
          · by_cases e : i + 1 = j
            · subst e
              simp only [Nat.add_sub_cancel] at hle
              omega
            · exact b i h (by omega)
    · rw [if_neg hu] at h0; omega
theorem kErr_good {l : List K2} (h : kErr l = 0) : GoodK l := by
  unfold kErr at h
  by_cases h2 : l.length < 2
  · rw [if_pos h2] at h; omega
  rw [if_neg h2] at h
  by_cases h3 : 16 < l.length
  · rw [if_pos h3] at h; omega
  rw [if_neg h3] at h
  obtain ⟨a, b⟩ := kBad_zero l l.length 0 rfl (by omega) h
  exact ⟨by omega, by omega, fun j hj => a j hj (by omega), fun j hj => b j hj (by omega)⟩
/-- The value between two knots. -/
def seg (p q : K2) (x : Int) : Int := p.2 + dvr ((q.2 - p.2) * (x - p.1)) (q.1 - p.1)
def valL : List K2 → K2 → Int → Int
  | [], p, _ => p.2
  | q :: l, p, x => if x < q.1 then seg p q x else valL l q x
def kVal (l : List K2) (x : Int) : Int := match l with
  | [] => 0
  | p :: l => if x ≤ p.1 then p.2 else valL l p x
def kAt (l : List K2) (x : Int) : Int := if kErr l = 0 then kVal l x else unt x
theorem valL_step (l : List K2) (j : Nat) (h : j + 1 < l.length) (x : Int) : valL (l.drop (j + 1)) l[j] x = if x < l[j + 1].1 then seg l[j] l[j + 1] x else valL (l.drop (j + 2)) l[j + 1] x := by
  rw [List.drop_eq_getElem_cons h]
  rfl
theorem valL_last (l : List K2) (j : Nat) (h : j + 1 = l.length) (x : Int) : valL (l.drop (j + 1)) l[j] x = l[j].2 := by
  rw [h, List.drop_length]
  rfl
theorem kVal_first (l : List K2) (h : 0 < l.length) (x : Int) : kVal l x = if x ≤ l[0].1 then l[0].2 else valL (l.drop 1) l[0] x := by
  cases l with
  | nil => simp at h
  | cons p l => rfl
/-- Whether the second numbers rise. -/
def kRise : List K2 → Bool
  | [] => true
  | p :: l => match l with | [] => true | q :: _ => decide (p.2 < q.2) && kRise l
theorem kRise_iff (l : List K2) : kRise l = true ↔ ∀ j (h : j + 1 < l.length), l[j].2 < l[j + 1].2 := by
  induction l with
  | nil => simp [kRise]
  | cons p l ih =>
    cases l with
    | nil => simp [kRise]
    | cons q l =>
      unfold kRise
      rw [Bool.and_eq_true, decide_eq_true_eq, ih]
      constructor
      · rintro ⟨h1, h2⟩ j h
        cases j with
        | zero => exact h1
        | succ j => exact h2 j (by simpa using h)
      · intro h
        exact ⟨h 0 (by simp), fun j hj => h (j + 1) (by simpa using hj)⟩
def kRis (l : List K2) : Bool := decide (kErr l = 0) && kRise l && decide (l[0]? = some (0, 0)) && decide (l[l.length - 1]? = some (65535, 65535))
def kInv (l : List K2) : List K2 := l.map fun k => (k.2, k.1)
def kInvX (l : List K2) : Int := if kErr l = 0 then if kRis l then 0 else 1 else kErr l

end Go.Proofs.Ytcighjeiimjbiaa.Pro

/- ProA: Layer 7, both sides: the error of a curve. -/
namespace Go.Proofs.Ytcighjeiimjbiaa.Pro
open Go.RowKit Go.Proofs.Ytcighjeiimjbiaa Go.Proofs.Ytcighjeiimjbiaa.NumPure

/-- A curve that is read. -/
abbrev KnR (w : World) (A : Option Addr) (l : List K2) : Prop := Reads w w.heap.size 2 A l.length (kns l)
/-- A row that was made behind a world. -/
def New (B : Nat) (A : Option Addr) : Prop := ∀ ad, A = some ad → B ≤ ad.block
theorem New.none_ (B : Nat) : New B none := fun _ h => by cases h
theorem New.some_ {B : Nat} {ad : Addr} (h : B ≤ ad.block) : New B (some ad) := fun _ e => by injection e with e; rw [← e]; exact h
theorem KnR.below {w w' : World} {A : Option Addr} {l : List K2} (h : KnR w A l) (hb : Below w.heap.size w w') : KnR w' A l := (Reads.below h hb).more hb.size
theorem KnR.addr {w : World} {A : Option Addr} {l : List K2} (h : KnR w A l) (h0 : 0 < l.length) : ∃ ad, A = some ad ∧ ad.block < w.heap.size := by
  obtain ⟨a, e, hb, _⟩ := h.2 h0
  exact ⟨a, e, hb⟩
theorem add_of_add (a : Addr) (i j : Nat) : (a.add i).add j = a.add (i + j) := by
  unfold Addr.add
  by_cases hi : i = 0 <;> by_cases hj : j = 0 <;> simp [hi, hj, Nat.add_assoc]
/-- A knot's two cells. -/
theorem kn_cells {w : World} {ad : Addr} {l : List K2} (h : KnR w (some ad) l) (j : Nat) (hj : j < l.length) :
    w.cell? (ad.add (j * 2)) = some (.int .i64 l[j].1) ∧ w.cell? ⟨(ad.add (j * 2)).block, (ad.add (j * 2)).off + 1, none⟩ = some (.int .i64 l[j].2) := by
  obtain ⟨a, e, _, hc⟩ := h.2 (by omega)
  injection e with e
  subst e
  have k := fun c (hc2 : c < 2) (u : Value) (hu : (kn l[j])[c]? = some u) => hc (j * 2 + c) u ((kns_at l j hj c hc2).trans hu)
  have f : (⟨(ad.add (j * 2)).block, (ad.add (j * 2)).off + 1, none⟩ : Addr) = ad.add (j * 2 + 1) := by
    rw [← add_of_add]
    generalize ad.add (j * 2) = b
    unfold Addr.add
    rw [if_neg (by omega)]
  rw [f]
  exact ⟨k 0 (by omega) _ rfl, k 1 (by omega) _ rfl⟩
theorem cunit_any (x : Int) (w : World) : Calls Try.prog 93 #[.int .i64 x] w fun e w' => e = .returned (.int .i64 (unt x)) ∧ w = w' := by
  go_enter Try.func93, Try.ntmps93
  go_wp2_with (go_at_call 65; refine (Num.clamp_any _ _ _ _).mono ?_; rintro e w' ⟨rfl, rfl⟩)
  go_ret
  exact ⟨rfl, rfl⟩
theorem cunit_is (x u : Int) (h : unt x = u) (w : World) : Calls Try.prog 93 #[.int .i64 x] w fun e w' => e = .returned (.int .i64 u) ∧ w = w' := by subst h; exact cunit_any x w
theorem rcunit_any (x : Int) (w : World) : Calls Try.prog 100 #[.int .i64 x] w fun e w' => e = .returned (.bool (uOk x)) ∧ w = w' := by
  by_cases h0 : 0 ≤ x
  · by_cases h1 : x ≤ 65535
    · have e : uOk x = true := by unfold uOk; rw [decide_eq_true_eq]; exact ⟨h0, h1⟩
      rw [e]
      go_enter Try.func100, Try.ntmps100
      go_wp2_with fail
      go_ret
      exact ⟨by simp, rfl⟩
    · have e : uOk x = false := by unfold uOk; rw [decide_eq_false_iff_not]; omega
      rw [e]
      go_enter Try.func100, Try.ntmps100
      go_wp2_with fail
      go_ret
      exact ⟨by simp, rfl⟩
  · have e : uOk x = false := by unfold uOk; rw [decide_eq_false_iff_not]; omega
    rw [e]
    go_enter Try.func100, Try.ntmps100
    go_wp2_with fail
    go_ret
    exact ⟨rfl, rfl⟩
def ErrC (l : List K2) (w : World) (e : Ending) (w' : World) : Prop := e = .returned (.int .i64 (kErr l)) ∧ Below w.heap.size w w'
theorem ErrC.mk {l : List K2} {w w' : World} {z : Int} (h : kErr l = z) (hb : Below w.heap.size w w') : ErrC l w (.returned (.int .i64 z)) w' := ⟨by rw [h], hb⟩
theorem kErr_mid {l : List K2} (h2 : ¬ l.length < 2) (h3 : ¬ 16 < l.length) : kErr l = kBad l none := by unfold kErr; rw [if_neg h2, if_neg h3]
theorem drew_below {B : Nat} {w wr : World} {n : Nat} (h : Below B w wr) : Below B w (wr.drewN n) := h.trans ⟨rfl, rfl, rfl, Nat.le_refl _, fun _ _ => rfl⟩

set_option maxHeartbeats 4000000 in
theorem ccheck_any (A : Option Addr) (l : List K2) (c : Nat) (w : World) (h : KnR w A l) : Calls Try.prog 75 #[.slice A l.length c] w (ErrC l w) := by
  obtain ⟨n, hn⟩ : ∃ n, l.length = n := ⟨_, rfl⟩
  rw [hn]
  by_cases h2 : n < 2
  · have e : kErr l = 1 := by unfold kErr; rw [if_pos (by omega)]
    have HE := Lib.hid e
    clear e h
    have q : ((n : Int) < 2) := by omega
    go_enter Try.func75, Try.ntmps75
    go_wp2_with fail
    go_ret
    exact ErrC.mk HE.out (Below.refl _ _)
  by_cases h3 : 16 < n
  · have e : kErr l = 3 := by unfold kErr; rw [if_neg (by omega), if_pos (by omega)]
    have HE := Lib.hid e
    clear e h
    go_enter Try.func75, Try.ntmps75
    go_wp2_with fail
    go_ret
    exact ErrC.mk HE.out (Below.refl _ _)
  have e : kErr l = kBad (l.drop 0) (prevX l 0) := by rw [kErr_mid (by omega) (by omega)]; rfl
  obtain ⟨ad, rfl, hadb⟩ := h.addr (by omega)
  have HE := Lib.hid e
  have HN := Lib.hid hn
  have H := Lib.hid h
  clear e hn h
  go_enter Try.func75, Try.ntmps75
  go_wp2_with fail
  go_loopw [13] (fun i wr => ∃ j : Nat, i = .int .i64 j ∧ j ≤ n ∧ kBad (l.drop j) (prevX l j) = kErr l ∧ Below w.heap.size w wr) (fun i _ => n - (intOf i).toNat)
  case atStart => exact ⟨0, rfl, by omega, HE.out.symm, Below.refl _ _⟩
  case round =>
    obtain ⟨j, rfl, hj, hk, hb⟩ := hrel
    by_cases hlt : j < n
    · have hjl : j < l.length := by have := HN.out; omega
      rw [kBad_step l j hjl] at hk
      have hr := H.out.below hb
      obtain ⟨c0, c1⟩ := kn_cells hr j hjl
      have hbs := hb.size
      have hal : Below w.heap.size w (wr.alloc (.cells #[.int .i64 l[j].1, .int .i64 l[j].2] 72)) := hb.alloc hbs _
      have hbk := Blk.new wr 72 #[.int .i64 l[j].1, .int .i64 l[j].2]
      have hr2 := H.out.below hal
      obtain ⟨x, hx⟩ : ∃ x, l[j].1 = x := ⟨_, rfl⟩
      obtain ⟨y, hy⟩ : ∃ y, l[j].2 = y := ⟨_, rfl⟩
      obtain ⟨ux, hux⟩ : ∃ u, unt x = u := ⟨_, rfl⟩
      obtain ⟨uy, huy⟩ : ∃ u, unt y = u := ⟨_, rfl⟩
      rw [hx] at c0
      rw [hy] at c1
      rw [hx, hy] at hk hal hbk hr2
      have hqx := fun (W : World) => cunit_is x ux hux W
      have hqy := fun (W : World) => cunit_is y uy huy W
      have hAL := Lib.hid hal
      by_cases okx : uOk x = true
      rotate_left
      · rw [if_neg (by simp [okx])] at hk
        have hne : x ≠ ux := fun e => okx (unt_ok.1 (hux.trans e.symm))
        have n1 : (x == ux) = false := by simpa using hne
        have n2 : (x != ux) = true := by simpa using hne
        have HK := Lib.hid hk
        clear hk hux huy hx hy hr hr2 hbk hal hne okx hb
        go_wp2_with fail
        go_quiet (first | (go_at_call_of 93 (Value.int .i64 x); exact Mat.quiet_left (hqx _)) | (go_at_call_of 93 (Value.int .i64 y); exact Mat.quiet_left (hqy _)))
        go_wp2_with fail
        go_ret
        exact ErrC.mk HK.out.symm (drew_below hAL.out)
      have ex : ux = x := hux.symm.trans (unt_ok.2 okx)
      subst ex
      by_cases oky : uOk y = true
      rotate_left
      · rw [if_neg (by simp [oky])] at hk
        have hne : y ≠ uy := fun e => oky (unt_ok.1 (huy.trans e.symm))
        have n1 : (y == uy) = false := by simpa using hne
        have n2 : (y != uy) = true := by simpa using hne
        have HK := Lib.hid hk
        clear hk hux huy hx hy hr hr2 hbk hal hne okx oky hb
        go_wp2_with fail
        go_quiet (first | (go_at_call_of 93 (Value.int .i64 ux); exact Mat.quiet_left (hqx _)) | (go_at_call_of 93 (Value.int .i64 y); exact Mat.quiet_left (hqy _)))
        go_wp2_with fail
        go_ret
        exact ErrC.mk HK.out.symm (drew_below hAL.out)
      have ey : uy = y := huy.symm.trans (unt_ok.2 oky)
      subst ey
      rw [if_pos (by simp [okx, oky])] at hk
      clear hux huy okx oky
      cases j with
      | zero =>
        rw [if_pos rfl] at hk
        have hz0 : ad.add (0 * 2) = ad := by unfold Addr.add; simp
        rw [hz0] at c0 c1
        have HK := Lib.hid hk
        clear hk hx hy hr hr2 hbk hal hb hz0
        go_wp2_with fail
        go_quiet (first | (go_at_call_of 93 (Value.int .i64 ux); exact Mat.quiet_left (hqx _)) | (go_at_call_of 93 (Value.int .i64 uy); exact Mat.quiet_left (hqy _)))
        go_wp2_with fail
        go_quiet (fail)
        go_wp2_with fail
        go_roundw
        case rel => exact ⟨1, by go_num, by omega, HK.out, drew_below hAL.out⟩
        case measure => simp [intOf]; omega
      | succ m =>
        rw [if_neg (by omega)] at hk
        have hml : m < l.length := by omega
        obtain ⟨p0, p1⟩ := kn_cells hr2 m hml
        obtain ⟨z, hz⟩ : ∃ z, (l[m]'hml).1 = z := ⟨_, rfl⟩
        simp only [Nat.add_sub_cancel] at hk
        rw [hz] at p0 hk
        have w1 : IntKind.i64.wrap (m : Int) = (m : Int) := IntWalk.i64_in _ (by omega)
        by_cases hle : ux ≤ z
        · rw [if_pos hle] at hk
          have HK := Lib.hid hk
          clear hk hx hy hr hr2 hbk hal hb
          go_wp2_with fail
          go_quiet (first | (go_at_call_of 93 (Value.int .i64 ux); exact Mat.quiet_left (hqx _)) | (go_at_call_of 93 (Value.int .i64 uy); exact Mat.quiet_left (hqy _)))
          go_wp2_with fail
          go_quiet (fail)
          go_wp2_with fail
          go_ret
          exact ErrC.mk HK.out.symm (drew_below (drew_below hAL.out))
        · rw [if_neg hle] at hk
          have d1 : decide (ux ≤ z) = false := by simpa using hle
          have HK := Lib.hid hk
          clear hk hx hy hr hr2 hbk hal hb
          go_wp2_with fail
          go_quiet (first | (go_at_call_of 93 (Value.int .i64 ux); exact Mat.quiet_left (hqx _)) | (go_at_call_of 93 (Value.int .i64 uy); exact Mat.quiet_left (hqy _)))
          go_wp2_with fail
          go_quiet (fail)
          go_wp2_with fail
          go_roundw
          case rel => exact ⟨m + 1 + 1, by go_num, by omega, HK.out, drew_below hAL.out⟩
          case measure => simp [intOf]; omega
    · obtain rfl : j = n := by omega
      have e0 : kErr l = 0 := by
        rw [← hk, ← HN.out, List.drop_length]
        rfl
      have HK := Lib.hid e0
      have HB := Lib.hid hb
      clear hk e0 hb
      go_wp2_with fail
      go_ret
      exact ErrC.mk HK.out (HB.out)

end Go.Proofs.Ytcighjeiimjbiaa.Pro

/- ProB: Layer 7, the document's answer: the error of a curve. -/
namespace Go.Proofs.Ytcighjeiimjbiaa.Pro
open Go.RowKit Go.Proofs.Ytcighjeiimjbiaa Go.Proofs.Ytcighjeiimjbiaa.NumPure

theorem rcunit_is (x : Int) (b : Bool) (h : uOk x = b) (w : World) : Calls Try.prog 100 #[.int .i64 x] w fun e w' => e = .returned (.bool b) ∧ w = w' := by subst h; exact rcunit_any x w
set_option maxHeartbeats 4000000 in
theorem rccheck_any (A : Option Addr) (l : List K2) (c : Nat) (w : World) (h : KnR w A l) : Calls Try.prog 84 #[.slice A l.length c] w (ErrC l w) := by
  obtain ⟨n, hn⟩ : ∃ n, l.length = n := ⟨_, rfl⟩
  rw [hn]
  by_cases h2 : n < 2
  · have e : kErr l = 1 := by unfold kErr; rw [if_pos (by omega)]
    have HE := Lib.hid e
    clear e h
    have q : ((n : Int) < 2) := by omega
    go_enter Try.func84, Try.ntmps84
    go_wp2_with fail
    go_ret
    exact ErrC.mk HE.out (Below.refl _ _)
  by_cases h3 : 16 < n
  · have e : kErr l = 3 := by unfold kErr; rw [if_neg (by omega), if_pos (by omega)]
    have HE := Lib.hid e
    clear e h
    go_enter Try.func84, Try.ntmps84
    go_wp2_with fail
    go_ret
    exact ErrC.mk HE.out (Below.refl _ _)
  have e : kErr l = kBad (l.drop 0) (prevX l 0) := by rw [kErr_mid (by omega) (by omega)]; rfl
  obtain ⟨ad, rfl, hadb⟩ := h.addr (by omega)
  have HE := Lib.hid e
  have HN := Lib.hid hn
  have H := Lib.hid h
  clear e hn h
  go_enter Try.func84, Try.ntmps84
  go_wp2_with fail
  go_loopw [3] (fun i wr => ∃ j : Nat, i = .int .i64 j ∧ j ≤ n ∧ kBad (l.drop j) (prevX l j) = kErr l ∧ Below w.heap.size w wr) (fun i _ => n - (intOf i).toNat)
  case atStart => exact ⟨0, rfl, by omega, HE.out.symm, Below.refl _ _⟩
  case round =>
    obtain ⟨j, rfl, hj, hk, hb⟩ := hrel
    by_cases hlt : j < n
    · have hjl : j < l.length := by have := HN.out; omega
      rw [kBad_step l j hjl] at hk
      have hr := H.out.below hb
      obtain ⟨c0, c1⟩ := kn_cells hr j hjl
      obtain ⟨x, hx⟩ : ∃ x, l[j].1 = x := ⟨_, rfl⟩
      obtain ⟨y, hy⟩ : ∃ y, l[j].2 = y := ⟨_, rfl⟩
      rw [hx] at c0
      rw [hy] at c1
      rw [hx, hy] at hk
      have hqx := fun b (hb : uOk x = b) (W : World) => rcunit_is x b hb W
      have hqy := fun b (hb : uOk y = b) (W : World) => rcunit_is y b hb W
      have HB := Lib.hid hb
      by_cases okx : uOk x = true
      rotate_left
      · rw [if_neg (by simp [okx])] at hk
        have HK := Lib.hid hk
        have hqx1 := hqx false (by simpa using okx) wr
        clear hk hx hy hr okx hb hqx hqy
        go_wp2_with fail
        refine hqx1.mono ?_
        rintro e w1 ⟨rfl, rfl⟩
        clear hqx1
        go_wp2_with fail
        go_ret
        exact ErrC.mk HK.out.symm HB.out
      by_cases oky : uOk y = true
      rotate_left
      · rw [if_neg (by simp [oky])] at hk
        have HK := Lib.hid hk
        have hqx1 := hqx true okx wr
        have hqy1 := hqy false (by simpa using oky) wr
        clear hk hx hy hr okx oky hb hqx hqy
        go_wp2_with fail
        refine hqx1.mono ?_
        rintro e w1 ⟨rfl, rfl⟩
        clear hqx1
        go_wp2_with fail
        refine hqy1.mono ?_
        rintro e w1 ⟨rfl, rfl⟩
        clear hqy1
        go_wp2_with fail
        go_ret
        exact ErrC.mk HK.out.symm HB.out
      rw [if_pos (by simp [okx, oky])] at hk
      have hqx1 := hqx true okx wr
      have hqy1 := hqy true oky wr
      clear okx oky hqx hqy
      cases j with
      | zero =>
        rw [if_pos rfl] at hk
        have hz0 : ad.add (0 * 2) = ad := by unfold Addr.add; simp
        rw [hz0] at c0 c1
        have HK := Lib.hid hk
        clear hk hx hy hr hb hz0
        go_wp2_with fail
        refine hqx1.mono ?_
        rintro e w1 ⟨rfl, rfl⟩
        clear hqx1
        go_wp2_with fail
        refine hqy1.mono ?_
        rintro e w1 ⟨rfl, rfl⟩
        clear hqy1
        go_wp2_with fail
        go_quiet (fail)
        go_wp2_with fail
        go_roundw
        case rel => exact ⟨1, by go_num, by omega, HK.out, drew_below HB.out⟩
        case measure => simp [intOf]; omega
      | succ m =>
        rw [if_neg (by omega)] at hk
        have hml : m < l.length := by omega
        obtain ⟨p0, p1⟩ := kn_cells hr m hml
        obtain ⟨z, hz⟩ : ∃ z, (l[m]'hml).1 = z := ⟨_, rfl⟩
        simp only [Nat.add_sub_cancel] at hk
        rw [hz] at p0 hk
        have w1 : IntKind.i64.wrap (m : Int) = (m : Int) := IntWalk.i64_in _ (by omega)
        by_cases hle : x ≤ z
        · rw [if_pos hle] at hk
          have HK := Lib.hid hk
          clear hk hx hy hr hb
          go_wp2_with fail
          refine hqx1.mono ?_
          rintro e w1 ⟨rfl, rfl⟩
          clear hqx1
          go_wp2_with fail
          refine hqy1.mono ?_
          rintro e w1 ⟨rfl, rfl⟩
          clear hqy1
          go_wp2_with fail
          go_quiet (fail)
          go_wp2_with fail
          go_ret
          exact ErrC.mk HK.out.symm (drew_below HB.out)
        · rw [if_neg hle] at hk
          have d1 : decide (x ≤ z) = false := by simpa using hle
          have HK := Lib.hid hk
          clear hk hx hy hr hb
          go_wp2_with fail
          refine hqx1.mono ?_
          rintro e w1 ⟨rfl, rfl⟩
          clear hqx1
          go_wp2_with fail
          refine hqy1.mono ?_
          rintro e w1 ⟨rfl, rfl⟩
          clear hqy1
          go_wp2_with fail
          go_quiet (fail)
          go_wp2_with fail
          go_roundw
          case rel => exact ⟨m + 1 + 1, by go_num, by omega, HK.out, drew_below HB.out⟩
          case measure => simp [intOf]; omega
    · obtain rfl : j = n := by omega
      have e0 : kErr l = 0 := by
        rw [← hk, ← HN.out, List.drop_length]
        rfl
      have HK := Lib.hid e0
      have HB := Lib.hid hb
      clear hk e0 hb
      go_wp2_with fail
      go_ret
      exact ErrC.mk HK.out HB.out

end Go.Proofs.Ytcighjeiimjbiaa.Pro

/- ProC: Layer 7, both sides: the value of a curve. -/
namespace Go.Proofs.Ytcighjeiimjbiaa.Pro
open Go.RowKit Go.Proofs.Ytcighjeiimjbiaa Go.Proofs.Ytcighjeiimjbiaa.NumPure Go.Proofs.Ytcighjeiimjbiaa.RegG

theorem GoodK.px {l : List K2} (h : GoodK l) (j : Nat) (hj : j < l.length) : (0 ≤ l[j].1 ∧ l[j].1 ≤ 65535) ∧ 0 ≤ l[j].2 ∧ l[j].2 ≤ 65535 := by
  obtain ⟨a, b⟩ := h.ok j hj
  unfold uOk at a b
  rw [decide_eq_true_eq] at a b
  exact ⟨a, b⟩
theorem prod16 {a b : Int} (a0 : -65535 ≤ a) (a1 : a ≤ 65535) (b0 : 0 ≤ b) (b1 : b ≤ 65535) : -4294836225 ≤ a * b ∧ a * b ≤ 4294836225 := by
  have h1 : a * b ≤ 65535 * b := Int.mul_le_mul_of_nonneg_right a1 b0
  have h2 : -65535 * b ≤ a * b := Int.mul_le_mul_of_nonneg_right a0 b0
  omega
theorem fdiv_small {a b : Int} (hb : 1 ≤ b) (a0 : -4294836225 ≤ a) (a1 : a ≤ 4294836225) : -4294836226 ≤ a.fdiv b ∧ a.fdiv b ≤ 4294836225 := by
  rw [Int.fdiv_eq_ediv_of_nonneg _ (by omega)]
  have h := Int.mul_ediv_add_emod a b
  have h0 := Int.emod_nonneg a (show b ≠ 0 by omega)
  have h1 := Int.emod_lt_of_pos a (show 0 < b by omega)
  obtain ⟨q, hq⟩ : ∃ q, a / b = q := ⟨_, rfl⟩
  rw [hq] at h ⊢
  constructor
  · by_cases hn : q < 0
    · have : (q + 1) * b ≤ (q + 1) * 1 := by
        have := Int.mul_le_mul_of_nonpos_left (a := q + 1) (b := b) (c := 1) (by omega) hb
        simpa [Int.mul_comm] using this
      have e : (q + 1) * b = b * q + b := by rw [Int.add_mul, Int.one_mul, Int.mul_comm]
      omega
    · omega
  · by_cases hn : 0 ≤ q
    · have : 1 * q ≤ b * q := Int.mul_le_mul_of_nonneg_right hb hn
      omega
    · omega
theorem dvr_small {a b : Int} (hb : 1 ≤ b) (a0 : -4294836225 ≤ a) (a1 : a ≤ 4294836225) : -4294836227 ≤ dvr a b ∧ dvr a b ≤ 4294836227 := by
  have h := fdiv_small hb a0 a1
  unfold dvr
  rw [if_neg (by omega), if_neg (by omega)]
  split <;> omega
theorem blk2 {w : World} {g : Nat} {t : TypeId} {a b : Value} (h : Blk w g t #[a, b]) : w.cell? ⟨g, 0, none⟩ = some a ∧ w.cell? ⟨g, 1, none⟩ = some b ∧ ∀ o, w.frozen? ⟨g, o, none⟩ = false := ⟨h.cell 0, h.cell 1, h.frozen⟩
def ValC (l : List K2) (x : Int) (w : World) (e : Ending) (w' : World) : Prop := e = .returned (.int .i64 (kVal l x)) ∧ Below w.heap.size w w'
theorem ValC.mk {l : List K2} {x z : Int} {w w' : World} (h : kVal l x = z) (hb : Below w.heap.size w w') : ValC l x w (.returned (.int .i64 z)) w' := ⟨by rw [h], hb⟩
/-- What is computed between two knots, and that nothing overflows. -/
theorem seg_in {l : List K2} (h : GoodK l) (m : Nat) (hm : m + 1 < l.length) {x p0 p1 q0 q1 : Int} (e0 : l[m].1 = p0) (e1 : l[m].2 = p1) (e2 : l[m + 1].1 = q0) (e3 : l[m + 1].2 = q1) (hx : p0 ≤ x) (hx1 : x < q0) :
    (-65535 ≤ q1 - p1 ∧ q1 - p1 ≤ 65535) ∧ (0 ≤ x - p0 ∧ x - p0 ≤ 65535) ∧ (1 ≤ q0 - p0 ∧ q0 - p0 ≤ 65535) ∧ (-4294836225 ≤ (q1 - p1) * (x - p0) ∧ (q1 - p1) * (x - p0) ≤ 4294836225) ∧ seg l[m] l[m + 1] x = p1 + dvr ((q1 - p1) * (x - p0)) (q0 - p0) ∧ 0 ≤ p1 ∧ p1 ≤ 65535 := by
  obtain ⟨⟨a0, a1⟩, a2, a3⟩ := h.px m (by omega)
  obtain ⟨⟨b0, b1⟩, b2, b3⟩ := h.px (m + 1) hm
  rw [e0] at a0 a1
  rw [e1] at a2 a3
  rw [e2] at b0 b1
  rw [e3] at b2 b3
  refine ⟨by omega, by omega, by omega, prod16 (by omega) (by omega) (by omega) (by omega), ?_, a2, a3⟩
  unfold seg
  rw [e0, e1, e2, e3]

set_option maxRecDepth 100000 in
set_option maxHeartbeats 8000000 in
theorem cvalue_any (A : Option Addr) (l : List K2) (c : Nat) (x : Int) (w : World) (h : KnR w A l) (hg : GoodK l) : Calls Try.prog 94 #[.slice A l.length c, .int .i64 x] w (ValC l x w) := by
  obtain ⟨n, hn⟩ : ∃ n, l.length = n := ⟨_, rfl⟩
  rw [hn]
  have h2 := hg.two
  have h16 := hg.max
  rw [hn] at h2 h16
  obtain ⟨ad, rfl, hadb⟩ := h.addr (by omega)
  have hl0 : 0 < l.length := by omega
  obtain ⟨c0, c1⟩ := kn_cells h 0 hl0
  have hz0 : ad.add (0 * 2) = ad := by unfold Addr.add; simp
  rw [hz0] at c0 c1
  have hv := kVal_first l hl0 x
  obtain ⟨x0, hx0⟩ : ∃ z, l[0].1 = z := ⟨_, rfl⟩
  obtain ⟨y0, hy0⟩ : ∃ z, l[0].2 = z := ⟨_, rfl⟩
  rw [hx0] at c0
  rw [hy0] at c1
  have hxx : l[0].1 ≤ x ↔ x0 ≤ x := by rw [hx0]
  rw [hx0, hy0] at hv
  have HN := Lib.hid hn
  have H := Lib.hid h
  have HG := Lib.hid hg
  have HXX := Lib.hid hxx
  have HV := Lib.hid hv
  clear h hg hn hx0 hy0 hz0 hv hxx
  by_cases hx : x ≤ x0
  · have e : kVal l x = y0 := by rw [HV.out, if_pos hx]
    have HE := Lib.hid e
    clear e
    go_enter Try.func94, Try.ntmps94
    go_wp2_with fail
    go_ret
    exact ValC.mk HE.out (Below.refl _ _)
  · have e : kVal l x = valL (l.drop 1) l[0] x := by rw [HV.out, if_neg hx]
    have d0 : decide (x ≤ x0) = false := by simpa using hx
    have HE := Lib.hid e
    have H0 : Hid (l[0].1 ≤ x) := Lib.hid (HXX.out.2 (by omega))
    have HL0 := Lib.hid hl0
    clear e hx
    go_enter Try.func94, Try.ntmps94
    go_wp2_with fail
    clear d0 c0 c1
    go_loopw [5] (fun i wr => ∃ (m : Nat) (hm : m < l.length), i = .int .i64 ((m : Int) + 1) ∧ m + 1 ≤ n ∧ l[m].1 ≤ x ∧ valL (l.drop (m + 1)) l[m] x = kVal l x ∧ Below w.heap.size w wr) (fun i _ => (n - intOf i).toNat)
    case atStart => exact ⟨0, HL0.out, rfl, by omega, H0.out, HE.out.symm, Below.refl _ _⟩
    case round =>
      obtain ⟨m, hm, rfl, hmn, hlx, hk, hb⟩ := hrel
      by_cases hlt : m + 1 < n
      · have hm1 : m + 1 < l.length := by have := HN.out; omega
        rw [valL_step l m hm1 x] at hk
        have hr := H.out.below hb
        obtain ⟨a0, a1⟩ := kn_cells hr m hm
        obtain ⟨b0, b1⟩ := kn_cells hr (m + 1) hm1
        obtain ⟨p0, hp0⟩ : ∃ z, l[m].1 = z := ⟨_, rfl⟩
        obtain ⟨p1, hp1⟩ : ∃ z, l[m].2 = z := ⟨_, rfl⟩
        obtain ⟨q0, hq0⟩ : ∃ z, l[m + 1].1 = z := ⟨_, rfl⟩
        obtain ⟨q1, hq1⟩ : ∃ z, l[m + 1].2 = z := ⟨_, rfl⟩
        rw [hp0] at a0
        rw [hp1] at a1
        rw [hq0] at b0
        rw [hq1] at b1
        have hs := fun hx1 => seg_in HG.out m hm1 hp0 hp1 hq0 hq1 (by rw [← hp0]; exact hlx) hx1
        rw [hq0] at hk
        have hq0' : q0 ≤ x → l[m + 1].1 ≤ x := fun h => by rw [hq0]; exact h
        have HS := Lib.hid hs
        have HK := Lib.hid hk
        have HB := Lib.hid hb
        have HQ0 := Lib.hid hq0'
        have w1 : IntKind.i64.wrap (m : Int) = (m : Int) := IntWalk.i64_in _ (by omega)
        have hm2 : ((m : Int) + 1 < (n : Int)) := by omega
        have HC : Hid (∀ W, Below wr.heap.size wr W → W.cell? (ad.add (m * 2)) = some (.int .i64 p0) ∧ W.cell? ⟨(ad.add (m * 2)).block, (ad.add (m * 2)).off + 1, none⟩ = some (.int .i64 p1) ∧ W.cell? (ad.add ((m + 1) * 2)) = some (.int .i64 q0) ∧ W.cell? ⟨(ad.add ((m + 1) * 2)).block, (ad.add ((m + 1) * 2)).off + 1, none⟩ = some (.int .i64 q1)) := Lib.hid (fun W hW => by
          have hr' := hr.below hW
          obtain ⟨a0, a1⟩ := kn_cells hr' m hm
          obtain ⟨b0, b1⟩ := kn_cells hr' (m + 1) hm1
          rw [hp0] at a0
          rw [hp1] at a1
          rw [hq0] at b0
          rw [hq1] at b1
          exact ⟨a0, a1, b0, b1⟩)
        clear hs hk hb hr hlx hp0 hp1 hq0 hq1 hq0' a0 a1 b0 b1
        have hmn1 : m < n := by omega
        go_wp2_with fail
        refine wp_region_G (S := S1 99 (fun _ => True) (fun W => Below wr.heap.size wr W)) (by kernel_rfl) ⟨fun _ => trivial, (Below.refl _ _).drew⟩ (fun hHeld => ?_)
        refine wpAnyG_take (i := 0) (oi := _) (v := .slice (some ad) n c) rfl (by kernel_rfl) (by kernel_rfl) (by kernel_rfl) (fun _ _ _ h => h) (fun _ _ => S1.un (by decide)) (by kernel_rfl) (Or.inl ⟨by rfl, fun W1 _ => by go_simp⟩) (S1.set (by decide) hHeld) (fun hHeld => ?_)
        go_simp
        refine wpAnyG_take (i := 1) (oi := _) (v := .int .i64 ((m : Int) + 1)) rfl (by kernel_rfl) (by kernel_rfl) (by kernel_rfl) (fun _ _ _ h => h) (fun _ _ => S1.un (by decide)) (by kernel_rfl) (Or.inl ⟨by rfl, fun W1 _ => by go_simp⟩) (S1.set (by decide) hHeld) (fun hHeld => ?_)
        go_simp
        refine wpAnyG_take (i := 2) (oi := _) (v := .int .i64 (m : Int)) rfl (by kernel_rfl) (by kernel_rfl) (by kernel_rfl) (fun _ _ _ h => h) (fun _ _ => S1.un (by decide)) (by kernel_rfl) (Or.inl ⟨by rfl, fun W1 _ => by go_simp⟩) (S1.set (by decide) hHeld) (fun hHeld => ?_)
        go_simp
        refine wpAnyG_take (i := 3) (oi := _) (v := .pointer (some (ad.add (m * 2)))) rfl (by kernel_rfl) (by kernel_rfl) (by kernel_rfl) (fun _ _ _ h => h) (fun _ _ => S1.un (by decide)) (by kernel_rfl) (Or.inl ⟨by rfl, fun W1 _ => by go_simp⟩) (S1.set (by decide) hHeld) (fun hHeld => ?_)
        go_simp
        refine wpAnyG_take (i := 4) (oi := _) (v := .agg #[.int .i64 p0, .int .i64 p1]) rfl (by kernel_rfl) (by kernel_rfl) (by kernel_rfl) (fun _ _ _ h => h) (fun _ _ => S1.un (by decide)) (by kernel_rfl) (Or.inl ⟨by rfl, fun W1 h1 => by (obtain ⟨l, hcl, hi, hS⟩ := h1; have hT := hS.T; have z := HC.out W1 hT; obtain ⟨z0, z1, z2, z3⟩ := z; go_simp)⟩) (S1.set (by decide) hHeld) (fun hHeld => ?_)
        go_simp
        refine wpAnyG_take (i := 5) (oi := _) (v := .slice (some ad) n c) rfl (by kernel_rfl) (by kernel_rfl) (by kernel_rfl) (fun _ _ _ h => h) (fun _ _ => S1.un (by decide)) (by kernel_rfl) (Or.inl ⟨by rfl, fun W1 _ => by go_simp⟩) (S1.set (by decide) hHeld) (fun hHeld => ?_)
        go_simp
        refine wpAnyG_take (i := 6) (oi := _) (v := .int .i64 ((m : Int) + 1)) rfl (by kernel_rfl) (by kernel_rfl) (by kernel_rfl) (fun _ _ _ h => h) (fun _ _ => S1.un (by decide)) (by kernel_rfl) (Or.inl ⟨by rfl, fun W1 _ => by go_simp⟩) (S1.set (by decide) hHeld) (fun hHeld => ?_)
        go_simp
        refine wpAnyG_take (i := 7) (oi := _) (v := .pointer (some (ad.add ((m + 1) * 2)))) rfl (by kernel_rfl) (by kernel_rfl) (by kernel_rfl) (fun _ _ _ h => h) (fun _ _ => S1.un (by decide)) (by kernel_rfl) (Or.inl ⟨by rfl, fun W1 _ => by (go_simp; try (intro hh; exact absurd hh (by omega)))⟩) (S1.set (by decide) hHeld) (fun hHeld => ?_)
        go_simp
        refine wpAnyG_take (i := 8) (oi := _) (v := .agg #[.int .i64 q0, .int .i64 q1]) rfl (by kernel_rfl) (by kernel_rfl) (by kernel_rfl) (fun _ _ _ h => h) (fun _ _ => S1.un (by decide)) (by kernel_rfl) (Or.inl ⟨by rfl, fun W1 h1 => by (obtain ⟨l, hcl, hi, hS⟩ := h1; have hT := hS.T; have z := HC.out W1 hT; obtain ⟨z0, z1, z2, z3⟩ := z; go_simp)⟩) (S1.set (by decide) hHeld) (fun hHeld => ?_)
        go_simp
        refine wpAnyG_ready (rs := [9, 10]) (by kernel_rfl) (by simp) ?_
        refine AllReadyG.cons (o := _) rfl (fun K hK => ?_) (AllReadyG.cons (o := _) rfl (fun K hK => ?_) AllReadyG.nil)
        · rw [if_pos (by rfl)]
          go_simp
          refine hK.out _ _ (⟨fun _ => trivial, by first | exact hHeld.T.alloc hHeld.T.size _ | exact (((Below.refl _ _).drew).alloc (Nat.le_refl _) _).alloc (by simp) _⟩) (fun hHeld => ?_)
          clear hK
          try simp only [Act.put, List.setIfInBounds_toArray, List.set_cons_zero, List.set_cons_succ]
          refine wpAnyG_ready (rs := [10]) (by kernel_rfl) (by simp) ?_
          refine AllReadyG.cons (o := _) rfl (fun K hK => ?_) AllReadyG.nil
          rw [if_pos (by rfl)]
          go_simp
          refine hK.out _ _ (⟨fun _ => trivial, by first | exact hHeld.T.alloc hHeld.T.size _ | exact (((Below.refl _ _).drew).alloc (Nat.le_refl _) _).alloc (by simp) _⟩) (fun hHeld => ?_)
          clear hK
          try simp only [Act.put, List.setIfInBounds_toArray, List.set_cons_zero, List.set_cons_succ]
          refine wpAnyG_ready (rs := [11]) (by kernel_rfl) (by simp) ?_
          refine AllReadyG.cons (o := _) rfl (fun K hK => ?_) AllReadyG.nil
          rw [if_pos (by rfl)]
          go_simp
          refine hK.out _ _ (⟨fun _ => trivial, by first | exact hHeld.T.alloc hHeld.T.size _ | exact (((Below.refl _ _).drew).alloc (Nat.le_refl _) _).alloc (by simp) _⟩) (fun hHeld => ?_)
          clear hK
          try simp only [Act.put, List.setIfInBounds_toArray, List.set_cons_zero, List.set_cons_succ]
          refine wpAnyG_ready (rs := [12]) (by kernel_rfl) (by simp) ?_
          refine AllReadyG.cons (o := _) rfl (fun K hK => ?_) AllReadyG.nil
          rw [if_pos (by rfl)]
          go_simp
          refine hK.out _ _ (⟨fun _ => trivial, by first | exact hHeld.T.alloc hHeld.T.size _ | exact (((Below.refl _ _).drew).alloc (Nat.le_refl _) _).alloc (by simp) _⟩) (fun hHeld => ?_)
          clear hK
          try simp only [Act.put, List.setIfInBounds_toArray, List.set_cons_zero, List.set_cons_succ]
          refine wpAnyG_done (by kernel_rfl) ?_ _
          have hbl := hHeld.T
          clear hHeld
          have y0 : Blk (((wr.alloc (.cells #[.int .i64 p0, .int .i64 p1] 72)).alloc (.cells #[.int .i64 q0, .int .i64 q1] 72)).drew) wr.heap.size 72 #[.int .i64 p0, .int .i64 p1] := ((Blk.new wr _ _).alloc _).drew
          have y1 : Blk (((wr.alloc (.cells #[.int .i64 p0, .int .i64 p1] 72)).alloc (.cells #[.int .i64 q0, .int .i64 q1] 72)).drew) (wr.heap.size + 1) 72 #[.int .i64 q0, .int .i64 q1] := by
            have := (Blk.new (wr.alloc (.cells #[.int .i64 p0, .int .i64 p1] 72)) 72 #[.int .i64 q0, .int .i64 q1]).drew
            simpa using this
          obtain ⟨W, hW⟩ : ∃ W, ((wr.alloc (.cells #[.int .i64 p0, .int .i64 p1] 72)).alloc (.cells #[.int .i64 q0, .int .i64 q1] 72)).drew = W := ⟨_, rfl⟩
          rw [hW] at hbl y0 y1 ⊢
          clear hW
          have HBL := Lib.hid hbl
          obtain ⟨e0, e1, ef⟩ := blk2 y0
          obtain ⟨f0, f1, ff⟩ := blk2 y1
          clear y0 y1 hbl
          have HB2 := Lib.hid (HB.out.trans (HBL.out.mono HB.out.size))
          clear HBL HC
          by_cases hlx : x < q0
          · obtain ⟨⟨s0, s1⟩, ⟨s2, s3⟩, ⟨s4, s5⟩, ⟨s6, s7⟩, s8, s9, s10⟩ := HS.out hlx
            have hkk : kVal l x = seg l[m] l[m + 1] x := by
              have := HK.out
              rw [if_pos hlx] at this
              exact this.symm
            rw [s8] at hkk
            obtain ⟨dd, hdd⟩ : ∃ d, dvr ((q1 - p1) * (x - p0)) (q0 - p0) = d := ⟨_, rfl⟩
            have hdb := dvr_small s4 s6 s7
            rw [hdd] at hdb hkk
            have v1 : IntKind.i64.wrap (q1 - p1) = q1 - p1 := IntWalk.i64_in _ (by omega)
            have v2 : IntKind.i64.wrap (x - p0) = x - p0 := IntWalk.i64_in _ (by omega)
            have v3 : IntKind.i64.wrap (q0 - p0) = q0 - p0 := IntWalk.i64_in _ (by omega)
            have v4 : IntKind.i64.wrap ((q1 - p1) * (x - p0)) = (q1 - p1) * (x - p0) := IntWalk.i64_in _ (by omega)
            have v5 : IntKind.i64.wrap (p1 + dd) = p1 + dd := IntWalk.i64_in _ (by omega)
            have hdv := fun (W : World) => Num.div_is ((q1 - p1) * (x - p0)) (q0 - p0) dd hdd.symm (by omega) (by omega) (by omega) (by omega) W
            have HKK := Lib.hid hkk
            clear hkk hdd s0 s1 s2 s3 s6 s7 s8 s9 s10 hdb
            go_wp2_with fail
            go_quiet ((go_at_call 92; exact Mat.quiet_left (hdv _)))
            go_wp2_with fail
            go_ret
            exact ValC.mk HKK.out (drew_below HB2.out)
          · have hkk := HK.out
            rw [if_neg hlx] at hkk
            have hq0x := HQ0.out (by omega)
            have d0 : decide (x < q0) = false := by simpa using hlx
            have HKK := Lib.hid hkk
            have HQX := Lib.hid hq0x
            clear hkk hq0x hlx
            go_wp2_with fail
            go_roundw
            case rel => exact ⟨m + 1, hm1, by go_num, by omega, HQX.out, HKK.out, HB2.out⟩
            case measure => simp [intOf]; omega
        · rw [if_pos (by rfl)]
          go_simp
          refine hK.out _ _ (⟨fun _ => trivial, by first | exact hHeld.T.alloc hHeld.T.size _ | exact (((Below.refl _ _).drew).alloc (Nat.le_refl _) _).alloc (by simp) _⟩) (fun hHeld => ?_)
          clear hK
          try simp only [Act.put, List.setIfInBounds_toArray, List.set_cons_zero, List.set_cons_succ]
          refine wpAnyG_ready (rs := [9]) (by kernel_rfl) (by simp) ?_
          refine AllReadyG.cons (o := _) rfl (fun K hK => ?_) AllReadyG.nil
          rw [if_pos (by rfl)]
          go_simp
          refine hK.out _ _ (⟨fun _ => trivial, by first | exact hHeld.T.alloc hHeld.T.size _ | exact (((Below.refl _ _).drew).alloc (Nat.le_refl _) _).alloc (by simp) _⟩) (fun hHeld => ?_)
          clear hK
          try simp only [Act.put, List.setIfInBounds_toArray, List.set_cons_zero, List.set_cons_succ]
          refine wpAnyG_ready (rs := [11]) (by kernel_rfl) (by simp) ?_
          refine AllReadyG.cons (o := _) rfl (fun K hK => ?_) AllReadyG.nil
          rw [if_pos (by rfl)]
          go_simp
          refine hK.out _ _ (⟨fun _ => trivial, by first | exact hHeld.T.alloc hHeld.T.size _ | exact (((Below.refl _ _).drew).alloc (Nat.le_refl _) _).alloc (by simp) _⟩) (fun hHeld => ?_)
          clear hK
          try simp only [Act.put, List.setIfInBounds_toArray, List.set_cons_zero, List.set_cons_succ]
          refine wpAnyG_ready (rs := [12]) (by kernel_rfl) (by simp) ?_
          refine AllReadyG.cons (o := _) rfl (fun K hK => ?_) AllReadyG.nil
          rw [if_pos (by rfl)]
          go_simp
          refine hK.out _ _ (⟨fun _ => trivial, by first | exact hHeld.T.alloc hHeld.T.size _ | exact (((Below.refl _ _).drew).alloc (Nat.le_refl _) _).alloc (by simp) _⟩) (fun hHeld => ?_)
          clear hK
          try simp only [Act.put, List.setIfInBounds_toArray, List.set_cons_zero, List.set_cons_succ]
          refine wpAnyG_done (by kernel_rfl) ?_ _
          have hbl := hHeld.T
          clear hHeld
          have y0 : Blk (((wr.alloc (.cells #[.int .i64 q0, .int .i64 q1] 72)).alloc (.cells #[.int .i64 p0, .int .i64 p1] 72)).drew) wr.heap.size 72 #[.int .i64 q0, .int .i64 q1] := ((Blk.new wr _ _).alloc _).drew
          have y1 : Blk (((wr.alloc (.cells #[.int .i64 q0, .int .i64 q1] 72)).alloc (.cells #[.int .i64 p0, .int .i64 p1] 72)).drew) (wr.heap.size + 1) 72 #[.int .i64 p0, .int .i64 p1] := by
            have := (Blk.new (wr.alloc (.cells #[.int .i64 q0, .int .i64 q1] 72)) 72 #[.int .i64 p0, .int .i64 p1]).drew
            simpa using this
          obtain ⟨W, hW⟩ : ∃ W, ((wr.alloc (.cells #[.int .i64 q0, .int .i64 q1] 72)).alloc (.cells #[.int .i64 p0, .int .i64 p1] 72)).drew = W := ⟨_, rfl⟩
          rw [hW] at hbl y0 y1 ⊢
          clear hW
          have HBL := Lib.hid hbl
          obtain ⟨e0, e1, ef⟩ := blk2 y0
          obtain ⟨f0, f1, ff⟩ := blk2 y1
          clear y0 y1 hbl
          have HB2 := Lib.hid (HB.out.trans (HBL.out.mono HB.out.size))
          clear HBL HC
          by_cases hlx : x < q0
          · obtain ⟨⟨s0, s1⟩, ⟨s2, s3⟩, ⟨s4, s5⟩, ⟨s6, s7⟩, s8, s9, s10⟩ := HS.out hlx
            have hkk : kVal l x = seg l[m] l[m + 1] x := by
              have := HK.out
              rw [if_pos hlx] at this
              exact this.symm
            rw [s8] at hkk
            obtain ⟨dd, hdd⟩ : ∃ d, dvr ((q1 - p1) * (x - p0)) (q0 - p0) = d := ⟨_, rfl⟩
            have hdb := dvr_small s4 s6 s7
            rw [hdd] at hdb hkk
            have v1 : IntKind.i64.wrap (q1 - p1) = q1 - p1 := IntWalk.i64_in _ (by omega)
            have v2 : IntKind.i64.wrap (x - p0) = x - p0 := IntWalk.i64_in _ (by omega)
            have v3 : IntKind.i64.wrap (q0 - p0) = q0 - p0 := IntWalk.i64_in _ (by omega)
            have v4 : IntKind.i64.wrap ((q1 - p1) * (x - p0)) = (q1 - p1) * (x - p0) := IntWalk.i64_in _ (by omega)
            have v5 : IntKind.i64.wrap (p1 + dd) = p1 + dd := IntWalk.i64_in _ (by omega)
            have hdv := fun (W : World) => Num.div_is ((q1 - p1) * (x - p0)) (q0 - p0) dd hdd.symm (by omega) (by omega) (by omega) (by omega) W
            have HKK := Lib.hid hkk
            clear hkk hdd s0 s1 s2 s3 s6 s7 s8 s9 s10 hdb
            go_wp2_with fail
            go_quiet ((go_at_call 92; exact Mat.quiet_left (hdv _)))
            go_wp2_with fail
            go_ret
            exact ValC.mk HKK.out (drew_below HB2.out)
          · have hkk := HK.out
            rw [if_neg hlx] at hkk
            have hq0x := HQ0.out (by omega)
            have d0 : decide (x < q0) = false := by simpa using hlx
            have HKK := Lib.hid hkk
            have HQX := Lib.hid hq0x
            clear hkk hq0x hlx
            go_wp2_with fail
            go_roundw
            case rel => exact ⟨m + 1, hm1, by go_num, by omega, HQX.out, HKK.out, HB2.out⟩
            case measure => simp [intOf]; omega
      · have hm1 : m + 1 = l.length := by have := HN.out; omega
        rw [valL_last l m hm1 x] at hk
        have hr := H.out.below hb
        obtain ⟨a0, a1⟩ := kn_cells hr m hm
        obtain ⟨p1, hp1⟩ : ∃ z, l[m].2 = z := ⟨_, rfl⟩
        rw [hp1] at a1 hk
        obtain rfl : m + 1 = n := by omega
        have w1 : IntKind.i64.wrap (m : Int) = (m : Int) := IntWalk.i64_in _ (by omega)
        have HK := Lib.hid hk
        have HB := Lib.hid hb
        clear hk hb hr hp1 hm1
        go_wp2_with fail
        go_ret
        exact ValC.mk HK.out.symm HB.out

end Go.Proofs.Ytcighjeiimjbiaa.Pro
