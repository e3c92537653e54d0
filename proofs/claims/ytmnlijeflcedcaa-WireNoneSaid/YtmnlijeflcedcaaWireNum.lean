/-
  The numbers of a varint's reading: one group of seven bits joined to those that were read.
-/
import Derived.Test.YtmnlijeflcedcaaWirePure
import Derived.Laws.BitsAllLaws
import Derived.Laws.Bits64
import Derived.WalkKit
namespace Go.Proofs.Ytmnlijeflcedcaa.WirePure
open Go.RowKit

theorem grp_lt (i c : Nat) (hi : i ≤ 9) (h9 : i = 9 → c ≤ 1) (hc : c < 128) : c * 2 ^ (7 * i) < 18446744073709551616 := by
  by_cases e : i = 9
  · subst e
    have := h9 rfl
    omega
  · have h3 : c * 2 ^ (7 * i) ≤ 127 * 2 ^ (7 * i) := Nat.mul_le_mul_right _ (by omega)
    have h4 : 2 ^ (7 * i) ≤ 2 ^ (7 * 8) := Nat.pow_le_pow_right (by omega) (by omega)
    omega

theorem orb (i acc c : Nat) (hi : i ≤ 9) (ha : acc < 2 ^ (7 * i)) (hc : c < 256) (h9 : i = 9 → c % 128 ≤ 1) :
    bits .or .u64 (acc : Int) (IntKind.u64.wrap (IntKind.u64.wrap (bits .and .u8 (c : Int) 127) * 2 ^ (7 * i))) = ((acc + c % 128 * 2 ^ (7 * i) : Nat) : Int) := by
  have e1 : bits .and .u8 (c : Int) 127 = ((c % 128 : Nat) : Int) := by
    have := u8_and_nat c 127 hc (by decide)
    rw [nat_mask7] at this
    exact this
  have hg := grp_lt i (c % 128) hi h9 (by omega)
  have e2 : IntKind.u64.wrap ((c % 128 : Nat) : Int) = ((c % 128 : Nat) : Int) := by rw [IntKind.wrap_u64]; omega
  have e3 : (((c % 128 : Nat) : Int) * 2 ^ (7 * i)) = ((c % 128 * 2 ^ (7 * i) : Nat) : Int) := by
    rw [Int.natCast_mul, Int.natCast_pow]
    rfl
  rw [e1, e2, e3]
  have e4 : IntKind.u64.wrap ((c % 128 * 2 ^ (7 * i) : Nat) : Int) = ((c % 128 * 2 ^ (7 * i) : Nat) : Int) := by
    rw [IntKind.wrap_u64]
    generalize c % 128 * 2 ^ (7 * i) = z at *
    omega
  have ha2 : acc < 18446744073709551616 := by
    have h4 : 2 ^ (7 * i) ≤ 2 ^ (7 * 9) := Nat.pow_le_pow_right (by omega) (by omega)
    omega
  rw [e4, u64_or_nat _ _ ha2 hg, Nat.or_comm, nat_join (7 * i) _ _ (by simp) ha, Nat.add_comm]

theorem not_i64 (k : Nat) (h : k < 9223372036854775808) : bits .xor .i64 (-1) (k : Int) = -(k : Int) - 1 := by
  show IntKind.i64.wrap ((BitVec.ofInt 64 (-1) ^^^ BitVec.ofInt 64 (k : Int)).toNat : Int) = _
  have e : BitVec.ofInt 64 (-1) = BitVec.allOnes 64 := by decide
  rw [e, BitVec.allOnes_xor, BitVec.toNat_not, BitVec.ofInt_natCast, BitVec.toNat_ofNat, Nat.mod_eq_of_lt (by omega)]
  rw [show ((2 ^ 64 - 1 - k : Nat) : Int) = 18446744073709551615 - k by omega]
  simp [IntKind.wrap, IntKind.bits, IntKind.signed]
  omega

theorem orb_lt (i acc c : Nat) (ha : acc < 2 ^ (7 * i)) : acc + c % 128 * 2 ^ (7 * i) < 2 ^ (7 * (i + 1)) := by
  have h3 : c % 128 * 2 ^ (7 * i) ≤ 127 * 2 ^ (7 * i) := Nat.mul_le_mul_right _ (by omega)
  rw [pow7]
  omega

end Go.Proofs.Ytmnlijeflcedcaa.WirePure
