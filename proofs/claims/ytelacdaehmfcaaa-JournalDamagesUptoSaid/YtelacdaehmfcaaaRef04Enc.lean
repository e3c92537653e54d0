/-
  What the encoding functions of the reference of layer 4 return: the same bytes as package wire's.
-/
import Derived.Test.YtelacdaehmfcaaaWireEnc
namespace Go.Proofs.Ytelacdaehmfcaaa.Ref04Enc
open Go.RowKit Go.Proofs.Ytelacdaehmfcaaa.WireEnc

theorem and_or (y : Nat) (hy : y < 18446744073709551616) : bits .or .u64 (bits .and .u64 (y : Int) 127) 128 = ((y % 128 + 128 : Nat) : Int) := by
  have h1 := u64_and_nat y 127 hy (by decide)
  rw [nat_mask7] at h1
  have h2 := u64_or_nat (y % 128) 128 (by omega) (by decide)
  have h3 : (y % 128 ||| 128) = y % 128 + 128 := by rw [Nat.or_comm, nat_join 7 128 _ (by decide) (by omega)]; omega
  rw [h3] at h2
  rw [show (127 : Int) = ((127 : Nat) : Int) from rfl, h1]
  exact h2

theorem conv_one (w : World) (z : Int) (h0 : 0 ≤ z) (h1 : z < 256) :
    (convert 47 9 (.slice (some ⟨w.heap.size, 0, none⟩) 1 1)).run Try.prog (w.alloc (.cells #[.int .u8 z] 5)) = .ok (.string ⟨[z.toNat.toUInt8].toArray⟩) (w.alloc (.cells #[.int .u8 z] 5)) :=
  run_convert_bytes_back _ _ _ 5 ⟨w.heap.size, 0, none⟩ 1 [z.toNat.toUInt8] Try.underlying47 Try.underlying5 Try.underlying9 (fun j hj => by
    obtain rfl : j = 0 := by simpa using hj
    simp [Addr.add, Lib.toUInt8_toNat (show z.toNat < 256 by omega)]
    omega)

set_option maxHeartbeats 1000000 in
set_option maxRecDepth 100000 in
theorem rUint_any (x : Nat) (hx : x < 18446744073709551616) (w : World) :
    Calls Try.prog 25 #[.int .u64 x] w fun e w' => e = .returned (.string ⟨(Lib.uvarint x).toArray⟩) ∧ Below w.heap.size w w' := by
  have hlen := Lib.uvarint_length64 hx
  go_enter Try.func25, Try.ntmps25
  go_wp2
  go_loopw [0, 3] (fun vx vs wr => ∃ (y : Nat) (pre : List UInt8), vx = .int .u64 y ∧ y ≤ x ∧ Lib.uvarint x = pre ++ Lib.uvarint y ∧ vs = .string ⟨pre.toArray⟩ ∧ Below w.heap.size w wr)
    (fun vx _ _ => (intOf vx).toNat)
  case atStart => exact ⟨x, [], rfl, Nat.le_refl _, rfl, rfl, Below.refl _ _⟩
  case round =>
    obtain ⟨y, pre, rfl, hy, hsplit, rfl, hnx⟩ := hrel
    have hpl : pre.length + (Lib.uvarint y).length ≤ 10 := by
      have h2 := congrArg List.length hsplit
      rw [List.length_append] at h2
      omega
    have hyp := Lib.uvarint_pos y
    have HS := Lib.hid hsplit
    clear hsplit
    by_cases h128 : 128 ≤ y
    · have hor := and_or y (by omega)
      rw [show ((y % 128 + 128 : Nat) : Int) = (y : Int) % 128 + 128 by omega] at hor
      have hcv := conv_one wr ((y : Int) % 128 + 128) (by omega) (by omega)
      obtain ⟨c, hc⟩ : ∃ c : UInt8, c = ((y : Int) % 128 + 128).toNat.toUInt8 := ⟨_, rfl⟩
      rw [← hc] at hcv
      have HC := Lib.hid hc
      clear hc
      go_wp2_with fail
      go_roundw
      case rel =>
        refine ⟨y / 128, pre ++ [c], by go_num, by omega, ?_, ?_, hnx.alloc hnx.size _⟩
        · rw [HS.out, Lib.uvarint_big h128, HC.out, show ((y : Int) % 128 + 128).toNat = y % 128 + 128 by omega]
          simp
        · rw [← ByteArray.mk_append_mk]
      case measure => simp [intOf]; omega
    · have hcv := conv_one wr (y : Int) (by omega) (by omega)
      obtain ⟨c, hc⟩ : ∃ c : UInt8, c = (y : Int).toNat.toUInt8 := ⟨_, rfl⟩
      rw [← hc] at hcv
      have HC := Lib.hid hc
      clear hc
      go_wp2_with fail
      go_ret
      refine ⟨?_, hnx.alloc hnx.size _⟩
      rw [HS.out, Lib.uvarint_small (x := y) (by omega), ← ByteArray.mk_append_mk, HC.out]
      simp

set_option maxHeartbeats 400000 in
theorem rText_any (s : ByteArray) (hs : s.size ≤ 9223372036854775000) (w : World) :
    Calls Try.prog 28 #[.string s] w fun e w' => e = .returned (.string ⟨(encText s).toArray⟩) ∧ Below w.heap.size w w' := by
  have hl := Lib.uvarint_length64 (x := s.size) (by omega)
  go_enter Try.func28, Try.ntmps28
  go_wp2_with fail
  refine (rUint_any _ (by omega) w).mono ?_
  rintro e w1 ⟨rfl, hb⟩
  go_wp2
  go_ret
  exact ⟨congrArg (fun z => Ending.returned (.string z)) (encText_eq s), hb⟩

end Go.Proofs.Ytelacdaehmfcaaa.Ref04Enc
