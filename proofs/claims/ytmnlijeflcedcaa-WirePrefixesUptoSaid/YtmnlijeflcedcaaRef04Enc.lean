/-
  What the encoding functions of the reference of layer 4 return: the same bytes as package wire's.
-/
import Derived.Test.YtmnlijeflcedcaaWireEnc
namespace Go.Proofs.Ytmnlijeflcedcaa.Ref04Enc
open Go.RowKit Go.Proofs.Ytmnlijeflcedcaa.WireEnc

theorem and_or (y : Nat) (hy : y < 18446744073709551616) : bits .or .u64 (bits .and .u64 (y : Int) 127) 128 = ((y % 128 + 128 : Nat) : Int) := by
  have h1 := u64_and_nat y 127 hy (by decide)
  rw [nat_mask7] at h1
  have h2 := u64_or_nat (y % 128) 128 (by omega) (by decide)
  have h3 : (y % 128 ||| 128) = y % 128 + 128 := by rw [Nat.or_comm, nat_join 7 128 _ (by decide) (by omega)]; omega
  rw [h3] at h2
  rw [show (127 : Int) = ((127 : Nat) : Int) from rfl, h1]
  exact h2

theorem conv_one (w : World) (z : Int) (h0 : 0 ≤ z) (h1 : z < 256) :
    (convert 56 9 (.slice (some ⟨w.heap.size, 0, none⟩) 1 1)).run Try.prog (w.alloc (.cells #[.int .u8 z] 5)) = .ok (.string ⟨[z.toNat.toUInt8].toArray⟩) (w.alloc (.cells #[.int .u8 z] 5)) :=
  run_convert_bytes_back _ _ _ 5 ⟨w.heap.size, 0, none⟩ 1 [z.toNat.toUInt8] Try.underlying56 Try.underlying5 Try.underlying9 (fun j hj => by
    obtain rfl : j = 0 := by simpa using hj
    simp [Addr.add, Lib.toUInt8_toNat (show z.toNat < 256 by omega)]
    omega)

set_option maxHeartbeats 1000000 in
set_option maxRecDepth 100000 in
theorem rUint_any (x : Nat) (hx : x < 18446744073709551616) (w : World) :
    Calls Try.prog 10 #[.int .u64 x] w fun e w' => e = .returned (.string ⟨(Lib.uvarint x).toArray⟩) ∧ Below w.heap.size w w' := by
  have hlen := Lib.uvarint_length64 hx
  go_enter Try.func10, Try.ntmps10
  go_wp2
  go_loopw [0, 3] (fun vx vs wr => ∃ (y : Nat) (pre : List UInt8), vx = .int .u64 y ∧ y ≤ x ∧ Lib.uvarint x = pre ++ Lib.uvarint y ∧ vs = .string ⟨pre.toArray⟩ ∧ Below w.heap.size w wr)
    (fun vx _ _ => (intOf vx).toNat)
  case atStart => exact ⟨x, [], rfl, Nat.le_refl _, rfl, rfl, Below.refl _ _⟩
  case round =>
    obtain ⟨y, pre, rfl, hy, hsplit, rfl, hnx⟩ := hrel
    have hpl : pre.length + (Lib.uvarint y).length ≤ 10 := by
      have h2 := congrArg List.length hsplit
      rw [List.length_append] at h2
      omega
    have hyp := Lib.uvarint_pos y
    have HS := Lib.hid hsplit
    clear hsplit
    by_cases h128 : 128 ≤ y
    · have hor := and_or y (by omega)
      rw [show ((y % 128 + 128 : Nat) : Int) = (y : Int) % 128 + 128 by omega] at hor
      have hcv := conv_one wr ((y : Int) % 128 + 128) (by omega) (by omega)
      obtain ⟨c, hc⟩ : ∃ c : UInt8, c = ((y : Int) % 128 + 128).toNat.toUInt8 := ⟨_, rfl⟩
      rw [← hc] at hcv
      have HC := Lib.hid hc
      clear hc
      go_wp2_with fail
      go_roundw
      case rel =>
        refine ⟨y / 128, pre ++ [c], by go_num, by omega, ?_, ?_, hnx.alloc hnx.size _⟩
        · rw [HS.out, Lib.uvarint_big h128, HC.out, show ((y : Int) % 128 + 128).toNat = y % 128 + 128 by omega]
          simp
        · rw [← ByteArray.mk_append_mk]
      case measure => simp [intOf]; omega
    · have hcv := conv_one wr (y : Int) (by omega) (by omega)
      obtain ⟨c, hc⟩ : ∃ c : UInt8, c = (y : Int).toNat.toUInt8 := ⟨_, rfl⟩
      rw [← hc] at hcv
      have HC := Lib.hid hc
      clear hc
      go_wp2_with fail
      go_ret
      refine ⟨?_, hnx.alloc hnx.size _⟩
      rw [HS.out, Lib.uvarint_small (x := y) (by omega), ← ByteArray.mk_append_mk, HC.out]
      simp

set_option maxHeartbeats 400000 in
theorem rInt_any (n : Int) (h0 : -9223372036854775808 ≤ n) (h1 : n ≤ 9223372036854775807) (w : World) :
    Calls Try.prog 12 #[.int .i64 n] w fun e w' => e = .returned (.string ⟨(Lib.uvarint (Lib.zigzag n)).toArray⟩) ∧ Below w.heap.size w w' := by
  by_cases hn : 0 ≤ n
  · go_enter Try.func12, Try.ntmps12
    go_wp2_with fail
    rw [fold_pos n hn]
    refine (rUint_any _ (zigzag_lt n h0 h1) w).mono ?_
    rintro e w1 ⟨rfl, hb⟩
    go_wp2
    go_ret
    exact ⟨rfl, hb⟩
  · go_enter Try.func12, Try.ntmps12
    go_wp2_with fail
    rw [show -(n + 1) * 2 + 1 = (Lib.zigzag n : Int) by unfold Lib.zigzag; rw [if_neg (by omega)]; omega]
    refine (rUint_any _ (zigzag_lt n h0 h1) w).mono ?_
    rintro e w1 ⟨rfl, hb⟩
    go_wp2
    go_ret
    exact ⟨rfl, hb⟩

set_option maxHeartbeats 400000 in
theorem rText_any (s : ByteArray) (hs : s.size ≤ 9223372036854775000) (w : World) :
    Calls Try.prog 14 #[.string s] w fun e w' => e = .returned (.string ⟨(encText s).toArray⟩) ∧ Below w.heap.size w w' := by
  have hl := Lib.uvarint_length64 (x := s.size) (by omega)
  go_enter Try.func14, Try.ntmps14
  go_wp2_with fail
  refine (rUint_any _ (by omega) w).mono ?_
  rintro e w1 ⟨rfl, hb⟩
  go_wp2
  go_ret
  exact ⟨congrArg (fun z => Ending.returned (.string z)) (encText_eq s), hb⟩

set_option maxHeartbeats 1000000 in
theorem rInts_any (A : Option Addr) (cap : Nat) (zs : List Int) (w : World) (hr : Reads w w.heap.size 1 A zs.length (zs.map (Value.int .i64))) (hz : ∀ z ∈ zs, -9223372036854775808 ≤ z ∧ z ≤ 9223372036854775807) (hlim : 10 * zs.length + 20 ≤ 140737488355328) :
    Calls Try.prog 16 #[.slice A zs.length cap] w fun e w' => e = .returned (.string ⟨(encInts zs).toArray⟩) ∧ Below w.heap.size w w' := by
  have hl := Lib.uvarint_length64 (x := zs.length) (by omega)
  go_enter Try.func16, Try.ntmps16
  go_wp2_with fail
  refine (rUint_any zs.length (by omega) w).mono ?_
  rintro e w1 ⟨rfl, hb⟩
  go_wp2_with fail
  go_loopw [3, 4] (fun vb vi wr => ∃ k : Nat, k ≤ zs.length ∧ vi = .int .i64 k ∧ vb = .string ⟨(Lib.uvarint zs.length ++ (zs.take k).flatMap (fun n => Lib.uvarint (Lib.zigzag n))).toArray⟩ ∧ Below w.heap.size w wr)
    (fun _ vi _ => zs.length - (intOf vi).toNat)
  case atStart => exact ⟨0, Nat.zero_le _, rfl, by simp, hb⟩
  case round =>
    clear hb
    obtain ⟨k, hk, rfl, rfl, hnx⟩ := hrel
    have hfl := flat_len (zs.take k) (fun z hm => hz z (List.mem_of_mem_take hm))
    have htl : (zs.take k).length ≤ k := List.length_take_le _ _
    obtain ⟨pre, hpre⟩ : ∃ pre : List UInt8, pre = Lib.uvarint zs.length ++ (zs.take k).flatMap (fun n => Lib.uvarint (Lib.zigzag n)) := ⟨_, rfl⟩
    have hpl : pre.length ≤ 10 * zs.length + 10 := by rw [hpre, List.length_append]; omega
    rw [← hpre]
    have HP := Lib.hid hpre
    clear hpre
    by_cases hlt : k < zs.length
    · obtain ⟨ad, u, rfl, hbk, hx, hc⟩ := hr.at_ hlt
      have hu : u = .int .i64 zs[k] := by simpa [hlt] using hx.symm
      subst hu
      have hc1 : wr.cell? (ad.add k) = some (.int .i64 zs[k]) := (hnx.cell (by rw [block_of_add]; exact hbk)).trans hc
      have hzk := hz zs[k] (List.getElem_mem hlt)
      have hul := Lib.uvarint_length64 (zigzag_lt _ hzk.1 hzk.2)
      clear hc hx
      go_wp2_with fail
      refine (rInt_any _ hzk.1 hzk.2 _).mono ?_
      rintro e w2 ⟨rfl, hb2⟩
      clear hc1
      go_wp2_with fail
      go_roundw
      case rel =>
        refine ⟨k + 1, hlt, by go_num, ?_, hnx.trans (hb2.mono hnx.size)⟩
        rw [encInts_snoc zs k hlt, ← List.append_assoc, ← HP.out, ← ByteArray.mk_append_mk]
      case measure => simp [intOf]; omega
    · have hkl : k = zs.length := by omega
      subst hkl
      go_wp2_with fail
      go_ret
      refine ⟨?_, hnx⟩
      rw [HP.out, List.take_length]
      rfl

end Go.Proofs.Ytmnlijeflcedcaa.Ref04Enc
