/-
  math/bits: the length of a number in bits, and its leading zeros.
-/
import Derived.Test.YtcmaoomcdmjimaaNumFx
import Derived.Lib.BitFns
namespace Go.Proofs.Ytcmaoomcdmjimaa.Num
open Go.RowKit Go.Proofs.Ytcmaoomcdmjimaa Go.Proofs.Ytcmaoomcdmjimaa.NumPure

theorem tab_size : Lib.len8tab.size = 256 := by decide +kernel
theorem tab_all : ∀ n : Fin 256, (Lib.len8tab[n.val]'(by rw [tab_size]; exact n.isLt)).toNat = Lib.bitLen n.val := by decide +kernel
theorem tab_of (n : Nat) (hn : n < 256) (h : n < Lib.len8tab.size) : (Lib.len8tab[n]'h).toNat = Lib.bitLen n := tab_all ⟨n, hn⟩

theorem len_end (k x : Int) (c : Nat) (n : Nat) (hn : n < 256) (h : n < Lib.len8tab.size) (k0 : 0 ≤ k) (k1 : k ≤ 64) (hx : n = x.toNat / c) (hb : (Lib.bitLen x.toNat : Int) = k + Lib.bitLen (x.toNat / c)) : wrap64 (k + wrap64 ((Lib.len8tab[n]'h).toNat : Int)) = (Lib.bitLen x.toNat : Int) := by
  have l := Lib.bitLen_le n 8 (by omega) (by omega)
  rw [tab_of n hn h, hb, ← hx, IntWalk.wrap64_in (Lib.bitLen n : Int) (by omega), IntWalk.wrap64_in _ (by omega)]
theorem len_end0 (x : Int) (n : Nat) (hn : n < 256) (h : n < Lib.len8tab.size) (hx : n = x.toNat) : wrap64 (wrap64 ((Lib.len8tab[n]'h).toNat : Int)) = (Lib.bitLen x.toNat : Int) := by
  have l := Lib.bitLen_le n 8 (by omega) (by omega)
  rw [tab_of n hn h, ← hx, IntWalk.wrap64_in (Lib.bitLen n : Int) (by omega), IntWalk.wrap64_in _ (by omega)]

set_option maxHeartbeats 4000000 in
set_option maxRecDepth 100000 in
theorem len64_any (x : Int) (w : World) (h0 : 0 ≤ x) (h1 : x ≤ 18446744073709551615) :
    Calls Try.prog 42 #[.int .u64 x] w fun e w' => e = .returned (.int .i64 (Lib.bitLen x.toNat)) ∧ w = w' := by
  have hsz : Lib.len8tab.size = 256 := tab_size
  go_enter Try.func42, Try.ntmps42
  go_wp2
  · go_ret
    have hb := Lib.bitLen_shift56 x.toNat (by omega) (by omega)
    exact ⟨ret_int (len_end 56 x 72057594037927936 _ (by omega) _ (by omega) (by omega) (by omega) (by omega)), rfl⟩
  · go_ret
    have hb := Lib.bitLen_shift48 x.toNat (by omega) (by omega)
    exact ⟨ret_int (len_end 48 x 281474976710656 _ (by omega) _ (by omega) (by omega) (by omega) (by omega)), rfl⟩
  · go_ret
    have hb := Lib.bitLen_shift40 x.toNat (by omega) (by omega)
    exact ⟨ret_int (len_end 40 x 1099511627776 _ (by omega) _ (by omega) (by omega) (by omega) (by omega)), rfl⟩
  · go_ret
    have hb := Lib.bitLen_shift32 x.toNat (by omega) (by omega)
    exact ⟨ret_int (len_end 32 x 4294967296 _ (by omega) _ (by omega) (by omega) (by omega) (by omega)), rfl⟩
  · go_ret
    have hb := Lib.bitLen_shift24 x.toNat (by omega) (by omega)
    exact ⟨ret_int (len_end 24 x 16777216 _ (by omega) _ (by omega) (by omega) (by omega) (by omega)), rfl⟩
  · go_ret
    have hb := Lib.bitLen_shift16 x.toNat (by omega) (by omega)
    exact ⟨ret_int (len_end 16 x 65536 _ (by omega) _ (by omega) (by omega) (by omega) (by omega)), rfl⟩
  · go_ret
    have hb := Lib.bitLen_shift8 x.toNat (by omega) (by omega)
    exact ⟨ret_int (len_end 8 x 256 _ (by omega) _ (by omega) (by omega) (by omega) (by omega)), rfl⟩
  · go_ret
    exact ⟨ret_int (len_end0 x _ (by omega) _ rfl), rfl⟩

theorem zeros_any (x : Nat) (s : Int) (hs : s = 64 - (Lib.bitLen x : Int)) (h1 : x < 18446744073709551616) (w : World) :
    Calls Try.prog 41 #[.int .u64 (x : Int)] w fun e w' => e = .returned (.int .i64 s) ∧ w = w' := by
  have l := Lib.bitLen_le x 64 (by omega) (by omega)
  obtain ⟨n, hn⟩ : ∃ n, Lib.bitLen x = n := ⟨_, rfl⟩
  rw [hn] at l hs
  have HN := Lib.hid hn
  have HS := Lib.hid hs
  clear hn hs
  go_enter Try.func41, Try.ntmps41
  go_wp2_with fail
  refine (len64_any (x : Int) _ (by omega) (by omega)).mono ?_
  rintro e w' ⟨rfl, rfl⟩
  rw [Int.toNat_natCast, HN.out]
  go_wp2
  go_ret
  exact ⟨ret_int HS.out.symm, rfl⟩

end Go.Proofs.Ytcmaoomcdmjimaa.Num
