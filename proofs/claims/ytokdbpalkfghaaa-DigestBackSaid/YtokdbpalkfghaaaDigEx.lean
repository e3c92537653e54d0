/-
  The examples of layer 5's laws, which hold.
-/
import Derived.Test.YtokdbpalkfghaaaRef05Opn
namespace Go.Proofs.Ytokdbpalkfghaaa.Dig
open Go.RowKit Go.Proofs.Ytokdbpalkfghaaa Go.Proofs.Ytokdbpalkfghaaa.DigPure Go.Proofs.Ytokdbpalkfghaaa.WirePure

theorem crc_is (s : ByteArray) (n : Nat) (h : crc s.data.toList = n) (w : World) (hs : s.size ≤ 9223372036854775807) : Calls Try.prog 11 #[.string s] w fun e w' => e = .returned (.int .u32 (n : Int)) ∧ Below w.heap.size w w' := by
  subst h; exact crc_any s w hs
theorem adler_is (s : ByteArray) (n : Nat) (h : adler s.data.toList = n) (w : World) (hs : s.size ≤ 9223372036854775807) : Calls Try.prog 13 #[.string s] w fun e w' => e = .returned (.int .u32 (n : Int)) ∧ w = w' := by
  subst h; exact adler_any s w hs
theorem fnv_is (s : ByteArray) (n : Nat) (h : fnv s.data.toList = n) (w : World) (hs : s.size ≤ 9223372036854775807) : Calls Try.prog 15 #[.string s] w fun e w' => e = .returned (.int .u64 (n : Int)) ∧ w = w' := by
  subst h; exact fnv_any s w hs
theorem open_is (s : ByteArray) (v : Value) (h : openV s.data.toList = v) (w : World) (hs : s.size ≤ 281474976710656) : Calls Try.prog 19 #[.string s] w fun e w' => e = .returned v ∧ Below w.heap.size w w' := by
  subst h; exact open_any s w hs
theorem frame_is (s u : ByteArray) (h : (⟨(frame s.data.toList).toArray⟩ : ByteArray) = u) (w : World) (hs : s.size ≤ 1048576) : Calls Try.prog 17 #[.string s] w fun e w' => e = .returned (.tuple #[.string u, .int .i64 0]) ∧ Below w.heap.size w w' := by
  subst h; exact frame_ok s w hs

theorem ex1 : crc (⟨#[49, 50, 51, 52, 53, 54, 55, 56, 57]⟩ : ByteArray).data.toList = 3421780262 := by decide +kernel
theorem ex2 : crc (⟨#[]⟩ : ByteArray).data.toList = 0 := by decide +kernel
theorem ex3 : crc (⟨#[0]⟩ : ByteArray).data.toList = 3523407757 := by decide +kernel
theorem ex4 : adler (⟨#[87, 105, 107, 105, 112, 101, 100, 105, 97]⟩ : ByteArray).data.toList = 300286872 := by decide +kernel
theorem ex5 : adler (⟨#[]⟩ : ByteArray).data.toList = 1 := by decide +kernel
theorem ex6 : fnv (⟨#[97]⟩ : ByteArray).data.toList = 12638187200555641996 := by decide +kernel
theorem ex7 : frame [] = [0, 141, 239, 2, 210] := by
  unfold frame enc
  rw [show ([] : List UInt8).length = 0 from rfl, Lib.uvarint_small (by decide)]
  decide +kernel
theorem ex8 : openV [0, 141, 239, 2, 210] = .tuple #[.string ⟨#[]⟩, .int .i64 5, .int .i64 0] := openV_of (by decide +kernel)
theorem ex9 : openV [0, 0, 0, 0, 0] = .tuple #[.string ⟨#[]⟩, .int .i64 0, .int .i64 7] := openV_of (by decide +kernel)

set_option maxHeartbeats 1000000 in
theorem awake_any (w : World) : Calls Try.prog 10 #[] w fun e w' => e = .returned (.bool true) ∧ Below w.heap.size w w' := by
  go_enter Try.func10, Try.ntmps10
  go_wp2_with fail
  refine (crc_is ⟨#[49, 50, 51, 52, 53, 54, 55, 56, 57]⟩ 3421780262 ex1 _ (by decide)).mono ?_
  rintro e w1 ⟨rfl, hb1⟩
  go_wp2_with fail
  refine (crc_is ⟨#[]⟩ 0 ex2 _ (by decide)).mono ?_
  rintro e w2 ⟨rfl, hb2⟩
  have hb2 := hb1.trans (hb2.mono hb1.size)
  go_wp2_with fail
  refine (crc_is ⟨#[0]⟩ 3523407757 ex3 _ (by decide)).mono ?_
  rintro e w3 ⟨rfl, hb3⟩
  have hb3 := hb2.trans (hb3.mono hb2.size)
  go_wp2_with fail
  refine (adler_is ⟨#[87, 105, 107, 105, 112, 101, 100, 105, 97]⟩ 300286872 ex4 _ (by decide)).mono ?_
  rintro e w4 ⟨rfl, rfl⟩
  go_wp2_with fail
  refine (adler_is ⟨#[]⟩ 1 ex5 _ (by decide)).mono ?_
  rintro e w4 ⟨rfl, rfl⟩
  go_wp2_with fail
  refine (fnv_is ⟨#[97]⟩ 12638187200555641996 ex6 _ (by decide)).mono ?_
  rintro e w4 ⟨rfl, rfl⟩
  go_wp2_with fail
  refine (frame_is ⟨#[]⟩ ⟨#[0, 141, 239, 2, 210]⟩ (congrArg (fun l : List UInt8 => (⟨l.toArray⟩ : ByteArray)) ex7) _ (by decide)).mono ?_
  rintro e w4 ⟨rfl, hb4⟩
  have hb4 := hb3.trans (hb4.mono hb3.size)
  go_wp2_with fail
  refine (open_is ⟨#[0, 141, 239, 2, 210]⟩ _ ex8 _ (by decide)).mono ?_
  rintro e w5 ⟨rfl, hb5⟩
  have hb5 := hb4.trans (hb5.mono hb4.size)
  go_wp2_with fail
  refine (open_is ⟨#[0, 0, 0, 0, 0]⟩ _ ex9 _ (by decide)).mono ?_
  rintro e w6 ⟨rfl, hb6⟩
  have hb6 := hb5.trans (hb6.mono hb5.size)
  go_wp2_with fail
  go_ret
  exact ⟨rfl, hb6⟩

end Go.Proofs.Ytokdbpalkfghaaa.Dig
