/-
  Package digest: the four bytes of a checksum, frames, and their opening, for any string.
-/
import Derived.Test.YtokdbpalkfghaaaDigSums
import Derived.Test.YtokdbpalkfghaaaDigOpen
import Derived.Test.YtokdbpalkfghaaaWireEx
import Derived.Deep.RegionHeld3
namespace Go.Proofs.Ytokdbpalkfghaaa.Dig
open Go.RowKit Go.Proofs.Ytokdbpalkfghaaa Go.Proofs.Ytokdbpalkfghaaa.DigPure Go.Proofs.Ytokdbpalkfghaaa.WirePure

theorem u8wrap (n m : Nat) (h : n % 256 = m % 256) : ((m % 256).toUInt8.toNat : Int) = ((n : Int) % 256) := by
  rw [toNat_small _ (Nat.mod_lt _ (by omega))]
  omega

theorem conv_four (w : World) (n : Nat) (hn : n < 4294967296) :
    (convert 35 9 (.slice (some ⟨w.heap.size, 0, none⟩) 4 4)).run Try.prog (w.alloc (.cells #[.int .u8 ((n : Int) % 256), .int .u8 ((n : Int) / 256 % 256), .int .u8 ((n : Int) / 65536 % 256), .int .u8 ((n : Int) / 16777216)] 5)) =
      .ok (.string ⟨(le4 n).toArray⟩) (w.alloc (.cells #[.int .u8 ((n : Int) % 256), .int .u8 ((n : Int) / 256 % 256), .int .u8 ((n : Int) / 65536 % 256), .int .u8 ((n : Int) / 16777216)] 5)) := by
  refine run_convert_bytes_back _ _ _ 5 ⟨w.heap.size, 0, none⟩ 4 (le4 n) Try.underlying35 Try.underlying5 Try.underlying9 (fun j hj => ?_)
  have hb := Blk.new w 5 #[.int .u8 ((n : Int) % 256), .int .u8 ((n : Int) / 256 % 256), .int .u8 ((n : Int) / 65536 % 256), .int .u8 ((n : Int) / 16777216)]
  rw [le4_length] at hj
  obtain rfl | rfl | rfl | rfl : j = 0 ∨ j = 1 ∨ j = 2 ∨ j = 3 := by omega
  all_goals
    simp only [Addr.add]
    refine (hb.cell _).trans ?_
    simp only [le4]
    simp
    try omega

set_option maxHeartbeats 1000000 in
theorem sum_any (s : ByteArray) (w : World) (hs : s.size ≤ 9223372036854775807) : Calls Try.prog 23 #[.string s] w fun e w' => e = .returned (.string ⟨(le4 (crc s.data.toList)).toArray⟩) ∧ Below w.heap.size w w' := by
  have hlt := crc_lt s.data.toList
  have hc := crc_any s w hs
  obtain ⟨n, hn⟩ : ∃ n, crc s.data.toList = n := ⟨_, rfl⟩
  rw [hn] at hlt hc ⊢
  clear hn
  go_enter Try.func23, Try.ntmps23
  go_wp2_with fail
  refine hc.mono ?_
  rintro e w1 ⟨rfl, hb⟩
  have hcv := conv_four w1 n hlt
  go_wp2_with fail
  go_ret
  exact ⟨rfl, hb.alloc hb.size _⟩

theorem enc_eq (s : ByteArray) : WireEnc.encText s = enc s.data.toList := by
  unfold WireEnc.encText enc
  rw [Array.length_toList]
  rfl
theorem app_mk (l m : List UInt8) : (⟨l.toArray⟩ ++ ⟨m.toArray⟩ : ByteArray) = ⟨(l ++ m).toArray⟩ := ByteArray.mk_append_mk l m

theorem frame_big (s : ByteArray) (w : World) (hs : s.size ≤ 9223372036854775807) (hb : 1048576 < s.size) : Calls Try.prog 17 #[.string s] w fun e w' => e = .returned (.tuple #[.string ⟨#[]⟩, .int .i64 3]) ∧ w = w' := by
  go_enter Try.func17, Try.ntmps17
  go_wp2_with fail
  go_ret2
  exact ⟨rfl, rfl⟩

theorem ret_two {a b : ByteArray} {x : Int} (h : a = b) : Ending.returned (.tuple #[.string a, .int .i64 x]) = .returned (.tuple #[.string b, .int .i64 x]) := by rw [h]

set_option maxHeartbeats 1000000 in
theorem frame_ok (s : ByteArray) (w : World) (hb : s.size ≤ 1048576) : Calls Try.prog 17 #[.string s] w fun e w' => e = .returned (.tuple #[.string ⟨(frame s.data.toList).toArray⟩, .int .i64 0]) ∧ Below w.heap.size w w' := by
  have hul := Lib.uvarint_length64 (x := s.size) (by omega)
  have hl : (enc s.data.toList).length ≤ 1048586 := by
    unfold enc
    rw [List.length_append, Array.length_toList]
    show (Lib.uvarint s.size).length + s.size ≤ _
    omega
  obtain ⟨u, hu⟩ : ∃ u : ByteArray, u = ⟨(enc s.data.toList).toArray⟩ := ⟨_, rfl⟩
  have hul2 : u.size ≤ 1048586 := by rw [hu]; exact hl
  have ht := WireEnc.text_any s (by omega) w
  rw [enc_eq, ← hu] at ht
  have hsum := fun W => sum_any u W (by omega)
  have e1 : u.data.toList = enc s.data.toList := by rw [hu]
  have HF : Hid ((u ++ ⟨(le4 (crc u.data.toList)).toArray⟩ : ByteArray) = ⟨(frame s.data.toList).toArray⟩) := Lib.hid (by rw [e1, hu, app_mk]; rfl)
  have hz : (⟨(le4 (crc u.data.toList)).toArray⟩ : ByteArray).size = 4 := rfl
  clear e1 hu hl
  go_enter Try.func17, Try.ntmps17
  go_wp2_with fail
  refine ht.mono ?_
  rintro e w1 ⟨rfl, hb1⟩
  go_wp2_with fail
  refine (hsum _).mono ?_
  rintro e w2 ⟨rfl, hb2⟩
  go_wp2_with fail
  go_ret2
  exact ⟨ret_two HF.out, hb1.trans (hb2.mono hb1.size)⟩

end Go.Proofs.Ytokdbpalkfghaaa.Dig
