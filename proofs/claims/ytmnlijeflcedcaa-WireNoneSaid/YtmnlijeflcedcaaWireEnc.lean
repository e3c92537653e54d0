/-
  What the encoding functions of package wire return: the varint of any number, the zigzag varint of any int, a text behind its length. No condition but the range of each argument.
-/
import Derived.Test.YtmnlijeflcedcaaWords
import Derived.WalkKit
import Derived.WalkSpells
import Derived.WalkLawsBesides
import Derived.Lib.VarintMem
import Derived.Lib.Slices
import Derived.Lib.Hide
namespace Go.Proofs.Ytmnlijeflcedcaa.WireEnc
open Go.RowKit

theorem info8 : (Try.prog.info? 5).map (fun i => (i.zero, i.size, i.bytes)) = some (some (.int .u8 0), 1, 1) := by kernel_rfl

set_option maxHeartbeats 1000000 in
set_option maxRecDepth 100000 in
theorem appendUint_any (B n x : Nat) (hx : x < 18446744073709551616) (sv : Value) (xs : List Value) (w : World) (hown : w.ownsRow B 5 1 sv n xs) (hBw : B ≤ w.heap.size) (hlim : n + 10 ≤ 140737488355328) :
    Calls Try.prog 32 #[sv, .int .u64 x] w fun e w' => ∃ v', e = .returned v' ∧ w'.ownsRow B 5 1 v' (n + (Lib.uvarint x).length) (xs ++ Lib.byteCells (Lib.uvarint x)) ∧ Below B w w' := by
  obtain ⟨i0, hi, hz0, hz1, hz2⟩ := info_parts info8
  have hlen := Lib.uvarint_length64 hx
  go_enter Try.func32, Try.ntmps32
  go_wp2
  go_loopw [0, 1] (fun vb vx wr => ∃ (y : Nat) (pre : List UInt8), vx = .int .u64 y ∧ y ≤ x ∧ Lib.uvarint x = pre ++ Lib.uvarint y ∧ wr.ownsRow B 5 1 vb (n + pre.length) (xs ++ Lib.byteCells pre) ∧ Below B w wr)
    (fun _ vx _ => (intOf vx).toNat)
  case atStart => exact ⟨x, [], rfl, Nat.le_refl _, rfl, by simpa [Lib.byteCells] using hown, Below.refl _ _⟩
  case round =>
    obtain ⟨y, pre, rfl, hy, hsplit, hown1, hnx⟩ := hrel
    have hpl : pre.length + (Lib.uvarint y).length ≤ 10 := by
      have h2 := congrArg List.length hsplit
      rw [List.length_append] at h2
      omega
    have hyp := Lib.uvarint_pos y
    by_cases h128 : 128 ≤ y
    · have hor : bits .or .u8 ((y : Int) % 256) 128 = ((y % 128 + 128 : Nat) : Int) := by
        rw [Lib.u8_or128_any _ (by omega) (by omega)]
        omega
      go_wp2_with (at_builtin; refine wpList_append_own _ rfl _ _ 56 rfl B 5 i0 (.int .u8 0) 1 1 Try.underlying56 hi hz0 hz1 hz2 rfl (by decide) _ _ _ rfl (hown1.alloc _) ⟨wr.heap.size, 0, none⟩ 1 1 [Value.int .u8 ((y % 128 + 128 : Nat) : Int)] rfl rfl ?c1 ?c2 ?c3 ?c4 ?c5 ?_)
      case c1 =>
        intro j u hj
        match j, hj with
        | 0, hj => simp at hj; subst hj; simp [Addr.add]
      case c2 => intro u hu; simp at hu; subst hu; rfl
      case c3 => unfold maxLen; omega
      case c4 => omega
      case c5 => have := hnx.size; simp; omega
      intro v' w1 hown' hgrow _
      have hnx1 : Below B w w1 := (hnx.alloc (by have := hnx.size; omega) _).grown hgrow (by have := hnx.size; simp; omega) (fun k hk => (hown1.lt k hk).1)
      go_wp2
      go_roundw
      case rel =>
        refine ⟨y / 128, pre ++ [(y % 128 + 128).toUInt8], by go_num, by omega, by rw [hsplit, Lib.uvarint_big h128]; simp, ?_, hnx1⟩
        have ec : ((y % 128 + 128 : Nat) : Int) = (y : Int) % 128 + 128 := by omega
        rw [Lib.byteCells_snoc pre (by omega), List.length_append, List.length_singleton, ← Nat.add_assoc, ec]
        exact hown'
      case measure => simp [intOf]; omega
    · have hsm : Lib.uvarint y = [y.toUInt8] := Lib.uvarint_small (by omega)
      go_wp2_with (at_builtin; refine wpList_append_own _ rfl _ _ 56 rfl B 5 i0 (.int .u8 0) 1 1 Try.underlying56 hi hz0 hz1 hz2 rfl (by decide) _ _ _ rfl (hown1.alloc _) ⟨wr.heap.size, 0, none⟩ 1 1 [Value.int .u8 (y : Int)] rfl rfl ?c1 ?c2 ?c3 ?c4 ?c5 ?_)
      case c1 =>
        intro j u hj
        match j, hj with
        | 0, hj => simp at hj; subst hj; simp [Addr.add]
      case c2 => intro u hu; simp at hu; subst hu; rfl
      case c3 => unfold maxLen; omega
      case c4 => omega
      case c5 => have := hnx.size; simp; omega
      intro v' w1 hown' hgrow _
      have hnx1 : Below B w w1 := (hnx.alloc (by have := hnx.size; omega) _).grown hgrow (by have := hnx.size; simp; omega) (fun k hk => (hown1.lt k hk).1)
      go_wp2
      go_ret
      refine ⟨v', rfl, ?_, hnx1⟩
      rw [hsplit, hsm, Lib.byteCells_snoc pre (by omega), List.length_append, List.length_singleton, ← Nat.add_assoc]
      exact hown'

theorem not_u64 (b : Int) (h0 : 0 ≤ b) (h1 : b < 18446744073709551616) : bits .xor .u64 18446744073709551615 b = 18446744073709551615 - b := by
  rw [u64_xor _ _ (by omega) (by omega) h0 h1]
  obtain ⟨n, rfl⟩ := Int.eq_ofNat_of_zero_le h0
  have hn : n < 2 ^ 64 := by omega
  have h := congrArg BitVec.toNat (BitVec.allOnes_xor (w := 64) (x := BitVec.ofNat 64 n))
  rw [BitVec.toNat_xor, BitVec.toNat_not, BitVec.toNat_allOnes, BitVec.toNat_ofNat, Nat.mod_eq_of_lt hn] at h
  have e : (18446744073709551615 : Int).toNat = 2 ^ 64 - 1 := by decide
  rw [e, Int.toNat_natCast, h]
  omega

theorem fold_neg (n : Int) (h0 : -9223372036854775808 ≤ n) (h1 : n < 0) :
    bits .xor .u64 IntKind.u64.max (IntKind.u64.wrap (IntKind.u64.wrap n * 2)) = (Lib.zigzag n : Int) := by
  have e : IntKind.u64.max = 18446744073709551615 := by decide
  rw [e, IntKind.wrap_u64, IntKind.wrap_u64, not_u64 _ (by omega) (by omega)]
  unfold Lib.zigzag
  rw [if_neg (by omega)]
  omega
theorem fold_pos (n : Int) (h0 : 0 ≤ n) : n * 2 = (Lib.zigzag n : Int) := by
  unfold Lib.zigzag
  rw [if_pos h0]
  omega
theorem zigzag_lt (n : Int) (h0 : -9223372036854775808 ≤ n) (h1 : n ≤ 9223372036854775807) : Lib.zigzag n < 18446744073709551616 := by
  unfold Lib.zigzag
  split <;> omega

set_option maxHeartbeats 400000 in
theorem fold_any (n : Int) (w : World) (h0 : -9223372036854775808 ≤ n) (h1 : n ≤ 9223372036854775807) :
    Calls Try.prog 33 #[.int .i64 n] w fun e w' => e = .returned (.int .u64 (Lib.zigzag n : Int)) ∧ w = w' := by
  by_cases hn : n < 0
  · go_enter Try.func33, Try.ntmps33
    go_wp2
    go_ret
    exact ⟨congrArg (fun z => Ending.returned (.int .u64 z)) (fold_neg n h0 hn), rfl⟩
  · go_enter Try.func33, Try.ntmps33
    go_wp2
    go_ret
    exact ⟨congrArg (fun z => Ending.returned (.int .u64 z)) (fold_pos n (by omega)), rfl⟩

theorem str_of_own {w : World} {B n : Nat} {v : Value} {l : List UInt8} (h : w.ownsRow B 5 1 v n (Lib.byteCells l)) :
    (convert 56 9 v).run Try.prog w = .ok (.string ⟨l.toArray⟩) w := by
  have hl : l.length = n := by have := h.1; rw [Lib.byteCells_length] at this; omega
  rcases h.2 with ⟨rfl, hn⟩ | ⟨g, cap, cur, rfl, _, _⟩
  · have : l = [] := List.length_eq_zero_iff.1 (by omega)
    subst this
    exact run_convert_bytes_nil w 56 5 Try.underlying56 Try.underlying5 0 0 9 Try.underlying9
  · have hc := h.cells (g := g) rfl
    subst hl
    exact run_convert_bytes_back w _ _ 5 ⟨g, 0, none⟩ cap l Try.underlying56 Try.underlying5 Try.underlying9 (fun j hj => hc j _ (by simp [Lib.byteCells, hj]))

set_option maxHeartbeats 400000 in
theorem uint_any (x : Nat) (hx : x < 18446744073709551616) (w : World) :
    Calls Try.prog 9 #[.int .u64 x] w fun e w' => e = .returned (.string ⟨(Lib.uvarint x).toArray⟩) ∧ Below w.heap.size w w' := by
  go_enter Try.func9, Try.ntmps9
  go_wp2_with fail
  refine (appendUint_any w.heap.size 0 x hx _ [] w (World.ownsRow_nil _ _ _ _) (Nat.le_refl _) (by omega)).mono ?_
  rintro e w1 ⟨v, rfl, hown, hb⟩
  rw [List.nil_append] at hown
  have hc := str_of_own hown
  go_wp2
  go_ret
  exact ⟨rfl, hb⟩

set_option maxHeartbeats 400000 in
theorem int_any (n : Int) (h0 : -9223372036854775808 ≤ n) (h1 : n ≤ 9223372036854775807) (w : World) :
    Calls Try.prog 11 #[.int .i64 n] w fun e w' => e = .returned (.string ⟨(Lib.uvarint (Lib.zigzag n)).toArray⟩) ∧ Below w.heap.size w w' := by
  go_enter Try.func11, Try.ntmps11
  go_wp2_with fail
  refine (fold_any n w h0 h1).mono ?_
  rintro e w1 ⟨rfl, rfl⟩
  go_wp2_with fail
  refine (uint_any _ (zigzag_lt n h0 h1) w).mono ?_
  rintro e w1 ⟨rfl, hb⟩
  go_wp2
  go_ret
  exact ⟨rfl, hb⟩

def encText (s : ByteArray) : List UInt8 := Lib.uvarint s.size ++ s.data.toList
theorem encText_eq (s : ByteArray) : (⟨(Lib.uvarint s.size).toArray⟩ ++ s : ByteArray) = ⟨(encText s).toArray⟩ := by
  have h := ByteArray.mk_append_mk (Lib.uvarint s.size) s.data.toList
  rw [Array.toArray_toList] at h
  exact h

set_option maxHeartbeats 400000 in
theorem text_any (s : ByteArray) (hs : s.size ≤ 9223372036854775000) (w : World) :
    Calls Try.prog 13 #[.string s] w fun e w' => e = .returned (.string ⟨(encText s).toArray⟩) ∧ Below w.heap.size w w' := by
  have hl := Lib.uvarint_length64 (x := s.size) (by omega)
  go_enter Try.func13, Try.ntmps13
  go_wp2_with fail
  refine (uint_any _ (by omega) w).mono ?_
  rintro e w1 ⟨rfl, hb⟩
  go_wp2
  go_ret
  exact ⟨congrArg (fun z => Ending.returned (.string z)) (encText_eq s), hb⟩

def encInts (l : List Int) : List UInt8 := Lib.uvarint l.length ++ l.flatMap (fun n => Lib.uvarint (Lib.zigzag n))

theorem encInts_snoc (zs : List Int) (k : Nat) (hk : k < zs.length) :
    (zs.take (k + 1)).flatMap (fun n => Lib.uvarint (Lib.zigzag n)) = (zs.take k).flatMap (fun n => Lib.uvarint (Lib.zigzag n)) ++ Lib.uvarint (Lib.zigzag zs[k]) := by
  rw [List.take_succ_eq_append_getElem hk, List.flatMap_append]
  simp
theorem flat_len (zs : List Int) (hz : ∀ z ∈ zs, -9223372036854775808 ≤ z ∧ z ≤ 9223372036854775807) : (zs.flatMap (fun n => Lib.uvarint (Lib.zigzag n))).length ≤ 10 * zs.length := by
  induction zs with
  | nil => simp
  | cons a l ih =>
    have h1 := Lib.uvarint_length64 (zigzag_lt a (hz a (by simp)).1 (hz a (by simp)).2)
    have h2 := ih (fun z hm => hz z (by simp [hm]))
    simp only [List.flatMap_cons, List.length_append, List.length_cons]
    omega

set_option maxHeartbeats 1000000 in
theorem ints_any (A : Option Addr) (cap : Nat) (zs : List Int) (w : World) (hr : Reads w w.heap.size 1 A zs.length (zs.map (Value.int .i64))) (hz : ∀ z ∈ zs, -9223372036854775808 ≤ z ∧ z ≤ 9223372036854775807) (hlim : 10 * zs.length + 20 ≤ 140737488355328) :
    Calls Try.prog 15 #[.slice A zs.length cap] w fun e w' => e = .returned (.string ⟨(encInts zs).toArray⟩) ∧ Below w.heap.size w w' := by
  have hl := Lib.uvarint_length64 (x := zs.length) (by omega)
  go_enter Try.func15, Try.ntmps15
  go_wp2_with fail
  refine (appendUint_any w.heap.size 0 zs.length (by omega) _ [] w (World.ownsRow_nil _ _ _ _) (Nat.le_refl _) (by omega)).mono ?_
  rintro e w1 ⟨v, rfl, hown, hb⟩
  rw [List.nil_append, Nat.zero_add] at hown
  go_wp2_with fail
  go_loopw [3, 12] (fun vb vi wr => ∃ k : Nat, k ≤ zs.length ∧ vi = .int .i64 k ∧ wr.ownsRow w.heap.size 5 1 vb (Lib.uvarint zs.length ++ (zs.take k).flatMap (fun n => Lib.uvarint (Lib.zigzag n))).length (Lib.byteCells (Lib.uvarint zs.length ++ (zs.take k).flatMap (fun n => Lib.uvarint (Lib.zigzag n)))) ∧ Below w.heap.size w wr)
    (fun _ vi _ => zs.length - (intOf vi).toNat)
  case atStart => exact ⟨0, Nat.zero_le _, rfl, by simpa using hown, hb⟩
  case round =>
    clear hown hb
    obtain ⟨k, hk, rfl, hown1, hnx⟩ := hrel
    by_cases hlt : k < zs.length
    · obtain ⟨ad, u, rfl, hbk, hx, hc⟩ := hr.at_ hlt
      have hu : u = .int .i64 zs[k] := by simpa [hlt] using hx.symm
      subst hu
      have hc1 : wr.cell? (ad.add k) = some (.int .i64 zs[k]) := (hnx.cell (by rw [block_of_add]; exact hbk)).trans hc
      have hzk := hz zs[k] (List.getElem_mem hlt)
      have hfl := flat_len (zs.take k) (fun z hm => hz z (List.mem_of_mem_take hm))
      have htl : (zs.take k).length ≤ k := List.length_take_le _ _
      clear hc hx
      go_wp2_with fail
      refine (fold_any _ _ hzk.1 hzk.2).mono ?_
      rintro e w2 ⟨rfl, rfl⟩
      go_wp2_with fail
      refine (appendUint_any w.heap.size _ _ (zigzag_lt _ hzk.1 hzk.2) _ _ wr hown1 hnx.size (by simp only [List.length_append]; omega)).mono ?_
      rintro e w2 ⟨v2, rfl, hown2, hb2⟩
      clear hc1
      go_wp2_with fail
      go_roundw
      case rel =>
        refine ⟨k + 1, hlt, by go_num, ?_, hnx.trans hb2⟩
        rw [encInts_snoc zs k hlt, ← List.append_assoc, List.length_append (bs := Lib.uvarint (Lib.zigzag zs[k]))]
        simpa [Lib.byteCells] using hown2
      case measure => simp [intOf]; omega
    · have hkl : k = zs.length := by omega
      subst hkl
      rw [List.take_length] at hown1
      have hcv := str_of_own hown1
      go_wp2_with fail
      go_ret
      exact ⟨rfl, hnx⟩

end Go.Proofs.Ytmnlijeflcedcaa.WireEnc
