/-
  The reference of layer 5: the four bytes of a number, the length in groups of seven bits, frames, and their opening, for any string.
-/
import Derived.Test.YtokdbpalkfghaaaDigOpn
namespace Go.Proofs.Ytokdbpalkfghaaa.Ref05
open Go.RowKit Go.Proofs.Ytokdbpalkfghaaa Go.Proofs.Ytokdbpalkfghaaa.DigPure Go.Proofs.Ytokdbpalkfghaaa.WirePure Go.Proofs.Ytokdbpalkfghaaa.Dig

def digs (n : Nat) : Nat → List UInt8
  | 0 => []
  | k + 1 => digs n k ++ [(n / 256 ^ k % 256).toUInt8]
theorem digs_length (n k : Nat) : (digs n k).length = k := by
  induction k with
  | zero => rfl
  | succ k ih => simp [digs, ih]
theorem digs_four (n : Nat) : digs n 4 = le4 n := by simp [digs, le4]

set_option maxHeartbeats 1000000 in
set_option maxRecDepth 100000 in
theorem four_any (n : Nat) (hn : n < 4294967296) (w : World) : Calls Try.prog 25 #[.int .u32 n] w fun e w' => e = .returned (.string ⟨(le4 n).toArray⟩) ∧ Below w.heap.size w w' := by
  obtain ⟨i0, hi, hz0, hz1, hz2⟩ := info_parts WireEnc.info8
  go_enter Try.func25, Try.ntmps25
  go_wp2_with fail
  go_loopw [0, 3, 4] (fun v0 v3 v4 wr => ∃ k m : Nat, k ≤ 4 ∧ v4 = .int .i64 k ∧ m = n / 256 ^ k ∧ v0 = .int .u32 m ∧ wr.ownsRow w.heap.size 5 1 v3 (digs n k).length (Lib.byteCells (digs n k)) ∧ Below w.heap.size w wr)
    (fun _ _ v4 _ => 4 - (intOf v4).toNat)
  case atStart => exact ⟨0, n, by omega, rfl, by simp, rfl, World.ownsRow_nil _ _ _ _, Below.refl _ _⟩
  case round =>
    obtain ⟨k, m, hk, rfl, hm, rfl, hown1, hnx⟩ := hrel
    have HM := Lib.hid hm
    have hml : m ≤ n := by rw [hm]; exact Nat.div_le_self _ _
    have HL := Lib.hid (digs_length n k)
    have hdl : (digs n k).length ≤ 4 := by rw [digs_length]; exact hk
    clear hm
    by_cases h4 : k < 4
    · go_wp2_with (at_builtin; refine wpList_append_own _ rfl _ _ 35 rfl w.heap.size 5 i0 (.int .u8 0) 1 1 Try.underlying35 hi hz0 hz1 hz2 rfl (by decide) _ _ _ rfl (hown1.alloc _) ⟨wr.heap.size, 0, none⟩ 1 1 [Value.int .u8 ((m : Int) % 256)] rfl rfl ?c1 ?c2 ?c3 ?c4 ?c5 ?_)
      case c1 =>
        intro j u hj
        match j, hj with
        | 0, hj => simp at hj; subst hj; simp [Addr.add]
      case c2 => intro u hu; simp at hu; subst hu; rfl
      case c3 => unfold maxLen; omega
      case c4 => omega
      case c5 => have := hnx.size; simp; omega
      intro v' w1 hown' hgrow _
      have hnx1 : Below w.heap.size w w1 := (hnx.alloc (by have := hnx.size; omega) _).grown hgrow (by have := hnx.size; simp; omega) (fun k hk => (hown1.lt k hk).1)
      go_wp2_with fail
      go_roundw
      case rel =>
        refine ⟨k + 1, m / 256, by omega, by go_num, ?_, by go_num, ?_, hnx1⟩
        · rw [HM.out, Nat.pow_succ, Nat.div_div_eq_div_mul]
        · have e1 : digs n (k + 1) = digs n k ++ [(m % 256).toUInt8] := by rw [HM.out]; rfl
          rw [e1, Lib.byteCells_snoc _ (by omega), List.length_append, List.length_singleton]
          have ec : ((m % 256 : Nat) : Int) = (m : Int) % 256 := by omega
          rw [ec]
          exact hown'
      case measure => simp [intOf]; omega
    · obtain rfl : k = 4 := by omega
      have hcv := WireEnc.str_of_own hown1
      have HF := Lib.hid (digs_four n)
      go_wp2_with fail
      go_ret
      exact ⟨by rw [← HF.out]; rfl, hnx⟩

set_option maxHeartbeats 1000000 in
set_option maxRecDepth 100000 in
theorem length_any (x : Nat) (hx : x < 9223372036854775808) (w : World) : Calls Try.prog 24 #[.int .i64 x] w fun e w' => e = .returned (.string ⟨(Lib.uvarint x).toArray⟩) ∧ Below w.heap.size w w' := by
  obtain ⟨i0, hi, hz0, hz1, hz2⟩ := info_parts WireEnc.info8
  have hlen := Lib.uvarint_length64 (x := x) (by omega)
  go_enter Try.func24, Try.ntmps24
  go_wp2_with fail
  go_loopw [0, 3] (fun vx vb wr => ∃ (y : Nat) (pre : List UInt8), vx = .int .i64 y ∧ y ≤ x ∧ Lib.uvarint x = pre ++ Lib.uvarint y ∧ wr.ownsRow w.heap.size 5 1 vb pre.length (Lib.byteCells pre) ∧ Below w.heap.size w wr)
    (fun vx _ _ => (intOf vx).toNat)
  case atStart => exact ⟨x, [], rfl, Nat.le_refl _, rfl, World.ownsRow_nil _ _ _ _, Below.refl _ _⟩
  case round =>
    obtain ⟨y, pre, rfl, hy, hsplit, hown1, hnx⟩ := hrel
    have hpl : pre.length + (Lib.uvarint y).length ≤ 10 := by
      have h2 := congrArg List.length hsplit
      rw [List.length_append] at h2
      omega
    have hyp := Lib.uvarint_pos y
    have HS := Lib.hid hsplit
    clear hsplit
    by_cases h128 : 128 ≤ y
    · go_wp2_with (at_builtin; refine wpList_append_own _ rfl _ _ 35 rfl w.heap.size 5 i0 (.int .u8 0) 1 1 Try.underlying35 hi hz0 hz1 hz2 rfl (by decide) _ _ _ rfl (hown1.alloc _) ⟨wr.heap.size, 0, none⟩ 1 1 [Value.int .u8 ((y : Int) % 128 + 128)] rfl rfl ?c1 ?c2 ?c3 ?c4 ?c5 ?_)
      case c1 =>
        intro j u hj
        match j, hj with
        | 0, hj => simp at hj; subst hj; simp [Addr.add]
      case c2 => intro u hu; simp at hu; subst hu; rfl
      case c3 => unfold maxLen; omega
      case c4 => omega
      case c5 => have := hnx.size; simp; omega
      intro v' w1 hown' hgrow _
      have hnx1 : Below w.heap.size w w1 := (hnx.alloc (by have := hnx.size; omega) _).grown hgrow (by have := hnx.size; simp; omega) (fun k hk => (hown1.lt k hk).1)
      go_wp2_with fail
      go_roundw
      case rel =>
        refine ⟨y / 128, pre ++ [(y % 128 + 128).toUInt8], by go_num, by omega, by rw [HS.out, Lib.uvarint_big h128]; simp, ?_, hnx1⟩
        have ec : ((y % 128 + 128 : Nat) : Int) = (y : Int) % 128 + 128 := by omega
        rw [Lib.byteCells_snoc pre (by omega), List.length_append, List.length_singleton, ec]
        exact hown'
      case measure => simp [intOf]; omega
    · have HU : Hid (Lib.uvarint y = [y.toUInt8]) := Lib.hid (Lib.uvarint_small (by omega))
      go_wp2_with (at_builtin; refine wpList_append_own _ rfl _ _ 35 rfl w.heap.size 5 i0 (.int .u8 0) 1 1 Try.underlying35 hi hz0 hz1 hz2 rfl (by decide) _ _ _ rfl (hown1.alloc _) ⟨wr.heap.size, 0, none⟩ 1 1 [Value.int .u8 (y : Int)] rfl rfl ?c1 ?c2 ?c3 ?c4 ?c5 ?_)
      case c1 =>
        intro j u hj
        match j, hj with
        | 0, hj => simp at hj; subst hj; simp [Addr.add]
      case c2 => intro u hu; simp at hu; subst hu; rfl
      case c3 => unfold maxLen; omega
      case c4 => omega
      case c5 => have := hnx.size; simp; omega
      intro v' w1 hown' hgrow _
      have hnx1 : Below w.heap.size w w1 := (hnx.alloc (by have := hnx.size; omega) _).grown hgrow (by have := hnx.size; simp; omega) (fun k hk => (hown1.lt k hk).1)
      have e1 : w1.ownsRow w.heap.size 5 1 v' (pre ++ [y.toUInt8]).length (Lib.byteCells (pre ++ [y.toUInt8])) := by
        rw [Lib.byteCells_snoc pre (by omega), List.length_append, List.length_singleton]
        exact hown'
      have hcv := WireEnc.str_of_own e1
      go_wp2_with fail
      go_ret
      exact ⟨by rw [HS.out, HU.out]; rfl, hnx1⟩

theorem orc (i acc c : Nat) (hi : i ≤ 9) (ha : acc < 2 ^ (7 * i)) (h9 : i = 9 → c % 128 ≤ 1) :
    bits .or .u64 (acc : Int) (IntKind.u64.wrap ((c : Int) % 128 * 2 ^ (7 * i))) = ((acc + c % 128 * 2 ^ (7 * i) : Nat) : Int) := by
  have hg := grp_lt i (c % 128) hi h9 (by omega)
  have e3 : ((c : Int) % 128 * 2 ^ (7 * i)) = ((c % 128 * 2 ^ (7 * i) : Nat) : Int) := by
    rw [Int.natCast_mul, Int.natCast_pow]
    rfl
  rw [e3]
  have e4 : IntKind.u64.wrap ((c % 128 * 2 ^ (7 * i) : Nat) : Int) = ((c % 128 * 2 ^ (7 * i) : Nat) : Int) := by
    rw [IntKind.wrap_u64]
    generalize c % 128 * 2 ^ (7 * i) = z at *
    omega
  have ha2 : acc < 18446744073709551616 := by
    have h4 : 2 ^ (7 * i) ≤ 2 ^ (7 * 9) := Nat.pow_le_pow_right (by omega) (by omega)
    omega
  rw [e4, u64_or_nat _ _ ha2 hg, Nat.or_comm, nat_join (7 * i) _ _ (by simp) ha, Nat.add_comm]

/-- What 'read' answers: the number and how many bytes it takes, or an error. -/
def RdP (l : List UInt8) (e : Ending) : Prop :=
  ∃ (x : Int) (n k : Nat), e = .returned (.tuple #[.int .u64 n, .int .i64 k, .int .i64 x]) ∧ ((x = 0 ∧ uv 0 0 l = (0, n, l.drop k) ∧ k ≤ l.length ∧ k ≤ 10) ∨ ((x == 0) = false ∧ (x != 0) = true ∧ n = 0 ∧ k = 0 ∧ (uv 0 0 l).1 = x))

theorem rd_bad {l : List UInt8} {x : Int} (hx : x ≠ 0) (h : (uv 0 0 l).1 = x) : RdP l (.returned (.tuple #[.int .u64 0, .int .i64 0, .int .i64 x])) :=
  ⟨x, 0, 0, rfl, .inr ⟨by simpa using hx, by simpa using hx, rfl, rfl, h⟩⟩
theorem rd_ok {l : List UInt8} {v : Int} {n i : Nat} (hv : v = n) (h : uv 0 0 l = (0, n, l.drop (i + 1))) (hk : i + 1 ≤ l.length) (hi : i ≤ 9) : RdP l (.returned (.tuple #[.int .u64 v, .int .i64 ((i : Int) + 1), .int .i64 0])) := by
  subst hv
  exact ⟨0, n, i + 1, rfl, .inl ⟨rfl, h, hk, by omega⟩⟩

set_option maxHeartbeats 2000000 in
set_option maxRecDepth 100000 in
theorem read_any (s : ByteArray) (w : World) (hs : s.size ≤ 140737488355328) : Calls Try.prog 30 #[.string s] w fun e w' => RdP s.data.toList e ∧ w = w' := by
  go_enter Try.func30, Try.ntmps30
  go_wp2_with fail
  go_loop [5, 6] (fun vn vi => ∃ i acc : Nat, vi = .int .i64 i ∧ vn = .int .u64 acc ∧ i ≤ 9 ∧ acc < 2 ^ (7 * i) ∧ i ≤ s.size ∧ uv 0 0 s.data.toList = uv i acc (s.data.toList.drop i))
    (fun _ vi => 10 - (intOf vi).toNat)
  case atStart => exact ⟨0, 0, rfl, rfl, by omega, by simp, by omega, rfl⟩
  case round =>
    obtain ⟨i, acc, rfl, rfl, hi, hacc, hq, huv⟩ := hrel
    have HU := Lib.hid huv
    clear huv
    have HA := Lib.hid hacc
    clear hacc
    have HN : Hid (s.data.toList.length = s.size) := Lib.hid (by simp)
    rcases Nat.lt_or_ge i s.size with hlt | hge
    · have hdr : s.data.toList.drop i = s[i] :: s.data.toList.drop (i + 1) := List.drop_eq_getElem_cons (by simpa using hlt)
      have HD := Lib.hid hdr
      clear hdr
      have hc256 : s[i].toNat < 256 := s[i].toNat_lt
      by_cases hform : (i = 9 ∧ 1 < s[i].toNat) ∨ (0 < i ∧ s[i].toNat = 0)
      · have HE : Hid ((uv 0 0 s.data.toList).1 = 4) := by
          rw [HU.out, HD.out, uv_form _ _ _ _ hform]
          exact rfl
        rcases hform with ⟨h9, h1⟩ | ⟨h9, h1⟩
        · have t1 : ((i : Int) == 9) = true := by simp; omega
          clear h9
          go_wp2_with fail
          go_ret3
          exact ⟨rd_bad (by decide) HE.out, rfl⟩
        · have t0 : ((s[i].toNat : Int) == 0) = true := by simp; omega
          have hle : s[i].toNat ≤ 1 := by omega
          clear h1
          by_cases h9' : i = 9
          · have t1 : ((i : Int) == 9) = true := by simp; omega
            clear h9'
            go_wp2_with fail
            go_ret3
            exact ⟨rd_bad (by decide) HE.out, rfl⟩
          · have t1 : ((i : Int) == 9) = false := by simp; omega
            go_wp2_with fail
            go_ret3
            exact ⟨rd_bad (by decide) HE.out, rfl⟩
      · have HF := Lib.hid hform
        clear hform
        by_cases h128 : s[i].toNat < 128
        · have HE : Hid (uv 0 0 s.data.toList = (0, acc + s[i].toNat * 2 ^ (7 * i), s.data.toList.drop (i + 1))) := by
            rw [HU.out, HD.out, uv_last _ _ _ _ HF.out h128]
            exact rfl
          have hF := HF.out
          have HL : i = 9 → s[i].toNat % 128 ≤ 1 := by omega
          have HO : Hid (bits .or .u64 (acc : Int) (IntKind.u64.wrap ((s[i].toNat : Int) % 128 * 2 ^ (7 * i))) = ((acc + s[i].toNat * 2 ^ (7 * i) : Nat) : Int)) := Lib.hid (by
            have := orc i acc s[i].toNat hi HA.out HL
            rw [Nat.mod_eq_of_lt h128] at this
            exact this)
          have hm : (s[i].toNat : Int) % 128 = (s[i].toNat : Int) := by omega
          by_cases h9 : i = 9
          · have t1 : ((i : Int) == 9) = true := by simp; omega
            have t0 : ((s[i].toNat : Int) == 0) = false := by simp; omega
            have hle : s[i].toNat ≤ 1 := by omega
            have hi0 : 0 < i := by omega
            clear h9 hF HL hm
            go_wp2_with fail
            go_ret3
            exact ⟨rd_ok HO.out HE.out (by rw [HN.out]; omega) hi, rfl⟩
          · have t1 : ((i : Int) == 9) = false := by simp; omega
            by_cases hi0 : 0 < i
            · have t0 : ((s[i].toNat : Int) == 0) = false := by simp; omega
              clear h9 hF HL hm
              go_wp2_with fail
              go_ret3
              exact ⟨rd_ok HO.out HE.out (by rw [HN.out]; omega) hi, rfl⟩
            · obtain ⟨b, t0⟩ : ∃ b : Bool, ((s[i].toNat : Int) == 0) = b := ⟨_, rfl⟩
              clear h9 hF HL hm
              cases b
              all_goals
                go_wp2_with fail
                go_ret3
                exact ⟨rd_ok HO.out HE.out (by rw [HN.out]; omega) hi, rfl⟩
        · have HE : Hid (uv 0 0 s.data.toList = uv (i + 1) (acc + s[i].toNat % 128 * 2 ^ (7 * i)) (s.data.toList.drop (i + 1))) := by
            rw [HU.out, HD.out, uv_more _ _ _ _ HF.out (by omega)]
            exact rfl
          have hF := HF.out
          have h9 : i < 9 := by omega
          have HL : Hid (i = 9 → s[i].toNat % 128 ≤ 1) := Lib.hid (by omega)
          have t1 : ((i : Int) == 9) = false := by simp; omega
          clear hF HF
          go_wp2_with fail
          go_round
          case rel => exact ⟨i + 1, _, by go_num, congrArg (Value.int .u64) (orc i acc _ hi HA.out HL.out), by omega, orb_lt _ _ _ HA.out, by omega, HE.out⟩
          case measure => simp [intOf]; omega
    · have HE : Hid ((uv 0 0 s.data.toList).1 = 5) := Lib.hid (by rw [HU.out, List.drop_eq_nil_of_le (by simpa using hge)]; rfl)
      go_wp2_with fail
      go_ret3
      exact ⟨rd_bad (by decide) HE.out, rfl⟩

theorem frame_big (s : ByteArray) (w : World) (hs : s.size ≤ 9223372036854775807) (hb : 1048576 < s.size) : Calls Try.prog 18 #[.string s] w fun e w' => e = .returned (.tuple #[.string ⟨#[]⟩, .int .i64 3]) ∧ w = w' := by
  go_enter Try.func18, Try.ntmps18
  go_wp2_with fail
  go_ret2
  exact ⟨rfl, rfl⟩

set_option maxHeartbeats 1000000 in
theorem frame_ok (s : ByteArray) (w : World) (hb : s.size ≤ 1048576) : Calls Try.prog 18 #[.string s] w fun e w' => e = .returned (.tuple #[.string ⟨(frame s.data.toList).toArray⟩, .int .i64 0]) ∧ Below w.heap.size w w' := by
  have hul := Lib.uvarint_length64 (x := s.size) (by omega)
  obtain ⟨v, hv⟩ : ∃ v : ByteArray, v = ⟨(Lib.uvarint s.size).toArray⟩ := ⟨_, rfl⟩
  have hvs : v.size ≤ 10 := by rw [hv]; exact hul
  have hlen := length_any s.size (by omega) w
  rw [← hv] at hlen
  obtain ⟨u, hu⟩ : ∃ u : ByteArray, u = v ++ s := ⟨_, rfl⟩
  have hus : u.size ≤ 1048586 := by rw [hu, ByteArray.size_append]; omega
  have eu : u = ⟨(enc s.data.toList).toArray⟩ := by rw [hu, hv, WireEnc.encText_eq, enc_eq]
  have hcrc := fun W => rCrc_any u W (by omega)
  have hf := fun W => four_any (crc u.data.toList) (crc_lt _) W
  have HF : Hid ((u ++ ⟨(le4 (crc u.data.toList)).toArray⟩ : ByteArray) = ⟨(frame s.data.toList).toArray⟩) := Lib.hid (by rw [eu, app_mk]; rfl)
  have hz : (⟨(le4 (crc u.data.toList)).toArray⟩ : ByteArray).size = 4 := rfl
  have hu2 : v ++ s = u := hu.symm
  clear eu hu hv hul
  go_enter Try.func18, Try.ntmps18
  go_wp2_with fail
  refine hlen.mono ?_
  rintro e w1 ⟨rfl, hb1⟩
  go_wp2_with fail
  refine (hcrc _).mono ?_
  rintro e w2 ⟨rfl, rfl⟩
  go_wp2_with fail
  refine (hf _).mono ?_
  rintro e w2 ⟨rfl, hb2⟩
  go_wp2_with fail
  go_ret2
  exact ⟨ret_two HF.out, hb1.trans (hb2.mono hb1.size)⟩

end Go.Proofs.Ytokdbpalkfghaaa.Ref05
