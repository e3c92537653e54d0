/-
  DigestLinear: the CRCs of two strings of equal length, of their bytewise exclusive-or, and of as many zero bytes cancel.
-/
import Derived.Test.YtokdbpalkfghaaaDigEx
import Derived.Test.YtokdbpalkfghaaaFrame
import Derived.SizedLaws
import Derived.ChangeMaps5
namespace Go.Proofs.Ytokdbpalkfghaaa.DigestLinear
open Go.RowKit Go.Proofs.Ytokdbpalkfghaaa Go.Proofs.Ytokdbpalkfghaaa.DigPure Go.Proofs.Ytokdbpalkfghaaa.WirePure Go.Proofs.Ytokdbpalkfghaaa.Dig

/-- n bytes of which the first k are f's, the others zero. -/
def part (f : Nat → Nat) (n k : Nat) : Array Value := ((List.range n).map fun j => Value.int .u8 (if j < k then (f j : Int) else 0)).toArray
theorem part_size (f : Nat → Nat) (n k : Nat) : (part f n k).size = n := by simp [part]
theorem part_at (f : Nat → Nat) (n k j : Nat) (hj : j < n) : (part f n k)[j]? = some (.int .u8 (if j < k then (f j : Int) else 0)) := by simp [part, hj]
theorem part_succ (f : Nat → Nat) (n k : Nat) (hk : k < n) : (part f n k).setIfInBounds k (.int .u8 (f k : Int)) = part f n (k + 1) := by
  apply Array.ext_getElem?
  intro j
  rw [Array.getElem?_setIfInBounds, part_size]
  by_cases h : k = j
  · subst h
    rw [if_pos rfl, if_pos hk, part_at _ _ _ _ hk, if_pos (by omega)]
  · rw [if_neg h]
    by_cases hj : j < n
    · rw [part_at _ _ _ _ hj, part_at _ _ _ _ hj]
      by_cases h2 : j < k
      · rw [if_pos h2, if_pos (by omega)]
      · rw [if_neg h2, if_neg (by omega)]
    · rw [Array.getElem?_eq_none (by rw [part_size]; omega), Array.getElem?_eq_none (by rw [part_size]; omega)]
theorem made_part (f : Nat → Nat) (n : Nat) : madeCells #[.int .u8 0] n = part f n 0 := by
  apply Array.ext_getElem?
  intro j
  by_cases hj : j < n
  · rw [part_at _ _ _ _ hj, if_neg (by omega)]
    simp [madeCells, hj, Nat.mod_one]
  · rw [Array.getElem?_eq_none (by rw [size_madeCells]; omega), Array.getElem?_eq_none (by rw [part_size]; omega)]

theorem make_part (f : Nat → Nat) (n : Nat) (hn : n ≤ 140737488351232) (w : World) :
    (Instr.makeSlice 35 (.int .i64 (n : Int)) (.int .i64 (n : Int))).run Try.prog w = .ok (.slice (some ⟨w.heap.size, 0, none⟩) n n) (w.alloc (.cells (part f n 0) 5)) := by
  obtain ⟨i0, hi, hz0, hz1, hz2⟩ := info_parts WireEnc.info8
  have h := run_make (P := Try.prog) w 35 5 i0 (.int .u8 0) Try.underlying35 hi hz0 .i64 .i64 (n : Int) (n : Int) (by omega) (by omega) (by rw [hz2]; omega) (by omega)
  rw [h, hz1, Int.toNat_natCast, Nat.mul_one]
  rw [show (Value.int IntKind.u8 0).cells = #[.int .u8 0] from rfl, made_part f n]

theorem conv_part (l : List UInt8) (n g : Nat) (hl : l.length = n) (W : World) (f : Nat → Nat) (k : Nat) (hf : ∀ j (h : j < n), (if j < k then (f j : Int) else 0) = ((l[j]'(by omega)).toNat : Int)) (hg : Blk W g 5 (part f n k)) :
    (convert 35 9 (.slice (some ⟨g, 0, none⟩) n n)).run Try.prog W = .ok (.string ⟨l.toArray⟩) W := by
  subst hl
  refine run_convert_bytes_back (P := Try.prog) W 35 9 5 ⟨g, 0, none⟩ l.length l Try.underlying35 Try.underlying5 Try.underlying9 (fun j hj => ?_)
  have ea : (Addr.mk g 0 none).add j = ⟨g, j, none⟩ := by
    unfold Addr.add
    split
    · subst_vars; rfl
    · simp
  rw [ea, hg.cell j, part_at _ _ _ _ hj, hf j hj]

/-- What the last statement reads: both blocks, what they are as strings; what was there stands. -/
def Sx (w : World) (B gx gz n : Nat) (f : Nat → Nat) (X Z : ByteArray) (w' : World) : Prop :=
  (convert 35 9 (.slice (some ⟨gx, 0, none⟩) n n)).run Try.prog w' = .ok (.string X) w' ∧ (convert 35 9 (.slice (some ⟨gz, 0, none⟩) n n)).run Try.prog w' = .ok (.string Z) w' ∧ Blk w' gx 5 (part f n n) ∧ Blk w' gz 5 (part f n 0) ∧ Below B w w'
theorem finS {w : World} {B gx gz n : Nat} {f : Nat → Nat} {X Z : ByteArray} {W : World} (h : Sx w B gx gz n f X Z W) : Below B w W := h.2.2.2.2
theorem keepS {w : World} {B : Nat} {s t : ByteArray} {gx gz n : Nat} {f : Nat → Nat} {X Z : ByteArray} {W W' : World} (hX : X = ⟨s.data.toList.toArray⟩) (hs : s.data.toList.length = n) (hfs : ∀ j (h : j < n), (f j : Int) = ((s.data.toList[j]'(by omega)).toNat : Int)) (hZ : Z = ⟨t.data.toList.toArray⟩) (ht : t.data.toList.length = n) (hft : ∀ j (h : j < n), ((t.data.toList[j]'(by omega)).toNat : Int) = 0)
    (hx : Blk W gx 5 (part f n n)) (hz : Blk W gz 5 (part f n 0)) (hb : Below B w W) (hB : B ≤ W.heap.size) (hq : Below W.heap.size W W') : Sx w B gx gz n f X Z W' := by
  have hx' := hx.below hq hx.lt
  have hz' := hz.below hq hz.lt
  refine ⟨?_, ?_, hx', hz', hb.trans (hq.mono hB)⟩
  · rw [hX]
    exact conv_part _ n gx hs W' f n (fun j h => by rw [if_pos h]; exact hfs j h) hx'
  · rw [hZ]
    exact conv_part _ n gz ht W' f 0 (fun j h => by rw [if_neg (by omega)]; exact (hft j h).symm) hz'

set_option maxHeartbeats 4000000 in
set_option maxRecDepth 100000 in
theorem walk (s t : ByteArray) (w : World) (hs : s.size ≤ 140737488351232) : Calls Try.prog 8 #[.string s, .string t] w fun e w' => e = .returned (.bool true) ∧ Below w.heap.size w w' := by
  obtain ⟨n, hn⟩ : ∃ n, min s.size t.size = n := ⟨_, rfl⟩
  have hn1 : n ≤ s.size := by omega
  have hn2 : n ≤ t.size := by omega
  have hnn : (s.size ≤ t.size ∧ s.size = n) ∨ (t.size < s.size ∧ t.size = n) := by omega
  clear hn
  have hls : s.data.toList.length = s.size := by simp
  have hlt : t.data.toList.length = t.size := by simp
  obtain ⟨xl, hxl⟩ : ∃ xl, List.zipWith (· ^^^ ·) (s.data.toList.take n) (t.data.toList.take n) = xl := ⟨_, rfl⟩
  have hxn : xl.length = n := by rw [← hxl, List.length_zipWith, List.length_take, List.length_take]; omega
  obtain ⟨f, hf⟩ : ∃ f : Nat → Nat, f = fun j => (xl.getD j 0).toNat := ⟨_, rfl⟩
  obtain ⟨X, hX⟩ : ∃ X : ByteArray, X = ⟨xl.toArray⟩ := ⟨_, rfl⟩
  obtain ⟨Z, hZ⟩ : ∃ Z : ByteArray, Z = ⟨(List.replicate n 0).toArray⟩ := ⟨_, rfl⟩
  have hfj : ∀ j (h : j < n), f j = (xl[j]'(by omega)).toNat := by
    intro j h
    rw [hf]
    simp only
    rw [List.getD_eq_getElem?_getD, List.getElem?_eq_getElem (by omega)]
    rfl
  have hfk : ∀ k (h1 : k < s.size) (h2 : k < t.size), k < n → bits .xor .u8 (s[k].toNat : Int) (t[k].toNat : Int) = (f k : Int) := by
    intro k h1 h2 h
    rw [u8_xor_nat _ _ s[k].toNat_lt t[k].toNat_lt, hfj k h]
    congr 1
    have e : xl[k]'(by omega) = s[k] ^^^ t[k] := by
      have : xl[k]? = some (s[k] ^^^ t[k]) := by
        rw [← hxl, List.getElem?_zipWith, List.getElem?_take_of_lt h, List.getElem?_take_of_lt h, List.getElem?_eq_getElem (by omega), List.getElem?_eq_getElem (by omega)]
        rfl
      rw [List.getElem?_eq_getElem (by omega)] at this
      injection this
    rw [e, UInt8.toNat_xor]
  have hlin := crc_linear (s.data.toList.take n) (t.data.toList.take n) (by rw [List.length_take, List.length_take]; omega)
  rw [hxl, show (s.data.toList.take n).length = n by rw [List.length_take]; omega] at hlin
  have q1 := crc_lt (s.data.toList.take n)
  have q2 := crc_lt (t.data.toList.take n)
  have q3 := crc_lt xl
  have q4 := crc_lt (List.replicate n 0)
  have h1 := fun W => crc_any (s.extract 0 n) W (by simp only [ByteArray.size_extract]; omega)
  have h2 := fun W => crc_any (t.extract 0 n) W (by simp only [ByteArray.size_extract]; omega)
  have h3 := fun W => crc_any X W (by rw [hX]; show xl.length ≤ _; omega)
  have h4 := fun W => crc_any Z W (by rw [hZ]; show (List.replicate n 0).length ≤ _; simp; omega)
  have e1 : (s.extract 0 n).data.toList = s.data.toList.take n := by rw [extract_front]
  have e2 : (t.extract 0 n).data.toList = t.data.toList.take n := by rw [extract_front]
  have e3 : X.data.toList = xl := by rw [hX]
  have e4 : Z.data.toList = List.replicate n 0 := by rw [hZ]
  rw [e1] at h1
  rw [e2] at h2
  rw [e3] at h3
  rw [e4] at h4
  obtain ⟨c1, hc1⟩ : ∃ c, crc (s.data.toList.take n) = c := ⟨_, rfl⟩
  obtain ⟨c2, hc2⟩ : ∃ c, crc (t.data.toList.take n) = c := ⟨_, rfl⟩
  obtain ⟨c3, hc3⟩ : ∃ c, crc xl = c := ⟨_, rfl⟩
  obtain ⟨c4, hc4⟩ : ∃ c, crc (List.replicate n 0) = c := ⟨_, rfl⟩
  rw [hc1] at h1 q1 hlin
  rw [hc2] at h2 q2 hlin
  rw [hc3] at h3 q3 hlin
  rw [hc4] at h4 q4 hlin
  obtain ⟨d1, hd1⟩ : ∃ c, c1 ^^^ c2 = c := ⟨_, rfl⟩
  obtain ⟨d2, hd2⟩ : ∃ c, d1 ^^^ c3 = c := ⟨_, rfl⟩
  have p1 : d1 < 4294967296 := by rw [← hd1]; exact Nat.xor_lt_two_pow (n := 32) q1 q2
  have p2 : d2 < 4294967296 := by rw [← hd2]; exact Nat.xor_lt_two_pow (n := 32) p1 q3
  have r1 : bits .xor .u32 (c1 : Int) (c2 : Int) = (d1 : Int) := by rw [u32_xor_nat _ _ q1 q2, hd1]
  have r2 : bits .xor .u32 (d1 : Int) (c3 : Int) = (d2 : Int) := by rw [u32_xor_nat _ _ p1 q3, hd2]
  have r3 : bits .xor .u32 (d2 : Int) (c4 : Int) = 0 := by rw [u32_xor_nat _ _ p2 q4, ← hd2, ← hd1, hlin]; rfl
  have K : Hid (∀ (gx gz : Nat) (W W' : World), Blk W gx 5 (part f n n) → Blk W gz 5 (part f n 0) → Below w.heap.size w W → Below W.heap.size W W' → Sx w w.heap.size gx gz n f X Z W') := Lib.hid (fun gx gz W W' a b c d =>
    keepS (s := ⟨xl.toArray⟩) (t := ⟨(List.replicate n 0).toArray⟩) hX hxn (fun j h => by rw [hfj j h]) hZ (by simp) (fun j h => by simp) a b c c.size d)
  have hmk := fun W => make_part f n (by omega) W
  have HF := Lib.hid hfk
  have i0 : (0 : Int) ≤ (n : Int) := by omega
  have i1 : (n : Int) ≤ (s.size : Int) := by omega
  have i2 : (n : Int) ≤ (t.size : Int) := by omega
  clear hls hlt hxl hxn hf hX hZ hfj hfk hlin e1 e2 e3 e4 hc1 hc2 hc3 hc4 hd1 hd2 q1 q2 q3 q4 p1 p2
  obtain ⟨B, hB⟩ : ∃ B, B = w.heap.size := ⟨_, rfl⟩
  rw [← hB] at K ⊢
  rcases hnn with ⟨hst, hn⟩ | ⟨hst, hn⟩
  · go_enter Try.func8, Try.ntmps8
    go_wp2_with fail
    go_region
    · clear hst hn hmk
      go_wp2_with fail
      obtain ⟨gz, e1⟩ : ∃ g, g = w.heap.size + 1 := ⟨_, rfl⟩
      obtain ⟨gx, e0⟩ : ∃ g, g = w.heap.size := ⟨_, rfl⟩
      obtain ⟨W, hW⟩ : ∃ W, W = ((w.alloc (.cells (part f n 0) 5)).alloc (.cells (part f n 0) 5)).drew := ⟨_, rfl⟩
      rw [← hW, ← e1, ← e0]
      have hbb : Below B w W := by rw [hW, hB]; exact (((Below.refl _ _).alloc (Nat.le_refl _) _).alloc (by simp) _).drew
      have hb0 : Blk W gx 5 (part f n 0) := by rw [hW, e0]; exact heap_alloc2_old _ _ _
      have hb1 : Blk W gz 5 (part f n 0) := by rw [hW, e1]; exact heap_alloc2_new _ _ _
      have hne : gx ≠ gz := by omega
      have hgx : B ≤ gx := by omega
      clear e0 e1 hW
      go_loopw [19] (fun v19 wr => ∃ k : Nat, k ≤ n ∧ v19 = .int .i64 k ∧ Blk wr gx 5 (part f n k) ∧ Blk wr gz 5 (part f n 0) ∧ Below B w wr)
        (fun v19 _ => n - (intOf v19).toNat)
      case atStart => exact ⟨0, by omega, rfl, by assumption, by assumption, hbb⟩
      case round =>
        obtain ⟨k, hk, rfl, hbx, hbz, hbe⟩ := hrel
        clear hb0 hb1 hbb
        by_cases hkn : k < n
        · have hcell := hbx.cell k
          rw [part_at _ _ _ _ hkn, if_neg (by omega)] at hcell
          have hfz := hbx.frozen k
          have hx := HF.out k (by omega) (by omega) hkn
          have k1 : (k : Int) < (s.size : Int) := by omega
          have k2 : (k : Int) < (t.size : Int) := by omega
          have k3 : (k : Int) < (n : Int) := by omega
          have k0 : (0 : Int) ≤ (k : Int) := by omega
          go_wp2_with fail
          go_region
          go_wp2_with fail
          go_roundw
          case rel =>
            refine ⟨k + 1, by omega, by go_num, ?_, ?_, (hbe.setCell hgx _).drew⟩
            · have := hbx.set_ k (.int .u8 (f k : Int))
              rw [part_succ _ _ _ hkn] at this
              exact this
            · exact hbz.far (p := ⟨gx, k, none⟩) (fun e => hne e.symm) _
          case measure => simp [intOf]; omega
        · obtain rfl : n = k := by omega
          go_wp2_with fail
          have KK : Hid (∀ W W' : World, Sx w B gx gz n f X Z W → Below W.heap.size W W' → Sx w B gx gz n f X Z W') := Lib.hid (fun W W' h hq => K.out gx gz W W' h.2.2.1 h.2.2.2.1 h.2.2.2.2 hq)
          have HS : Hid (Sx w B gx gz n f X Z wr.drew) := Lib.hid (K.out gx gz wr wr.drew hbx hbz hbe (Below.refl _ _).drew)
          go_region_held3 (fun w' => (convert 35 9 (.slice (some ⟨gx, 0, none⟩) n n)).run Try.prog w' = .ok (.string X) w' ∧ (convert 35 9 (.slice (some ⟨gz, 0, none⟩) n n)).run Try.prog w' = .ok (.string Z) w' ∧ Blk w' gx 5 (part f n n) ∧ Blk w' gz 5 (part f n 0) ∧ Below B w w')
            (first | exact HS.out | exact K.out gx gz wr.drew _ hbx.drew hbz.drew hbe.drew hbq | exact KK.out _ _ (by assumption) hbq | go_keep)
            (first
              | (go_at_call 10; refine (awake_any _).mono ?_; rintro e w' ⟨rfl, hbq⟩)
              | (go_at_call 11; (with_reducible refine (h1 _).mono ?_); rintro e w' ⟨rfl, hbq⟩)
              | (go_at_call 11; (with_reducible refine (h2 _).mono ?_); rintro e w' ⟨rfl, hbq⟩)
              | (go_at_call 11; (with_reducible refine (h3 _).mono ?_); rintro e w' ⟨rfl, hbq⟩)
              | (go_at_call 11; (with_reducible refine (h4 _).mono ?_); rintro e w' ⟨rfl, hbq⟩))
          go_wp2_with fail
          go_ret
          exact ⟨rfl, finS (gx := gx) (gz := gz) (n := n) (f := f) (X := X) (Z := Z) (by assumption)⟩
    · clear hst hn hmk
      go_wp2_with fail
      obtain ⟨gx, e1⟩ : ∃ g, g = w.heap.size + 1 := ⟨_, rfl⟩
      obtain ⟨gz, e0⟩ : ∃ g, g = w.heap.size := ⟨_, rfl⟩
      obtain ⟨W, hW⟩ : ∃ W, W = ((w.alloc (.cells (part f n 0) 5)).alloc (.cells (part f n 0) 5)).drew := ⟨_, rfl⟩
      rw [← hW, ← e1, ← e0]
      have hbb : Below B w W := by rw [hW, hB]; exact (((Below.refl _ _).alloc (Nat.le_refl _) _).alloc (by simp) _).drew
      have hb0 : Blk W gz 5 (part f n 0) := by rw [hW, e0]; exact heap_alloc2_old _ _ _
      have hb1 : Blk W gx 5 (part f n 0) := by rw [hW, e1]; exact heap_alloc2_new _ _ _
      have hne : gx ≠ gz := by omega
      have hgx : B ≤ gx := by omega
      clear e0 e1 hW
      go_loopw [19] (fun v19 wr => ∃ k : Nat, k ≤ n ∧ v19 = .int .i64 k ∧ Blk wr gx 5 (part f n k) ∧ Blk wr gz 5 (part f n 0) ∧ Below B w wr)
        (fun v19 _ => n - (intOf v19).toNat)
      case atStart => exact ⟨0, by omega, rfl, by assumption, by assumption, hbb⟩
      case round =>
        obtain ⟨k, hk, rfl, hbx, hbz, hbe⟩ := hrel
        clear hb0 hb1 hbb
        by_cases hkn : k < n
        · have hcell := hbx.cell k
          rw [part_at _ _ _ _ hkn, if_neg (by omega)] at hcell
          have hfz := hbx.frozen k
          have hx := HF.out k (by omega) (by omega) hkn
          have k1 : (k : Int) < (s.size : Int) := by omega
          have k2 : (k : Int) < (t.size : Int) := by omega
          have k3 : (k : Int) < (n : Int) := by omega
          have k0 : (0 : Int) ≤ (k : Int) := by omega
          go_wp2_with fail
          go_region
          go_wp2_with fail
          go_roundw
          case rel =>
            refine ⟨k + 1, by omega, by go_num, ?_, ?_, (hbe.setCell hgx _).drew⟩
            · have := hbx.set_ k (.int .u8 (f k : Int))
              rw [part_succ _ _ _ hkn] at this
              exact this
            · exact hbz.far (p := ⟨gx, k, none⟩) (fun e => hne e.symm) _
          case measure => simp [intOf]; omega
        · obtain rfl : n = k := by omega
          go_wp2_with fail
          have KK : Hid (∀ W W' : World, Sx w B gx gz n f X Z W → Below W.heap.size W W' → Sx w B gx gz n f X Z W') := Lib.hid (fun W W' h hq => K.out gx gz W W' h.2.2.1 h.2.2.2.1 h.2.2.2.2 hq)
          have HS : Hid (Sx w B gx gz n f X Z wr.drew) := Lib.hid (K.out gx gz wr wr.drew hbx hbz hbe (Below.refl _ _).drew)
          go_region_held3 (fun w' => (convert 35 9 (.slice (some ⟨gx, 0, none⟩) n n)).run Try.prog w' = .ok (.string X) w' ∧ (convert 35 9 (.slice (some ⟨gz, 0, none⟩) n n)).run Try.prog w' = .ok (.string Z) w' ∧ Blk w' gx 5 (part f n n) ∧ Blk w' gz 5 (part f n 0) ∧ Below B w w')
            (first | exact HS.out | exact K.out gx gz wr.drew _ hbx.drew hbz.drew hbe.drew hbq | exact KK.out _ _ (by assumption) hbq | go_keep)
            (first
              | (go_at_call 10; refine (awake_any _).mono ?_; rintro e w' ⟨rfl, hbq⟩)
              | (go_at_call 11; (with_reducible refine (h1 _).mono ?_); rintro e w' ⟨rfl, hbq⟩)
              | (go_at_call 11; (with_reducible refine (h2 _).mono ?_); rintro e w' ⟨rfl, hbq⟩)
              | (go_at_call 11; (with_reducible refine (h3 _).mono ?_); rintro e w' ⟨rfl, hbq⟩)
              | (go_at_call 11; (with_reducible refine (h4 _).mono ?_); rintro e w' ⟨rfl, hbq⟩))
          go_wp2_with fail
          go_ret
          exact ⟨rfl, finS (gx := gx) (gz := gz) (n := n) (f := f) (X := X) (Z := Z) (by assumption)⟩
  · go_enter Try.func8, Try.ntmps8
    go_wp2_with fail
    go_region
    · clear hst hn hmk
      go_wp2_with fail
      obtain ⟨gz, e1⟩ : ∃ g, g = w.heap.size + 1 := ⟨_, rfl⟩
      obtain ⟨gx, e0⟩ : ∃ g, g = w.heap.size := ⟨_, rfl⟩
      obtain ⟨W, hW⟩ : ∃ W, W = ((w.alloc (.cells (part f n 0) 5)).alloc (.cells (part f n 0) 5)).drew := ⟨_, rfl⟩
      rw [← hW, ← e1, ← e0]
      have hbb : Below B w W := by rw [hW, hB]; exact (((Below.refl _ _).alloc (Nat.le_refl _) _).alloc (by simp) _).drew
      have hb0 : Blk W gx 5 (part f n 0) := by rw [hW, e0]; exact heap_alloc2_old _ _ _
      have hb1 : Blk W gz 5 (part f n 0) := by rw [hW, e1]; exact heap_alloc2_new _ _ _
      have hne : gx ≠ gz := by omega
      have hgx : B ≤ gx := by omega
      clear e0 e1 hW
      go_loopw [19] (fun v19 wr => ∃ k : Nat, k ≤ n ∧ v19 = .int .i64 k ∧ Blk wr gx 5 (part f n k) ∧ Blk wr gz 5 (part f n 0) ∧ Below B w wr)
        (fun v19 _ => n - (intOf v19).toNat)
      case atStart => exact ⟨0, by omega, rfl, by assumption, by assumption, hbb⟩
      case round =>
        obtain ⟨k, hk, rfl, hbx, hbz, hbe⟩ := hrel
        clear hb0 hb1 hbb
        by_cases hkn : k < n
        · have hcell := hbx.cell k
          rw [part_at _ _ _ _ hkn, if_neg (by omega)] at hcell
          have hfz := hbx.frozen k
          have hx := HF.out k (by omega) (by omega) hkn
          have k1 : (k : Int) < (s.size : Int) := by omega
          have k2 : (k : Int) < (t.size : Int) := by omega
          have k3 : (k : Int) < (n : Int) := by omega
          have k0 : (0 : Int) ≤ (k : Int) := by omega
          go_wp2_with fail
          go_region
          go_wp2_with fail
          go_roundw
          case rel =>
            refine ⟨k + 1, by omega, by go_num, ?_, ?_, (hbe.setCell hgx _).drew⟩
            · have := hbx.set_ k (.int .u8 (f k : Int))
              rw [part_succ _ _ _ hkn] at this
              exact this
            · exact hbz.far (p := ⟨gx, k, none⟩) (fun e => hne e.symm) _
          case measure => simp [intOf]; omega
        · obtain rfl : n = k := by omega
          go_wp2_with fail
          have KK : Hid (∀ W W' : World, Sx w B gx gz n f X Z W → Below W.heap.size W W' → Sx w B gx gz n f X Z W') := Lib.hid (fun W W' h hq => K.out gx gz W W' h.2.2.1 h.2.2.2.1 h.2.2.2.2 hq)
          have HS : Hid (Sx w B gx gz n f X Z wr.drew) := Lib.hid (K.out gx gz wr wr.drew hbx hbz hbe (Below.refl _ _).drew)
          go_region_held3 (fun w' => (convert 35 9 (.slice (some ⟨gx, 0, none⟩) n n)).run Try.prog w' = .ok (.string X) w' ∧ (convert 35 9 (.slice (some ⟨gz, 0, none⟩) n n)).run Try.prog w' = .ok (.string Z) w' ∧ Blk w' gx 5 (part f n n) ∧ Blk w' gz 5 (part f n 0) ∧ Below B w w')
            (first | exact HS.out | exact K.out gx gz wr.drew _ hbx.drew hbz.drew hbe.drew hbq | exact KK.out _ _ (by assumption) hbq | go_keep)
            (first
              | (go_at_call 10; refine (awake_any _).mono ?_; rintro e w' ⟨rfl, hbq⟩)
              | (go_at_call 11; (with_reducible refine (h1 _).mono ?_); rintro e w' ⟨rfl, hbq⟩)
              | (go_at_call 11; (with_reducible refine (h2 _).mono ?_); rintro e w' ⟨rfl, hbq⟩)
              | (go_at_call 11; (with_reducible refine (h3 _).mono ?_); rintro e w' ⟨rfl, hbq⟩)
              | (go_at_call 11; (with_reducible refine (h4 _).mono ?_); rintro e w' ⟨rfl, hbq⟩))
          go_wp2_with fail
          go_ret
          exact ⟨rfl, finS (gx := gx) (gz := gz) (n := n) (f := f) (X := X) (Z := Z) (by assumption)⟩
    · clear hst hn hmk
      go_wp2_with fail
      obtain ⟨gx, e1⟩ : ∃ g, g = w.heap.size + 1 := ⟨_, rfl⟩
      obtain ⟨gz, e0⟩ : ∃ g, g = w.heap.size := ⟨_, rfl⟩
      obtain ⟨W, hW⟩ : ∃ W, W = ((w.alloc (.cells (part f n 0) 5)).alloc (.cells (part f n 0) 5)).drew := ⟨_, rfl⟩
      rw [← hW, ← e1, ← e0]
      have hbb : Below B w W := by rw [hW, hB]; exact (((Below.refl _ _).alloc (Nat.le_refl _) _).alloc (by simp) _).drew
      have hb0 : Blk W gz 5 (part f n 0) := by rw [hW, e0]; exact heap_alloc2_old _ _ _
      have hb1 : Blk W gx 5 (part f n 0) := by rw [hW, e1]; exact heap_alloc2_new _ _ _
      have hne : gx ≠ gz := by omega
      have hgx : B ≤ gx := by omega
      clear e0 e1 hW
      go_loopw [19] (fun v19 wr => ∃ k : Nat, k ≤ n ∧ v19 = .int .i64 k ∧ Blk wr gx 5 (part f n k) ∧ Blk wr gz 5 (part f n 0) ∧ Below B w wr)
        (fun v19 _ => n - (intOf v19).toNat)
      case atStart => exact ⟨0, by omega, rfl, by assumption, by assumption, hbb⟩
      case round =>
        obtain ⟨k, hk, rfl, hbx, hbz, hbe⟩ := hrel
        clear hb0 hb1 hbb
        by_cases hkn : k < n
        · have hcell := hbx.cell k
          rw [part_at _ _ _ _ hkn, if_neg (by omega)] at hcell
          have hfz := hbx.frozen k
          have hx := HF.out k (by omega) (by omega) hkn
          have k1 : (k : Int) < (s.size : Int) := by omega
          have k2 : (k : Int) < (t.size : Int) := by omega
          have k3 : (k : Int) < (n : Int) := by omega
          have k0 : (0 : Int) ≤ (k : Int) := by omega
          go_wp2_with fail
          go_region
          go_wp2_with fail
          go_roundw
          case rel =>
            refine ⟨k + 1, by omega, by go_num, ?_, ?_, (hbe.setCell hgx _).drew⟩
            · have := hbx.set_ k (.int .u8 (f k : Int))
              rw [part_succ _ _ _ hkn] at this
              exact this
            · exact hbz.far (p := ⟨gx, k, none⟩) (fun e => hne e.symm) _
          case measure => simp [intOf]; omega
        · obtain rfl : n = k := by omega
          go_wp2_with fail
          have KK : Hid (∀ W W' : World, Sx w B gx gz n f X Z W → Below W.heap.size W W' → Sx w B gx gz n f X Z W') := Lib.hid (fun W W' h hq => K.out gx gz W W' h.2.2.1 h.2.2.2.1 h.2.2.2.2 hq)
          have HS : Hid (Sx w B gx gz n f X Z wr.drew) := Lib.hid (K.out gx gz wr wr.drew hbx hbz hbe (Below.refl _ _).drew)
          go_region_held3 (fun w' => (convert 35 9 (.slice (some ⟨gx, 0, none⟩) n n)).run Try.prog w' = .ok (.string X) w' ∧ (convert 35 9 (.slice (some ⟨gz, 0, none⟩) n n)).run Try.prog w' = .ok (.string Z) w' ∧ Blk w' gx 5 (part f n n) ∧ Blk w' gz 5 (part f n 0) ∧ Below B w w')
            (first | exact HS.out | exact K.out gx gz wr.drew _ hbx.drew hbz.drew hbe.drew hbq | exact KK.out _ _ (by assumption) hbq | go_keep)
            (first
              | (go_at_call 10; refine (awake_any _).mono ?_; rintro e w' ⟨rfl, hbq⟩)
              | (go_at_call 11; (with_reducible refine (h1 _).mono ?_); rintro e w' ⟨rfl, hbq⟩)
              | (go_at_call 11; (with_reducible refine (h2 _).mono ?_); rintro e w' ⟨rfl, hbq⟩)
              | (go_at_call 11; (with_reducible refine (h3 _).mono ?_); rintro e w' ⟨rfl, hbq⟩)
              | (go_at_call 11; (with_reducible refine (h4 _).mono ?_); rintro e w' ⟨rfl, hbq⟩))
          go_wp2_with fail
          go_ret
          exact ⟨rfl, finS (gx := gx) (gz := gz) (n := n) (f := f) (X := X) (Z := Z) (by assumption)⟩

open Go.ChangeShapes Go.WideShapes Go.ChangeAt Go.Joins

theorem contract (H : Type) (enc : TypeId × Value → H) (W : World) (base : Nat) (args : Array Value) (ds gs : List (DataW H)) (before : List MemPlace)
    (hval : ∀ (j : Nat) t v, Try.f8.params[j]? = some t → args[j]? = some v → Value.okWide Try.prog W .any base t v)
    (hW : DataW.Whole enc Try.prog Try.f8.params.toList Rows.digestLinearSpec.vars false W args.toList ds gs before) (hsz : (DataW.weightsEach Try.prog (Try.f8.params.toList ++ Rows.digestLinearSpec.plain.varTypes Try.prog) (ds ++ gs)).all (· ≤ reachBytes) = true) :
    Calls Try.prog 8 args W fun e W' => ∃ v, e = .returned v ∧ Rows.digestLinearSpec.post enc Try.prog Try.f8 false true false false W args v W' := by
  have hW' := hW
  obtain ⟨p, q, hA0, hV, rfl, hfz, hnd⟩ := hW
  have hA : DataW.TrodAll enc Try.prog W 0 (fun _ => true) true Try.f8.params.toList args.toList ds p := hA0
  rw [Try.params8] at hA hval
  obtain ⟨v0, vs0, d0, ds0, p0, q0, hargs, rfl, rfl, g0, r0⟩ := trodAll_cons hA
  obtain ⟨v1, vs1, d1, ds1, p1, q1, rfl, rfl, rfl, g1, r1⟩ := trodAll_cons r0
  obtain ⟨rfl, rfl, rfl⟩ := trodAll_nil r1
  obtain rfl : args = #[v0, v1] := by cases args; simp_all
  obtain ⟨rfl, rfl⟩ := trodVars_none hV
  obtain ⟨s0, rfl, rfl, rfl, w0⟩ := Go.ChangeMaps.open_string Try.underlying9 (hval 0 9 v0 rfl rfl) g0
  obtain ⟨s1, rfl, rfl, rfl, w1⟩ := Go.ChangeMaps.open_string Try.underlying9 (hval 1 9 v1 rfl rfl) g1
  clear hA0
  simp only [List.append_nil] at hsz
  have z0 : s0.size ≤ 140737488351232 := sized_string hsz (j := 0) (t := 9) rfl rfl
  refine (walk s0 s1 W z0).mono fun e W' ⟨he, hb⟩ => ?_
  subst he
  exact ⟨_, rfl, Frame.law_post Frame.laidOut (by kernel_rfl) Try.underlying4 (by kernel_rfl) rfl rfl hW' hb⟩

set_option maxRecDepth 100000 in
theorem lifted (os : Os) (started : os.Started) (H : Type) (enc : TypeId × Value → H) :
    ReturnsInHanded {} Try.checked os 8 .any (Rows.digestLinearSpec.pre6 enc Try.prog Try.f8 Rows.digestLinearRow.domain false) (Rows.digestLinearSpec.post enc Try.prog Try.f8 false true false false) := by
  refine returnsInHanded_of_change_sized (C := Try.checked) Frame.own started (by kernel_rfl) Try.func8
    (ChangeSpec.witness6 (enc := enc) (C := Try.checked) false ⟨#[], #[.string .empty, .string .empty], []⟩ 8 (by kernel_rfl) (by kernel_rfl) (by kernel_rfl) (by kernel_rfl)) ?_
  intro W base args ds gs before hval hW _ hsz _
  exact contract H enc W base args ds gs before hval hW hsz

theorem proved : Rows.DigestLinearSaid :=
  OpenClaim.holds_of_wide 8 Try.f8 rfl rfl rfl rfl rfl rfl rfl ⟨rfl, rfl, rfl, rfl, rfl⟩ rfl rfl rfl rfl rfl (by kernel_rfl) Try.func8 (by kernel_rfl)
    (of_decide_eq_true (by kernel_rfl)) (by unfold Func.isWrapper; first | (rw [if_pos (by decide +kernel)]; kernel_rfl) | (rw [if_neg (by decide +kernel)]; exact ⟨rfl, rfl⟩))
    (fun os started H enc _ => lifted os started H enc)

end Go.Proofs.Ytokdbpalkfghaaa.DigestLinear
