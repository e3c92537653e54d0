/-
  WirePrefixes: of a proper beginning of an encoded value package wire's reader decodes nothing: it ends too early. No condition beyond the bound of the statement.
-/
import Derived.Test.YtmnlijeflcedcaaWireReturns
namespace Go.Proofs.Ytmnlijeflcedcaa.WirePrefixes
open Go.RowKit Go.Proofs.Ytmnlijeflcedcaa Go.Proofs.Ytmnlijeflcedcaa.WirePure Go.Proofs.Ytmnlijeflcedcaa.WireRd Go.Proofs.Ytmnlijeflcedcaa.WireWrites Go.Proofs.Ytmnlijeflcedcaa.WireReturns

def Short (b : Nat) (w : World) (e : Ending) (w' : World) : Prop := ∃ v, e = .returned v ∧ w.grownBy w' (some b) ∧ Is w' (some b) (.bad 5)
theorem Short.of {b : Nat} {w : World} {v : Value} {a : A} {e : Ending} {w' : World} (h : RP (some b) v a w e w') (ha : a = .bad 5) : Short b w e w' := ⟨v, h.1, h.2.1, ha ▸ h.2.2⟩

structure Cuts (N : Nat) (I : Int) (s : ByteArray) (zs : List Int) where
  U : ByteArray
  J : ByteArray
  T : ByteArray
  L : ByteArray
  hU : 0 < U.size ∧ U.size ≤ 10485770
  hJ : 0 < J.size ∧ J.size ≤ 10485770
  hT : 0 < T.size ∧ T.size ≤ 10485770
  hL : 0 < L.size ∧ L.size ≤ 10485770
  cU : Hid (∀ w, Calls Try.prog 9 #[.int .u64 N] w fun e w' => e = .returned (.string U) ∧ Below w.heap.size w w')
  cJ : Hid (∀ w, Calls Try.prog 11 #[.int .i64 I] w fun e w' => e = .returned (.string J) ∧ Below w.heap.size w w')
  cT : Hid (∀ w, Calls Try.prog 13 #[.string s] w fun e w' => e = .returned (.string T) ∧ Below w.heap.size w w')
  cL : Hid (∀ w A cap, Reads w w.heap.size 1 A zs.length (zs.map (Value.int .i64)) → Calls Try.prog 15 #[.slice A zs.length cap] w fun e w' => e = .returned (.string L) ∧ Below w.heap.size w w')
  dU : Hid (∀ w b c, c < U.size → Is w (some b) (.ready (U.data.toList.take c)) → Calls Try.prog 23 #[.pointer (some ⟨b, 0, none⟩)] w (Short b w))
  dJ : Hid (∀ w b c, c < J.size → Is w (some b) (.ready (J.data.toList.take c)) → Calls Try.prog 22 #[.pointer (some ⟨b, 0, none⟩)] w (Short b w))
  dT : Hid (∀ w b c, c < T.size → Is w (some b) (.ready (T.data.toList.take c)) → Calls Try.prog 19 #[.pointer (some ⟨b, 0, none⟩), .int .i64 s.size] w (Short b w))
  dL : Hid (∀ w b c, c < L.size → Is w (some b) (.ready (L.data.toList.take c)) → Calls Try.prog 21 #[.pointer (some ⟨b, 0, none⟩), .int .i64 zs.length] w (Short b w))

def cuts (N : Nat) (I : Int) (s : ByteArray) (zs : List Int) (hN : N < 18446744073709551616) (h0 : -9223372036854775808 ≤ I) (h1 : I ≤ 9223372036854775807) (hs : s.size ≤ 1048576) (hz : ∀ z ∈ zs, -9223372036854775808 ≤ z ∧ z ≤ 9223372036854775807) (hzl : zs.length ≤ 1048576) : Cuts N I s zs where
  U := ⟨(Lib.uvarint N).toArray⟩
  J := ⟨(Lib.uvarint (Lib.zigzag I)).toArray⟩
  T := ⟨(WireEnc.encText s).toArray⟩
  L := ⟨(WireEnc.encInts zs).toArray⟩
  hU := by
    show 0 < (Lib.uvarint N).toArray.size ∧ (Lib.uvarint N).toArray.size ≤ _
    rw [List.size_toArray]
    exact ⟨Lib.uvarint_pos N, by have := Lib.uvarint_length64 hN; omega⟩
  hJ := by
    show 0 < (Lib.uvarint (Lib.zigzag I)).toArray.size ∧ (Lib.uvarint (Lib.zigzag I)).toArray.size ≤ _
    rw [List.size_toArray]
    exact ⟨Lib.uvarint_pos _, by have := Lib.uvarint_length64 (zig_lt I h0 h1); omega⟩
  hT := by
    have := Lib.uvarint_length64 (x := s.size) (by omega)
    have := Lib.uvarint_pos s.size
    show 0 < (WireEnc.encText s).toArray.size ∧ (WireEnc.encText s).toArray.size ≤ _
    simp only [WireEnc.encText, List.size_toArray, List.length_append, Array.length_toList]
    have e : s.data.size = s.size := rfl
    omega
  hL := by
    have := Lib.uvarint_length64 (x := zs.length) (by omega)
    have := Lib.uvarint_pos zs.length
    have := WireEnc.flat_len zs hz
    show 0 < (WireEnc.encInts zs).toArray.size ∧ (WireEnc.encInts zs).toArray.size ≤ _
    simp only [WireEnc.encInts, List.size_toArray, List.length_append]
    omega
  cT := fun w => WireEnc.text_any s (by omega) w
  cL := fun w A cap hr => WireEnc.ints_any A cap zs w hr hz (by omega)
  cJ := fun w => WireEnc.int_any I h0 h1 w
  cU := fun w => WireEnc.uint_any N hN w
  dU := fun w b c hc hi => (uint_any (some b) _ w hi).mono fun e w' h => Short.of h (by rw [uint_cut N c hN (by have : c < (Lib.uvarint N).toArray.size := hc; rwa [List.size_toArray] at this)])
  dJ := fun w b c hc hi => (int_any (some b) _ w hi).mono fun e w' h => Short.of h (int_cut I c h0 h1 (by have : c < (Lib.uvarint (Lib.zigzag I)).toArray.size := hc; rwa [List.size_toArray] at this))
  dT := fun w b c hc hi => (text_any (some b) _ s.size w hi (by omega)).mono fun e w' h => Short.of h (by
    have e1 : s.data.toList.length = s.size := by rw [Array.length_toList]; rfl
    have := text_cut s.data.toList c s.size (by rw [e1]; omega) (by rw [e1]; exact Int.le_refl _) (by have : c < (WireEnc.encText s).toArray.size := hc; rw [List.size_toArray] at this; rw [e1]; exact this)
    rw [e1] at this
    exact this)
  dL := fun w b c hc hi => (ints_any (some b) _ zs.length w hi (by omega) (by
      have := Lib.uvarint_length64 (x := zs.length) (by omega)
      have := WireEnc.flat_len zs hz
      simp only [A.left, WireEnc.encInts, List.length_take, List.length_append]
      omega)).mono fun e w' ⟨v, h1, _, h2, h3⟩ => ⟨v, h1, h2, by
    rw [show ((A.ready ((WireEnc.encInts zs).take c)).ints zs.length).2 = .bad 5 from ints_cut zs c zs.length (by omega) hz (Int.le_refl _) (by have : c < (WireEnc.encInts zs).toArray.size := hc; rwa [List.size_toArray] at this)] at h3
    exact h3⟩

theorem ext_take (X : ByteArray) (r : Nat) : (X.extract 0 r).data.toList = X.data.toList.take r := by
  have e := extract_eq X 0 r
  rw [Nat.zero_add] at e
  rw [e]
  rfl

theorem keepA {w w1 : World} {v0 v1 v2 v3 : Value} {A : Option Addr} {n : Nat} {xs : List Value} (h : S w v0 v1 v2 v3 A n xs w1) (o : Obj) : S w v0 v1 v2 v3 A n xs (w1.alloc o) :=
  keepS h ((Below.refl _ _).alloc (Nat.le_refl _) _)

set_option maxHeartbeats 4000000 in
set_option maxRecDepth 100000 in
theorem walk (N : Nat) (I : Int) (s : ByteArray) (A : Option Addr) (cap : Nat) (zs : List Int) (cut : Nat) (w : World) (P : Cuts N I s zs) (_hs : s.size ≤ 1048576) (_hzl : zs.length ≤ 1048576) (_hcut : cut < 18446744073709551616)
    (hr : Reads w w.heap.size 1 A zs.length (zs.map (Value.int .i64))) :
    Calls Try.prog 6 #[.agg #[.int .u64 N, .int .i64 I, .string s, .slice A zs.length cap], .int .u64 cut] w fun e w' => e = .returned (.bool true) ∧ Below w.heap.size w w' := by
  have hS := startS (v0 := .int .u64 N) (v1 := .int .i64 I) (v2 := .string s) (v3 := .slice A zs.length cap) (t := 25) hr
  obtain ⟨U, J, T, L, hU, hJ, hT, hL, cU, cJ, cT, cL, dU, dJ, dT, dL⟩ := P
  have hpt : ∀ b, pt (some b) = .pointer (some ⟨b, 0, none⟩) := fun _ => rfl
  go_enter Try.func6, Try.ntmps6
  go_wp2
  have HS : Hid _ := Lib.hid hS
  clear hS hr
  go_region_held3 (fun w' => w'.cell? ⟨w.heap.size, 0, none⟩ = some (.int .u64 N) ∧ w'.cell? ⟨w.heap.size, 1, none⟩ = some (.int .i64 I) ∧ w'.cell? ⟨w.heap.size, 2, none⟩ = some (.string s) ∧ w'.cell? ⟨w.heap.size, 3, none⟩ = some (.slice A zs.length cap) ∧ w.heap.size < w'.heap.size ∧ Reads w' w.heap.size 1 A zs.length (zs.map (Value.int .i64)) ∧ Below w.heap.size w w')
    (first | exact HS.out | exact keepS (by assumption) hbq | exact keepA (by assumption) _ | go_keep)
    (first
      | (go_at_call 9; refine (cU.out _).mono ?_; rintro e w' ⟨rfl, hbq⟩)
      | (go_at_call 11; refine (cJ.out _).mono ?_; rintro e w' ⟨rfl, hbq⟩)
      | (go_at_call 13; refine (cT.out _).mono ?_; rintro e w' ⟨rfl, hbq⟩)
      | (go_at_call 15; refine (cL.out _ _ _ (readsS (w := w) (v0 := .int .u64 N) (v1 := .int .i64 I) (v2 := .string s) (v3 := .slice A zs.length cap) (by assumption))).mono ?_; rintro e w' ⟨rfl, hbq⟩; have hlq := ltS (keepS (w := w) (v0 := .int .u64 N) (v1 := .int .i64 I) (v2 := .string s) (v3 := .slice A zs.length cap) (A := A) (n := zs.length) (xs := zs.map (Value.int .i64)) (by assumption) hbq)))
  clear HS cU cJ cT cL
  have hS5 : S w (.int .u64 N) (.int .i64 I) (.string s) (.slice A zs.length cap) A zs.length (zs.map (Value.int .i64)) (w'.alloc (.cells #[.string U, .string J, .string T, .string L] 9)) := by assumption
  have hb5 := Blk.new w' 9 #[.string U, .string J, .string T, .string L]
  obtain ⟨W, hW⟩ : ∃ W, W = w'.alloc (.cells #[.string U, .string J, .string T, .string L] 9) := ⟨_, rfl⟩
  obtain ⟨g, hg⟩ : ∃ g, g = w'.heap.size := ⟨_, rfl⟩
  rw [← hW] at hS5 hb5 ⊢
  rw [← hg] at hlq hb5 ⊢
  clear hW hg hbq
  go_wp2
  go_loopw [6] (fun vk wr => ∃ k : Nat, vk = .int .i64 k ∧ k ≤ 4 ∧ S w (.int .u64 N) (.int .i64 I) (.string s) (.slice A zs.length cap) A zs.length (zs.map (Value.int .i64)) wr ∧ Blk wr g 9 #[.string U, .string J, .string T, .string L]) (fun vk _ => 4 - (intOf vk).toNat)
  case atStart => exact ⟨0, rfl, by omega, hS5, hb5⟩
  case round =>
    clear hS5 hb5
    obtain ⟨k, rfl, hk, hSr, hbr⟩ := hrel
    by_cases h4 : k < 4
    · obtain rfl | rfl | rfl | rfl : k = 0 ∨ k = 1 ∨ k = 2 ∨ k = 3 := by omega
      · have cX : wr.cell? ⟨g, 0, none⟩ = some (.string U) := hbr.cell 0
        have hc : cut % U.size < U.size := Nat.mod_lt _ hU.1
        have z0 : ((U.size : Int) == 0) = false := beq_eq_false_iff_ne.2 (by omega)
        have z1 : IntKind.u64.wrap (U.size : Int) = U.size := by rw [IntKind.wrap_u64]; omega
        have z2 : ¬ U.size = 0 := by omega
        have z3 : (cut : Int).tmod (U.size : Int) = ((cut % U.size : Nat) : Int) := rfl
        obtain ⟨r, hr⟩ : ∃ r, r = cut % U.size := ⟨_, rfl⟩
        rw [← hr] at hc z3
        clear hr
        have i0 : (0 : Int) ≤ (r : Int) := by omega
        have i1 : (r : Int) ≤ (U.size : Int) := by omega
        have hgl := hbr.lt
        go_wp2
        go_region_held3 (fun w' => w'.cell? ⟨g, 0, none⟩ = some (.string U))
          (first | exact cX | exact (hb1.cell hgl).trans cX | go_keep)
          (first | (go_at_call 18; refine (new_any _ _ (by simp only [ByteArray.size_extract]; omega)).mono ?_; rintro e w1 ⟨rfl, hb1, hi1⟩))
        clear z0 z1 z2 z3 i0 i1
        rw [ext_take] at hi1
        have hS1 := keepS (keepD hSr) hb1
        have hb1' := Blk.below (w := wr.drew) hbr hb1 hgl
        have hl1 := ltS hSr
        have c2 := hS1.2.2.1
        have c3 := hS1.2.2.2.1
        have HS1 := Lib.hid hS1
        clear hS1 hSr hbr hb1 cX
        go_wp2_with fail
        refine (dU.out _ _ r hc hi1).mono ?_
        rintro e w2 ⟨v, rfl, hg2, hi2⟩
        have hS2 := keepG HS1.out hg2 hl1
        have hb2 := hb1'.grown hg2 (by simpa using Nat.ne_of_lt hgl)
        clear HS1 hb1' hg2 hi1 c2 c3
        go_wp2_with fail
        refine (err_is hi2 5 rfl).mono ?_
        rintro e w3 ⟨rfl, rfl⟩
        go_wp2_with fail
        refine (fin_is hi2 5 rfl).mono ?_
        rintro e w3 ⟨rfl, n3, rfl⟩
        go_wp2_with fail
        go_roundw
        case rel => exact ⟨1, rfl, by omega, keepN hS2 _, hb2.drewN _⟩
        case measure => simp [intOf]
      · have cX : wr.cell? ⟨g, 1, none⟩ = some (.string J) := hbr.cell 1
        have hc : cut % J.size < J.size := Nat.mod_lt _ hJ.1
        have z0 : ((J.size : Int) == 0) = false := beq_eq_false_iff_ne.2 (by omega)
        have z1 : IntKind.u64.wrap (J.size : Int) = J.size := by rw [IntKind.wrap_u64]; omega
        have z2 : ¬ J.size = 0 := by omega
        have z3 : (cut : Int).tmod (J.size : Int) = ((cut % J.size : Nat) : Int) := rfl
        obtain ⟨r, hr⟩ : ∃ r, r = cut % J.size := ⟨_, rfl⟩
        rw [← hr] at hc z3
        clear hr
        have i0 : (0 : Int) ≤ (r : Int) := by omega
        have i1 : (r : Int) ≤ (J.size : Int) := by omega
        have hgl := hbr.lt
        go_wp2
        go_region_held3 (fun w' => w'.cell? ⟨g, 1, none⟩ = some (.string J))
          (first | exact cX | exact (hb1.cell hgl).trans cX | go_keep)
          (first | (go_at_call 18; refine (new_any _ _ (by simp only [ByteArray.size_extract]; omega)).mono ?_; rintro e w1 ⟨rfl, hb1, hi1⟩))
        clear z0 z1 z2 z3 i0 i1
        rw [ext_take] at hi1
        have hS1 := keepS (keepD hSr) hb1
        have hb1' := Blk.below (w := wr.drew) hbr hb1 hgl
        have hl1 := ltS hSr
        have c2 := hS1.2.2.1
        have c3 := hS1.2.2.2.1
        have HS1 := Lib.hid hS1
        clear hS1 hSr hbr hb1 cX
        go_wp2_with fail
        refine (dJ.out _ _ r hc hi1).mono ?_
        rintro e w2 ⟨v, rfl, hg2, hi2⟩
        have hS2 := keepG HS1.out hg2 hl1
        have hb2 := hb1'.grown hg2 (by simpa using Nat.ne_of_lt hgl)
        clear HS1 hb1' hg2 hi1 c2 c3
        go_wp2_with fail
        refine (err_is hi2 5 rfl).mono ?_
        rintro e w3 ⟨rfl, rfl⟩
        go_wp2_with fail
        refine (fin_is hi2 5 rfl).mono ?_
        rintro e w3 ⟨rfl, n3, rfl⟩
        go_wp2_with fail
        go_roundw
        case rel => exact ⟨2, rfl, by omega, keepN hS2 _, hb2.drewN _⟩
        case measure => simp [intOf]
      · have cX : wr.cell? ⟨g, 2, none⟩ = some (.string T) := hbr.cell 2
        have hc : cut % T.size < T.size := Nat.mod_lt _ hT.1
        have z0 : ((T.size : Int) == 0) = false := beq_eq_false_iff_ne.2 (by omega)
        have z1 : IntKind.u64.wrap (T.size : Int) = T.size := by rw [IntKind.wrap_u64]; omega
        have z2 : ¬ T.size = 0 := by omega
        have z3 : (cut : Int).tmod (T.size : Int) = ((cut % T.size : Nat) : Int) := rfl
        obtain ⟨r, hr⟩ : ∃ r, r = cut % T.size := ⟨_, rfl⟩
        rw [← hr] at hc z3
        clear hr
        have i0 : (0 : Int) ≤ (r : Int) := by omega
        have i1 : (r : Int) ≤ (T.size : Int) := by omega
        have hgl := hbr.lt
        go_wp2
        go_region_held3 (fun w' => w'.cell? ⟨g, 2, none⟩ = some (.string T))
          (first | exact cX | exact (hb1.cell hgl).trans cX | go_keep)
          (first | (go_at_call 18; refine (new_any _ _ (by simp only [ByteArray.size_extract]; omega)).mono ?_; rintro e w1 ⟨rfl, hb1, hi1⟩))
        clear z0 z1 z2 z3 i0 i1
        rw [ext_take] at hi1
        have hS1 := keepS (keepD hSr) hb1
        have hb1' := Blk.below (w := wr.drew) hbr hb1 hgl
        have hl1 := ltS hSr
        have c2 := hS1.2.2.1
        have c3 := hS1.2.2.2.1
        have HS1 := Lib.hid hS1
        clear hS1 hSr hbr hb1 cX
        go_wp2_with fail
        refine (dT.out _ _ r hc hi1).mono ?_
        rintro e w2 ⟨v, rfl, hg2, hi2⟩
        have hS2 := keepG HS1.out hg2 hl1
        have hb2 := hb1'.grown hg2 (by simpa using Nat.ne_of_lt hgl)
        clear HS1 hb1' hg2 hi1 c2 c3
        go_wp2_with fail
        refine (err_is hi2 5 rfl).mono ?_
        rintro e w3 ⟨rfl, rfl⟩
        go_wp2_with fail
        refine (fin_is hi2 5 rfl).mono ?_
        rintro e w3 ⟨rfl, n3, rfl⟩
        go_wp2_with fail
        go_roundw
        case rel => exact ⟨3, rfl, by omega, keepN hS2 _, hb2.drewN _⟩
        case measure => simp [intOf]
      · have cX : wr.cell? ⟨g, 3, none⟩ = some (.string L) := hbr.cell 3
        have hc : cut % L.size < L.size := Nat.mod_lt _ hL.1
        have z0 : ((L.size : Int) == 0) = false := beq_eq_false_iff_ne.2 (by omega)
        have z1 : IntKind.u64.wrap (L.size : Int) = L.size := by rw [IntKind.wrap_u64]; omega
        have z2 : ¬ L.size = 0 := by omega
        have z3 : (cut : Int).tmod (L.size : Int) = ((cut % L.size : Nat) : Int) := rfl
        obtain ⟨r, hr⟩ : ∃ r, r = cut % L.size := ⟨_, rfl⟩
        rw [← hr] at hc z3
        clear hr
        have i0 : (0 : Int) ≤ (r : Int) := by omega
        have i1 : (r : Int) ≤ (L.size : Int) := by omega
        have hgl := hbr.lt
        go_wp2
        go_region_held3 (fun w' => w'.cell? ⟨g, 3, none⟩ = some (.string L))
          (first | exact cX | exact (hb1.cell hgl).trans cX | go_keep)
          (first | (go_at_call 18; refine (new_any _ _ (by simp only [ByteArray.size_extract]; omega)).mono ?_; rintro e w1 ⟨rfl, hb1, hi1⟩))
        clear z0 z1 z2 z3 i0 i1
        rw [ext_take] at hi1
        have hS1 := keepS (keepD hSr) hb1
        have hb1' := Blk.below (w := wr.drew) hbr hb1 hgl
        have hl1 := ltS hSr
        have c2 := hS1.2.2.1
        have c3 := hS1.2.2.2.1
        have HS1 := Lib.hid hS1
        clear hS1 hSr hbr hb1 cX
        go_wp2_with fail
        refine (dL.out _ _ r hc hi1).mono ?_
        rintro e w2 ⟨v, rfl, hg2, hi2⟩
        have hS2 := keepG HS1.out hg2 hl1
        have hb2 := hb1'.grown hg2 (by simpa using Nat.ne_of_lt hgl)
        clear HS1 hb1' hg2 hi1 c2 c3
        go_wp2_with fail
        refine (err_is hi2 5 rfl).mono ?_
        rintro e w3 ⟨rfl, rfl⟩
        go_wp2_with fail
        refine (fin_is hi2 5 rfl).mono ?_
        rintro e w3 ⟨rfl, n3, rfl⟩
        go_wp2_with fail
        go_roundw
        case rel => exact ⟨4, rfl, by omega, keepN hS2 _, hb2.drewN _⟩
        case measure => simp [intOf]
    · have hB := belowS hSr
      clear hSr hbr
      go_wp2_with fail
      refine (example_any _).mono ?_
      rintro e w1 ⟨rfl, hb1⟩
      go_wp2
      go_ret
      exact ⟨rfl, hB.trans (hb1.mono hB.size)⟩

open Go.ChangeShapes Go.WideShapes Go.ChangeAt Go.Joins

theorem small2 {H : Type} {x0 x1 x4 : DataW H} {s : ByteArray} {d3 : DataW H} {zs : List Int} {rest : List (DataW H)} (hk : Rows.uptoSmall H [.agg [x0, x1, .lit (.string s.data.toList), d3], x4] = true) (hd : d3 = .slice (zs.map fun z => .lit (.int .i64 z)) rest ∨ d3 = .nil ∧ zs = []) : s.size ≤ 1048576 ∧ zs.length ≤ 1048576 := by
  have h : Rows.uptoBulkAll [DataW.agg [x0, x1, .lit (.string s.data.toList), d3], x4] ≤ 1048576 := of_decide_eq_true hk
  simp only [Rows.uptoBulkAll, Rows.uptoBulk] at h
  have e : s.data.toList.length = s.size := by rw [Array.length_toList]; rfl
  refine ⟨by omega, ?_⟩
  rcases hd with rfl | ⟨rfl, rfl⟩
  · simp only [Rows.uptoBulk, Frame.bulk_lits] at h
    omega
  · simp

theorem contract (H : Type) (enc : TypeId × Value → H) (W : World) (base : Nat) (args : Array Value) (ds gs : List (DataW H)) (before : List MemPlace)
    (hval : ∀ (j : Nat) t v, Try.f6.params[j]? = some t → args[j]? = some v → Value.okWide Try.prog W .any base t v)
    (hW : DataW.Whole enc Try.prog Try.f6.params.toList Rows.wirePrefixesSpec.vars false W args.toList ds gs before) (hk : Rows.uptoSmall H (ds ++ gs) = true) :
    Calls Try.prog 6 args W fun e W' => ∃ v, e = .returned v ∧ Rows.wirePrefixesSpec.post enc Try.prog Try.f6 false true false false W args v W' := by
  have hW' := hW
  obtain ⟨p, q, hA0, hV, rfl, hfz, hnd⟩ := hW
  have hA : DataW.TrodAll enc Try.prog W 0 (fun _ => true) true Try.f6.params.toList args.toList ds p := hA0
  rw [Try.params6] at hA hval
  obtain ⟨v0, vs0, d0, ds0, p0, q0, hargs, rfl, rfl, g0, r0⟩ := trodAll_cons hA
  obtain ⟨v1, vs1, d1, ds1, p1, q1, rfl, rfl, rfl, g1, r1⟩ := trodAll_cons r0
  obtain ⟨rfl, rfl, rfl⟩ := trodAll_nil r1
  obtain rfl : args = #[v0, v1] := by cases args; simp_all
  obtain ⟨rfl, rfl⟩ := trodVars_none hV
  obtain ⟨N, I, s, A, cap, zs, x0, x1, d3, rest, rfl, rfl, hd, hN, hI0, hI1, hz, hr⟩ := openValues (hval 0 25 v0 rfl rfl) g0
  obtain ⟨x, rfl, rfl, rfl, wx⟩ := open_int Try.underlying41 (hval 1 41 v1 rfl rfl) g1
  have bx := bounds_u64 wx
  obtain ⟨cut, rfl⟩ := Int.eq_ofNat_of_zero_le bx.1
  clear hA0
  simp only [List.append_nil] at hk
  obtain ⟨k1, k2⟩ := small2 hk hd
  refine (walk N I s A cap zs cut W (cuts N I s zs hN hI0 hI1 k1 hz k2) k1 k2 (by omega) hr).mono fun e W' ⟨he, hb⟩ => ?_
  subst he
  exact ⟨_, rfl, Frame.law_post Frame.laidOut (by kernel_rfl) Try.underlying4 (by kernel_rfl) rfl rfl hW' hb⟩

set_option maxRecDepth 100000 in
theorem lifted (os : Os) (started : os.Started) (H : Type) (enc : TypeId × Value → H) (F : Stop.Interp) :
    ReturnsInHanded {} Try.checked os 6 .any ((Rows.OpenSpec.upto Rows.wirePrefixesSpec).pre6 enc Try.prog Try.f6 Rows.wirePrefixesUptoRow.domain false) (((Rows.OpenSpec.upto Rows.wirePrefixesSpec).at F).post enc Try.prog Try.f6 false true false false) := by
  refine returnsInHanded_of_cond (C := Try.checked) (s := Rows.OpenSpec.upto Rows.wirePrefixesSpec) (k := Rows.uptoSmall) rfl Frame.own started (by kernel_rfl) Try.func6
    (OpenSpec.witness (enc := enc) (C := Try.checked) (s := Rows.OpenSpec.upto Rows.wirePrefixesSpec) (k := Rows.uptoSmall) rfl false ⟨#[], #[.agg #[.int .u64 0, .int .i64 0, .string .empty, .slice none 0 0], .int .u64 0], []⟩ 8 (by kernel_rfl) (by kernel_rfl) (by kernel_rfl)
      (x := ([.agg [.lit (.int .u64 0), .lit (.int .i64 0), .lit (.string []), .nil], .lit (.int .u64 0)], [], [])) (by kernel_rfl) rfl (by kernel_rfl)) ?_
  intro W base args ds gs before hval hW _ hk _
  exact contract H enc W base args ds gs before hval hW hk

theorem proved : Rows.WirePrefixesUptoSaid :=
  OpenClaim.holds_of_cond 6 Try.f6 rfl rfl rfl rfl rfl rfl rfl ⟨rfl, rfl, rfl, rfl, rfl⟩ rfl rfl rfl rfl rfl (by kernel_rfl) Try.func6 (by kernel_rfl)
    (of_decide_eq_true (by kernel_rfl)) (by unfold Func.isWrapper; first | (rw [if_pos (by decide +kernel)]; kernel_rfl) | (rw [if_neg (by decide +kernel)]; exact ⟨rfl, rfl⟩))
    (fun os started H enc _ F => lifted os started H enc F)

end Go.Proofs.Ytmnlijeflcedcaa.WirePrefixes
