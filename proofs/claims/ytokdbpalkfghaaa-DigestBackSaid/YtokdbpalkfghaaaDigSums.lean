/-
  Package digest and its reference: what the three checksums return, for any string.
-/
import Derived.Test.YtokdbpalkfghaaaDigTab
import Derived.Deep.WholeRow
namespace Go.Proofs.Ytokdbpalkfghaaa.Dig
open Go.RowKit Go.Proofs.Ytokdbpalkfghaaa Go.Proofs.Ytokdbpalkfghaaa.DigPure

theorem take_snoc (s : ByteArray) (k : Nat) (h : k < s.size) : s.data.toList.take (k + 1) = s.data.toList.take k ++ [s[k]] := by
  rw [List.take_succ_eq_append_getElem (by simpa using h)]; rfl
theorem take_all (s : ByteArray) : s.data.toList.take s.size = s.data.toList := List.take_of_length_le (by simp)
theorem crcGo_snoc (s : ByteArray) (k : Nat) (h : k < s.size) (c : Nat) : crcGo c (s.data.toList.take (k + 1)) = it 8 (crcGo c (s.data.toList.take k) ^^^ s[k].toNat) := by
  rw [take_snoc s k h, crcGo_append]; rfl
theorem ret32 {a b : Int} (h : a = b) : Ending.returned (.int .u32 a) = .returned (.int .u32 b) := by rw [h]
theorem ret64 {a b : Int} (h : a = b) : Ending.returned (.int .u64 a) = .returned (.int .u64 b) := by rw [h]
theorem xor_all (c : Nat) (h : c < 4294967296) : bits .xor .u32 IntKind.u32.max (c : Int) = ((4294967295 ^^^ c : Nat) : Int) := by
  rw [show IntKind.u32.max = ((4294967295 : Nat) : Int) by decide]
  exact u32_xor_nat 4294967295 c (by omega) h

set_option maxHeartbeats 1000000 in
set_option maxRecDepth 100000 in
theorem crc_any (s : ByteArray) (w : World) (hs : s.size ≤ 9223372036854775807) : Calls Try.prog 11 #[.string s] w fun e w' => e = .returned (.int .u32 (crc s.data.toList : Int)) ∧ Below w.heap.size w w' := by
  go_enter Try.func11, Try.ntmps11
  go_wp2_with fail
  refine (table_any _).mono ?_
  rintro e w1 ⟨rfl, hb⟩
  go_wp2_with (first
    | (refine wpList_alloc256 rfl rfl ?_)
    | (refine wpList_store_row rfl _ _ _ rfl w1.heap.size (tabCells 256) rfl rfl 38 (tabCells 0) (heap_alloc_new _ _) info256 tabCells_same (tabCells_one 256) ?_; rw [World.setRow_alloc_new]))
  go_loop [4, 9] (fun v4 v9 => ∃ k : Nat, k ≤ s.size ∧ v9 = .int .i64 k ∧ v4 = .int .u32 (crcGo 4294967295 (s.data.toList.take k) : Nat)) (fun _ v9 => s.size - (intOf v9).toNat)
  case atStart => exact ⟨0, by omega, rfl, rfl⟩
  case round =>
    obtain ⟨k, hk, rfl, rfl⟩ := hrel
    have hc := crcGo_lt (s.data.toList.take k) (c := 4294967295) (by omega)
    by_cases hlt : k < s.size
    · have HS := Lib.hid (crcGo_snoc s k hlt 4294967295)
      have hbt : s[k].toNat < 256 := s[k].toNat_lt
      obtain ⟨c, hcc⟩ : ∃ c, crcGo 4294967295 (s.data.toList.take k) = c := ⟨_, rfl⟩
      rw [hcc] at hc HS
      obtain ⟨v, hv⟩ : ∃ v, (c % 256) ^^^ s[k].toNat = v := ⟨_, rfl⟩
      have hvlt : v < 256 := by rw [← hv]; exact Nat.xor_lt_two_pow (n := 8) (by omega) (by omega)
      have hx : bits .xor .u8 ((c : Int) % 256) (s[k].toNat : Int) = (v : Int) := by
        have := u8_xor_nat (c % 256) s[k].toNat (by omega) hbt
        rw [hv] at this
        rw [← this]
        congr 1
      have hcell : (tabCells 256)[v]? = some (.int .u32 (tab v)) := by rw [tabCells_at _ _ hvlt, if_pos hvlt]
      have hy : bits .xor .u32 ((c : Int) / 256) (tab v : Int) = (crcGo 4294967295 (s.data.toList.take (k + 1)) : Nat) := by
        have h2 := u32_xor_nat (c / 256) (tab v) (by omega) (it_lt 8 (by omega))
        rw [HS.out, by_table, hv, ← h2]
        congr 1
      have HC := Lib.hid hcc
      rw [hcc]
      clear hv hcc HS
      go_wp2_with fail
      go_round
      case rel => exact ⟨k + 1, by omega, by go_num, rfl⟩
      case measure => simp [intOf]; omega
    · obtain rfl : k = s.size := by omega
      have hx := xor_all _ hc
      go_wp2_with fail
      go_ret
      refine ⟨ret32 (by rw [take_all]; rfl), ?_⟩
      exact hb.alloc hb.size _

set_option maxHeartbeats 1000000 in
set_option maxRecDepth 100000 in
theorem rCrc_any (s : ByteArray) (w : World) (hs : s.size ≤ 9223372036854775807) : Calls Try.prog 12 #[.string s] w fun e w' => e = .returned (.int .u32 (crc s.data.toList : Int)) ∧ w = w' := by
  go_enter Try.func12, Try.ntmps12
  go_wp2_with fail
  go_loop [3, 4] (fun v3 v4 => ∃ k : Nat, k ≤ s.size ∧ v4 = .int .i64 k ∧ v3 = .int .u32 (crcGo 4294967295 (s.data.toList.take k) : Nat)) (fun _ v4 => s.size - (intOf v4).toNat)
  case atStart => exact ⟨0, by omega, rfl, rfl⟩
  case round =>
    obtain ⟨k, hk, rfl, rfl⟩ := hrel
    have hc := crcGo_lt (s.data.toList.take k) (c := 4294967295) (by omega)
    by_cases hlt : k < s.size
    · have HS := Lib.hid (crcGo_snoc s k hlt 4294967295)
      have hbt : s[k].toNat < 256 := s[k].toNat_lt
      obtain ⟨c, hcc⟩ : ∃ c, crcGo 4294967295 (s.data.toList.take k) = c := ⟨_, rfl⟩
      rw [hcc] at hc HS
      obtain ⟨v, hv⟩ : ∃ v, c ^^^ s[k].toNat = v := ⟨_, rfl⟩
      have hvlt : v < 4294967296 := by rw [← hv]; exact byte_xor_lt hc s[k]
      have hx : bits .xor .u32 (c : Int) (s[k].toNat : Int) = (v : Int) := by
        rw [← hv]
        exact u32_xor_nat c s[k].toNat hc (by omega)
      rw [hv] at HS
      rw [hcc]
      clear hv hcc
      go_wp2_with fail
      go_loop [3, 5] (fun v3 v5 => ∃ m : Nat, m ≤ 8 ∧ v5 = .int .i64 m ∧ v3 = .int .u32 (it m v)) (fun _ v5 => 8 - (intOf v5).toNat)
      case atStart => exact ⟨0, by omega, rfl, rfl⟩
      case round =>
        obtain ⟨m, hm, rfl, rfl⟩ := hrel
        have hc2 := it_lt m hvlt
        by_cases hm8 : m < 8
        · have ha := and_one _ hc2
          have hs2 := it_snoc m v
          rcases Nat.mod_two_eq_zero_or_one (it m v) with ho | ho
          · have H1 := Lib.hid ho
            have H2 := Lib.hid hs2
            have ha2 : bits .and .u32 (it m v : Int) 1 = 0 := by rw [ha, ho]; rfl
            clear ho hs2 ha
            go_wp2_with fail
            go_round
            case rel => exact ⟨m + 1, by omega, by go_num, by rw [H2.out, st_even (by have := H1.out; omega)]; go_num⟩
            case measure => simp [intOf]; omega
          · have H1 := Lib.hid ho
            have H2 := Lib.hid hs2
            have ha2 : bits .and .u32 (it m v : Int) 1 = 1 := by rw [ha, ho]; rfl
            have hx2 := step_odd _ hc2 ho
            clear ho hs2 ha
            go_wp2_with fail
            go_round
            case rel => exact ⟨m + 1, by omega, by go_num, by rw [H2.out]⟩
            case measure => simp [intOf]; omega
        · obtain rfl : m = 8 := by omega
          go_wp2_with fail
          go_round
          case rel => exact ⟨k + 1, by omega, by go_num, by rw [HS.out]⟩
          case measure => simp [intOf]; omega
    · obtain rfl : k = s.size := by omega
      have hx := xor_all _ hc
      go_wp2_with fail
      go_ret
      exact ⟨ret32 (by rw [take_all]; rfl), rfl⟩

theorem adGo_take (s : ByteArray) (k : Nat) (h : k < s.size) : adGo (1, 0) (s.data.toList.take (k + 1)) = (((adGo (1, 0) (s.data.toList.take k)).1 + s[k].toNat) % 65521, ((adGo (1, 0) (s.data.toList.take k)).2 + ((adGo (1, 0) (s.data.toList.take k)).1 + s[k].toNat) % 65521) % 65521) := by
  rw [take_snoc s k h, adGo_snoc]

set_option maxHeartbeats 1000000 in
theorem adler_any (s : ByteArray) (w : World) (hs : s.size ≤ 9223372036854775807) : Calls Try.prog 13 #[.string s] w fun e w' => e = .returned (.int .u32 (adler s.data.toList : Int)) ∧ w = w' := by
  go_enter Try.func13, Try.ntmps13
  go_wp2_with fail
  go_loop [3, 4, 8] (fun v3 v4 v8 => ∃ k : Nat, k ≤ s.size ∧ v8 = .int .i64 k ∧ v3 = .int .u32 ((adGo (1, 0) (s.data.toList.take k)).1 : Nat) ∧ v4 = .int .u32 ((adGo (1, 0) (s.data.toList.take k)).2 : Nat)) (fun _ _ v8 => s.size - (intOf v8).toNat)
  case atStart => exact ⟨0, by omega, rfl, rfl, rfl⟩
  case round =>
    obtain ⟨k, hk, rfl, rfl, rfl⟩ := hrel
    obtain ⟨ha, hb⟩ := adGo_lt (s.data.toList.take k) (1, 0) (by decide) (by decide)
    by_cases hlt : k < s.size
    · have HS := Lib.hid (adGo_take s k hlt)
      have hbt : s[k].toNat < 256 := s[k].toNat_lt
      obtain ⟨a, haa⟩ : ∃ a, (adGo (1, 0) (s.data.toList.take k)).1 = a := ⟨_, rfl⟩
      obtain ⟨b, hbb⟩ : ∃ b, (adGo (1, 0) (s.data.toList.take k)).2 = b := ⟨_, rfl⟩
      rw [haa] at ha HS ⊢
      rw [hbb] at hb HS ⊢
      clear haa hbb
      go_wp2_with fail
      go_round
      case rel => exact ⟨k + 1, by omega, by go_num, by rw [HS.out]; go_num, by rw [HS.out]; go_num⟩
      case measure => simp [intOf]; omega
    · obtain rfl : k = s.size := by omega
      have HA := Lib.hid (take_all s)
      obtain ⟨a, haa⟩ : ∃ a, (adGo (1, 0) (s.data.toList.take s.size)).1 = a := ⟨_, rfl⟩
      obtain ⟨b, hbb⟩ : ∃ b, (adGo (1, 0) (s.data.toList.take s.size)).2 = b := ⟨_, rfl⟩
      rw [haa] at ha ⊢
      rw [hbb] at hb ⊢
      have hor : bits .or .u32 ((b : Int) * 65536) (a : Int) = ((b * 65536 + a : Nat) : Int) := by
        have h1 := u32_or_nat (b * 65536) a (by omega) (by omega)
        rw [nat_join 16 _ _ (by omega) (by omega)] at h1
        rw [← h1]
        congr 1
      have HR : Hid (((b * 65536 + a : Nat) : Int) = adler s.data.toList) := Lib.hid (by rw [← haa, ← hbb, HA.out]; rfl)
      clear haa hbb
      go_wp2_with fail
      go_ret
      exact ⟨ret32 HR.out, rfl⟩

set_option maxHeartbeats 1000000 in
theorem rAdler_any (s : ByteArray) (w : World) (hs : s.size ≤ 9223372036854775807) : Calls Try.prog 14 #[.string s] w fun e w' => e = .returned (.int .u32 (adler s.data.toList : Int)) ∧ w = w' := by
  go_enter Try.func14, Try.ntmps14
  go_wp2_with fail
  go_loop [3, 4, 5] (fun v3 v4 v8 => ∃ k : Nat, k ≤ s.size ∧ v8 = .int .i64 k ∧ v3 = .int .u32 ((adGo (1, 0) (s.data.toList.take k)).1 : Nat) ∧ v4 = .int .u32 ((adGo (1, 0) (s.data.toList.take k)).2 : Nat)) (fun _ _ v8 => s.size - (intOf v8).toNat)
  case atStart => exact ⟨0, by omega, rfl, rfl, rfl⟩
  case round =>
    obtain ⟨k, hk, rfl, rfl, rfl⟩ := hrel
    obtain ⟨ha, hb⟩ := adGo_lt (s.data.toList.take k) (1, 0) (by decide) (by decide)
    by_cases hlt : k < s.size
    · have HS := Lib.hid (adGo_take s k hlt)
      have hbt : s[k].toNat < 256 := s[k].toNat_lt
      obtain ⟨a, haa⟩ : ∃ a, (adGo (1, 0) (s.data.toList.take k)).1 = a := ⟨_, rfl⟩
      obtain ⟨b, hbb⟩ : ∃ b, (adGo (1, 0) (s.data.toList.take k)).2 = b := ⟨_, rfl⟩
      rw [haa] at ha HS ⊢
      rw [hbb] at hb HS ⊢
      clear haa hbb
      go_wp2_with fail
      go_round
      case rel => exact ⟨k + 1, by omega, by go_num, by rw [HS.out]; go_num, by rw [HS.out]; go_num⟩
      case measure => simp [intOf]; omega
    · obtain rfl : k = s.size := by omega
      have HA := Lib.hid (take_all s)
      obtain ⟨a, haa⟩ : ∃ a, (adGo (1, 0) (s.data.toList.take s.size)).1 = a := ⟨_, rfl⟩
      obtain ⟨b, hbb⟩ : ∃ b, (adGo (1, 0) (s.data.toList.take s.size)).2 = b := ⟨_, rfl⟩
      rw [haa] at ha ⊢
      rw [hbb] at hb ⊢
      have HR : Hid (((b * 65536 + a : Nat) : Int) = adler s.data.toList) := Lib.hid (by rw [← haa, ← hbb, HA.out]; rfl)
      clear haa hbb
      go_wp2_with fail
      go_ret
      exact ⟨ret32 (by rw [← HR.out]; omega), rfl⟩

theorem fnv_take (s : ByteArray) (k : Nat) (h : k < s.size) : fnvGo 14695981039346656037 (s.data.toList.take (k + 1)) = (fnvGo 14695981039346656037 (s.data.toList.take k) ^^^ s[k].toNat) * 1099511628211 % 18446744073709551616 := by
  rw [take_snoc s k h, fnvGo_snoc]

set_option maxHeartbeats 1000000 in
theorem fnv_any (s : ByteArray) (w : World) (hs : s.size ≤ 9223372036854775807) : Calls Try.prog 15 #[.string s] w fun e w' => e = .returned (.int .u64 (fnv s.data.toList : Int)) ∧ w = w' := by
  go_enter Try.func15, Try.ntmps15
  go_wp2_with fail
  go_loop [3, 7] (fun v3 v7 => ∃ k : Nat, k ≤ s.size ∧ v7 = .int .i64 k ∧ v3 = .int .u64 (fnvGo 14695981039346656037 (s.data.toList.take k) : Nat)) (fun _ v7 => s.size - (intOf v7).toNat)
  case atStart => exact ⟨0, by omega, rfl, rfl⟩
  case round =>
    obtain ⟨k, hk, rfl, rfl⟩ := hrel
    have hc := fnvGo_lt (s.data.toList.take k) 14695981039346656037 (by omega)
    by_cases hlt : k < s.size
    · have HS := Lib.hid (fnv_take s k hlt)
      have hbt : s[k].toNat < 256 := s[k].toNat_lt
      obtain ⟨c, hcc⟩ : ∃ c, fnvGo 14695981039346656037 (s.data.toList.take k) = c := ⟨_, rfl⟩
      rw [hcc] at hc HS ⊢
      clear hcc
      obtain ⟨v, hv⟩ : ∃ v, c ^^^ s[k].toNat = v := ⟨_, rfl⟩
      have hvlt : v < 18446744073709551616 := by rw [← hv]; exact Nat.xor_lt_two_pow (n := 64) (by omega) (by omega)
      have hx : bits .xor .u64 (c : Int) (s[k].toNat : Int) = (v : Int) := by
        rw [← hv]
        exact u64_xor_nat c s[k].toNat hc (by omega)
      rw [hv] at HS
      have hm : IntKind.u64.wrap ((v : Int) * 1099511628211) = ((v * 1099511628211 % 18446744073709551616 : Nat) : Int) := by
        rw [IntKind.wrap_u64]; omega
      clear hv
      go_wp2_with fail
      go_round
      case rel => exact ⟨k + 1, by omega, by go_num, by rw [HS.out]; go_num⟩
      case measure => simp [intOf]; omega
    · obtain rfl : k = s.size := by omega
      have HA := Lib.hid (take_all s)
      go_wp2_with fail
      go_ret
      exact ⟨ret64 (by rw [HA.out]; rfl), rfl⟩

set_option maxHeartbeats 1000000 in
theorem rFnv_any (s : ByteArray) (w : World) (hs : s.size ≤ 9223372036854775807) : Calls Try.prog 16 #[.string s] w fun e w' => e = .returned (.int .u64 (fnv s.data.toList : Int)) ∧ w = w' := by
  go_enter Try.func16, Try.ntmps16
  go_wp2_with fail
  go_loop [3, 4] (fun v3 v7 => ∃ k : Nat, k ≤ s.size ∧ v7 = .int .i64 k ∧ v3 = .int .u64 (fnvGo 14695981039346656037 (s.data.toList.take k) : Nat)) (fun _ v7 => s.size - (intOf v7).toNat)
  case atStart => exact ⟨0, by omega, rfl, rfl⟩
  case round =>
    obtain ⟨k, hk, rfl, rfl⟩ := hrel
    have hc := fnvGo_lt (s.data.toList.take k) 14695981039346656037 (by omega)
    by_cases hlt : k < s.size
    · have HS := Lib.hid (fnv_take s k hlt)
      have hbt : s[k].toNat < 256 := s[k].toNat_lt
      obtain ⟨c, hcc⟩ : ∃ c, fnvGo 14695981039346656037 (s.data.toList.take k) = c := ⟨_, rfl⟩
      rw [hcc] at hc HS ⊢
      clear hcc
      obtain ⟨v, hv⟩ : ∃ v, c ^^^ s[k].toNat = v := ⟨_, rfl⟩
      have hvlt : v < 18446744073709551616 := by rw [← hv]; exact Nat.xor_lt_two_pow (n := 64) (by omega) (by omega)
      have hx : bits .xor .u64 (c : Int) (s[k].toNat : Int) = (v : Int) := by
        rw [← hv]
        exact u64_xor_nat c s[k].toNat hc (by omega)
      rw [hv] at HS
      have hm : IntKind.u64.wrap ((v : Int) * 1099511628211) = ((v * 1099511628211 % 18446744073709551616 : Nat) : Int) := by
        rw [IntKind.wrap_u64]; omega
      clear hv
      go_wp2_with fail
      go_round
      case rel => exact ⟨k + 1, by omega, by go_num, by rw [HS.out]; go_num⟩
      case measure => simp [intOf]; omega
    · obtain rfl : k = s.size := by omega
      have HA := Lib.hid (take_all s)
      go_wp2_with fail
      go_ret
      exact ⟨ret64 (by rw [HA.out]; rfl), rfl⟩

end Go.Proofs.Ytokdbpalkfghaaa.Dig
