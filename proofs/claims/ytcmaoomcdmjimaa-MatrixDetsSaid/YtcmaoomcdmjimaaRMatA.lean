/-
  The reference of layer 8: Check and Turned.
-/
import Derived.Test.YtcmaoomcdmjimaaMatE
import Derived.Test.YtcmaoomcdmjimaaRef01Fl
namespace Go.Proofs.Ytcmaoomcdmjimaa.Mat
open Go.RowKit Go.Proofs.Ytcmaoomcdmjimaa Go.Proofs.Ytcmaoomcdmjimaa.NumPure Go.Proofs.Ytcmaoomcdmjimaa.MatPure

set_option maxHeartbeats 1000000 in
theorem rCheck_ok (m : Nat → Int) (hm : okM m = true) (w : World) : Calls Try.prog 21 #[.agg (ac 9 m)] w fun e w' => e = .returned (.int .i64 0) ∧ Below w.heap.size w w' := by
  have HM := Lib.hid (okM_iff.1 hm)
  clear hm
  go_enter Try.func21, Try.ntmps21
  go_wp2_with fail
  go_loop [3] (fun v6 => ∃ k : Nat, k ≤ 9 ∧ v6 = .int .i64 k) (fun v6 => 9 - (intOf v6).toNat)
  case atStart => exact ⟨0, by omega, rfl⟩
  case round =>
    obtain ⟨k, hk, rfl⟩ := hrel
    by_cases hlt : k < 9
    · have hcell := ac_at (n := 9) m hlt
      obtain ⟨h1, h2⟩ := HM.out k hlt
      go_wp2_with fail
      go_round
      case rel => exact ⟨k + 1, by omega, by go_num⟩
      case measure => simp [intOf]; omega
    · go_wp2_with fail
      go_ret
      exact ⟨rfl, (Below.refl _ _).alloc (Nat.le_refl _) _⟩

set_option maxHeartbeats 1000000 in
theorem rCheck_bad (m : Nat → Int) (hm : okM m = false) (w : World) : Calls Try.prog 21 #[.agg (ac 9 m)] w fun e w' => e = .returned (.int .i64 2) ∧ Below w.heap.size w w' := by
  have HM := Lib.hid (okM_not.1 hm)
  clear hm
  go_enter Try.func21, Try.ntmps21
  go_wp2_with fail
  go_loop [3] (fun v6 => ∃ k : Nat, k ≤ 9 ∧ v6 = .int .i64 k ∧ ∀ j, j < k → -1048576 ≤ m j ∧ m j ≤ 1048576) (fun v6 => 9 - (intOf v6).toNat)
  case atStart => exact ⟨0, by omega, rfl, fun j hj => by omega⟩
  case round =>
    obtain ⟨k, hk, rfl, hj⟩ := hrel
    have HJ := Lib.hid hj
    clear hj
    by_cases hlt : k < 9
    · have hcell := ac_at (n := 9) m hlt
      by_cases h1 : m k < -1048576
      · go_wp2_with fail
        go_ret
        exact ⟨rfl, (Below.refl _ _).alloc (Nat.le_refl _) _⟩
      · by_cases h2 : 1048576 < m k
        · go_wp2_with fail
          go_ret
          exact ⟨rfl, (Below.refl _ _).alloc (Nat.le_refl _) _⟩
        · go_wp2_with fail
          go_round
          case rel => exact ⟨k + 1, by omega, by go_num, fun j hj => by
            by_cases e : j = k
            · subst e; omega
            · exact HJ.out j (by omega)⟩
          case measure => simp [intOf]; omega
    · obtain rfl : k = 9 := by omega
      exact absurd HJ.out HM.out

set_option maxHeartbeats 2000000 in
set_option maxRecDepth 100000 in
theorem rTurned_any (m : Nat → Int) (w : World) : Calls Try.prog 24 #[.agg (ac 9 m)] w fun e w' => e = .returned (.agg (ac 9 (turnM m))) ∧ Below w.heap.size w w' := by
  obtain ⟨B, hB⟩ : ∃ B, B = w.heap.size := ⟨_, rfl⟩
  rw [← hB]
  go_enter Try.func24, Try.ntmps24
  go_wp2_with (refine wpList_alloc9 rfl rfl ?_)
  rw [← upTo_none 9 (turnM m)]
  go_loopw [4] (fun v6 wr => ∃ i : Nat, i ≤ 3 ∧ v6 = .int .i64 i ∧ wr = ((w.alloc (.cells (ac 9 m) 22)).alloc (.cells (ac 9 (upTo (turnM m) 0)) 22)).alloc (.cells (ac 9 (upTo (turnM m) (3 * i))) 22)) (fun v6 _ => 3 - (intOf v6).toNat)
  case atStart => exact ⟨0, by omega, rfl, rfl⟩
  case round =>
    obtain ⟨i, hi, rfl, rfl⟩ := hrel
    by_cases hlt : i < 3
    · go_wp2_with fail
      go_loopw [5] (fun v9 wr => ∃ j : Nat, j ≤ 3 ∧ v9 = .int .i64 j ∧ wr = ((w.alloc (.cells (ac 9 m) 22)).alloc (.cells (ac 9 (upTo (turnM m) 0)) 22)).alloc (.cells (ac 9 (upTo (turnM m) (3 * i + j))) 22)) (fun v9 _ => 3 - (intOf v9).toNat)
      case atStart => exact ⟨0, by omega, rfl, rfl⟩
      case round =>
        obtain ⟨j, hj, rfl, rfl⟩ := hrel
        by_cases hlt2 : j < 3
        · have h1 := ac_at (n := 9) m (show 3 * j + i < 9 by omega)
          have h2 := ac_at (n := 9) (upTo (turnM m) (3 * i + j)) (show 3 * i + j < 9 by omega)
          have HF : Hid (m (3 * j + i) = turnM m (3 * i + j)) := Lib.hid (by unfold turnM; congr 1; omega)
          have HS := Lib.hid (upTo_set 9 (turnM m) (3 * i + j))
          go_wp2_with fail
          go_roundw
          case rel => exact ⟨j + 1, by omega, by go_num, by rw [HF.out, HS.out]; rfl⟩
          case measure => simp [intOf]; omega
        · obtain rfl : j = 3 := by omega
          go_wp2_with fail
          go_roundw
          case rel => exact ⟨i + 1, by omega, by go_num, by rw [show 3 * (i + 1) = 3 * i + 3 by omega]⟩
          case measure => simp [intOf]; omega
    · obtain rfl : i = 3 := by omega
      rw [show 3 * 3 = 9 from rfl, upTo_all]
      go_wp2_with (first
        | (refine wpList_load_row rfl _ _ rfl (w.heap.size + 1 + 1) rfl 22 (ac 9 (turnM m)) (0, 0) _ (heap3_new _ _ _ _) Try.underlying22 rfl info9 ?_)
        | (refine wpList_store_row rfl _ _ _ rfl (w.heap.size + 1) (ac 9 (turnM m)) rfl rfl 22 (ac 9 (upTo (turnM m) 0)) (heap3_mid _ _ _ _) info9 ac_same (ac_one 9 _) ?_))
      refine bodyPost_ret (v := .agg (ac 9 (turnM m))) (results_cell_row rfl _ _ (w.heap.size + 1) 22 (ac 9 (turnM m)) (0, 0) _ rfl (setRow_heap _ _ (ac 9 (upTo (turnM m) 0)) _ _ _ (heap3_mid _ _ _ _)) Try.underlying22 rfl info9) rfl ⟨rfl, ?_⟩
      rw [hB]
      exact below_setRow ((((Below.refl _ _).alloc (Nat.le_refl _) _).alloc (by simp) _).alloc (by simp; omega) _) (by omega) _

end Go.Proofs.Ytcmaoomcdmjimaa.Mat
