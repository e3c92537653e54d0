/-
  The reference of layer 8: Inverse.
-/
import Derived.Test.YtcmaoomcdmjimaaRMatF
import Derived.Test.YtcmaoomcdmjimaaMatE
namespace Go.Proofs.Ytcmaoomcdmjimaa.Mat
open Go.RowKit Go.Proofs.Ytcmaoomcdmjimaa Go.Proofs.Ytcmaoomcdmjimaa.NumPure Go.Proofs.Ytcmaoomcdmjimaa.MatPure

theorem el_in {c d : Int} (hd : d ≠ 0) (h : -1048576 ≤ ratU (c * 65536) d ∧ ratU (c * 65536) d ≤ 1048576) :
    elV (decide (c < 0) != decide (d < 0)) c.natAbs d.natAbs = .tuple #[.int .i64 (ratU (c * 65536) d), .bool true] := by
  have e1 : decide (c * 65536 < 0) = decide (c < 0) := by by_cases hc : c < 0 <;> simp [hc] <;> omega
  have e2 : (c * 65536).natAbs * 65536 = c.natAbs * 2 ^ 32 := by rw [Int.natAbs_mul, show Int.natAbs 65536 = 65536 from rfl]; omega
  unfold ratU at h ⊢
  rw [if_neg hd, e1, e2] at h ⊢
  generalize (decide (c < 0) != decide (d < 0)) = neg at *
  obtain ⟨q, hq⟩ : ∃ q, rnd neg (c.natAbs * 2 ^ 32) d.natAbs = q := ⟨_, rfl⟩
  rw [hq] at h ⊢
  have h2 : q ≤ 1048576 := by cases neg <;> simp [sgn] at h <;> omega
  rw [el_yes hq h2]
  cases neg <;> simp [sgn] <;> omega

theorem el_out {c d : Int} (hd : d ≠ 0) (h : ¬ (-1048576 ≤ ratU (c * 65536) d ∧ ratU (c * 65536) d ≤ 1048576)) :
    elV (decide (c < 0) != decide (d < 0)) c.natAbs d.natAbs = .tuple #[.int .i64 0, .bool false] := by
  have e1 : decide (c * 65536 < 0) = decide (c < 0) := by by_cases hc : c < 0 <;> simp [hc] <;> omega
  have e2 : (c * 65536).natAbs * 65536 = c.natAbs * 2 ^ 32 := by rw [Int.natAbs_mul, show Int.natAbs 65536 = 65536 from rfl]; omega
  unfold ratU at h
  rw [if_neg hd, e1, e2] at h
  generalize (decide (c < 0) != decide (d < 0)) = neg at *
  apply el_no
  generalize rnd neg (c.natAbs * 2 ^ 32) d.natAbs = q at *
  cases neg <;> simp [sgn] at h <;> omega

set_option maxHeartbeats 4000000 in
set_option maxRecDepth 100000 in
theorem rInverse_any (m : Nat → Int) (w : World) : Calls Try.prog 14 #[.agg (ac 9 m)] w fun e w' => e = .returned (.tuple #[.agg (ac 9 (invM m)), .int .i64 (invX m)]) ∧ Below w.heap.size w w' := by
  obtain ⟨B, hB⟩ : ∃ B, B = w.heap.size := ⟨_, rfl⟩
  rw [← hB]
  obtain ⟨W1, hW1⟩ : ∃ W, W = ((w.alloc (.cells (ac 9 m) 22)).alloc (.cells (ac 9 fun _ => 0) 22)).alloc (.cells (ac 9 fun _ => 0) 22) := ⟨_, rfl⟩
  have T0 : Three B w.heap.size (w.heap.size + 1) (w.heap.size + 2) w (ac 9 m) (ac 9 fun _ => 0) (ac 9 fun _ => 0) W1 := by
    rw [hW1]
    have a1 := ((Blk.new w 22 (ac 9 m)).alloc (.cells (ac 9 fun _ => 0) 22)).alloc (.cells (ac 9 fun _ => 0) 22)
    have a2 := (Blk.new (w.alloc (.cells (ac 9 m) 22)) 22 (ac 9 fun _ => 0)).alloc (.cells (ac 9 fun _ => 0) 22)
    have a3 := Blk.new ((w.alloc (.cells (ac 9 m) 22)).alloc (.cells (ac 9 fun _ => 0) 22)) 22 (ac 9 fun _ => 0)
    have e2 : (w.alloc (.cells (ac 9 m) 22)).heap.size = w.heap.size + 1 := by simp
    have e3 : ((w.alloc (.cells (ac 9 m) 22)).alloc (.cells (ac 9 fun _ => 0) 22)).heap.size = w.heap.size + 2 := by simp
    rw [e2] at a2
    rw [e3] at a3
    exact ⟨a1, a2, a3, by rw [hB]; exact (((Below.refl _ _).alloc (Nat.le_refl _) _).alloc (by simp) _).alloc (by simp; omega) _, by omega, by omega, by omega⟩
  go_enter Try.func14, Try.ntmps14
  have HL := T0.1
  rw [hW1] at HL
  go_wp2_with (first | (refine wpList_alloc9 rfl rfl ?_) | (refine wpList_load_row rfl _ _ rfl w.heap.size rfl 22 (ac 9 m) (0, 0) _ HL Try.underlying22 rfl info9 ?_))
  rw [← hW1]
  obtain ⟨g1, e1⟩ : ∃ g, g = w.heap.size := ⟨_, rfl⟩
  obtain ⟨g2, e2⟩ : ∃ g, g = w.heap.size + 1 := ⟨_, rfl⟩
  obtain ⟨g3, e3⟩ : ∃ g, g = w.heap.size + 2 := ⟨_, rfl⟩
  rw [← e3, ← e2, ← e1]
  rw [← e3, ← e2, ← e1] at T0
  clear hW1 hB e1 e2 e3 HL
  cases hm : okM m with
  | false =>
    have hM : invM m = fun _ => 0 := by unfold invM; rw [hm]; rfl
    have hX : invX m = 2 := by unfold invX; rw [hm]; rfl
    refine (rCheck_bad m hm _).mono ?_
    rintro e w1 ⟨rfl, hb1⟩
    have T1 := T0.below hb1
    have HM : Hid (Value.tuple #[.agg (ac 9 fun _ => 0), .int .i64 2] = .tuple #[.agg (ac 9 (invM m)), .int .i64 (invX m)]) := Lib.hid (by rw [hM, hX])
    clear T0 hb1 hM hX hm
    go_wp2_with (first
      | (refine wpList_load_row rfl _ _ rfl g3 rfl 22 (ac 9 fun _ => 0) (0, 0) _ T1.2.2.1 Try.underlying22 rfl info9 ?_)
      | (refine wpList_store_row rfl _ _ _ rfl g2 (ac 9 fun _ => 0) rfl rfl 22 (ac 9 fun _ => 0) T1.2.1 info9 ac_same (ac_one 9 _) ?_))
    refine bodyPost_ret (v := .tuple #[.agg (ac 9 fun _ => 0), .int .i64 2]) (results_two9 rfl _ _ g2 (fun _ => 0) rfl _ rfl (setRow_heap _ _ (ac 9 fun _ => 0) _ _ _ T1.2.1)) rfl ⟨by rw [HM.out], ?_⟩
    exact below_setRow T1.2.2.2.1 (by have := T1.2.2.2.2; omega) _
  | true =>
    refine (rCheck_ok m hm _).mono ?_
    rintro e w1 ⟨rfl, hb1⟩
    have T1 := T0.below hb1
    have HA := Lib.hid hm
    have hd := det9_in m hm
    obtain ⟨d, hdd⟩ : ∃ d, d = det9 m := ⟨_, rfl⟩
    have HE := fun W => rExact_any m hm W
    rw [← hdd] at hd HE
    clear T0 hb1 hm
    go_wp2_with (refine wpList_load_row rfl _ _ rfl g1 rfl 22 (ac 9 m) (0, 0) _ T1.1 Try.underlying22 rfl info9 ?_)
    refine (HE _).mono ?_
    rintro e w2 ⟨rfl, hb3⟩
    have T2 := T1.below hb3
    clear T1 hb3 HE
    by_cases hz : d = 0
    · have hM : invM m = fun _ => 0 := by unfold invM; rw [HA.out, ← hdd, if_pos hz]; rfl
      have hX : invX m = 17 := by unfold invX; rw [HA.out, ← hdd, if_pos hz]; rfl
      have HM : Hid (Value.tuple #[.agg (ac 9 fun _ => 0), .int .i64 17] = .tuple #[.agg (ac 9 (invM m)), .int .i64 (invX m)]) := Lib.hid (by rw [hM, hX])
      clear hM hX hdd
      subst hz
      go_wp2_with (first
        | (refine wpList_load_row rfl _ _ rfl g3 rfl 22 (ac 9 fun _ => 0) (0, 0) _ T2.2.2.1 Try.underlying22 rfl info9 ?_)
        | (refine wpList_store_row rfl _ _ _ rfl g2 (ac 9 fun _ => 0) rfl rfl 22 (ac 9 fun _ => 0) T2.2.1 info9 ac_same (ac_one 9 _) ?_))
      refine bodyPost_ret (v := .tuple #[.agg (ac 9 fun _ => 0), .int .i64 17]) (results_two9 rfl _ _ g2 (fun _ => 0) rfl _ rfl (setRow_heap _ _ (ac 9 fun _ => 0) _ _ _ T2.2.1)) rfl ⟨by rw [HM.out], ?_⟩
      exact below_setRow T2.2.2.2.1 (by have := T2.2.2.2.2; omega) _
    · have tz : (d == 0) = false := by simpa using hz
      have HZ := Lib.hid hz
      have HD := Lib.hid hdd
      clear hz hdd
      rw [← upTo_none 9 (invE m)] at T2
      go_wp2_with fail
      go_loopw [6] (fun v6 wr => ∃ i : Nat, i ≤ 3 ∧ v6 = .int .i64 i ∧ Three B g1 g2 g3 w (ac 9 m) (ac 9 fun _ => 0) (ac 9 (upTo (invE m) (3 * i))) wr ∧ Hid (∀ k, k < 3 * i → -1048576 ≤ invE m k ∧ invE m k ≤ 1048576)) (fun v6 _ => 3 - (intOf v6).toNat)
      case atStart => exact ⟨0, by omega, rfl, T2, Lib.hid (by intro k hk; omega)⟩
      case round =>
        clear T2
        obtain ⟨i, hi, rfl, H3, HK⟩ := hrel
        by_cases hlt : i < 3
        · have ti : decide ((i : Int) < 3) = true := by simp; omega
          go_wp2_with fail
          go_loopw [7] (fun v7 wr => ∃ j : Nat, j ≤ 3 ∧ v7 = .int .i64 j ∧ Three B g1 g2 g3 w (ac 9 m) (ac 9 fun _ => 0) (ac 9 (upTo (invE m) (3 * i + j))) wr ∧ Hid (∀ k, k < 3 * i + j → -1048576 ≤ invE m k ∧ invE m k ≤ 1048576)) (fun v7 _ => 3 - (intOf v7).toNat)
          case atStart => exact ⟨0, by omega, rfl, H3, HK⟩
          case round =>
            clear H3 HK
            obtain ⟨j, hj, rfl, H4, HK⟩ := hrel
            by_cases hlt2 : j < 3
            · have tj : decide ((j : Int) < 3) = true := by simp; omega
              have bc := cof_in m HA.out j i
              have HF : Hid (ratU (cof m j i * 65536) d = invE m (3 * i + j)) := Lib.hid (by unfold invE; rw [← HD.out, show (3 * i + j) % 3 = j by omega, show (3 * i + j) / 3 = i by omega])
              have hc := fun W => rCof_any m HA.out j i hlt2 hlt W
              have HS := Lib.hid (upTo_set 9 (invE m) (3 * i + j))
              go_wp2_with (refine wpList_load_row rfl _ _ rfl g1 rfl 22 (ac 9 m) (0, 0) _ H4.1 Try.underlying22 rfl info9 ?_)
              refine (hc _).mono ?_
              rintro e w4 ⟨rfl, hb5⟩
              have H5 := H4.below hb5
              clear H4 hb5 hc
              go_wp2_with fail
              refine (element_any (cof m j i) d (by omega) (by omega) (by omega) (by omega) HZ.out _).mono ?_
              rintro e w5 ⟨rfl, rfl⟩
              by_cases hin : -1048576 ≤ invE m (3 * i + j) ∧ invE m (3 * i + j) ≤ 1048576
              · have HV : elV (decide (cof m j i < 0) != decide (d < 0)) (cof m j i).natAbs d.natAbs = .tuple #[.int .i64 (invE m (3 * i + j)), .bool true] := by
                  rw [el_in HZ.out (by rw [HF.out]; exact hin), HF.out]
                rw [HV]
                have HK2 : Hid (∀ k, k < 3 * i + (j + 1) → -1048576 ≤ invE m k ∧ invE m k ≤ 1048576) := Lib.hid (by
                  intro k hk
                  by_cases h : k < 3 * i + j
                  · exact HK.out k h
                  · rw [show k = 3 * i + j by omega]; exact hin)
                have c4 := H5.2.2.1.cell (3 * i + j)
                rw [ac_at _ (by omega)] at c4
                have f4 := H5.2.2.1.frozen (3 * i + j)
                clear HV HK bc
                obtain ⟨z, hz⟩ : ∃ z, z = invE m (3 * i + j) := ⟨_, rfl⟩
                rw [← hz] at hin ⊢
                have HZZ := Lib.hid hz
                clear hz
                go_wp2_with fail
                go_roundw
                case rel =>
                  refine ⟨j + 1, by omega, by go_num, ?_, HK2⟩
                  have := H5.set3 (3 * i + j) (.int .i64 (invE m (3 * i + j)))
                  rw [HS.out] at this
                  rw [HZZ.out]
                  exact this
                case measure => simp [intOf]; omega
              · have HV : elV (decide (cof m j i < 0) != decide (d < 0)) (cof m j i).natAbs d.natAbs = .tuple #[.int .i64 0, .bool false] := el_out HZ.out (by rw [HF.out]; exact hin)
                rw [HV]
                have he : okM (invE m) = false := by
                  cases h : okM (invE m) with
                  | false => rfl
                  | true => exact absurd (okM_iff.1 h (3 * i + j) (by omega)) hin
                have hM : invM m = fun _ => 0 := by unfold invM; rw [HA.out, ← HD.out, if_neg HZ.out, he]; rfl
                have hX : invX m = 17 := by unfold invX; rw [HA.out, ← HD.out, if_neg HZ.out, he]; rfl
                have HM : Hid (Value.tuple #[.agg (ac 9 fun _ => 0), .int .i64 17] = .tuple #[.agg (ac 9 (invM m)), .int .i64 (invX m)]) := Lib.hid (by rw [hM, hX])
                clear hM hX he HV HK bc hin
                go_wp2_with (first
                  | (refine wpList_build9 rfl rfl ?_)
                  | (refine wpList_store_row rfl _ _ _ rfl g2 (ac 9 fun _ => 0) rfl rfl 22 (ac 9 fun _ => 0) H5.2.1 info9 ac_same (ac_one 9 _) ?_))
                refine bodyPost_ret (v := .tuple #[.agg (ac 9 fun _ => 0), .int .i64 17]) (results_two9 rfl _ _ g2 (fun _ => 0) rfl _ rfl (setRow_heap _ _ (ac 9 fun _ => 0) _ _ _ H5.2.1)) rfl ⟨by rw [HM.out], ?_⟩
                exact below_setRow H5.2.2.2.1 (by have := H5.2.2.2.2; omega) _
            · obtain rfl : j = 3 := by omega
              go_wp2_with fail
              go_roundw
              case rel => exact ⟨i + 1, by omega, by go_num, by rw [show 3 * (i + 1) = 3 * i + 3 by omega]; exact H4, by rw [show 3 * (i + 1) = 3 * i + 3 by omega]; exact HK⟩
              case measure => simp [intOf]; omega
        · obtain rfl : i = 3 := by omega
          rw [show 3 * 3 = 9 from rfl, upTo_all] at H3
          have he : okM (invE m) = true := okM_iff.2 fun k hk => HK.out k (by omega)
          have hM : invM m = invE m := by unfold invM; rw [HA.out, ← HD.out, if_neg HZ.out, he]; rfl
          have hX : invX m = 0 := by unfold invX; rw [HA.out, ← HD.out, if_neg HZ.out, he]; rfl
          have HM : Hid (Value.tuple #[.agg (ac 9 (invE m)), .int .i64 0] = .tuple #[.agg (ac 9 (invM m)), .int .i64 (invX m)]) := Lib.hid (by rw [hM, hX])
          clear hM hX he HK
          go_wp2_with (first
            | (refine wpList_load_row rfl _ _ rfl g3 rfl 22 (ac 9 (invE m)) (0, 0) _ H3.2.2.1 Try.underlying22 rfl info9 ?_)
            | (refine wpList_store_row rfl _ _ _ rfl g2 (ac 9 (invE m)) rfl rfl 22 (ac 9 fun _ => 0) H3.2.1 info9 ac_same (ac_one 9 _) ?_))
          refine bodyPost_ret (v := .tuple #[.agg (ac 9 (invE m)), .int .i64 0]) (results_two9 rfl _ _ g2 (invE m) rfl _ rfl (setRow_heap _ _ (ac 9 fun _ => 0) _ _ _ H3.2.1)) rfl ⟨by rw [HM.out], ?_⟩
          exact below_setRow H3.2.2.2.1 (by have := H3.2.2.2.2; omega) _

end Go.Proofs.Ytcmaoomcdmjimaa.Mat
