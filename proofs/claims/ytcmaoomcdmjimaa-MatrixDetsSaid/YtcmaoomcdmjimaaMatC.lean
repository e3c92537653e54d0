/-
  Package matrix: Apply.
-/
import Derived.Test.YtcmaoomcdmjimaaMatB
namespace Go.Proofs.Ytcmaoomcdmjimaa.Mat
open Go.RowKit Go.Proofs.Ytcmaoomcdmjimaa Go.Proofs.Ytcmaoomcdmjimaa.NumPure Go.Proofs.Ytcmaoomcdmjimaa.MatPure

def lim (x : Int) : Int := clp x (-1073741824) 1073741824
def app9 (m v : Nat → Int) (i : Nat) : Int := dvr (m (3 * i) * lim (v 0) + m (3 * i + 1) * lim (v 1) + m (3 * i + 2) * lim (v 2)) 65536
def appM (m v : Nat → Int) : Nat → Int := if okM m then app9 m v else fun _ => 0
def asum (m v : Nat → Int) (i : Nat) : Nat → Int
  | 0 => 0
  | k + 1 => asum m v i k + m (3 * i + k) * lim (v k)
theorem asum_three (m v : Nat → Int) (i : Nat) : dvr (asum m v i 3) 65536 = app9 m v i := by
  unfold app9
  simp only [asum, Nat.add_zero, Int.zero_add]
theorem lim_in (x : Int) : -1073741824 ≤ lim x ∧ lim x ≤ 1073741824 := by unfold lim clp; omega
theorem aprod_in {x y : Int} (x0 : -1048576 ≤ x) (x1 : x ≤ 1048576) (y0 : -1073741824 ≤ y) (y1 : y ≤ 1073741824) : -1125899906842624 ≤ x * y ∧ x * y ≤ 1125899906842624 := by
  have := abs_mul_le x0 x1 (by omega) 1073741824 y0 y1 (by omega)
  omega
theorem asum_in (m v : Nat → Int) (hm : okM m = true) (i : Nat) (hi : i < 3) : ∀ k : Nat, k ≤ 3 → -(1125899906842624 * (k : Int)) ≤ asum m v i k ∧ asum m v i k ≤ 1125899906842624 * (k : Int)
  | 0, _ => by simp [asum]
  | k + 1, hk => by
    have h := asum_in m v hm i hi k (by omega)
    have h1 := okM_iff.1 hm (3 * i + k) (by omega)
    have h2 := lim_in (v k)
    have h3 := aprod_in h1.1 h1.2 h2.1 h2.2
    simp only [asum]
    omega

set_option maxHeartbeats 4000000 in
set_option maxRecDepth 100000 in
theorem apply_any (m v : Nat → Int) (w : World) : Calls Try.prog 11 #[.agg (ac 9 m), .agg (ac 3 v)] w fun e w' => e = .returned (.agg (ac 3 (appM m v))) ∧ Below w.heap.size w w' := by
  obtain ⟨B, hB⟩ : ∃ B, B = w.heap.size := ⟨_, rfl⟩
  rw [← hB]
  go_enter Try.func11, Try.ntmps11
  go_wp2_with (first | (refine wpList_alloc3 rfl rfl ?_) | (refine wpList_load_row rfl _ _ rfl w.heap.size rfl 22 (ac 9 m) (0, 0) _ (heap4_1 _ _ _ _ _) Try.underlying22 rfl info9 ?_))
  rw [← upTo_none 3 (app9 m v)]
  have H0 := Four.new 23 w (ac 9 m) (ac 3 v) (ac 3 (upTo (app9 m v) 0)) (ac 3 (upTo (app9 m v) 0))
  obtain ⟨W, hW⟩ : ∃ W, W = (((w.alloc (.cells (ac 9 m) 22)).alloc (.cells (ac 3 v) 23)).alloc (.cells (ac 3 (upTo (app9 m v) 0)) 23)).alloc (.cells (ac 3 (upTo (app9 m v) 0)) 23) := ⟨_, rfl⟩
  obtain ⟨g4, e4⟩ : ∃ g, g = w.heap.size + 1 + 1 + 1 := ⟨_, rfl⟩
  obtain ⟨g3, e3⟩ : ∃ g, g = w.heap.size + 1 + 1 := ⟨_, rfl⟩
  obtain ⟨g2, e2⟩ : ∃ g, g = w.heap.size + 1 := ⟨_, rfl⟩
  obtain ⟨g1, e1⟩ : ∃ g, g = w.heap.size := ⟨_, rfl⟩
  rw [← hW, ← e4, ← e3, ← e2, ← hB] at H0
  rw [← hW, ← e4, ← e3, ← e2, ← e1]
  have hg1 : B = g1 := hB.trans e1.symm
  rw [show Four 23 B B g2 g3 g4 w (ac 9 m) (ac 3 v) (ac 3 (upTo (app9 m v) 0)) (ac 3 (upTo (app9 m v) 0)) W = Four 23 B g1 g2 g3 g4 w (ac 9 m) (ac 3 v) (ac 3 (upTo (app9 m v) 0)) (ac 3 (upTo (app9 m v) 0)) W by rw [← hg1]] at H0
  clear hW e4 e3 e2 e1 hB hg1
  cases hm : okM m with
  | false =>
    have hM : appM m v = fun _ => 0 := by unfold appM; rw [hm]; rfl
    refine (check_bad m hm _).mono ?_
    rintro e w1 ⟨rfl, hb1⟩
    have H1 := H0.below hb1
    have HM : Hid (ac 3 (upTo (app9 m v) 0) = ac 3 (appM m v)) := Lib.hid (by rw [hM, upTo_none])
    clear H0 hb1 hM
    go_wp2_with (first
      | (refine wpList_load_row rfl _ _ rfl g4 rfl 23 (ac 3 (upTo (app9 m v) 0)) (0, 0) _ H1.2.2.2.1 Try.underlying23 rfl info3 ?_)
      | (refine wpList_store_row rfl _ _ _ rfl g3 (ac 3 (upTo (app9 m v) 0)) rfl rfl 23 (ac 3 (upTo (app9 m v) 0)) H1.2.2.1 info3 ac_same (ac_one 3 _) ?_))
    refine bodyPost_ret (v := .agg (ac 3 (upTo (app9 m v) 0))) (results_cell_row rfl _ _ g3 23 (ac 3 (upTo (app9 m v) 0)) (0, 0) _ rfl (setRow_heap _ _ (ac 3 (upTo (app9 m v) 0)) _ _ _ H1.2.2.1) Try.underlying23 rfl info3) rfl ⟨by rw [HM.out], ?_⟩
    exact below_setRow H1.2.2.2.2.1 (by have := H1.2.2.2.2.2; omega) _
  | true =>
    have hM : appM m v = app9 m v := by unfold appM; rw [hm]; rfl
    refine (check_ok m hm _).mono ?_
    rintro e w1 ⟨rfl, hb1⟩
    have H1 := H0.below hb1
    have HM := Lib.hid hM
    have HA := Lib.hid hm
    clear H0 hb1 hM hm
    go_wp2_with fail
    go_loopw [13] (fun v19 wr => ∃ i : Nat, i ≤ 3 ∧ v19 = .int .i64 i ∧ Four 23 B g1 g2 g3 g4 w (ac 9 m) (ac 3 v) (ac 3 (upTo (app9 m v) 0)) (ac 3 (upTo (app9 m v) i)) wr) (fun v19 _ => 3 - (intOf v19).toNat)
    case atStart => exact ⟨0, by omega, rfl, H1⟩
    case round =>
      clear H1
      obtain ⟨i, hi, rfl, H4⟩ := hrel
      by_cases hlt : i < 3
      · have ti : decide ((i : Int) < 3) = true := by simp; omega
        go_wp2_with fail
        go_loopw [7, 16] (fun v8 v25 wr => ∃ k : Nat, k ≤ 3 ∧ v25 = .int .i64 k ∧ v8 = .int .i64 (asum m v i k) ∧ Four 23 B g1 g2 g3 g4 w (ac 9 m) (ac 3 v) (ac 3 (upTo (app9 m v) 0)) (ac 3 (upTo (app9 m v) i)) wr) (fun _ v25 _ => 3 - (intOf v25).toNat)
        case atStart => exact ⟨0, by omega, rfl, rfl, H4⟩
        case round =>
          clear H4
          obtain ⟨k, hk, rfl, rfl, H5⟩ := hrel
          by_cases hlt3 : k < 3
          · have c1 := H5.1.cell (3 * i + k)
            rw [ac_at _ (by omega)] at c1
            have c2 := H5.2.1.cell k
            rw [ac_at _ (by omega)] at c2
            have b1 := okM_iff.1 HA.out (3 * i + k) (by omega)
            have b2 := lim_in (v k)
            have b3 := aprod_in b1.1 b1.2 b2.1 b2.2
            have b4 := asum_in m v HA.out i hlt k (by omega)
            have HP : Hid (asum m v i (k + 1) = asum m v i k + m (3 * i + k) * lim (v k)) := Lib.hid rfl
            have i1 : (0 : Int) ≤ 3 * (i : Int) + (k : Int) := by omega
            have i2 : 3 * (i : Int) + (k : Int) < 9 := by omega
            have i3 : (0 : Int) ≤ (k : Int) := by omega
            have i4 : (k : Int) < 3 := by omega
            have i5 : (3 * (i : Int) + (k : Int)).toNat = 3 * i + k := by omega
            have i7 : IntKind.i64.wrap (3 * (i : Int)) = 3 * (i : Int) := IntWalk.i64_in _ (by omega)
            have i9 : IntKind.i64.wrap (3 * (i : Int) + (k : Int)) = 3 * (i : Int) + (k : Int) := IntWalk.i64_in _ (by omega)
            have i11 : IntKind.i64.wrap (m (3 * i + k) * lim (v k)) = m (3 * i + k) * lim (v k) := IntWalk.i64_in _ (by omega)
            have i12 : IntKind.i64.wrap (asum m v i k + m (3 * i + k) * lim (v k)) = asum m v i k + m (3 * i + k) * lim (v k) := IntWalk.i64_in _ (by omega)
            go_wp2_with fail
            go_quiet ((go_at_call 25; exact quiet_left (Num.clamp_is (v k) _ _ (lim (v k)) rfl _)))
            go_wp2_with fail
            go_roundw
            case rel => exact ⟨k + 1, by omega, by go_num, by rw [HP.out], H5.drewN _⟩
            case measure => simp [intOf]; omega
          · obtain rfl : k = 3 := by omega
            have b4 := asum_in m v HA.out i hlt 3 (by omega)
            have hd := Num.div_is (asum m v i 3) 65536 _ (asum_three m v i).symm (by omega) (by omega) (by omega) (by omega)
            have c4 := H5.2.2.2.1.cell i
            rw [ac_at _ (by omega)] at c4
            have f4 := H5.2.2.2.1.frozen i
            have HS := Lib.hid (upTo_set 3 (app9 m v) i)
            clear b4
            go_wp2_with fail
            refine (hd _).mono ?_
            rintro e w5 ⟨rfl, rfl⟩
            go_wp2_with fail
            go_roundw
            case rel =>
              refine ⟨i + 1, by omega, by go_num, ?_⟩
              have := H5.set4 i (.int .i64 (app9 m v i))
              rw [HS.out] at this
              exact this
            case measure => simp [intOf]; omega
      · obtain rfl : i = 3 := by omega
        rw [upTo_all] at H4
        go_wp2_with (first
          | (refine wpList_load_row rfl _ _ rfl g4 rfl 23 (ac 3 (app9 m v)) (0, 0) _ H4.2.2.2.1 Try.underlying23 rfl info3 ?_)
          | (refine wpList_store_row rfl _ _ _ rfl g3 (ac 3 (app9 m v)) rfl rfl 23 (ac 3 (upTo (app9 m v) 0)) H4.2.2.1 info3 ac_same (ac_one 3 _) ?_))
        refine bodyPost_ret (v := .agg (ac 3 (app9 m v))) (results_cell_row rfl _ _ g3 23 (ac 3 (app9 m v)) (0, 0) _ rfl (setRow_heap _ _ (ac 3 (upTo (app9 m v) 0)) _ _ _ H4.2.2.1) Try.underlying23 rfl info3) rfl ⟨by rw [HM.out], ?_⟩
        exact below_setRow H4.2.2.2.2.1 (by have := H4.2.2.2.2.2; omega) _

end Go.Proofs.Ytcmaoomcdmjimaa.Mat
