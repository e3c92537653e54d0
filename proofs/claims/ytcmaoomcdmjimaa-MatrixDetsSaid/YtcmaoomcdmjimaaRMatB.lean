/-
  The reference of layer 8: Mul.
-/
import Derived.Test.YtcmaoomcdmjimaaRMatA
import Derived.Test.YtcmaoomcdmjimaaRef01Un
namespace Go.Proofs.Ytcmaoomcdmjimaa.Mat
open Go.RowKit Go.Proofs.Ytcmaoomcdmjimaa Go.Proofs.Ytcmaoomcdmjimaa.NumPure Go.Proofs.Ytcmaoomcdmjimaa.MatPure

set_option maxHeartbeats 4000000 in
set_option maxRecDepth 100000 in
theorem rMul_any (a b : Nat → Int) (w : World) : Calls Try.prog 22 #[.agg (ac 9 a), .agg (ac 9 b)] w fun e w' => e = .returned (.agg (ac 9 (mulM a b))) ∧ Below w.heap.size w w' := by
  obtain ⟨B, hB⟩ : ∃ B, B = w.heap.size := ⟨_, rfl⟩
  rw [← hB]
  go_enter Try.func22, Try.ntmps22
  go_wp2_with (first | (refine wpList_alloc9 rfl rfl ?_) | (refine wpList_load_row rfl _ _ rfl w.heap.size rfl 22 (ac 9 a) (0, 0) _ (heap4_1 _ _ _ _ _) Try.underlying22 rfl info9 ?_))
  rw [← upTo_none 9 (mul9 a b)]
  have H0 := Four.new 22 w (ac 9 a) (ac 9 b) (ac 9 (upTo (mul9 a b) 0)) (ac 9 (upTo (mul9 a b) 0))
  obtain ⟨W, hW⟩ : ∃ W, W = (((w.alloc (.cells (ac 9 a) 22)).alloc (.cells (ac 9 b) 22)).alloc (.cells (ac 9 (upTo (mul9 a b) 0)) 22)).alloc (.cells (ac 9 (upTo (mul9 a b) 0)) 22) := ⟨_, rfl⟩
  obtain ⟨g4, e4⟩ : ∃ g, g = w.heap.size + 1 + 1 + 1 := ⟨_, rfl⟩
  obtain ⟨g3, e3⟩ : ∃ g, g = w.heap.size + 1 + 1 := ⟨_, rfl⟩
  obtain ⟨g2, e2⟩ : ∃ g, g = w.heap.size + 1 := ⟨_, rfl⟩
  obtain ⟨g1, e1⟩ : ∃ g, g = w.heap.size := ⟨_, rfl⟩
  rw [← hW, ← e4, ← e3, ← e2, ← hB] at H0
  rw [← hW, ← e4, ← e3, ← e2, ← e1]
  have hg1 : B = g1 := hB.trans e1.symm
  rw [show Four 22 B B g2 g3 g4 w (ac 9 a) (ac 9 b) (ac 9 (upTo (mul9 a b) 0)) (ac 9 (upTo (mul9 a b) 0)) W = Four 22 B g1 g2 g3 g4 w (ac 9 a) (ac 9 b) (ac 9 (upTo (mul9 a b) 0)) (ac 9 (upTo (mul9 a b) 0)) W by rw [← hg1]] at H0
  clear hW e4 e3 e2 e1 hB hg1
  cases ha : okM a with
  | false =>
    have hM : mulM a b = fun _ => 0 := by unfold mulM; rw [ha]; rfl
    refine (rCheck_bad a ha _).mono ?_
    rintro e w1 ⟨rfl, hb1⟩
    have H1 := H0.below hb1
    have HM : Hid (ac 9 (upTo (mul9 a b) 0) = ac 9 (mulM a b)) := Lib.hid (by rw [hM, upTo_none])
    clear H0 hb1 hM
    go_wp2_with (first
      | (refine wpList_load_row rfl _ _ rfl g4 rfl 22 (ac 9 (upTo (mul9 a b) 0)) (0, 0) _ H1.2.2.2.1 Try.underlying22 rfl info9 ?_)
      | (refine wpList_store_row rfl _ _ _ rfl g3 (ac 9 (upTo (mul9 a b) 0)) rfl rfl 22 (ac 9 (upTo (mul9 a b) 0)) H1.2.2.1 info9 ac_same (ac_one 9 _) ?_))
    refine bodyPost_ret (v := .agg (ac 9 (upTo (mul9 a b) 0))) (results_cell_row rfl _ _ g3 22 (ac 9 (upTo (mul9 a b) 0)) (0, 0) _ rfl (setRow_heap _ _ (ac 9 (upTo (mul9 a b) 0)) _ _ _ H1.2.2.1) Try.underlying22 rfl info9) rfl ⟨by rw [HM.out], ?_⟩
    exact below_setRow H1.2.2.2.2.1 (by have := H1.2.2.2.2.2; omega) _
  | true =>
    refine (rCheck_ok a ha _).mono ?_
    rintro e w1 ⟨rfl, hb1⟩
    have H1 := H0.below hb1
    clear H0 hb1
    obtain ⟨c0, c1, c2, c3, c4, c5, c6, c7, c8⟩ := cells9 H1.2.1
    go_wp2_with fail
    clear c0 c1 c2 c3 c4 c5 c6 c7 c8
    cases hb : okM b with
    | false =>
      have hM : mulM a b = fun _ => 0 := by unfold mulM; rw [ha, hb]; rfl
      refine (rCheck_bad b hb _).mono ?_
      rintro e w2 ⟨rfl, hb1⟩
      have H2 := H1.below hb1
      have HM : Hid (ac 9 (upTo (mul9 a b) 0) = ac 9 (mulM a b)) := Lib.hid (by rw [hM, upTo_none])
      clear H1 hb1 hM
      have H1 := H2
      clear H2
      go_wp2_with (first
        | (refine wpList_load_row rfl _ _ rfl g4 rfl 22 (ac 9 (upTo (mul9 a b) 0)) (0, 0) _ H1.2.2.2.1 Try.underlying22 rfl info9 ?_)
        | (refine wpList_store_row rfl _ _ _ rfl g3 (ac 9 (upTo (mul9 a b) 0)) rfl rfl 22 (ac 9 (upTo (mul9 a b) 0)) H1.2.2.1 info9 ac_same (ac_one 9 _) ?_))
      refine bodyPost_ret (v := .agg (ac 9 (upTo (mul9 a b) 0))) (results_cell_row rfl _ _ g3 22 (ac 9 (upTo (mul9 a b) 0)) (0, 0) _ rfl (setRow_heap _ _ (ac 9 (upTo (mul9 a b) 0)) _ _ _ H1.2.2.1) Try.underlying22 rfl info9) rfl ⟨by rw [HM.out], ?_⟩
      exact below_setRow H1.2.2.2.2.1 (by have := H1.2.2.2.2.2; omega) _
    | true =>
      have hM : mulM a b = mul9 a b := by unfold mulM; rw [ha, hb]; rfl
      refine (rCheck_ok b hb _).mono ?_
      rintro e w2 ⟨rfl, hb1⟩
      have H2 := H1.below hb1
      have HM := Lib.hid hM
      have HA := Lib.hid ha
      have HB := Lib.hid hb
      clear H1 hb1 hM ha hb
      go_wp2_with fail
      go_loopw [6] (fun v19 wr => ∃ i : Nat, i ≤ 3 ∧ v19 = .int .i64 i ∧ Four 22 B g1 g2 g3 g4 w (ac 9 a) (ac 9 b) (ac 9 (upTo (mul9 a b) 0)) (ac 9 (upTo (mul9 a b) (3 * i))) wr) (fun v19 _ => 3 - (intOf v19).toNat)
      case atStart => exact ⟨0, by omega, rfl, H2⟩
      case round =>
        clear H2
        obtain ⟨i, hi, rfl, H3⟩ := hrel
        by_cases hlt : i < 3
        · have ti : decide ((i : Int) < 3) = true := by simp; omega
          go_wp2_with fail
          go_loopw [7] (fun v22 wr => ∃ j : Nat, j ≤ 3 ∧ v22 = .int .i64 j ∧ Four 22 B g1 g2 g3 g4 w (ac 9 a) (ac 9 b) (ac 9 (upTo (mul9 a b) 0)) (ac 9 (upTo (mul9 a b) (3 * i + j))) wr) (fun v22 _ => 3 - (intOf v22).toNat)
          case atStart => exact ⟨0, by omega, rfl, H3⟩
          case round =>
            clear H3
            obtain ⟨j, hj, rfl, H4⟩ := hrel
            by_cases hlt2 : j < 3
            · have tj : decide ((j : Int) < 3) = true := by simp; omega
              have c1 := H4.1.cell (3 * i)
              rw [ac_at _ (by omega)] at c1
              have c2 := H4.1.cell (3 * i + 1)
              rw [ac_at _ (by omega)] at c2
              have c3 := H4.1.cell (3 * i + 2)
              rw [ac_at _ (by omega)] at c3
              have d1 := H4.2.1.cell j
              rw [ac_at _ (by omega)] at d1
              have d2 := H4.2.1.cell (3 + j)
              rw [ac_at _ (by omega)] at d2
              have d3 := H4.2.1.cell (6 + j)
              rw [ac_at _ (by omega)] at d3
              have f4 := H4.2.2.2.1.frozen (3 * i + j)
              have c4 := H4.2.2.2.1.cell (3 * i + j)
              rw [ac_at _ (by omega)] at c4
              have HA' := okM_iff.1 HA.out
              have HB' := okM_iff.1 HB.out
              have p1 := prod_in (HA' (3 * i) (by omega)).1 (HA' (3 * i) (by omega)).2 (HB' j (by omega)).1 (HB' j (by omega)).2
              have p2 := prod_in (HA' (3 * i + 1) (by omega)).1 (HA' (3 * i + 1) (by omega)).2 (HB' (3 + j) (by omega)).1 (HB' (3 + j) (by omega)).2
              have p3 := prod_in (HA' (3 * i + 2) (by omega)).1 (HA' (3 * i + 2) (by omega)).2 (HB' (6 + j) (by omega)).1 (HB' (6 + j) (by omega)).2
              clear HA' HB'
              have HV : mul9 a b (3 * i + j) = dvr (a (3 * i) * b j + a (3 * i + 1) * b (3 + j) + a (3 * i + 2) * b (6 + j)) 65536 := by
                unfold mul9
                rw [show (3 * i + j) / 3 = i by omega, show (3 * i + j) % 3 = j by omega]
              obtain ⟨x1, hx1⟩ : ∃ x, a (3 * i) = x := ⟨_, rfl⟩
              obtain ⟨x2, hx2⟩ : ∃ x, a (3 * i + 1) = x := ⟨_, rfl⟩
              obtain ⟨x3, hx3⟩ : ∃ x, a (3 * i + 2) = x := ⟨_, rfl⟩
              obtain ⟨y1, hy1⟩ : ∃ x, b j = x := ⟨_, rfl⟩
              obtain ⟨y2, hy2⟩ : ∃ x, b (3 + j) = x := ⟨_, rfl⟩
              obtain ⟨y3, hy3⟩ : ∃ x, b (6 + j) = x := ⟨_, rfl⟩
              rw [hx1, hy1] at p1
              rw [hx2, hy2] at p2
              rw [hx3, hy3] at p3
              rw [hx1] at c1
              rw [hx2] at c2
              rw [hx3] at c3
              rw [hy1] at d1
              rw [hy2] at d2
              rw [hy3] at d3
              rw [hx1, hx2, hx3, hy1, hy2, hy3] at HV
              obtain ⟨z, hz⟩ : ∃ z, z = mul9 a b (3 * i + j) := ⟨_, rfl⟩
              have hd := fun W => Ref01.div_is (x1 * y1 + x2 * y2 + x3 * y3) 65536 z (hz.trans HV) (by omega) (by omega) (by omega) (by omega) W
              have HZ := Lib.hid hz
              have HS := Lib.hid (upTo_set 9 (mul9 a b) (3 * i + j))
              have i1 : (0 : Int) ≤ 3 * (i : Int) := by omega
              have i2 : 3 * (i : Int) < 9 := by omega
              have i3 : (3 * (i : Int)).toNat = 3 * i := by omega
              have i4 : IntKind.i64.wrap (3 * (i : Int)) = 3 * (i : Int) := IntWalk.i64_in _ (by omega)
              have i5 : (0 : Int) ≤ 3 * (i : Int) + 1 := by omega
              have i6 : 3 * (i : Int) + 1 < 9 := by omega
              have i7 : (3 * (i : Int) + 1).toNat = 3 * i + 1 := by omega
              have i8 : IntKind.i64.wrap (3 * (i : Int) + 1) = 3 * (i : Int) + 1 := IntWalk.i64_in _ (by omega)
              have j5 : (0 : Int) ≤ 3 * (i : Int) + 2 := by omega
              have j6 : 3 * (i : Int) + 2 < 9 := by omega
              have j7 : (3 * (i : Int) + 2).toNat = 3 * i + 2 := by omega
              have j8 : IntKind.i64.wrap (3 * (i : Int) + 2) = 3 * (i : Int) + 2 := IntWalk.i64_in _ (by omega)
              have k1 : (0 : Int) ≤ (j : Int) := by omega
              have k2 : (j : Int) < 9 := by omega
              have k5 : (0 : Int) ≤ 3 + (j : Int) := by omega
              have k6 : 3 + (j : Int) < 9 := by omega
              have k7 : (3 + (j : Int)).toNat = 3 + j := by omega
              have k8 : IntKind.i64.wrap (3 + (j : Int)) = 3 + (j : Int) := IntWalk.i64_in _ (by omega)
              have l5 : (0 : Int) ≤ 6 + (j : Int) := by omega
              have l6 : 6 + (j : Int) < 9 := by omega
              have l7 : (6 + (j : Int)).toNat = 6 + j := by omega
              have l8 : IntKind.i64.wrap (6 + (j : Int)) = 6 + (j : Int) := IntWalk.i64_in _ (by omega)
              have m5 : (0 : Int) ≤ 3 * (i : Int) + (j : Int) := by omega
              have m6 : 3 * (i : Int) + (j : Int) < 9 := by omega
              have m7 : (3 * (i : Int) + (j : Int)).toNat = 3 * i + j := by omega
              have m8 : IntKind.i64.wrap (3 * (i : Int) + (j : Int)) = 3 * (i : Int) + (j : Int) := IntWalk.i64_in _ (by omega)
              have q1 : IntKind.i64.wrap (x1 * y1) = x1 * y1 := IntWalk.i64_in _ (by omega)
              have q2 : IntKind.i64.wrap (x2 * y2) = x2 * y2 := IntWalk.i64_in _ (by omega)
              have q3 : IntKind.i64.wrap (x3 * y3) = x3 * y3 := IntWalk.i64_in _ (by omega)
              have q4 : IntKind.i64.wrap (x1 * y1 + x2 * y2) = x1 * y1 + x2 * y2 := IntWalk.i64_in _ (by omega)
              have q5 : IntKind.i64.wrap (x1 * y1 + x2 * y2 + x3 * y3) = x1 * y1 + x2 * y2 + x3 * y3 := IntWalk.i64_in _ (by omega)
              have hg := H4.2.2.2.2.2
              have far : ∀ (k : Nat) (u v : Value) (g o : Nat), g < g4 → wr.cell? ⟨g, o, none⟩ = some v → ((wr.drewN k).setCell ⟨g4, 3 * i + j, none⟩ u).cell? ⟨g, o, none⟩ = some v := fun k u v g o hl hc =>
                (World.cell?_setCell_far (wr.drewN k) ⟨g4, 3 * i + j, none⟩ ⟨g, o, none⟩ u (by simp; omega)).trans hc
              have HK : Hid (∀ (k : Nat) (u : Value), ((wr.drewN k).setCell ⟨g4, 3 * i + j, none⟩ u).cell? ⟨g1, 3 * i, none⟩ = some (.int .i64 x1) ∧ ((wr.drewN k).setCell ⟨g4, 3 * i + j, none⟩ u).cell? ⟨g1, 3 * i + 1, none⟩ = some (.int .i64 x2) ∧ ((wr.drewN k).setCell ⟨g4, 3 * i + j, none⟩ u).cell? ⟨g1, 3 * i + 2, none⟩ = some (.int .i64 x3) ∧ ((wr.drewN k).setCell ⟨g4, 3 * i + j, none⟩ u).cell? ⟨g2, j, none⟩ = some (.int .i64 y1) ∧ ((wr.drewN k).setCell ⟨g4, 3 * i + j, none⟩ u).cell? ⟨g2, 3 + j, none⟩ = some (.int .i64 y2) ∧ ((wr.drewN k).setCell ⟨g4, 3 * i + j, none⟩ u).cell? ⟨g2, 6 + j, none⟩ = some (.int .i64 y3)) :=
                Lib.hid (fun k u => ⟨far k u _ _ _ (by omega) c1, far k u _ _ _ (by omega) c2, far k u _ _ _ (by omega) c3, far k u _ _ _ (by omega) d1, far k u _ _ _ (by omega) d2, far k u _ _ _ (by omega) d3⟩)
              clear hz hx1 hx2 hx3 hy1 hy2 hy3 HV p1 p2 p3 far hg
              go_wp2_with fail
              go_region_held3 (fun w' => w'.cell? ⟨g1, 3 * i, none⟩ = some (.int .i64 x1) ∧ w'.cell? ⟨g1, 3 * i + 1, none⟩ = some (.int .i64 x2) ∧ w'.cell? ⟨g1, 3 * i + 2, none⟩ = some (.int .i64 x3) ∧ w'.cell? ⟨g2, j, none⟩ = some (.int .i64 y1) ∧ w'.cell? ⟨g2, 3 + j, none⟩ = some (.int .i64 y2) ∧ w'.cell? ⟨g2, 6 + j, none⟩ = some (.int .i64 y3))
                (first | exact ⟨c1, c2, c3, d1, d2, d3⟩ | exact HK.out _ _ | go_keep)
                (first | (go_at_call 27; refine (hd _).mono ?_; rintro e w' ⟨rfl, nq, rfl⟩))
              go_wp2_with fail
              go_roundw
              case rel =>
                refine ⟨j + 1, by omega, by go_num, ?_⟩
                have := (H4.drewN (1 + nq)).set4 (3 * i + j) (.int .i64 (mul9 a b (3 * i + j)))
                rw [HS.out, ← HZ.out] at this
                exact this
              case measure => simp [intOf]; omega
            · obtain rfl : j = 3 := by omega
              go_wp2_with fail
              go_roundw
              case rel => exact ⟨i + 1, by omega, by go_num, by rw [show 3 * (i + 1) = 3 * i + 3 by omega]; exact H4⟩
              case measure => simp [intOf]; omega
        · obtain rfl : i = 3 := by omega
          rw [show 3 * 3 = 9 from rfl, upTo_all] at H3
          go_wp2_with (first
            | (refine wpList_load_row rfl _ _ rfl g4 rfl 22 (ac 9 (mul9 a b)) (0, 0) _ H3.2.2.2.1 Try.underlying22 rfl info9 ?_)
            | (refine wpList_store_row rfl _ _ _ rfl g3 (ac 9 (mul9 a b)) rfl rfl 22 (ac 9 (upTo (mul9 a b) 0)) H3.2.2.1 info9 ac_same (ac_one 9 _) ?_))
          refine bodyPost_ret (v := .agg (ac 9 (mul9 a b))) (results_cell_row rfl _ _ g3 22 (ac 9 (mul9 a b)) (0, 0) _ rfl (setRow_heap _ _ (ac 9 (upTo (mul9 a b) 0)) _ _ _ H3.2.2.1) Try.underlying22 rfl info9) rfl ⟨by rw [HM.out], ?_⟩
          exact below_setRow H3.2.2.2.2.1 (by have := H3.2.2.2.2.2; omega) _

end Go.Proofs.Ytcmaoomcdmjimaa.Mat
