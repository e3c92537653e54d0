/-
  Package matrix: Mul.
-/
import Derived.Test.YtcmaoomcdmjimaaMatA
namespace Go.Proofs.Ytcmaoomcdmjimaa.Mat
open Go.RowKit Go.Proofs.Ytcmaoomcdmjimaa Go.Proofs.Ytcmaoomcdmjimaa.NumPure Go.Proofs.Ytcmaoomcdmjimaa.MatPure

def mul9 (a b : Nat → Int) (n : Nat) : Int := dvr (a (3 * (n / 3)) * b (n % 3) + a (3 * (n / 3) + 1) * b (3 + n % 3) + a (3 * (n / 3) + 2) * b (6 + n % 3)) 65536
def mulM (a b : Nat → Int) : Nat → Int := if okM a && okM b then mul9 a b else fun _ => 0
def psum (a b : Nat → Int) (i j : Nat) : Nat → Int
  | 0 => 0
  | k + 1 => psum a b i j k + a (3 * i + k) * b (3 * k + j)
theorem psum_three (a b : Nat → Int) (i j : Nat) (hj : j < 3) : dvr (psum a b i j 3) 65536 = mul9 a b (3 * i + j) := by
  unfold mul9
  rw [show (3 * i + j) / 3 = i by omega, show (3 * i + j) % 3 = j by omega]
  simp only [psum, Nat.add_zero, Nat.mul_zero, Nat.zero_add, Int.zero_add]
theorem prod_in {x y : Int} (x0 : -1048576 ≤ x) (x1 : x ≤ 1048576) (y0 : -1048576 ≤ y) (y1 : y ≤ 1048576) : -1099511627776 ≤ x * y ∧ x * y ≤ 1099511627776 := by
  have := abs_mul_le x0 x1 (by omega) 1048576 y0 y1 (by omega)
  omega
theorem psum_in (a b : Nat → Int) (ha : okM a = true) (hb : okM b = true) (i j : Nat) (hi : i < 3) (hj : j < 3) : ∀ k : Nat, k ≤ 3 → -(1099511627776 * (k : Int)) ≤ psum a b i j k ∧ psum a b i j k ≤ 1099511627776 * (k : Int)
  | 0, _ => by simp [psum]
  | k + 1, hk => by
    have h := psum_in a b ha hb i j hi hj k (by omega)
    have h1 := okM_iff.1 ha (3 * i + k) (by omega)
    have h2 := okM_iff.1 hb (3 * k + j) (by omega)
    have h3 := prod_in h1.1 h1.2 h2.1 h2.2
    simp only [psum]
    omega

/-- Four blocks that the call has made: two arguments, the result's, the array that is filled. -/
def Four (T : TypeId) (B g1 g2 g3 g4 : Nat) (w : World) (A1 A2 A3 A4 : Array Value) (wr : World) : Prop :=
  Blk wr g1 22 A1 ∧ Blk wr g2 T A2 ∧ Blk wr g3 T A3 ∧ Blk wr g4 T A4 ∧ Below B w wr ∧ g1 < g2 ∧ g2 < g3 ∧ g3 < g4 ∧ B ≤ g1
section
variable {T : TypeId} {B g1 g2 g3 g4 : Nat} {w wr w' : World} {A1 A2 A3 A4 : Array Value}
theorem Four.below (h : Four T B g1 g2 g3 g4 w A1 A2 A3 A4 wr) (hb : Below wr.heap.size wr w') : Four T B g1 g2 g3 g4 w A1 A2 A3 A4 w' :=
  ⟨h.1.below hb h.1.lt, h.2.1.below hb h.2.1.lt, h.2.2.1.below hb h.2.2.1.lt, h.2.2.2.1.below hb h.2.2.2.1.lt, h.2.2.2.2.1.trans (hb.mono (by have := h.1.lt; have := h.2.2.2.2.2.2.2.2; omega)), h.2.2.2.2.2⟩
theorem Four.drewN (h : Four T B g1 g2 g3 g4 w A1 A2 A3 A4 wr) (n : Nat) : Four T B g1 g2 g3 g4 w A1 A2 A3 A4 (wr.drewN n) :=
  ⟨h.1, h.2.1, h.2.2.1, h.2.2.2.1, below_drewN h.2.2.2.2.1 n, h.2.2.2.2.2⟩
theorem Four.set4 (h : Four T B g1 g2 g3 g4 w A1 A2 A3 A4 wr) (k : Nat) (u : Value) : Four T B g1 g2 g3 g4 w A1 A2 A3 (A4.setIfInBounds k u) (wr.setCell ⟨g4, k, none⟩ u) := by
  obtain ⟨h1, h2, h3, h4, hb, d1, d2, d3, d4⟩ := h
  exact ⟨h1.far (p := ⟨g4, k, none⟩) (by simp; omega) u, h2.far (p := ⟨g4, k, none⟩) (by simp; omega) u, h3.far (p := ⟨g4, k, none⟩) (by simp; omega) u, h4.set_ k u, hb.setCell (by simp; omega) u, d1, d2, d3, d4⟩
theorem Four.new (T : TypeId) (w : World) (A1 A2 A3 A4 : Array Value) : Four T w.heap.size w.heap.size (w.heap.size + 1) (w.heap.size + 1 + 1) (w.heap.size + 1 + 1 + 1) w A1 A2 A3 A4 ((((w.alloc (.cells A1 22)).alloc (.cells A2 T)).alloc (.cells A3 T)).alloc (.cells A4 T)) :=
  ⟨heap4_1 _ _ _ _ _, heap4_2 _ _ _ _ _, heap4_3 _ _ _ _ _, heap4_new _ _ _ _ _, ((((Below.refl _ _).alloc (Nat.le_refl _) _).alloc (by simp) _).alloc (by simp; omega) _).alloc (by simp; omega) _, by omega, by omega, by omega, by omega⟩
end

set_option maxHeartbeats 4000000 in
set_option maxRecDepth 100000 in
theorem mul_any (a b : Nat → Int) (w : World) : Calls Try.prog 19 #[.agg (ac 9 a), .agg (ac 9 b)] w fun e w' => e = .returned (.agg (ac 9 (mulM a b))) ∧ Below w.heap.size w w' := by
  obtain ⟨B, hB⟩ : ∃ B, B = w.heap.size := ⟨_, rfl⟩
  rw [← hB]
  go_enter Try.func19, Try.ntmps19
  go_wp2_with (first | (refine wpList_alloc9 rfl rfl ?_) | (refine wpList_load_row rfl _ _ rfl w.heap.size rfl 22 (ac 9 a) (0, 0) _ (heap4_1 _ _ _ _ _) Try.underlying22 rfl info9 ?_))
  rw [← upTo_none 9 (mul9 a b)]
  have H0 := Four.new 22 w (ac 9 a) (ac 9 b) (ac 9 (upTo (mul9 a b) 0)) (ac 9 (upTo (mul9 a b) 0))
  obtain ⟨W, hW⟩ : ∃ W, W = (((w.alloc (.cells (ac 9 a) 22)).alloc (.cells (ac 9 b) 22)).alloc (.cells (ac 9 (upTo (mul9 a b) 0)) 22)).alloc (.cells (ac 9 (upTo (mul9 a b) 0)) 22) := ⟨_, rfl⟩
  obtain ⟨g4, e4⟩ : ∃ g, g = w.heap.size + 1 + 1 + 1 := ⟨_, rfl⟩
  obtain ⟨g3, e3⟩ : ∃ g, g = w.heap.size + 1 + 1 := ⟨_, rfl⟩
  obtain ⟨g2, e2⟩ : ∃ g, g = w.heap.size + 1 := ⟨_, rfl⟩
  obtain ⟨g1, e1⟩ : ∃ g, g = w.heap.size := ⟨_, rfl⟩
  rw [← hW, ← e4, ← e3, ← e2, ← hB] at H0
  rw [← hW, ← e4, ← e3, ← e2, ← e1]
  have hg1 : B = g1 := hB.trans e1.symm
  rw [show Four 22 B B g2 g3 g4 w (ac 9 a) (ac 9 b) (ac 9 (upTo (mul9 a b) 0)) (ac 9 (upTo (mul9 a b) 0)) W = Four 22 B g1 g2 g3 g4 w (ac 9 a) (ac 9 b) (ac 9 (upTo (mul9 a b) 0)) (ac 9 (upTo (mul9 a b) 0)) W by rw [← hg1]] at H0
  clear hW e4 e3 e2 e1 hB hg1
  cases ha : okM a with
  | false =>
    have hM : mulM a b = fun _ => 0 := by unfold mulM; rw [ha]; rfl
    refine (check_bad a ha _).mono ?_
    rintro e w1 ⟨rfl, hb1⟩
    have H1 := H0.below hb1
    have HM : Hid (ac 9 (upTo (mul9 a b) 0) = ac 9 (mulM a b)) := Lib.hid (by rw [hM, upTo_none])
    clear H0 hb1 hM
    go_wp2_with (first
      | (refine wpList_load_row rfl _ _ rfl g4 rfl 22 (ac 9 (upTo (mul9 a b) 0)) (0, 0) _ H1.2.2.2.1 Try.underlying22 rfl info9 ?_)
      | (refine wpList_store_row rfl _ _ _ rfl g3 (ac 9 (upTo (mul9 a b) 0)) rfl rfl 22 (ac 9 (upTo (mul9 a b) 0)) H1.2.2.1 info9 ac_same (ac_one 9 _) ?_))
    refine bodyPost_ret (v := .agg (ac 9 (upTo (mul9 a b) 0))) (results_cell_row rfl _ _ g3 22 (ac 9 (upTo (mul9 a b) 0)) (0, 0) _ rfl (setRow_heap _ _ (ac 9 (upTo (mul9 a b) 0)) _ _ _ H1.2.2.1) Try.underlying22 rfl info9) rfl ⟨by rw [HM.out], ?_⟩
    exact below_setRow H1.2.2.2.2.1 (by have := H1.2.2.2.2.2; omega) _
  | true =>
    refine (check_ok a ha _).mono ?_
    rintro e w1 ⟨rfl, hb1⟩
    have H1 := H0.below hb1
    clear H0 hb1
    obtain ⟨c0, c1, c2, c3, c4, c5, c6, c7, c8⟩ := cells9 H1.2.1
    go_wp2_with fail
    clear c0 c1 c2 c3 c4 c5 c6 c7 c8
    cases hb : okM b with
    | false =>
      have hM : mulM a b = fun _ => 0 := by unfold mulM; rw [ha, hb]; rfl
      refine (check_bad b hb _).mono ?_
      rintro e w2 ⟨rfl, hb1⟩
      have H2 := H1.below hb1
      have HM : Hid (ac 9 (upTo (mul9 a b) 0) = ac 9 (mulM a b)) := Lib.hid (by rw [hM, upTo_none])
      clear H1 hb1 hM
      have H1 := H2
      clear H2
      go_wp2_with (first
        | (refine wpList_load_row rfl _ _ rfl g4 rfl 22 (ac 9 (upTo (mul9 a b) 0)) (0, 0) _ H1.2.2.2.1 Try.underlying22 rfl info9 ?_)
        | (refine wpList_store_row rfl _ _ _ rfl g3 (ac 9 (upTo (mul9 a b) 0)) rfl rfl 22 (ac 9 (upTo (mul9 a b) 0)) H1.2.2.1 info9 ac_same (ac_one 9 _) ?_))
      refine bodyPost_ret (v := .agg (ac 9 (upTo (mul9 a b) 0))) (results_cell_row rfl _ _ g3 22 (ac 9 (upTo (mul9 a b) 0)) (0, 0) _ rfl (setRow_heap _ _ (ac 9 (upTo (mul9 a b) 0)) _ _ _ H1.2.2.1) Try.underlying22 rfl info9) rfl ⟨by rw [HM.out], ?_⟩
      exact below_setRow H1.2.2.2.2.1 (by have := H1.2.2.2.2.2; omega) _
    | true =>
      have hM : mulM a b = mul9 a b := by unfold mulM; rw [ha, hb]; rfl
      refine (check_ok b hb _).mono ?_
      rintro e w2 ⟨rfl, hb1⟩
      have H2 := H1.below hb1
      have HM := Lib.hid hM
      have HA := Lib.hid ha
      have HB := Lib.hid hb
      clear H1 hb1 hM ha hb
      go_wp2_with fail
      go_loopw [19] (fun v19 wr => ∃ i : Nat, i ≤ 3 ∧ v19 = .int .i64 i ∧ Four 22 B g1 g2 g3 g4 w (ac 9 a) (ac 9 b) (ac 9 (upTo (mul9 a b) 0)) (ac 9 (upTo (mul9 a b) (3 * i))) wr) (fun v19 _ => 3 - (intOf v19).toNat)
      case atStart => exact ⟨0, by omega, rfl, H2⟩
      case round =>
        clear H2
        obtain ⟨i, hi, rfl, H3⟩ := hrel
        by_cases hlt : i < 3
        · have ti : decide ((i : Int) < 3) = true := by simp; omega
          go_wp2_with fail
          go_loopw [22] (fun v22 wr => ∃ j : Nat, j ≤ 3 ∧ v22 = .int .i64 j ∧ Four 22 B g1 g2 g3 g4 w (ac 9 a) (ac 9 b) (ac 9 (upTo (mul9 a b) 0)) (ac 9 (upTo (mul9 a b) (3 * i + j))) wr) (fun v22 _ => 3 - (intOf v22).toNat)
          case atStart => exact ⟨0, by omega, rfl, H3⟩
          case round =>
            clear H3
            obtain ⟨j, hj, rfl, H4⟩ := hrel
            by_cases hlt2 : j < 3
            · have tj : decide ((j : Int) < 3) = true := by simp; omega
              go_wp2_with fail
              go_loopw [8, 25] (fun v8 v25 wr => ∃ k : Nat, k ≤ 3 ∧ v25 = .int .i64 k ∧ v8 = .int .i64 (psum a b i j k) ∧ Four 22 B g1 g2 g3 g4 w (ac 9 a) (ac 9 b) (ac 9 (upTo (mul9 a b) 0)) (ac 9 (upTo (mul9 a b) (3 * i + j))) wr) (fun _ v25 _ => 3 - (intOf v25).toNat)
              case atStart => exact ⟨0, by omega, rfl, rfl, H4⟩
              case round =>
                clear H4
                obtain ⟨k, hk, rfl, rfl, H5⟩ := hrel
                by_cases hlt3 : k < 3
                · have c1 := H5.1.cell (3 * i + k)
                  rw [ac_at _ (by omega)] at c1
                  have c2 := H5.2.1.cell (3 * k + j)
                  rw [ac_at _ (by omega)] at c2
                  have b1 := okM_iff.1 HA.out (3 * i + k) (by omega)
                  have b2 := okM_iff.1 HB.out (3 * k + j) (by omega)
                  have b3 := prod_in b1.1 b1.2 b2.1 b2.2
                  have b4 := psum_in a b HA.out HB.out i j hlt hlt2 k (by omega)
                  have HP : Hid (psum a b i j (k + 1) = psum a b i j k + a (3 * i + k) * b (3 * k + j)) := Lib.hid rfl
                  have i1 : (0 : Int) ≤ 3 * (i : Int) + (k : Int) := by omega
                  have i2 : 3 * (i : Int) + (k : Int) < 9 := by omega
                  have i3 : (0 : Int) ≤ 3 * (k : Int) + (j : Int) := by omega
                  have i4 : 3 * (k : Int) + (j : Int) < 9 := by omega
                  have i5 : (3 * (i : Int) + (k : Int)).toNat = 3 * i + k := by omega
                  have i6 : (3 * (k : Int) + (j : Int)).toNat = 3 * k + j := by omega
                  have i7 : IntKind.i64.wrap (3 * (i : Int)) = 3 * (i : Int) := IntWalk.i64_in _ (by omega)
                  have i8 : IntKind.i64.wrap (3 * (k : Int)) = 3 * (k : Int) := IntWalk.i64_in _ (by omega)
                  have i9 : IntKind.i64.wrap (3 * (i : Int) + (k : Int)) = 3 * (i : Int) + (k : Int) := IntWalk.i64_in _ (by omega)
                  have i10 : IntKind.i64.wrap (3 * (k : Int) + (j : Int)) = 3 * (k : Int) + (j : Int) := IntWalk.i64_in _ (by omega)
                  have i11 : IntKind.i64.wrap (a (3 * i + k) * b (3 * k + j)) = a (3 * i + k) * b (3 * k + j) := IntWalk.i64_in _ (by omega)
                  have i12 : IntKind.i64.wrap (psum a b i j k + a (3 * i + k) * b (3 * k + j)) = psum a b i j k + a (3 * i + k) * b (3 * k + j) := IntWalk.i64_in _ (by omega)
                  go_wp2_with fail
                  go_quiet (fail)
                  go_wp2_with fail
                  go_roundw
                  case rel => exact ⟨k + 1, by omega, by go_num, by rw [HP.out], H5.drewN _⟩
                  case measure => simp [intOf]; omega
                · obtain rfl : k = 3 := by omega
                  have b4 := psum_in a b HA.out HB.out i j hlt hlt2 3 (by omega)
                  have hd := Num.div_is (psum a b i j 3) 65536 _ (psum_three a b i j hlt2).symm (by omega) (by omega) (by omega) (by omega)
                  have c4 := H5.2.2.2.1.cell (3 * i + j)
                  rw [ac_at _ (by omega)] at c4
                  have f4 := H5.2.2.2.1.frozen (3 * i + j)
                  have HS := Lib.hid (upTo_set 9 (mul9 a b) (3 * i + j))
                  clear b4
                  go_wp2_with fail
                  refine (hd _).mono ?_
                  rintro e w5 ⟨rfl, rfl⟩
                  go_wp2_with fail
                  go_roundw
                  case rel =>
                    refine ⟨j + 1, by omega, by go_num, ?_⟩
                    have := H5.set4 (3 * i + j) (.int .i64 (mul9 a b (3 * i + j)))
                    rw [HS.out] at this
                    exact this
                  case measure => simp [intOf]; omega
            · obtain rfl : j = 3 := by omega
              go_wp2_with fail
              go_roundw
              case rel => exact ⟨i + 1, by omega, by go_num, by rw [show 3 * (i + 1) = 3 * i + 3 by omega]; exact H4⟩
              case measure => simp [intOf]; omega
        · obtain rfl : i = 3 := by omega
          rw [show 3 * 3 = 9 from rfl, upTo_all] at H3
          go_wp2_with (first
            | (refine wpList_load_row rfl _ _ rfl g4 rfl 22 (ac 9 (mul9 a b)) (0, 0) _ H3.2.2.2.1 Try.underlying22 rfl info9 ?_)
            | (refine wpList_store_row rfl _ _ _ rfl g3 (ac 9 (mul9 a b)) rfl rfl 22 (ac 9 (upTo (mul9 a b) 0)) H3.2.2.1 info9 ac_same (ac_one 9 _) ?_))
          refine bodyPost_ret (v := .agg (ac 9 (mul9 a b))) (results_cell_row rfl _ _ g3 22 (ac 9 (mul9 a b)) (0, 0) _ rfl (setRow_heap _ _ (ac 9 (upTo (mul9 a b) 0)) _ _ _ H3.2.2.1) Try.underlying22 rfl info9) rfl ⟨by rw [HM.out], ?_⟩
          exact below_setRow H3.2.2.2.2.1 (by have := H3.2.2.2.2.2; omega) _

end Go.Proofs.Ytcmaoomcdmjimaa.Mat
