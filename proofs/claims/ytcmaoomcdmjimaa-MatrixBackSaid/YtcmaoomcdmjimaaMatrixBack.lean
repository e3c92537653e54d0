/-
  MatrixBack: the inverse times the matrix is the identity up to rounding.
-/
import Derived.Test.YtcmaoomcdmjimaaMatBk
import Derived.SizedLaws
namespace Go.Proofs.Ytcmaoomcdmjimaa.MatrixBack
open Go.RowKit Go.Proofs.Ytcmaoomcdmjimaa Go.Proofs.Ytcmaoomcdmjimaa.NumPure Go.Proofs.Ytcmaoomcdmjimaa.MatPure Go.Proofs.Ytcmaoomcdmjimaa.Mat

set_option maxHeartbeats 4000000 in
set_option maxRecDepth 100000 in
theorem walk (m : Nat → Int) (w : World) : Calls Try.prog 6 #[.agg (ac 9 m)] w fun e w' => e = .returned (.bool true) ∧ Below w.heap.size w w' := by
  obtain ⟨B, hB⟩ : ∃ B, B = w.heap.size := ⟨_, rfl⟩
  rw [← hB]
  obtain ⟨f, hf⟩ : ∃ f, invM m = f := ⟨_, rfl⟩
  obtain ⟨x, hx⟩ : ∃ x, invX m = x := ⟨_, rfl⟩
  have iv1 := fun W => inverse_any m W
  rw [hf, hx] at iv1
  have hfx : (x ≠ 0 ∧ ac 9 f = ac 9 (li [])) ∨ (x = 0 ∧ f = invE m ∧ okM m = true ∧ det9 m ≠ 0 ∧ okM (invE m) = true) := by
    rw [← hf, ← hx]
    unfold invM invX
    by_cases h1 : okM m = true
    · by_cases h2 : det9 m = 0
      · rw [if_pos h1, if_pos h1, if_pos h2, if_pos h2]; exact .inl ⟨by omega, ac_ext fun _ _ => rfl⟩
      · by_cases h3 : okM (invE m) = true
        · rw [if_pos h1, if_pos h1, if_neg h2, if_neg h2, if_pos h3, if_pos h3]; exact .inr ⟨rfl, rfl, h1, h2, h3⟩
        · rw [if_pos h1, if_pos h1, if_neg h2, if_neg h2, if_neg h3, if_neg h3]; exact .inl ⟨by omega, ac_ext fun _ _ => rfl⟩
    · rw [if_neg h1, if_neg h1]; exact .inl ⟨by omega, ac_ext fun _ _ => rfl⟩
  have HFX := Lib.hid hfx
  clear hf hx hfx
  go_enter Try.func6, Try.ntmps6
  go_wp2_with (refine wpList_load_row rfl _ _ rfl w.heap.size rfl 22 (ac 9 m) (0, 0) _ (heap_alloc_new _ _) Try.underlying22 rfl info9 ?_)
  have H0 := Blk.new w 22 (ac 9 m)
  have hb0 : Below B w (w.alloc (.cells (ac 9 m) 22)) := by rw [hB]; exact (Below.refl _ _).alloc (Nat.le_refl _) _
  obtain ⟨W0, hW0⟩ : ∃ W, W = w.alloc (.cells (ac 9 m) 22) := ⟨_, rfl⟩
  obtain ⟨g1, eg⟩ : ∃ g, g = w.heap.size := ⟨_, rfl⟩
  rw [← hW0, ← eg] at H0 ⊢
  rw [← hW0] at hb0
  have hg1 : B ≤ g1 := by omega
  clear hW0 hB eg
  refine (iv1 _).mono ?_
  rintro e w1 ⟨rfl, hb1⟩
  have H1 := H0.below hb1 H0.lt
  have hb2 := hb0.trans (hb1.mono (by have := H0.lt; omega))
  clear H0 hb0 hb1 iv1
  obtain ⟨g2, e2⟩ : ∃ g, w1.heap.size = g := ⟨_, rfl⟩
  have g12 : g1 < g2 := by rw [← e2]; exact H1.lt
  have D0 : Blk (w1.alloc (.cells (ac 9 fun _ => 0) 22)) g2 22 (ac 9 fun _ => 0) := by rw [← e2]; exact Blk.new _ _ _
  have T0 : Two B g1 g2 w (ac 9 m) (ac 9 f) ((w1.alloc (.cells (ac 9 fun _ => 0) 22)).setRow g2 (ac 9 f)) :=
    ⟨(setRow_other _ _ _ _ (by omega)).trans (H1.alloc _), setRow_heap _ _ (ac 9 fun _ => 0) _ _ _ D0, below_setRow (hb2.alloc (by omega) _) (by omega) _, g12, hg1⟩
  go_wp2_with (first
    | (refine wpList_alloc9g rfl rfl g2 e2 ?_)
    | (refine wpList_store_row rfl _ _ _ rfl g2 (ac 9 f) rfl rfl 22 (ac 9 fun _ => 0) D0 info9 ac_same (ac_one 9 _) ?_))
  obtain ⟨W3, hW3⟩ : ∃ W, W = (w1.alloc (.cells (ac 9 fun _ => 0) 22)).setRow g2 (ac 9 f) := ⟨_, rfl⟩
  rw [← hW3] at T0 ⊢
  clear hW3 D0 e2 H1 hb2
  refine (awake_any _).mono ?_
  rintro e w4 ⟨rfl, hb4⟩
  have T1 := T0.below hb4
  clear T0 hb4
  rcases HFX.out with ⟨hx, hz⟩ | ⟨rfl, rfl, hm, hd, ho⟩
  · have tx : (x == 0) = false := by simpa using hx
    rw [hz] at T1
    have ne := fun W => eql9_same [] W
    clear hz
    go_wp2_with (first
      | (refine wpList_buildG (n := 9) (l := []) (T := 22) 0 rfl _ rfl rfl (by kernel_rfl) ?_)
      | (refine wpList_load9G rfl _ rfl g2 rfl (li []) T1.2.1 ?_))
    go_ret
    exact ⟨rfl, T1.2.2.1⟩
  · have ck1 := fun W => check_ok m hm W
    have ck2 := fun W => check_ok (invE m) ho W
    go_wp2_with (first
      | (refine wpList_load9G rfl _ rfl g1 rfl m T1.1 ?_))
    refine (ck1 _).mono ?_
    rintro e w5 ⟨rfl, hb5⟩
    have T2 := T1.below hb5
    clear T1 hb5
    go_wp2_with (first
      | (refine wpList_load9G rfl _ rfl g2 rfl (invE m) T2.2.1 ?_))
    refine (ck2 _).mono ?_
    rintro e w6 ⟨rfl, hb6⟩
    have T3 := T2.below hb6
    clear T2 hb6 ck1 ck2
    go_wp2_with fail
    go_loop [31] (fun v31 => ∃ k : Nat, k ≤ 9 ∧ v31 = .int .i64 k) (fun v31 => 9 - (intOf v31).toNat)
    case atStart => exact ⟨0, by omega, rfl⟩
    case round =>
      obtain ⟨k, hk, rfl⟩ := hrel
      by_cases hlt : k < 9
      · have c1 := T3.1.cell k
        have c2 := T3.2.1.cell k
        rw [ac_at _ hlt] at c1 c2
        have b1 := okM_iff.1 hm k hlt
        have b2 := okM_iff.1 ho k hlt
        obtain ⟨y, hy⟩ : ∃ y, y = m k := ⟨_, rfl⟩
        obtain ⟨z, hz⟩ : ∃ z, z = invE m k := ⟨_, rfl⟩
        rw [← hy] at c1 b1
        rw [← hz] at c2 b2
        have t1 : decide (y < -1048576) = false := by simp; omega
        have t2 : decide (1048576 < y) = false := by simp; omega
        have t3 : decide (z < -1048576) = false := by simp; omega
        have t4 : decide (1048576 < z) = false := by simp; omega
        clear hy hz
        go_wp2_with fail
        go_round
        case rel => exact ⟨k + 1, by omega, by go_num⟩
        case measure => simp [intOf]; omega
      · obtain rfl : k = 9 := by omega
        have HM := Lib.hid hm
        have HO := Lib.hid ho
        have HD := Lib.hid hd
        clear hm ho hd
        go_wp2_with fail
        go_loopw [57] (fun v57 wr => ∃ i : Nat, i ≤ 3 ∧ v57 = .int .i64 i ∧ Two B g1 g2 w (ac 9 m) (ac 9 (invE m)) wr) (fun v57 _ => 3 - (intOf v57).toNat)
        case atStart => exact ⟨0, by omega, rfl, T3⟩
        case round =>
          clear T3
          obtain ⟨i, hi, rfl, H4⟩ := hrel
          by_cases hli : i < 3
          · have ti : decide ((i : Int) < 3) = true := by simp; omega
            go_wp2_with fail
            go_loopw [60] (fun v60 wr => ∃ j : Nat, j ≤ 3 ∧ v60 = .int .i64 j ∧ Two B g1 g2 w (ac 9 m) (ac 9 (invE m)) wr) (fun v60 _ => 3 - (intOf v60).toNat)
            case atStart => exact ⟨0, by omega, rfl, H4⟩
            case round =>
              clear H4
              obtain ⟨j, hj, rfl, H5⟩ := hrel
              by_cases hlj : j < 3
              · have tj : decide ((j : Int) < 3) = true := by simp; omega
                go_wp2_with fail
                go_loopw [8, 9, 63] (fun v8 v9 v63 wr => ∃ k : Nat, k ≤ 3 ∧ v63 = .int .i64 k ∧ v8 = .int .i64 (psum (invE m) m i j k) ∧ v9 = .int .i64 (asz m j k : Nat) ∧ Two B g1 g2 w (ac 9 m) (ac 9 (invE m)) wr) (fun _ _ v63 _ => 3 - (intOf v63).toNat)
                case atStart => exact ⟨0, by omega, rfl, rfl, rfl, H5⟩
                case round =>
                  clear H5
                  obtain ⟨k, hk, rfl, rfl, rfl, H6⟩ := hrel
                  by_cases hlk : k < 3
                  · have c1 := H6.2.1.cell (3 * i + k)
                    rw [ac_at _ (by omega)] at c1
                    have c2 := H6.1.cell (3 * k + j)
                    rw [ac_at _ (by omega)] at c2
                    have b1 := okM_iff.1 HO.out (3 * i + k) (by omega)
                    have b2 := okM_iff.1 HM.out (3 * k + j) (by omega)
                    have b3 := prod_in b1.1 b1.2 b2.1 b2.2
                    have b4 := psum_in (invE m) m HO.out HM.out i j hli hlj k (by omega)
                    have b5 := asz_in m HM.out j hlj k (by omega)
                    have HP : Hid (psum (invE m) m i j (k + 1) = psum (invE m) m i j k + invE m (3 * i + k) * m (3 * k + j)) := Lib.hid rfl
                    have HA : Hid (asz m j (k + 1) = asz m j k + (m (3 * k + j)).natAbs) := Lib.hid rfl
                    obtain ⟨x, hx⟩ : ∃ x, invE m (3 * i + k) = x := ⟨_, rfl⟩
                    obtain ⟨y, hy⟩ : ∃ y, m (3 * k + j) = y := ⟨_, rfl⟩
                    obtain ⟨P, hP⟩ : ∃ P, psum (invE m) m i j k = P := ⟨_, rfl⟩
                    obtain ⟨A, hA⟩ : ∃ A, asz m j k = A := ⟨_, rfl⟩
                    rw [hx] at c1 b1 b3 HP
                    rw [hy] at c2 b2 b3 HP HA
                    rw [hP] at b4 HP ⊢
                    rw [hA] at b5 HA ⊢
                    obtain ⟨z, hz⟩ : ∃ z, x * y = z := ⟨_, rfl⟩
                    rw [hz] at b3 HP
                    have i1 : (0 : Int) ≤ 3 * (i : Int) + (k : Int) := by omega
                    have i2 : 3 * (i : Int) + (k : Int) < 9 := by omega
                    have i3 : (0 : Int) ≤ 3 * (k : Int) + (j : Int) := by omega
                    have i4 : 3 * (k : Int) + (j : Int) < 9 := by omega
                    have i5 : (3 * (i : Int) + (k : Int)).toNat = 3 * i + k := by omega
                    have i6 : (3 * (k : Int) + (j : Int)).toNat = 3 * k + j := by omega
                    have i7 : IntKind.i64.wrap (3 * (i : Int)) = 3 * (i : Int) := IntWalk.i64_in _ (by omega)
                    have i8 : IntKind.i64.wrap (3 * (k : Int)) = 3 * (k : Int) := IntWalk.i64_in _ (by omega)
                    have i9 : IntKind.i64.wrap (3 * (i : Int) + (k : Int)) = 3 * (i : Int) + (k : Int) := IntWalk.i64_in _ (by omega)
                    have i10 : IntKind.i64.wrap (3 * (k : Int) + (j : Int)) = 3 * (k : Int) + (j : Int) := IntWalk.i64_in _ (by omega)
                    have i11 : IntKind.i64.wrap (x * y) = z := by rw [hz]; exact IntWalk.i64_in _ (by omega)
                    have i12 : IntKind.i64.wrap (P + z) = P + z := IntWalk.i64_in _ (by omega)
                    have i13 : IntKind.i64.wrap (-y) = -y := IntWalk.i64_in _ (by omega)
                    have i14 : IntKind.i64.wrap ((A : Int) + y) = (A : Int) + y := IntWalk.i64_in _ (by omega)
                    have i15 : IntKind.i64.wrap ((A : Int) + -y) = (A : Int) + -y := IntWalk.i64_in _ (by omega)
                    clear hx hy hP hA hz
                    rcases Int.lt_or_le y 0 with hs | hs
                    all_goals
                      go_wp2_with fail
                      go_quiet (fail)
                      go_wp2_with fail
                      go_quiet (fail)
                      go_wp2_with fail
                      go_roundw
                      case rel => exact ⟨k + 1, by omega, by go_num, by rw [HP.out], by rw [HA.out]; congr 1; omega, Two.drewN H6 _⟩
                      case measure => simp [intOf]; omega
                  · obtain rfl : k = 3 := by omega
                    have b4 := psum_in (invE m) m HO.out HM.out i j hli hlj 3 (by omega)
                    have b5 := asz_in m HM.out j hlj 3 (by omega)
                    have hb := back_sums m HD.out HO.out i j hli hlj
                    obtain ⟨P, hP⟩ : ∃ P, psum (invE m) m i j 3 = P := ⟨_, rfl⟩
                    obtain ⟨A, hA⟩ : ∃ A, asz m j 3 = A := ⟨_, rfl⟩
                    rw [hP, hA] at hb
                    rw [hP] at b4 ⊢
                    rw [hA] at b5 ⊢
                    clear hP hA
                    by_cases hij : i = j
                    · rw [if_pos hij, Int.one_mul] at hb
                      subst hij
                      have te : ((i : Int) == (i : Int)) = true := by simp
                      rcases Int.lt_or_le (P - 4294967296) 0 with hs | hs
                      all_goals
                        go_wp2_with fail
                        go_roundw
                        case rel => exact ⟨i + 1, by omega, by go_num, H6⟩
                        case measure => simp [intOf]; omega
                    · rw [if_neg hij, Int.zero_mul, Int.sub_zero] at hb
                      have te : ((i : Int) == (j : Int)) = false := by simp; omega
                      rcases Int.lt_or_le P 0 with hs | hs
                      all_goals
                        go_wp2_with fail
                        go_roundw
                        case rel => exact ⟨j + 1, by omega, by go_num, H6⟩
                        case measure => simp [intOf]; omega
              · obtain rfl : j = 3 := by omega
                go_wp2_with fail
                go_roundw
                case rel => exact ⟨i + 1, by omega, by go_num, H5⟩
                case measure => simp [intOf]; omega
          · obtain rfl : i = 3 := by omega
            go_wp2_with fail
            go_ret
            exact ⟨rfl, H4.2.2.1⟩

open Go.ChangeShapes Go.WideShapes Go.ChangeAt Go.Joins

theorem contract (H : Type) (enc : TypeId × Value → H) (W : World) (base : Nat) (args : Array Value) (ds gs : List (DataW H)) (before : List MemPlace)
    (hval : ∀ (j : Nat) t v, Try.f6.params[j]? = some t → args[j]? = some v → Value.okWide Try.prog W .any base t v)
    (hW : DataW.Whole enc Try.prog Try.f6.params.toList Rows.matrixBackSpec.vars false W args.toList ds gs before) :
    Calls Try.prog 6 args W fun e W' => ∃ v, e = .returned v ∧ Rows.matrixBackSpec.post enc Try.prog Try.f6 false true false false W args v W' := by
  have hW' := hW
  obtain ⟨p, q, hA0, hV, rfl, hfz, hnd⟩ := hW
  have hA : DataW.TrodAll enc Try.prog W 0 (fun _ => true) true Try.f6.params.toList args.toList ds p := hA0
  rw [Try.params6] at hA hval
  obtain ⟨v0, vs0, d0, ds0, p0, q0, hargs, rfl, rfl, g0, r0⟩ := trodAll_cons hA
  obtain ⟨rfl, rfl, rfl⟩ := trodAll_nil r0
  obtain rfl : args = #[v0] := by cases args; simp_all
  obtain ⟨rfl, rfl⟩ := trodVars_none hV
  obtain ⟨m0, rfl⟩ := open9 (hval 0 22 v0 rfl rfl)
  clear hA0
  refine (walk m0 W).mono fun e W' ⟨he, hb⟩ => ?_
  subst he
  exact ⟨_, rfl, Frame.law_post Frame.laidOut (by kernel_rfl) Try.underlying4 (by kernel_rfl) rfl rfl hW' hb⟩

set_option maxRecDepth 100000 in
theorem lifted (os : Os) (started : os.Started) (H : Type) (enc : TypeId × Value → H) :
    ReturnsInHanded {} Try.checked os 6 .any (Rows.matrixBackSpec.pre6 enc Try.prog Try.f6 Rows.matrixBackRow.domain false) (Rows.matrixBackSpec.post enc Try.prog Try.f6 false true false false) := by
  refine returnsInHanded_of_change (C := Try.checked) Frame.own started (by kernel_rfl) Try.func6
    (ChangeSpec.witness6 (enc := enc) (C := Try.checked) false ⟨#[], #[.agg (Array.replicate 9 (.int .i64 0))], []⟩ 8 (by kernel_rfl) (by kernel_rfl) (by kernel_rfl) (by kernel_rfl)) ?_
  intro W base args ds gs before hval hW _ _
  exact contract H enc W base args ds gs before hval hW

theorem proved : Rows.MatrixBackSaid :=
  OpenClaim.holds_of_wide 6 Try.f6 rfl rfl rfl rfl rfl rfl rfl ⟨rfl, rfl, rfl, rfl, rfl⟩ rfl rfl rfl rfl rfl (by kernel_rfl) Try.func6 (by kernel_rfl)
    (of_decide_eq_true (by kernel_rfl)) (by unfold Func.isWrapper; first | (rw [if_pos (by decide +kernel)]; kernel_rfl) | (rw [if_neg (by decide +kernel)]; exact ⟨rfl, rfl⟩))
    (fun os started H enc _ => lifted os started H enc)

end Go.Proofs.Ytcmaoomcdmjimaa.MatrixBack
