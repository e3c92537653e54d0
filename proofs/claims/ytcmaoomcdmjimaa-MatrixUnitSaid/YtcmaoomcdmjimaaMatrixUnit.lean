/-
  MatrixUnit: the identity is neutral.
-/
import Derived.Test.YtcmaoomcdmjimaaMatUn
import Derived.SizedLaws
namespace Go.Proofs.Ytcmaoomcdmjimaa.MatrixUnit
open Go.RowKit Go.Proofs.Ytcmaoomcdmjimaa Go.Proofs.Ytcmaoomcdmjimaa.NumPure Go.Proofs.Ytcmaoomcdmjimaa.MatPure Go.Proofs.Ytcmaoomcdmjimaa.Mat

def Un (B g1 g2 g3 g4 : Nat) (w : World) (m v : Nat → Int) (wr : World) : Prop :=
  Blk wr g1 22 (ac 9 m) ∧ Blk wr g2 23 (ac 3 v) ∧ Blk wr g3 22 (ac 9 sameM) ∧ Blk wr g4 22 (ac 9 sameM) ∧ Below B w wr ∧ g1 < g2 ∧ g2 < g3 ∧ g3 < g4 ∧ B ≤ g1
theorem Un.below {B g1 g2 g3 g4 : Nat} {w wr w' : World} {m v : Nat → Int} (h : Un B g1 g2 g3 g4 w m v wr) (hb : Below wr.heap.size wr w') : Un B g1 g2 g3 g4 w m v w' :=
  ⟨h.1.below hb h.1.lt, h.2.1.below hb h.2.1.lt, h.2.2.1.below hb h.2.2.1.lt, h.2.2.2.1.below hb h.2.2.2.1.lt, h.2.2.2.2.1.trans (hb.mono (by have := h.1.lt; have := h.2.2.2.2.2.2.2.2; omega)), h.2.2.2.2.2⟩
theorem Un.drew {B g1 g2 g3 g4 : Nat} {w wr : World} {m v : Nat → Int} (h : Un B g1 g2 g3 g4 w m v wr) : Un B g1 g2 g3 g4 w m v wr.drew :=
  ⟨h.1.drew, h.2.1.drew, h.2.2.1.drew, h.2.2.2.1.drew, h.2.2.2.2.1.drew, h.2.2.2.2.2⟩
theorem Un.set2 {B g1 g2 g3 g4 : Nat} {w wr : World} {m f v : Nat → Int} {k : Nat} (h : Un B g1 g2 g3 g4 w m (mixTo f v k) wr) : Un B g1 g2 g3 g4 w m (mixTo f v (k + 1)) (wr.setCell ⟨g2, k, none⟩ (.int .i64 (f k))) := by
  obtain ⟨h1, h2, h3, h4, hb, d1, d2, d3, d4⟩ := h
  refine ⟨h1.far (p := ⟨g2, k, none⟩) (by simp; omega) _, ?_, h3.far (p := ⟨g2, k, none⟩) (by simp; omega) _, h4.far (p := ⟨g2, k, none⟩) (by simp; omega) _, hb.setCell (by simp; omega) _, d1, d2, d3, d4⟩
  have := h2.set_ k (.int .i64 (f k))
  rw [mixTo_set] at this
  exact this
theorem neq9_self (m : Nat → Int) (w : World) : (binOp .neq 22 (.agg (ac 9 m)) (.agg (ac 9 m))).run Try.prog w = .ok (.bool false) w := by
  rw [neq9]; simp
theorem neq3_self (m : Nat → Int) (w : World) : (binOp .neq 23 (.agg (ac 3 m)) (.agg (ac 3 m))).run Try.prog w = .ok (.bool false) w := by
  rw [neq3]; simp

set_option maxHeartbeats 4000000 in
set_option maxRecDepth 100000 in
theorem walk (m v : Nat → Int) (w : World) : Calls Try.prog 5 #[.agg (ac 9 m), .agg (ac 3 v)] w fun e w' => e = .returned (.bool true) ∧ Below w.heap.size w w' := by
  obtain ⟨B, hB⟩ : ∃ B, B = w.heap.size := ⟨_, rfl⟩
  rw [← hB]
  have iv := fun W => inverse_any sameM W
  rw [ac_ext inv_same, inv_same_x] at iv
  have a1 := (Blk.new w 22 (ac 9 m)).alloc (.cells (ac 3 v) 23)
  have a2 := Blk.new (w.alloc (.cells (ac 9 m) 22)) 23 (ac 3 v)
  have e2 : (w.alloc (.cells (ac 9 m) 22)).heap.size = w.heap.size + 1 := by simp
  rw [e2] at a2
  have hb0 : Below B w ((w.alloc (.cells (ac 9 m) 22)).alloc (.cells (ac 3 v) 23)) := by rw [hB]; exact ((Below.refl _ _).alloc (Nat.le_refl _) _).alloc (by simp) _
  go_enter Try.func5, Try.ntmps5
  go_wp2_with fail
  obtain ⟨W1, hW1⟩ : ∃ W, W = (w.alloc (.cells (ac 9 m) 22)).alloc (.cells (ac 3 v) 23) := ⟨_, rfl⟩
  obtain ⟨g2, f2⟩ : ∃ g, g = w.heap.size + 1 := ⟨_, rfl⟩
  obtain ⟨g1, f1⟩ : ∃ g, g = w.heap.size := ⟨_, rfl⟩
  rw [← hW1, ← f2, ← f1]
  rw [← hW1, ← f1] at a1
  rw [← hW1, ← f2] at a2
  rw [← hW1] at hb0
  have g12 : g1 < g2 := by omega
  have hg1 : B ≤ g1 := by omega
  clear hW1 hB f1 f2 e2
  refine (same_any _).mono ?_
  rintro e w2 ⟨rfl, hb1⟩
  have b1 := a1.below hb1 a1.lt
  have b2 := a2.below hb1 a2.lt
  have hb2 := hb0.trans (hb1.mono (by have := a1.lt; omega))
  clear a1 a2 hb0 hb1
  obtain ⟨g3, e3⟩ : ∃ g, w2.heap.size = g := ⟨_, rfl⟩
  have g23 : g2 < g3 := by rw [← e3]; exact b2.lt
  have D0 : Blk (w2.alloc (.cells (ac 9 fun _ => 0) 22)) g3 22 (ac 9 fun _ => 0) := by rw [← e3]; exact Blk.new _ _ _
  have D1 : Blk ((w2.alloc (.cells (ac 9 fun _ => 0) 22)).setRow g3 (ac 9 sameM)) g3 22 (ac 9 sameM) := setRow_heap _ _ (ac 9 fun _ => 0) _ _ _ D0
  have c1 : Blk ((w2.alloc (.cells (ac 9 fun _ => 0) 22)).setRow g3 (ac 9 sameM)) g1 22 (ac 9 m) := (setRow_other _ _ _ _ (by omega)).trans (b1.alloc _)
  have c2 : Blk ((w2.alloc (.cells (ac 9 fun _ => 0) 22)).setRow g3 (ac 9 sameM)) g2 23 (ac 3 v) := (setRow_other _ _ _ _ (by omega)).trans (b2.alloc _)
  have hb3 : Below B w ((w2.alloc (.cells (ac 9 fun _ => 0) 22)).setRow g3 (ac 9 sameM)) := below_setRow (hb2.alloc (by omega) _) (by omega) _
  go_wp2_with (first
    | (refine wpList_alloc9g rfl rfl g3 e3 ?_)
    | (refine wpList_store_row rfl _ _ _ rfl g3 (ac 9 sameM) rfl rfl 22 (ac 9 fun _ => 0) D0 info9 ac_same (ac_one 9 _) ?_)
    | (refine wpList_load_row rfl _ _ rfl g3 rfl 22 (ac 9 sameM) (0, 0) _ D1 Try.underlying22 rfl info9 ?_))
  obtain ⟨W3, hW3⟩ : ∃ W, W = (w2.alloc (.cells (ac 9 fun _ => 0) 22)).setRow g3 (ac 9 sameM) := ⟨_, rfl⟩
  rw [← hW3] at D1 c1 c2 hb3 ⊢
  clear hW3 D0 e3 b1 b2 hb2
  refine (iv _).mono ?_
  rintro e w4 ⟨rfl, hb4⟩
  have d1 := c1.below hb4 c1.lt
  have d2 := c2.below hb4 c2.lt
  have d3 := D1.below hb4 D1.lt
  have hb5 := hb3.trans (hb4.mono (by have := c1.lt; omega))
  clear c1 c2 D1 hb3 hb4 iv
  obtain ⟨g4, e4⟩ : ∃ g, w4.heap.size = g := ⟨_, rfl⟩
  have g34 : g3 < g4 := by rw [← e4]; exact d3.lt
  have E0 : Blk (w4.alloc (.cells (ac 9 fun _ => 0) 22)) g4 22 (ac 9 fun _ => 0) := by rw [← e4]; exact Blk.new _ _ _
  have T0 : Un B g1 g2 g3 g4 w m v ((w4.alloc (.cells (ac 9 fun _ => 0) 22)).setRow g4 (ac 9 sameM)) :=
    ⟨(setRow_other _ _ _ _ (by omega)).trans (d1.alloc _), (setRow_other _ _ _ _ (by omega)).trans (d2.alloc _), (setRow_other _ _ _ _ (by omega)).trans (d3.alloc _), setRow_heap _ _ (ac 9 fun _ => 0) _ _ _ E0, below_setRow (hb5.alloc (by omega) _) (by omega) _, g12, g23, g34, hg1⟩
  go_wp2_with (first
    | (refine wpList_alloc9g rfl rfl g4 e4 ?_)
    | (refine wpList_store_row rfl _ _ _ rfl g4 (ac 9 sameM) rfl rfl 22 (ac 9 fun _ => 0) E0 info9 ac_same (ac_one 9 _) ?_))
  obtain ⟨W5, hW5⟩ : ∃ W, W = (w4.alloc (.cells (ac 9 fun _ => 0) 22)).setRow g4 (ac 9 sameM) := ⟨_, rfl⟩
  rw [← hW5] at T0 ⊢
  clear hW5 E0 e4 d1 d2 d3 hb5
  refine (awake_any _).mono ?_
  rintro e w6 ⟨rfl, hb6⟩
  have T1 := T0.below hb6
  clear T0 hb6
  have n9 := fun W => neq9_self sameM W
  rw [← show mixTo (limV v) v 0 = v from funext fun j => if_neg (by omega)] at T1
  go_wp2_with (first
    | (refine wpList_load9G rfl _ rfl g4 rfl sameM T1.2.2.2.1 ?_)
    | (refine wpList_load9G rfl _ rfl g3 rfl sameM T1.2.2.1 ?_))
  clear n9
  go_loopw [26] (fun v26 wr => ∃ k : Nat, k ≤ 3 ∧ v26 = .int .i64 k ∧ Un B g1 g2 g3 g4 w m (mixTo (limV v) v k) wr) (fun v26 _ => 3 - (intOf v26).toNat)
  case atStart => exact ⟨0, by omega, rfl, T1⟩
  case round =>
    clear T1
    obtain ⟨k, hk, rfl, H⟩ := hrel
    by_cases hlt : k < 3
    · have c1 := H.2.1.cell k
      rw [ac_at _ (by omega), show mixTo (limV v) v k k = v k from if_neg (by omega)] at c1
      have f1 := H.2.1.frozen k
      have HS := Lib.hid H.set2
      obtain ⟨z, hz⟩ : ∃ z, z = v k := ⟨_, rfl⟩
      rw [← hz] at c1
      have HW : Hid ((if 1073741824 < (if z < -1073741824 then -1073741824 else z) then (1073741824 : Int) else if z < -1073741824 then -1073741824 else z) = limV v k) := Lib.hid (by rw [← show lim z = limV v k by rw [hz]; rfl]; unfold lim clp; repeat' split <;> omega)
      clear hz
      go_wp2_with fail
      go_roundw
      case rel =>
        refine ⟨k + 1, by omega, by go_num, ?_⟩
        rw [HW.out]
        exact HS.out
      case measure => simp [intOf]; omega
    · obtain rfl : k = 3 := by omega
      have ea : mixTo (limV v) v 3 = mixTo (limV v) v 3 := rfl
      have ap := fun W => apply_any sameM (mixTo (limV v) v 3) W
      have eap : ac 3 (appM sameM (mixTo (limV v) v 3)) = ac 3 (mixTo (limV v) v 3) := ac_ext fun n hn => by
        have e : appM sameM (mixTo (limV v) v 3) n = appM sameM (limV v) n := by
          unfold appM app9
          rw [same_ok]
          rfl
        rw [e, app_same v n hn]
        exact (if_pos hn).symm
      rw [eap] at ap
      clear eap ea
      obtain ⟨u, hu⟩ : ∃ u, mixTo (limV v) v 3 = u := ⟨_, rfl⟩
      rw [hu] at H ap
      clear hu
      have KK : Hid (∀ W1 W' : World, Un B g1 g2 g3 g4 w m u W1 → Below W1.heap.size W1 W' → Un B g1 g2 g3 g4 w m u W') := Lib.hid (fun W1 W' h hq => h.below hq)
      go_wp2_with fail
      refine wp_region_held_drew (S := fun w' => Un B g1 g2 g3 g4 w m u w') (by kernel_rfl) (Un.drew H) (fun hHeld => ?_)
      clear H
      refine wpAnyH_take (i := 0) (oi := _) (v := _) rfl (by kernel_rfl) (by kernel_rfl) (by kernel_rfl) (fun _ _ _ h => h) (yLoad9 rfl _ rfl g3 rfl sameM (fun _ h => h.2.2.1)) (by assumption) ?_
      go_simp
      refine wpAnyH_take (i := 1) (oi := _) (v := _) rfl (by kernel_rfl) (by kernel_rfl) (by kernel_rfl) (fun _ _ _ h => h) (yLoad3 rfl _ rfl g2 rfl u (fun _ h => h.2.1)) (by assumption) ?_
      go_simp
      refine wpAnyH_take (i := 3) (oi := _) (v := _) rfl (by kernel_rfl) (by kernel_rfl) (by kernel_rfl) (fun _ _ _ h => h) (yLoad3 rfl _ rfl g2 rfl u (fun _ h => h.2.1)) (by assumption) ?_
      go_simp
      refine wpAnyH_ready (rs := [2]) (by kernel_rfl) (by simp) ?_
      refine AllReadyH.cons (o := _) rfl (fun K hK => ?_) AllReadyH.nil
      go_simp
      go_at_call 11
      refine (ap _).mono ?_
      rintro e w7 ⟨rfl, hbq⟩
      go_wp2_with fail
      refine hK.out _ _ (KK.out _ _ (by assumption) hbq) (fun hHeld => ?_)
      clear hK hbq
      try simp only [Act.put, List.setIfInBounds_toArray, List.set_cons_zero, List.set_cons_succ]
      refine wpAnyH_take (i := 4) (oi := _) (v := .bool false) rfl (by kernel_rfl) (by kernel_rfl) (by kernel_rfl) (fun _ _ _ h => h) (yBin rfl _ _ _ _ _ rfl (fun _ => by kernel_rfl) (fun W => neq3_self u W)) (by assumption) ?_
      go_simp
      refine wpAnyH_done (by kernel_rfl) ?_ _
      have HU : Un B g1 g2 g3 g4 w m u w7 := by assumption
      cases hm : okM m with
      | false =>
        have ck := fun W => check_bad m hm W
        have mu1 := fun W => mul_any m sameM W
        have mu2 := fun W => mul_any sameM m W
        rw [ac_ext fun n _ => (mul_bad m hm n).1] at mu1
        rw [ac_ext fun n _ => (mul_bad m hm n).2] at mu2
        clear hm
        go_wp2_with (first
          | (refine wpList_load9G rfl _ rfl g1 rfl m HU.1 ?_))
        refine (ck _).mono ?_
        rintro e w8 ⟨rfl, hb8⟩
        have H8 := HU.below hb8
        clear hb8 HU
        go_wp2_with (first
          | (refine wpList_load9G rfl _ rfl g1 rfl m H8.1 ?_)
          | (refine wpList_load9G rfl _ rfl g3 rfl sameM H8.2.2.1 ?_))
        refine (mu1 _).mono ?_
        rintro e w9 ⟨rfl, hb9⟩
        have H9 := H8.below hb9
        clear hb9 H8
        have ne := fun W => eql9_same [] W
        go_wp2_with (first
          | (refine wpList_buildG (n := 9) (l := []) (T := 22) 0 rfl _ rfl rfl (by kernel_rfl) ?_)
          | (refine wpList_load9G rfl _ rfl g1 rfl m H9.1 ?_)
          | (refine wpList_load9G rfl _ rfl g3 rfl sameM H9.2.2.1 ?_))
        refine (mu2 _).mono ?_
        rintro e w10 ⟨rfl, hb10⟩
        have H10 := H9.below hb10
        clear hb10 H9
        go_wp2_with (first
          | (refine wpList_buildG (n := 9) (l := []) (T := 22) 0 rfl _ rfl rfl (by kernel_rfl) ?_))
        go_ret
        exact ⟨rfl, H10.2.2.2.2.1⟩
      | true =>
        have ck := fun W => check_ok m hm W
        have mu1 := fun W => mul_any m sameM W
        have mu2 := fun W => mul_any sameM m W
        rw [ac_ext fun n hn => (mul_same m hm n hn).1] at mu1
        rw [ac_ext fun n hn => (mul_same m hm n hn).2] at mu2
        clear hm
        go_wp2_with (first
          | (refine wpList_load9G rfl _ rfl g1 rfl m HU.1 ?_))
        refine (ck _).mono ?_
        rintro e w8 ⟨rfl, hb8⟩
        have H8 := HU.below hb8
        clear hb8 HU
        go_wp2_with fail
        refine wp_region_held_drew (S := fun w' => Un B g1 g2 g3 g4 w m u w') (by kernel_rfl) (Un.drew H8) (fun hHeld => ?_)
        clear H8
        refine wpAnyH_take (i := 0) (oi := _) (v := _) rfl (by kernel_rfl) (by kernel_rfl) (by kernel_rfl) (fun _ _ _ h => h) (yLoad9 rfl _ rfl g1 rfl m (fun _ h => h.1)) (by assumption) ?_
        go_simp
        refine wpAnyH_take (i := 1) (oi := _) (v := _) rfl (by kernel_rfl) (by kernel_rfl) (by kernel_rfl) (fun _ _ _ h => h) (yLoad9 rfl _ rfl g3 rfl sameM (fun _ h => h.2.2.1)) (by assumption) ?_
        go_simp
        refine wpAnyH_take (i := 3) (oi := _) (v := _) rfl (by kernel_rfl) (by kernel_rfl) (by kernel_rfl) (fun _ _ _ h => h) (yLoad9 rfl _ rfl g1 rfl m (fun _ h => h.1)) (by assumption) ?_
        go_simp
        refine wpAnyH_ready (rs := [2]) (by kernel_rfl) (by simp) ?_
        refine AllReadyH.cons (o := _) rfl (fun K hK => ?_) AllReadyH.nil
        go_simp
        go_at_call 19
        refine (mu1 _).mono ?_
        rintro e w9 ⟨rfl, hbq⟩
        go_wp2_with fail
        refine hK.out _ _ (KK.out _ _ (by assumption) hbq) (fun hHeld => ?_)
        clear hK hbq
        try simp only [Act.put, List.setIfInBounds_toArray, List.set_cons_zero, List.set_cons_succ]
        refine wpAnyH_take (i := 4) (oi := _) (v := .bool true) rfl (by kernel_rfl) (by kernel_rfl) (by kernel_rfl) (fun _ _ _ h => h) (yBin rfl _ _ _ _ _ rfl (fun _ => by kernel_rfl) (fun W => eql9_self m W)) (by assumption) ?_
        go_simp
        refine wpAnyH_take (i := 5) (oi := _) (v := .bool true) rfl (by kernel_rfl) (by kernel_rfl) (by kernel_rfl) (fun _ _ _ h => h) (Or.inl ⟨by rfl, fun W1 _ => by go_simp⟩) (by assumption) ?_
        go_simp
        refine wpAnyH_take (i := 6) (oi := _) (v := _) rfl (by kernel_rfl) (by kernel_rfl) (by kernel_rfl) (fun _ _ _ h => h) (yLoad9 rfl _ rfl g3 rfl sameM (fun _ h => h.2.2.1)) (by assumption) ?_
        go_simp
        refine wpAnyH_take (i := 7) (oi := _) (v := _) rfl (by kernel_rfl) (by kernel_rfl) (by kernel_rfl) (fun _ _ _ h => h) (yLoad9 rfl _ rfl g1 rfl m (fun _ h => h.1)) (by assumption) ?_
        go_simp
        refine wpAnyH_take (i := 9) (oi := _) (v := _) rfl (by kernel_rfl) (by kernel_rfl) (by kernel_rfl) (fun _ _ _ h => h) (yLoad9 rfl _ rfl g1 rfl m (fun _ h => h.1)) (by assumption) ?_
        go_simp
        refine wpAnyH_ready (rs := [8]) (by kernel_rfl) (by simp) ?_
        refine AllReadyH.cons (o := _) rfl (fun K hK => ?_) AllReadyH.nil
        go_simp
        go_at_call 19
        refine (mu2 _).mono ?_
        rintro e w10 ⟨rfl, hbq⟩
        go_wp2_with fail
        refine hK.out _ _ (KK.out _ _ (by assumption) hbq) (fun hHeld => ?_)
        clear hK hbq
        try simp only [Act.put, List.setIfInBounds_toArray, List.set_cons_zero, List.set_cons_succ]
        refine wpAnyH_take (i := 10) (oi := _) (v := .bool true) rfl (by kernel_rfl) (by kernel_rfl) (by kernel_rfl) (fun _ _ _ h => h) (yBin rfl _ _ _ _ _ rfl (fun _ => by kernel_rfl) (fun W => eql9_self m W)) (by assumption) ?_
        go_simp
        refine wpAnyH_take (i := 11) (oi := _) (v := .bool true) rfl (by kernel_rfl) (by kernel_rfl) (by kernel_rfl) (fun _ _ _ h => h) (Or.inl ⟨by rfl, fun W1 _ => by go_simp⟩) (by assumption) ?_
        go_simp
        refine wpAnyH_take (i := 12) (oi := _) (v := .bool true) rfl (by kernel_rfl) (by kernel_rfl) (by kernel_rfl) (fun _ _ _ h => h) (Or.inl ⟨by rfl, fun W1 _ => by go_simp⟩) (by assumption) ?_
        go_simp
        refine wpAnyH_done (by kernel_rfl) ?_ _
        have HF : Hid (∀ W1 : World, Un B g1 g2 g3 g4 w m u W1 → Below B w W1) := Lib.hid (fun _ h => h.2.2.2.2.1)
        go_wp2_with fail
        go_ret
        exact ⟨rfl, HF.out _ (by assumption)⟩

open Go.ChangeShapes Go.WideShapes Go.ChangeAt Go.Joins

theorem contract (H : Type) (enc : TypeId × Value → H) (W : World) (base : Nat) (args : Array Value) (ds gs : List (DataW H)) (before : List MemPlace)
    (hval : ∀ (j : Nat) t v, Try.f5.params[j]? = some t → args[j]? = some v → Value.okWide Try.prog W .any base t v)
    (hW : DataW.Whole enc Try.prog Try.f5.params.toList Rows.matrixUnitSpec.vars false W args.toList ds gs before) :
    Calls Try.prog 5 args W fun e W' => ∃ v, e = .returned v ∧ Rows.matrixUnitSpec.post enc Try.prog Try.f5 false true false false W args v W' := by
  have hW' := hW
  obtain ⟨p, q, hA0, hV, rfl, hfz, hnd⟩ := hW
  have hA : DataW.TrodAll enc Try.prog W 0 (fun _ => true) true Try.f5.params.toList args.toList ds p := hA0
  rw [Try.params5] at hA hval
  obtain ⟨v0, vs0, d0, ds0, p0, q0, hargs, rfl, rfl, g0, r0⟩ := trodAll_cons hA
  obtain ⟨v1, vs1, d1, ds1, p1, q1, rfl, rfl, rfl, g1, r1⟩ := trodAll_cons r0
  obtain ⟨rfl, rfl, rfl⟩ := trodAll_nil r1
  obtain rfl : args = #[v0, v1] := by cases args; simp_all
  obtain ⟨rfl, rfl⟩ := trodVars_none hV
  obtain ⟨m0, rfl⟩ := open9 (hval 0 22 v0 rfl rfl)
  obtain ⟨m1, rfl⟩ := open3 (hval 1 23 v1 rfl rfl)
  clear hA0
  refine (walk m0 m1 W).mono fun e W' ⟨he, hb⟩ => ?_
  subst he
  exact ⟨_, rfl, Frame.law_post Frame.laidOut (by kernel_rfl) Try.underlying4 (by kernel_rfl) rfl rfl hW' hb⟩

set_option maxRecDepth 100000 in
theorem lifted (os : Os) (started : os.Started) (H : Type) (enc : TypeId × Value → H) :
    ReturnsInHanded {} Try.checked os 5 .any (Rows.matrixUnitSpec.pre6 enc Try.prog Try.f5 Rows.matrixUnitRow.domain false) (Rows.matrixUnitSpec.post enc Try.prog Try.f5 false true false false) := by
  refine returnsInHanded_of_change (C := Try.checked) Frame.own started (by kernel_rfl) Try.func5
    (ChangeSpec.witness6 (enc := enc) (C := Try.checked) false ⟨#[], #[.agg (Array.replicate 9 (.int .i64 0)), .agg (Array.replicate 3 (.int .i64 0))], []⟩ 8 (by kernel_rfl) (by kernel_rfl) (by kernel_rfl) (by kernel_rfl)) ?_
  intro W base args ds gs before hval hW _ _
  exact contract H enc W base args ds gs before hval hW

theorem proved : Rows.MatrixUnitSaid :=
  OpenClaim.holds_of_wide 5 Try.f5 rfl rfl rfl rfl rfl rfl rfl ⟨rfl, rfl, rfl, rfl, rfl⟩ rfl rfl rfl rfl rfl (by kernel_rfl) Try.func5 (by kernel_rfl)
    (of_decide_eq_true (by kernel_rfl)) (by unfold Func.isWrapper; first | (rw [if_pos (by decide +kernel)]; kernel_rfl) | (rw [if_neg (by decide +kernel)]; exact ⟨rfl, rfl⟩))
    (fun os started H enc _ => lifted os started H enc)

end Go.Proofs.Ytcmaoomcdmjimaa.MatrixUnit
