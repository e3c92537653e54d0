/-
  MatrixInverses: package matrix's Det and Inverse are the reference's.
-/
import Derived.Test.YtcmaoomcdmjimaaMatLw
import Derived.SizedLaws
namespace Go.Proofs.Ytcmaoomcdmjimaa.MatrixInverses
open Go.RowKit Go.Proofs.Ytcmaoomcdmjimaa Go.Proofs.Ytcmaoomcdmjimaa.NumPure Go.Proofs.Ytcmaoomcdmjimaa.MatPure Go.Proofs.Ytcmaoomcdmjimaa.Mat

theorem Three.drew {B g1 g2 g3 : Nat} {w wr : World} {A1 A2 A3 : Array Value} (h : Three B g1 g2 g3 w A1 A2 A3 wr) : Three B g1 g2 g3 w A1 A2 A3 wr.drew :=
  ⟨h.1.drew, h.2.1.drew, h.2.2.1.drew, h.2.2.2.1.drew, h.2.2.2.2⟩

set_option maxHeartbeats 4000000 in
set_option maxRecDepth 100000 in
theorem walk (m : Nat → Int) (w : World) : Calls Try.prog 4 #[.agg (ac 9 m)] w fun e w' => e = .returned (.bool true) ∧ Below w.heap.size w w' := by
  obtain ⟨B, hB⟩ : ∃ B, B = w.heap.size := ⟨_, rfl⟩
  rw [← hB]
  obtain ⟨f, hf⟩ : ∃ f, invM m = f := ⟨_, rfl⟩
  obtain ⟨x, hx⟩ : ∃ x, invX m = x := ⟨_, rfl⟩
  have iv1 := fun W => inverse_any m W
  have iv2 := fun W => rInverse_any m W
  rw [hf, hx] at iv1 iv2
  clear hf hx
  go_enter Try.func4, Try.ntmps4
  go_wp2_with (refine wpList_load_row rfl _ _ rfl w.heap.size rfl 22 (ac 9 m) (0, 0) _ (heap_alloc_new _ _) Try.underlying22 rfl info9 ?_)
  have H0 := Blk.new w 22 (ac 9 m)
  have hb0 : Below B w (w.alloc (.cells (ac 9 m) 22)) := by rw [hB]; exact (Below.refl _ _).alloc (Nat.le_refl _) _
  obtain ⟨W0, hW0⟩ : ∃ W, W = w.alloc (.cells (ac 9 m) 22) := ⟨_, rfl⟩
  obtain ⟨g1, eg⟩ : ∃ g, g = w.heap.size := ⟨_, rfl⟩
  rw [← hW0, ← eg] at H0 ⊢
  rw [← hW0] at hb0
  have hg1 : B ≤ g1 := by omega
  clear hW0 hB eg
  refine (iv1 _).mono ?_
  rintro e w1 ⟨rfl, hb1⟩
  have H1 := H0.below hb1 H0.lt
  have hb2 := hb0.trans (hb1.mono (by have := H0.lt; omega))
  clear H0 hb0 hb1 iv1
  obtain ⟨g2, e2⟩ : ∃ g, w1.heap.size = g := ⟨_, rfl⟩
  have g12 : g1 < g2 := by rw [← e2]; exact H1.lt
  have D0 : Blk (w1.alloc (.cells (ac 9 fun _ => 0) 22)) g2 22 (ac 9 fun _ => 0) := by rw [← e2]; exact Blk.new _ _ _
  have D1 : Blk ((w1.alloc (.cells (ac 9 fun _ => 0) 22)).setRow g2 (ac 9 f)) g2 22 (ac 9 f) := setRow_heap _ _ (ac 9 fun _ => 0) _ _ _ D0
  have H2 : Blk ((w1.alloc (.cells (ac 9 fun _ => 0) 22)).setRow g2 (ac 9 f)) g1 22 (ac 9 m) := (setRow_other _ _ _ _ (by omega)).trans (H1.alloc _)
  have hb3 : Below B w ((w1.alloc (.cells (ac 9 fun _ => 0) 22)).setRow g2 (ac 9 f)) := below_setRow (hb2.alloc (by omega) _) (by omega) _
  go_wp2_with (first
    | (refine wpList_alloc9g rfl rfl g2 e2 ?_)
    | (refine wpList_store_row rfl _ _ _ rfl g2 (ac 9 f) rfl rfl 22 (ac 9 fun _ => 0) D0 info9 ac_same (ac_one 9 _) ?_)
    | (refine wpList_load_row rfl _ _ rfl g1 rfl 22 (ac 9 m) (0, 0) _ H2 Try.underlying22 rfl info9 ?_))
  obtain ⟨W3, hW3⟩ : ∃ W, W = (w1.alloc (.cells (ac 9 fun _ => 0) 22)).setRow g2 (ac 9 f) := ⟨_, rfl⟩
  rw [← hW3] at D1 H2 hb3 ⊢
  clear hW3 D0 e2 H1 hb2
  refine (iv2 _).mono ?_
  rintro e w4 ⟨rfl, hb4⟩
  have H4 := H2.below hb4 H2.lt
  have D4 := D1.below hb4 D1.lt
  have hb5 := hb3.trans (hb4.mono (by have := H2.lt; omega))
  clear H2 D1 hb3 hb4 iv2
  obtain ⟨g3, e3⟩ : ∃ g, w4.heap.size = g := ⟨_, rfl⟩
  have g23 : g2 < g3 := by rw [← e3]; exact D4.lt
  have E0 : Blk (w4.alloc (.cells (ac 9 fun _ => 0) 22)) g3 22 (ac 9 fun _ => 0) := by rw [← e3]; exact Blk.new _ _ _
  have T0 : Three B g1 g2 g3 w (ac 9 m) (ac 9 f) (ac 9 f) ((w4.alloc (.cells (ac 9 fun _ => 0) 22)).setRow g3 (ac 9 f)) :=
    ⟨(setRow_other _ _ _ _ (by omega)).trans (H4.alloc _), (setRow_other _ _ _ _ (by omega)).trans (D4.alloc _), setRow_heap _ _ (ac 9 fun _ => 0) _ _ _ E0, below_setRow (hb5.alloc (by omega) _) (by omega) _, g12, g23, hg1⟩
  go_wp2_with (first
    | (refine wpList_alloc9g rfl rfl g3 e3 ?_)
    | (refine wpList_store_row rfl _ _ _ rfl g3 (ac 9 f) rfl rfl 22 (ac 9 fun _ => 0) E0 info9 ac_same (ac_one 9 _) ?_))
  obtain ⟨W5, hW5⟩ : ∃ W, W = (w4.alloc (.cells (ac 9 fun _ => 0) 22)).setRow g3 (ac 9 f) := ⟨_, rfl⟩
  rw [← hW5] at T0 ⊢
  clear hW5 E0 e3 H4 D4 hb5
  obtain ⟨d, hd⟩ : ∃ d, detM m = d := ⟨_, rfl⟩
  have dt1 := fun W => det_any m W
  have dt2 := fun W => rDet_any m W
  rw [hd] at dt1 dt2
  clear hd
  have KK : Hid (∀ W1 W' : World, Three B g1 g2 g3 w (ac 9 m) (ac 9 f) (ac 9 f) W1 → Below W1.heap.size W1 W' → Three B g1 g2 g3 w (ac 9 m) (ac 9 f) (ac 9 f) W') := Lib.hid (fun W1 W' h hq => h.below hq)
  refine wp_region_held_drew (S := fun w' => Three B g1 g2 g3 w (ac 9 m) (ac 9 f) (ac 9 f) w') (by kernel_rfl) (Three.drew T0) (fun hHeld => ?_)
  refine wpAnyH_ready (rs := [0]) (by kernel_rfl) (by simp) ?_
  refine AllReadyH.cons (o := _) rfl (fun K hK => ?_) AllReadyH.nil
  go_simp
  go_at_call 10
  refine (awake_any _).mono ?_
  rintro e w6 ⟨rfl, hbq⟩
  go_wp2_with fail
  refine hK.out _ _ (KK.out _ _ (by assumption) hbq) (fun hHeld => ?_)
  clear hK hbq
  try simp only [Act.put, List.setIfInBounds_toArray, List.set_cons_zero, List.set_cons_succ]
  refine wpAnyH_take (i := 1) (oi := _) (v := .bool true) rfl (by kernel_rfl) (by kernel_rfl) (by kernel_rfl) (fun _ _ _ h => h) (Or.inl ⟨by rfl, fun W1 _ => by go_simp⟩) (by assumption) ?_
  go_simp
  refine wpAnyH_take (i := 2) (oi := _) (v := _) rfl (by kernel_rfl) (by kernel_rfl) (by kernel_rfl) (fun _ _ _ h => h) (yLoad9 rfl _ rfl g1 rfl m (fun _ h => h.1)) (by assumption) ?_
  go_simp
  refine wpAnyH_take (i := 4) (oi := _) (v := _) rfl (by kernel_rfl) (by kernel_rfl) (by kernel_rfl) (fun _ _ _ h => h) (yLoad9 rfl _ rfl g1 rfl m (fun _ h => h.1)) (by assumption) ?_
  go_simp
  refine wpAnyH_ready (rs := [3]) (by kernel_rfl) (by simp) ?_
  refine AllReadyH.cons (o := _) rfl (fun K hK => ?_) AllReadyH.nil
  go_simp
  go_at_call 15
  refine (dt1 _).mono ?_
  rintro e w7 ⟨rfl, hbq⟩
  go_wp2_with fail
  refine hK.out _ _ (KK.out _ _ (by assumption) hbq) (fun hHeld => ?_)
  clear hK hbq
  try simp only [Act.put, List.setIfInBounds_toArray, List.set_cons_zero, List.set_cons_succ]
  refine wpAnyH_ready (rs := [5]) (by kernel_rfl) (by simp) ?_
  refine AllReadyH.cons (o := _) rfl (fun K hK => ?_) AllReadyH.nil
  go_simp
  go_at_call 16
  refine (dt2 _).mono ?_
  rintro e w8 ⟨rfl, hbq⟩
  go_wp2_with fail
  refine hK.out _ _ (KK.out _ _ (by assumption) hbq) (fun hHeld => ?_)
  clear hK hbq
  try simp only [Act.put, List.setIfInBounds_toArray, List.set_cons_zero, List.set_cons_succ]
  refine wpAnyH_take (i := 6) (oi := _) (v := .bool true) rfl (by kernel_rfl) (by kernel_rfl) (by kernel_rfl) (fun _ _ _ h => h) (Or.inl ⟨by rfl, fun W1 _ => by go_simp⟩) (by assumption) ?_
  go_simp
  refine wpAnyH_take (i := 7) (oi := _) (v := .bool true) rfl (by kernel_rfl) (by kernel_rfl) (by kernel_rfl) (fun _ _ _ h => h) (Or.inl ⟨by rfl, fun W1 _ => by go_simp⟩) (by assumption) ?_
  go_simp
  refine wpAnyH_take (i := 8) (oi := _) (v := .bool true) rfl (by kernel_rfl) (by kernel_rfl) (by kernel_rfl) (fun _ _ _ h => h) (Or.inl ⟨by rfl, fun W1 _ => by go_simp⟩) (by assumption) ?_
  go_simp
  refine wpAnyH_take (i := 9) (oi := _) (v := _) rfl (by kernel_rfl) (by kernel_rfl) (by kernel_rfl) (fun _ _ _ h => h) (yLoad9 rfl _ rfl g2 rfl f (fun _ h => h.2.1)) (by assumption) ?_
  go_simp
  refine wpAnyH_take (i := 10) (oi := _) (v := _) rfl (by kernel_rfl) (by kernel_rfl) (by kernel_rfl) (fun _ _ _ h => h) (yLoad9 rfl _ rfl g3 rfl f (fun _ h => h.2.2.1)) (by assumption) ?_
  go_simp
  refine wpAnyH_take (i := 11) (oi := _) (v := .bool true) rfl (by kernel_rfl) (by kernel_rfl) (by kernel_rfl) (fun _ _ _ h => h) (yBin rfl _ _ _ _ _ rfl (fun _ => by kernel_rfl) (fun W => eql9_self f W)) (by assumption) ?_
  go_simp
  refine wpAnyH_take (i := 12) (oi := _) (v := .bool true) rfl (by kernel_rfl) (by kernel_rfl) (by kernel_rfl) (fun _ _ _ h => h) (Or.inl ⟨by rfl, fun W1 _ => by go_simp⟩) (by assumption) ?_
  go_simp
  refine wpAnyH_take (i := 13) (oi := _) (v := .bool true) rfl (by kernel_rfl) (by kernel_rfl) (by kernel_rfl) (fun _ _ _ h => h) (Or.inl ⟨by rfl, fun W1 _ => by go_simp⟩) (by assumption) ?_
  go_simp
  refine wpAnyH_take (i := 14) (oi := _) (v := .int .i64 x) rfl (by kernel_rfl) (by kernel_rfl) (by kernel_rfl) (fun _ _ _ h => h) (Or.inl ⟨by rfl, fun W1 _ => by go_simp⟩) (by assumption) ?_
  go_simp
  refine wpAnyH_take (i := 15) (oi := _) (v := .int .i64 x) rfl (by kernel_rfl) (by kernel_rfl) (by kernel_rfl) (fun _ _ _ h => h) (Or.inl ⟨by rfl, fun W1 _ => by go_simp⟩) (by assumption) ?_
  go_simp
  refine wpAnyH_take (i := 16) (oi := _) (v := .bool true) rfl (by kernel_rfl) (by kernel_rfl) (by kernel_rfl) (fun _ _ _ h => h) (Or.inl ⟨by rfl, fun W1 _ => by go_simp⟩) (by assumption) ?_
  go_simp
  refine wpAnyH_take (i := 17) (oi := _) (v := .bool true) rfl (by kernel_rfl) (by kernel_rfl) (by kernel_rfl) (fun _ _ _ h => h) (Or.inl ⟨by rfl, fun W1 _ => by go_simp⟩) (by assumption) ?_
  go_simp
  refine wpAnyH_take (i := 18) (oi := _) (v := .bool true) rfl (by kernel_rfl) (by kernel_rfl) (by kernel_rfl) (fun _ _ _ h => h) (Or.inl ⟨by rfl, fun W1 _ => by go_simp⟩) (by assumption) ?_
  go_simp
  refine wpAnyH_done (by kernel_rfl) ?_ _
  have HF : Hid (∀ W1 : World, Three B g1 g2 g3 w (ac 9 m) (ac 9 f) (ac 9 f) W1 → Below B w W1) := Lib.hid (fun _ h => h.2.2.2.1)
  go_wp2_with fail
  go_ret
  exact ⟨rfl, HF.out _ (by assumption)⟩

open Go.ChangeShapes Go.WideShapes Go.ChangeAt Go.Joins

theorem contract (H : Type) (enc : TypeId × Value → H) (W : World) (base : Nat) (args : Array Value) (ds gs : List (DataW H)) (before : List MemPlace)
    (hval : ∀ (j : Nat) t v, Try.f4.params[j]? = some t → args[j]? = some v → Value.okWide Try.prog W .any base t v)
    (hW : DataW.Whole enc Try.prog Try.f4.params.toList Rows.matrixInversesSpec.vars false W args.toList ds gs before) :
    Calls Try.prog 4 args W fun e W' => ∃ v, e = .returned v ∧ Rows.matrixInversesSpec.post enc Try.prog Try.f4 false true false false W args v W' := by
  have hW' := hW
  obtain ⟨p, q, hA0, hV, rfl, hfz, hnd⟩ := hW
  have hA : DataW.TrodAll enc Try.prog W 0 (fun _ => true) true Try.f4.params.toList args.toList ds p := hA0
  rw [Try.params4] at hA hval
  obtain ⟨v0, vs0, d0, ds0, p0, q0, hargs, rfl, rfl, g0, r0⟩ := trodAll_cons hA
  obtain ⟨rfl, rfl, rfl⟩ := trodAll_nil r0
  obtain rfl : args = #[v0] := by cases args; simp_all
  obtain ⟨rfl, rfl⟩ := trodVars_none hV
  obtain ⟨m0, rfl⟩ := open9 (hval 0 22 v0 rfl rfl)
  clear hA0
  refine (walk m0 W).mono fun e W' ⟨he, hb⟩ => ?_
  subst he
  exact ⟨_, rfl, Frame.law_post Frame.laidOut (by kernel_rfl) Try.underlying4 (by kernel_rfl) rfl rfl hW' hb⟩

set_option maxRecDepth 100000 in
theorem lifted (os : Os) (started : os.Started) (H : Type) (enc : TypeId × Value → H) :
    ReturnsInHanded {} Try.checked os 4 .any (Rows.matrixInversesSpec.pre6 enc Try.prog Try.f4 Rows.matrixInversesRow.domain false) (Rows.matrixInversesSpec.post enc Try.prog Try.f4 false true false false) := by
  refine returnsInHanded_of_change (C := Try.checked) Frame.own started (by kernel_rfl) Try.func4
    (ChangeSpec.witness6 (enc := enc) (C := Try.checked) false ⟨#[], #[.agg (Array.replicate 9 (.int .i64 0))], []⟩ 8 (by kernel_rfl) (by kernel_rfl) (by kernel_rfl) (by kernel_rfl)) ?_
  intro W base args ds gs before hval hW _ _
  exact contract H enc W base args ds gs before hval hW

theorem proved : Rows.MatrixInversesSaid :=
  OpenClaim.holds_of_wide 4 Try.f4 rfl rfl rfl rfl rfl rfl rfl ⟨rfl, rfl, rfl, rfl, rfl⟩ rfl rfl rfl rfl rfl (by kernel_rfl) Try.func4 (by kernel_rfl)
    (of_decide_eq_true (by kernel_rfl)) (by unfold Func.isWrapper; first | (rw [if_pos (by decide +kernel)]; kernel_rfl) | (rw [if_neg (by decide +kernel)]; exact ⟨rfl, rfl⟩))
    (fun os started H enc _ => lifted os started H enc)

end Go.Proofs.Ytcmaoomcdmjimaa.MatrixInverses
