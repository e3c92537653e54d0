/-
  The reference of layer 8: determinants, and one element of an inverse.
-/
import Derived.Test.YtcmaoomcdmjimaaRMatD
namespace Go.Proofs.Ytcmaoomcdmjimaa.Mat
open Go.RowKit Go.Proofs.Ytcmaoomcdmjimaa Go.Proofs.Ytcmaoomcdmjimaa.NumPure Go.Proofs.Ytcmaoomcdmjimaa.MatPure

theorem step_load9 {ops : Array Oper} {o : Oper} {a : Act} {w : World} {K : Act → World → Prop} {Q : Exit → Act → World → Prop} {E : Prop} (hgd : o.guard = none) (x : Operand) (ho : o.op = .load 22 x) (g : Nat)
    (hx : a.eval x = .pointer (some ⟨g, 0, none⟩)) (m : Nat → Int) (hr : w.rangeAt g 0 (al 9 m)) (h : K (a.put o.dst (.agg (al 9 m).toArray)) w) :
    if Region.wanted o (yielded ops a.tmps) = true then Oper.wp Try.prog o a w K Q else E := by
  have hw : Region.wanted o (yielded ops a.tmps) = true := by simp [Region.wanted, hgd]
  rw [if_pos hw]
  exact wp_load_mid _ _ ho g 0 hx (al 9 m) _ hr Try.underlying22 rfl (size9 m) h

set_option maxHeartbeats 4000000 in
set_option maxRecDepth 100000 in
theorem rExact_any (m : Nat → Int) (hm : okM m = true) (w : World) : Calls Try.prog 31 #[.agg (ac 9 m)] w fun e w' => e = .returned (.int .i64 (det9 m)) ∧ Below w.heap.size w w' := by
  obtain ⟨B, hB⟩ : ∃ B, B = w.heap.size := ⟨_, rfl⟩
  rw [← hB]
  obtain ⟨q0, hq0⟩ : ∃ q, q = cof m 0 0 := ⟨_, rfl⟩
  obtain ⟨q1, hq1⟩ : ∃ q, q = cof m 0 1 := ⟨_, rfl⟩
  obtain ⟨q2, hq2⟩ : ∃ q, q = cof m 0 2 := ⟨_, rfl⟩
  have b0 := cof_in m hm 0 0
  have b1 := cof_in m hm 0 1
  have b2 := cof_in m hm 0 2
  have hc0 : ∀ W, Calls Try.prog 33 #[.agg (al 9 m).toArray, .int .i64 0, .int .i64 0] W fun e w' => e = .returned (.int .i64 q0) ∧ Below W.heap.size W w' := fun W => by rw [hq0]; exact rCof_any m hm 0 0 (by omega) (by omega) W
  have hc1 : ∀ W, Calls Try.prog 33 #[.agg (al 9 m).toArray, .int .i64 0, .int .i64 1] W fun e w' => e = .returned (.int .i64 q1) ∧ Below W.heap.size W w' := fun W => by rw [hq1]; exact rCof_any m hm 0 1 (by omega) (by omega) W
  have hc2 : ∀ W, Calls Try.prog 33 #[.agg (al 9 m).toArray, .int .i64 0, .int .i64 2] W fun e w' => e = .returned (.int .i64 q2) ∧ Below W.heap.size W w' := fun W => by rw [hq2]; exact rCof_any m hm 0 2 (by omega) (by omega) W
  rw [← hq0] at b0
  rw [← hq1] at b1
  rw [← hq2] at b2
  have hM := okM_iff.1 hm
  obtain ⟨m0, hm0⟩ : ∃ q, q = m 0 := ⟨_, rfl⟩
  obtain ⟨m1, hm1⟩ : ∃ q, q = m 1 := ⟨_, rfl⟩
  obtain ⟨m2, hm2⟩ : ∃ q, q = m 2 := ⟨_, rfl⟩
  have a0 := hM 0 (by omega)
  have a1 := hM 1 (by omega)
  have a2 := hM 2 (by omega)
  rw [← hm0] at a0
  rw [← hm1] at a1
  rw [← hm2] at a2
  have p0 := cprod_in a0.1 a0.2 b0.1 b0.2
  have p1 := cprod_in a1.1 a1.2 b1.1 b1.2
  have p2 := cprod_in a2.1 a2.2 b2.1 b2.2
  have HD : Hid (m0 * q0 + m1 * q1 + m2 * q2 = det9 m) := Lib.hid (by rw [hm0, hm1, hm2, hq0, hq1, hq2]; simp only [det9, esum, Int.zero_add])
  have i0 : IntKind.i64.wrap (m0 * q0) = m0 * q0 := IntWalk.i64_in _ (by omega)
  have i1 : IntKind.i64.wrap (m1 * q1) = m1 * q1 := IntWalk.i64_in _ (by omega)
  have i2 : IntKind.i64.wrap (m2 * q2) = m2 * q2 := IntWalk.i64_in _ (by omega)
  have i3 : IntKind.i64.wrap (m0 * q0 + m1 * q1) = m0 * q0 + m1 * q1 := IntWalk.i64_in _ (by omega)
  have i4 : IntKind.i64.wrap (m0 * q0 + m1 * q1 + m2 * q2) = m0 * q0 + m1 * q1 + m2 * q2 := IntWalk.i64_in _ (by omega)
  have HM0 := Lib.hid hm0
  have HM1 := Lib.hid hm1
  have HM2 := Lib.hid hm2
  clear hq0 hq1 hq2 hm0 hm1 hm2 hM a0 a1 a2 b0 b1 b2 p0 p1 p2
  go_enter Try.func31, Try.ntmps31
  go_wp2_with fail
  have H0 := Blk.new w 22 (ac 9 m)
  have hb0 : Below B w (w.alloc (.cells (ac 9 m) 22)) := by rw [hB]; exact (Below.refl _ _).alloc (Nat.le_refl _) _
  obtain ⟨W, hW⟩ : ∃ W, W = w.alloc (.cells (ac 9 m) 22) := ⟨_, rfl⟩
  obtain ⟨g, eg⟩ : ∃ g, g = w.heap.size := ⟨_, rfl⟩
  rw [← hW, ← eg] at H0 ⊢
  rw [← hW] at hb0
  have hg : B ≤ g := by omega
  clear hW hB eg hm
  have K0 : ∀ W' : World, Blk W' g 22 (ac 9 m) → Below B w W' → W'.cell? ⟨g, 0, none⟩ = some (.int .i64 m0) ∧ W'.cell? ⟨g, 1, none⟩ = some (.int .i64 m1) ∧ W'.cell? ⟨g, 2, none⟩ = some (.int .i64 m2) ∧ W'.rangeAt g 0 (al 9 m) ∧ Blk W' g 22 (ac 9 m) ∧ Below B w W' := fun W' h hb =>
    ⟨by rw [h.cell 0, HM0.out]; rfl, by rw [h.cell 1, HM1.out]; rfl, by rw [h.cell 2, HM2.out]; rfl, range9 h, h, hb⟩
  have hbox := Lib.hid (K0 W.drew H0.drew hb0.drew)
  have KK : Hid (∀ W1 W' : World, (W1.cell? ⟨g, 0, none⟩ = some (.int .i64 m0) ∧ W1.cell? ⟨g, 1, none⟩ = some (.int .i64 m1) ∧ W1.cell? ⟨g, 2, none⟩ = some (.int .i64 m2) ∧ W1.rangeAt g 0 (al 9 m) ∧ Blk W1 g 22 (ac 9 m) ∧ Below B w W1) → Below W1.heap.size W1 W' →
      W'.cell? ⟨g, 0, none⟩ = some (.int .i64 m0) ∧ W'.cell? ⟨g, 1, none⟩ = some (.int .i64 m1) ∧ W'.cell? ⟨g, 2, none⟩ = some (.int .i64 m2) ∧ W'.rangeAt g 0 (al 9 m) ∧ Blk W' g 22 (ac 9 m) ∧ Below B w W') :=
    Lib.hid (fun W1 W' h hq => K0 W' (h.2.2.2.2.1.below hq h.2.2.2.2.1.lt) (h.2.2.2.2.2.trans (hq.mono (by have := h.2.2.2.2.1.lt; omega))))
  have HR : Hid (∀ W1 : World, (W1.cell? ⟨g, 0, none⟩ = some (.int .i64 m0) ∧ W1.cell? ⟨g, 1, none⟩ = some (.int .i64 m1) ∧ W1.cell? ⟨g, 2, none⟩ = some (.int .i64 m2) ∧ W1.rangeAt g 0 (al 9 m) ∧ Blk W1 g 22 (ac 9 m) ∧ Below B w W1) → W1.rangeAt g 0 (al 9 m)) := Lib.hid (fun _ h => h.2.2.2.1)
  have hu := Try.underlying22
  have hsz := size9 m
  clear H0 hb0 K0
  refine wp_region_held_drew (S := (fun w' => w'.cell? ⟨g, 0, none⟩ = some (.int .i64 m0) ∧ w'.cell? ⟨g, 1, none⟩ = some (.int .i64 m1) ∧ w'.cell? ⟨g, 2, none⟩ = some (.int .i64 m2) ∧ w'.rangeAt g 0 (al 9 m) ∧ Blk w' g 22 (ac 9 m) ∧ Below B w w')) (by kernel_rfl) hbox.out (fun hHeld => ?_)
  refine wpAnyH_take (i := 0) (oi := _) (v := .pointer (some ⟨g, 0, none⟩)) rfl (by kernel_rfl) (by kernel_rfl) (by kernel_rfl) (fun _ _ _ h => h) (Or.inl ⟨by rfl, fun W1 hS1 => by obtain ⟨c0, c1, c2, _, _, _⟩ := hS1; go_simp⟩) (by assumption) ?_
  go_simp
  refine wpAnyH_take (i := 1) (oi := _) (v := .int .i64 (m0)) rfl (by kernel_rfl) (by kernel_rfl) (by kernel_rfl) (fun _ _ _ h => h) (Or.inl ⟨by rfl, fun W1 hS1 => by obtain ⟨c0, c1, c2, _, _, _⟩ := hS1; go_simp⟩) (by assumption) ?_
  go_simp
  refine wpAnyH_take (i := 2) (oi := _) (v := _) rfl (by kernel_rfl) (by kernel_rfl) (by kernel_rfl) (fun _ _ _ h => h) (yieldsIf_load_mid (by rfl) _ _ rfl g 0 rfl (al 9 m) _ (fun _ h => h.2.2.2.1) hu rfl hsz) (by assumption) ?_
  go_simp
  refine wpAnyH_take (i := 5) (oi := _) (v := .pointer (some ⟨g, 1, none⟩)) rfl (by kernel_rfl) (by kernel_rfl) (by kernel_rfl) (fun _ _ _ h => h) (Or.inl ⟨by rfl, fun W1 hS1 => by obtain ⟨c0, c1, c2, _, _, _⟩ := hS1; go_simp⟩) (by assumption) ?_
  go_simp
  refine wpAnyH_take (i := 6) (oi := _) (v := .int .i64 (m1)) rfl (by kernel_rfl) (by kernel_rfl) (by kernel_rfl) (fun _ _ _ h => h) (Or.inl ⟨by rfl, fun W1 hS1 => by obtain ⟨c0, c1, c2, _, _, _⟩ := hS1; go_simp⟩) (by assumption) ?_
  go_simp
  refine wpAnyH_take (i := 7) (oi := _) (v := _) rfl (by kernel_rfl) (by kernel_rfl) (by kernel_rfl) (fun _ _ _ h => h) (yieldsIf_load_mid (by rfl) _ _ rfl g 0 rfl (al 9 m) _ (fun _ h => h.2.2.2.1) hu rfl hsz) (by assumption) ?_
  go_simp
  refine wpAnyH_take (i := 11) (oi := _) (v := .pointer (some ⟨g, 2, none⟩)) rfl (by kernel_rfl) (by kernel_rfl) (by kernel_rfl) (fun _ _ _ h => h) (Or.inl ⟨by rfl, fun W1 hS1 => by obtain ⟨c0, c1, c2, _, _, _⟩ := hS1; go_simp⟩) (by assumption) ?_
  go_simp
  refine wpAnyH_take (i := 12) (oi := _) (v := .int .i64 (m2)) rfl (by kernel_rfl) (by kernel_rfl) (by kernel_rfl) (fun _ _ _ h => h) (Or.inl ⟨by rfl, fun W1 hS1 => by obtain ⟨c0, c1, c2, _, _, _⟩ := hS1; go_simp⟩) (by assumption) ?_
  go_simp
  refine wpAnyH_take (i := 13) (oi := _) (v := _) rfl (by kernel_rfl) (by kernel_rfl) (by kernel_rfl) (fun _ _ _ h => h) (yieldsIf_load_mid (by rfl) _ _ rfl g 0 rfl (al 9 m) _ (fun _ h => h.2.2.2.1) hu rfl hsz) (by assumption) ?_
  go_simp
  refine wpAnyH_ready (rs := [3]) (by kernel_rfl) (by simp) ?_
  refine AllReadyH.cons (o := _) rfl (fun K hK => ?_) AllReadyH.nil
  go_simp
  go_at_call 33
  refine (hc0 _).mono ?_
  rintro e w' ⟨rfl, hbq⟩
  go_wp2_with fail
  refine hK.out _ _ (KK.out _ _ (by assumption) hbq) (fun hHeld => ?_)
  clear hK hbq
  try simp only [Act.put, List.setIfInBounds_toArray, List.set_cons_zero, List.set_cons_succ]
  refine wpAnyH_take (i := 4) (oi := _) (v := .int .i64 (m0 * q0)) rfl (by kernel_rfl) (by kernel_rfl) (by kernel_rfl) (fun _ _ _ h => h) (Or.inl ⟨by rfl, fun W1 hS1 => by obtain ⟨c0, c1, c2, _, _, _⟩ := hS1; go_simp⟩) (by assumption) ?_
  go_simp
  refine wpAnyH_ready (rs := [8]) (by kernel_rfl) (by simp) ?_
  refine AllReadyH.cons (o := _) rfl (fun K hK => ?_) AllReadyH.nil
  go_simp
  go_at_call 33
  refine (hc1 _).mono ?_
  rintro e w' ⟨rfl, hbq⟩
  go_wp2_with fail
  refine hK.out _ _ (KK.out _ _ (by assumption) hbq) (fun hHeld => ?_)
  clear hK hbq
  try simp only [Act.put, List.setIfInBounds_toArray, List.set_cons_zero, List.set_cons_succ]
  refine wpAnyH_take (i := 9) (oi := _) (v := .int .i64 (m1 * q1)) rfl (by kernel_rfl) (by kernel_rfl) (by kernel_rfl) (fun _ _ _ h => h) (Or.inl ⟨by rfl, fun W1 hS1 => by obtain ⟨c0, c1, c2, _, _, _⟩ := hS1; go_simp⟩) (by assumption) ?_
  go_simp
  refine wpAnyH_take (i := 10) (oi := _) (v := .int .i64 (m0 * q0 + m1 * q1)) rfl (by kernel_rfl) (by kernel_rfl) (by kernel_rfl) (fun _ _ _ h => h) (Or.inl ⟨by rfl, fun W1 hS1 => by obtain ⟨c0, c1, c2, _, _, _⟩ := hS1; go_simp⟩) (by assumption) ?_
  go_simp
  refine wpAnyH_ready (rs := [14]) (by kernel_rfl) (by simp) ?_
  refine AllReadyH.cons (o := _) rfl (fun K hK => ?_) AllReadyH.nil
  go_simp
  go_at_call 33
  refine (hc2 _).mono ?_
  rintro e w' ⟨rfl, hbq⟩
  go_wp2_with fail
  refine hK.out _ _ (KK.out _ _ (by assumption) hbq) (fun hHeld => ?_)
  clear hK hbq
  try simp only [Act.put, List.setIfInBounds_toArray, List.set_cons_zero, List.set_cons_succ]
  refine wpAnyH_take (i := 15) (oi := _) (v := .int .i64 (m2 * q2)) rfl (by kernel_rfl) (by kernel_rfl) (by kernel_rfl) (fun _ _ _ h => h) (Or.inl ⟨by rfl, fun W1 hS1 => by obtain ⟨c0, c1, c2, _, _, _⟩ := hS1; go_simp⟩) (by assumption) ?_
  go_simp
  refine wpAnyH_take (i := 16) (oi := _) (v := .int .i64 (m0 * q0 + m1 * q1 + m2 * q2)) rfl (by kernel_rfl) (by kernel_rfl) (by kernel_rfl) (fun _ _ _ h => h) (Or.inl ⟨by rfl, fun W1 hS1 => by obtain ⟨c0, c1, c2, _, _, _⟩ := hS1; go_simp⟩) (by assumption) ?_
  go_simp
  refine wpAnyH_take (i := 17) (oi := _) (v := .int .i64 (m0 * q0 + m1 * q1 + m2 * q2)) rfl (by kernel_rfl) (by kernel_rfl) (by kernel_rfl) (fun _ _ _ h => h) (Or.inl ⟨by rfl, fun W1 hS1 => by obtain ⟨c0, c1, c2, _, _, _⟩ := hS1; go_simp⟩) (by assumption) ?_
  go_simp
  refine wpAnyH_done (by kernel_rfl) ?_ _
  have hfin : ∀ W1 : World, (W1.cell? ⟨g, 0, none⟩ = some (.int .i64 m0) ∧ W1.cell? ⟨g, 1, none⟩ = some (.int .i64 m1) ∧ W1.cell? ⟨g, 2, none⟩ = some (.int .i64 m2) ∧ W1.rangeAt g 0 (al 9 m) ∧ Blk W1 g 22 (ac 9 m) ∧ Below B w W1) → Below B w W1 := fun _ h => h.2.2.2.2.2
  have HFin := Lib.hid hfin
  clear hfin
  go_wp2_with fail
  go_ret
  exact ⟨Num.ret_int HD.out, HFin.out _ (by assumption)⟩

set_option maxHeartbeats 2000000 in
theorem rDet_any (m : Nat → Int) (w : World) : Calls Try.prog 16 #[.agg (ac 9 m)] w fun e w' => e = .returned (.int .i64 (detM m)) ∧ Below w.heap.size w w' := by
  obtain ⟨B, hB⟩ : ∃ B, B = w.heap.size := ⟨_, rfl⟩
  rw [← hB]
  go_enter Try.func16, Try.ntmps16
  go_wp2_with (refine wpList_load_row rfl _ _ rfl w.heap.size rfl 22 (ac 9 m) (0, 0) _ (heap_alloc_new _ _) Try.underlying22 rfl info9 ?_)
  have H0 := Blk.new w 22 (ac 9 m)
  have hb0 : Below B w (w.alloc (.cells (ac 9 m) 22)) := by rw [hB]; exact (Below.refl _ _).alloc (Nat.le_refl _) _
  obtain ⟨W, hW⟩ : ∃ W, W = w.alloc (.cells (ac 9 m) 22) := ⟨_, rfl⟩
  obtain ⟨g, eg⟩ : ∃ g, g = w.heap.size := ⟨_, rfl⟩
  rw [← hW, ← eg] at H0 ⊢
  rw [← hW] at hb0
  have hg : B ≤ g := by omega
  clear hW hB eg
  cases hm : okM m with
  | false =>
    have HD : Hid (detM m = 0) := Lib.hid (by unfold detM; rw [hm]; rfl)
    refine (rCheck_bad m hm _).mono ?_
    rintro e w1 ⟨rfl, hb1⟩
    clear hm
    go_wp2_with fail
    go_ret
    exact ⟨by rw [HD.out]; rfl, hb0.trans (hb1.mono (by have := H0.lt; omega))⟩
  | true =>
    have HD : Hid (dvr (det9 m) 4294967296 = detM m) := Lib.hid (by unfold detM; rw [hm]; rfl)
    have hd := det9_in m hm
    refine (rCheck_ok m hm _).mono ?_
    rintro e w1 ⟨rfl, hb1⟩
    have H1 := H0.below hb1 H0.lt
    have hb2 := hb0.trans (hb1.mono (by have := H0.lt; omega))
    have HE := Lib.hid (fun W => rExact_any m hm W)
    clear hm H0 hb0 hb1
    go_wp2_with (refine wpList_load_row rfl _ _ rfl g rfl 22 (ac 9 m) (0, 0) _ H1 Try.underlying22 rfl info9 ?_)
    refine (HE.out _).mono ?_
    rintro e w2 ⟨rfl, hb3⟩
    have hb4 := hb2.trans (hb3.mono (by have := H1.lt; omega))
    clear H1 hb2 hb3
    go_wp2_with fail
    refine (Ref01.div_is (det9 m) 4294967296 _ rfl (by omega) (by omega) (by omega) (by omega) _).mono ?_
    rintro e w3 ⟨rfl, n3, rfl⟩
    go_wp2_with fail
    go_ret
    exact ⟨by rw [← HD.out]; rfl, below_drewN hb4 _⟩

end Go.Proofs.Ytcmaoomcdmjimaa.Mat
