/-
  ProfileColors: Linear and Encode are as specified.
-/
import Derived.Test.YtcighjeiimjbiaaAll8
namespace Go.Proofs.Ytcighjeiimjbiaa.ProfileColors
open Go.RowKit Go.Proofs.Ytcighjeiimjbiaa Go.Proofs.Ytcighjeiimjbiaa.Pro Go.Proofs.Ytcighjeiimjbiaa.NumPure
open Go.Proofs.Ytcighjeiimjbiaa.Mat (al ac invM invX appM info9 info3)

/-- What stands while the last line is worked out. -/
structure SS (w : World) (gp gx gv ga gb : Nat) (p : Pf) (x : P4) (v : Nat → Int) (y : P4) (W : World) : Prop where
  n : Bn w W [(gp, 27, p.cells), (gx, 23, pcs x), (gv, 34, ac 3 v), (ga, 23, pcs y), (gb, 23, pcs y)]
  p : PfR W p
theorem SS.below {w W W' : World} {gp gx gv ga gb : Nat} {p : Pf} {x y : P4} {v : Nat → Int} (h : SS w gp gx gv ga gb p x v y W) (hb : Below W.heap.size W W') : SS w gp gx gv ga gb p x v y W' := ⟨h.n.below hb, h.p.below hb⟩
theorem SS.drew {w W : World} {gp gx gv ga gb : Nat} {p : Pf} {x y : P4} {v : Nat → Int} (h : SS w gp gx gv ga gb p x v y W) : SS w gp gx gv ga gb p x v y W.drew := h.below (Below.refl _ _).drew
set_option maxRecDepth 100000 in
set_option maxHeartbeats 8000000 in
theorem walk (p : Pf) (x : P4) (v : Nat → Int) (w : World) (hp : PfR w p) : Calls Try.prog 6 #[p.val, pagg x, .agg (ac 3 v)] w (Yes w) := by
  obtain ⟨x0, x1, x2, x3⟩ := x
  obtain ⟨y, hy⟩ : ∃ y, encV p v x3 = y := ⟨_, rfl⟩
  obtain ⟨z, hz⟩ : ∃ z, pErr p = z := ⟨_, rfl⟩
  obtain ⟨l, hl⟩ : ∃ l, linV p (x0, x1, x2, x3) = l := ⟨_, rfl⟩
  have HB0 := Bn.three w 27 23 34 p.cells (pcs (x0, x1, x2, x3)) (ac 3 v)
  obtain ⟨W, hW⟩ : ∃ W, ((w.alloc (.cells p.cells 27)).alloc (.cells (pcs (x0, x1, x2, x3)) 23)).alloc (.cells (ac 3 v) 34) = W := ⟨_, rfl⟩
  rw [hW] at HB0
  have HB := Lib.hid HB0
  have HA := Lib.hid (hp.below HB0.b)
  have C1 := fun W h => Encode_any p v x3 W h
  have C2 := fun W h => rEncode_any p v x3 W h
  have C3 := fun W h => Linear_any p (x0, x1, x2, x3) W h
  have C4 := fun W h => rLinear_any p (x0, x1, x2, x3) W h
  unfold PxC at C1 C2
  unfold LinC at C3 C4
  rw [hy, hz] at C1 C2
  rw [hl] at C3 C4
  unfold Pf.val at C1 C2 C3 C4 ⊢
  simp only [pagg_pcs] at C1 C2 C3 C4 ⊢
  have HC1 := Lib.hid C1
  have HC2 := Lib.hid C2
  have HC3 := Lib.hid C3
  have HC4 := Lib.hid C4
  clear hp HB0 C1 C2 C3 C4 hy hz hl
  obtain ⟨d0, d1, d2, d3, d4⟩ := blk4 (show Blk W (w.heap.size + 1) 23 #[.int .i64 x0, .int .i64 x1, .int .i64 x2, .int .i64 x3] from HB.out.get 1 rfl)
  go_enter Try.func6, Try.ntmps6
  go_wp2_with (first
    | (refine wpList_load_row rfl _ _ rfl w.heap.size rfl 27 p.cells (0, 0) _ (HB.out.get 0 rfl) Try.underlying27 rfl p.info ?_)
    | (refine wpList_load_row rfl _ _ rfl (w.heap.size + 1 + 1) rfl 34 (ac 3 v) (0, 0) _ (HB.out.get 2 rfl) Try.underlying34 rfl info3 ?_))
  refine (HC1.out W HA.out).mono ?_
  clear HC1 hW d0 d1 d2 d3 d4
  obtain ⟨gp, hgp⟩ : ∃ g, w.heap.size = g := ⟨_, rfl⟩
  obtain ⟨gx, hgx⟩ : ∃ g, gp + 1 = g := ⟨_, rfl⟩
  obtain ⟨gv, hgv⟩ : ∃ g, gx + 1 = g := ⟨_, rfl⟩
  rw [hgp, hgx, hgv] at HB ⊢
  clear hgp hgx hgv
  rintro e w1 ⟨rfl, hb⟩
  have hB := (HB.out.below hb).push _ rfl 23 (pcs y)
  have HB1 : Hid (Bn w _ [(gp, 27, p.cells), (gx, 23, pcs (x0, x1, x2, x3)), (gv, 34, ac 3 v), (w1.heap.size, 23, pcs y)]) := Lib.hid hB
  have HA2 := Lib.hid ((HA.out.below hb).below ((Below.refl w1.heap.size _).alloc (Nat.le_refl _) (.cells (pcs y) 23)))
  clear hb hB HB HA
  go_upto_region 2 with (first
    | (refine wpList_allocC runX rfl rfl ?_)
    | (refine wpList_store_row rfl _ _ _ rfl w1.heap.size (pcs y) rfl rfl 23 (pcs (0, 0, 0, 0)) (heap_alloc_new _ _) (infoX _) rfl (pcs_one _) ?_; rw [World.setRow_alloc_new]))
  obtain ⟨ga, hg⟩ : ∃ g, w1.heap.size = g := ⟨_, rfl⟩
  obtain ⟨Wga, hW⟩ : ∃ W, w1.alloc (.cells (pcs y) 23) = W := ⟨_, rfl⟩
  rw [hW, hg] at HB1
  rw [hW] at HA2
  rw [hW, hg]
  have HA := HA2
  clear hW hg HA2
  obtain ⟨d0, d1, d2, d3, d4⟩ := blk4 (show Blk Wga gx 23 #[.int .i64 x0, .int .i64 x1, .int .i64 x2, .int .i64 x3] from HB1.out.get 1 rfl)
  go_wp2_with (first
    | (refine wpList_load_row rfl _ _ rfl gp rfl 27 p.cells (0, 0) _ (HB1.out.get 0 rfl) Try.underlying27 rfl p.info ?_)
    | (refine wpList_load_row rfl _ _ rfl gv rfl 34 (ac 3 v) (0, 0) _ (HB1.out.get 2 rfl) Try.underlying34 rfl info3 ?_))
  refine (HC2.out _ HA.out).mono ?_
  clear HC2 d0 d1 d2 d3 d4
  rintro e w2 ⟨rfl, hb⟩
  have hB := (HB1.out.below hb).push _ rfl 23 (pcs y)
  have HB2 : Hid (Bn w _ [(gp, 27, p.cells), (gx, 23, pcs (x0, x1, x2, x3)), (gv, 34, ac 3 v), (ga, 23, pcs y), (w2.heap.size, 23, pcs y)]) := Lib.hid hB
  have HA2 := Lib.hid ((HA.out.below hb).below ((Below.refl w2.heap.size _).alloc (Nat.le_refl _) (.cells (pcs y) 23)))
  clear hb hB HB1 HA
  go_upto_region 3 with (first
    | (refine wpList_allocC runX rfl rfl ?_)
    | (refine wpList_store_row rfl _ _ _ rfl w2.heap.size (pcs y) rfl rfl 23 (pcs (0, 0, 0, 0)) (heap_alloc_new _ _) (infoX _) rfl (pcs_one _) ?_; rw [World.setRow_alloc_new]))
  obtain ⟨gb, hg⟩ : ∃ g, w2.heap.size = g := ⟨_, rfl⟩
  obtain ⟨Wgb, hW⟩ : ∃ W, w2.alloc (.cells (pcs y) 23) = W := ⟨_, rfl⟩
  rw [hW, hg] at HB2
  rw [hW] at HA2
  rw [hW, hg]
  have HA := HA2
  clear hW hg HA2
  have HS : Hid (SS w gp gx gv ga gb p (x0, x1, x2, x3) v y Wgb) := Lib.hid ⟨HB2.out, HA.out⟩
  clear HB2 HA
  have KK : Hid (∀ W1 W' : World, SS w gp gx gv ga gb p (x0, x1, x2, x3) v y W1 → Below W1.heap.size W1 W' → SS w gp gx gv ga gb p (x0, x1, x2, x3) v y W') := Lib.hid (fun W1 W' h hq => h.below hq)
  refine wp_region_held_drew (S := fun W => SS w gp gx gv ga gb p (x0, x1, x2, x3) v y W) (by kernel_rfl) (HS.out.drew) (fun hHeld => ?_)
  refine wpAnyH_take (i := 0) (oi := _) (v := .agg p.cells) rfl (by kernel_rfl) (by kernel_rfl) (by kernel_rfl) (fun _ _ _ h => h) (yLoadP rfl _ rfl gp rfl p (fun _ h => h.n.get 0 rfl)) (by assumption) ?_
  go_simp
  refine wpAnyH_take (i := 1) (oi := _) (v := .agg (pcs (x0, x1, x2, x3))) rfl (by kernel_rfl) (by kernel_rfl) (by kernel_rfl) (fun _ _ _ h => h) (yLoadX rfl _ rfl gx rfl (x0, x1, x2, x3) (fun _ h => h.n.get 1 rfl)) (by assumption) ?_
  go_simp
  refine wpAnyH_take (i := 3) (oi := _) (v := .agg p.cells) rfl (by kernel_rfl) (by kernel_rfl) (by kernel_rfl) (fun _ _ _ h => h) (yLoadP rfl _ rfl gp rfl p (fun _ h => h.n.get 0 rfl)) (by assumption) ?_
  go_simp
  refine wpAnyH_take (i := 4) (oi := _) (v := .agg (pcs (x0, x1, x2, x3))) rfl (by kernel_rfl) (by kernel_rfl) (by kernel_rfl) (fun _ _ _ h => h) (yLoadX rfl _ rfl gx rfl (x0, x1, x2, x3) (fun _ h => h.n.get 1 rfl)) (by assumption) ?_
  go_simp
  refine wpAnyH_ready (rs := [2]) (by kernel_rfl) (by simp) ?_
  refine AllReadyH.cons (o := _) rfl (fun K hK => ?_) AllReadyH.nil
  go_simp
  go_at_call 13
  refine (HC3.out _ hHeld.p).mono ?_
  rintro e v3 ⟨rfl, hb⟩
  go_wp2_with fail
  refine hK.out _ _ (KK.out _ _ (by assumption) hb) (fun hHeld => ?_)
  clear hK
  try simp only [Act.put, List.setIfInBounds_toArray, List.set_cons_zero, List.set_cons_succ]
  clear hb
  refine wpAnyH_ready (rs := [5]) (by kernel_rfl) (by simp) ?_
  refine AllReadyH.cons (o := _) rfl (fun K hK => ?_) AllReadyH.nil
  go_simp
  go_at_call 27
  refine (HC4.out _ hHeld.p).mono ?_
  rintro e v4 ⟨rfl, hb⟩
  go_wp2_with fail
  refine hK.out _ _ (KK.out _ _ (by assumption) hb) (fun hHeld => ?_)
  clear hK
  try simp only [Act.put, List.setIfInBounds_toArray, List.set_cons_zero, List.set_cons_succ]
  clear hb
  refine wpAnyH_take (i := 6) (oi := _) (v := .bool true) rfl (by kernel_rfl) (by kernel_rfl) (by kernel_rfl) (fun _ _ _ h => h) (yBin rfl _ _ _ _ _ rfl (fun _ => by kernel_rfl) (eql3_self l)) (by assumption) ?_
  go_simp
  refine wpAnyH_take (i := 7) (oi := _) (v := .bool true) rfl (by kernel_rfl) (by kernel_rfl) (by kernel_rfl) (fun _ _ _ h => h) (Or.inl ⟨by rfl, fun W1 hS => by go_simp⟩) (by assumption) ?_
  go_simp
  refine wpAnyH_take (i := 8) (oi := _) (v := .agg (pcs y)) rfl (by kernel_rfl) (by kernel_rfl) (by kernel_rfl) (fun _ _ _ h => h) (yLoadX rfl _ rfl ga rfl y (fun _ h => h.n.get 3 rfl)) (by assumption) ?_
  go_simp
  refine wpAnyH_take (i := 9) (oi := _) (v := .agg (pcs y)) rfl (by kernel_rfl) (by kernel_rfl) (by kernel_rfl) (fun _ _ _ h => h) (yLoadX rfl _ rfl gb rfl y (fun _ h => h.n.get 4 rfl)) (by assumption) ?_
  go_simp
  refine wpAnyH_take (i := 10) (oi := _) (v := .bool true) rfl (by kernel_rfl) (by kernel_rfl) (by kernel_rfl) (fun _ _ _ h => h) (yBin rfl _ _ _ _ _ rfl (fun _ => by kernel_rfl) (eqlX_self y)) (by assumption) ?_
  go_simp
  refine wpAnyH_take (i := 11) (oi := _) (v := .bool true) rfl (by kernel_rfl) (by kernel_rfl) (by kernel_rfl) (fun _ _ _ h => h) (Or.inl ⟨by rfl, fun W1 hS => by go_simp⟩) (by assumption) ?_
  go_simp
  refine wpAnyH_take (i := 12) (oi := _) (v := .bool true) rfl (by kernel_rfl) (by kernel_rfl) (by kernel_rfl) (fun _ _ _ h => h) (Or.inl ⟨by rfl, fun W1 hS => by go_simp⟩) (by assumption) ?_
  go_simp
  refine wpAnyH_take (i := 13) (oi := _) (v := .int .i64 z) rfl (by kernel_rfl) (by kernel_rfl) (by kernel_rfl) (fun _ _ _ h => h) (Or.inl ⟨by rfl, fun W1 hS => by go_simp⟩) (by assumption) ?_
  go_simp
  refine wpAnyH_take (i := 14) (oi := _) (v := .int .i64 z) rfl (by kernel_rfl) (by kernel_rfl) (by kernel_rfl) (fun _ _ _ h => h) (Or.inl ⟨by rfl, fun W1 hS => by go_simp⟩) (by assumption) ?_
  go_simp
  refine wpAnyH_take (i := 15) (oi := _) (v := .bool true) rfl (by kernel_rfl) (by kernel_rfl) (by kernel_rfl) (fun _ _ _ h => h) (Or.inl ⟨by rfl, fun W1 hS => by go_simp⟩) (by assumption) ?_
  go_simp
  refine wpAnyH_take (i := 16) (oi := _) (v := .bool true) rfl (by kernel_rfl) (by kernel_rfl) (by kernel_rfl) (fun _ _ _ h => h) (Or.inl ⟨by rfl, fun W1 hS => by go_simp⟩) (by assumption) ?_
  go_simp
  refine wpAnyH_take (i := 17) (oi := _) (v := .bool true) rfl (by kernel_rfl) (by kernel_rfl) (by kernel_rfl) (fun _ _ _ h => h) (Or.inl ⟨by rfl, fun W1 hS => by go_simp⟩) (by assumption) ?_
  go_simp
  refine wpAnyH_ready (rs := [18]) (by kernel_rfl) (by simp) ?_
  refine AllReadyH.cons (o := _) rfl (fun K hK => ?_) AllReadyH.nil
  go_simp
  go_at_call 11
  refine (awake_any _).mono ?_
  rintro e v5 ⟨rfl, hb⟩
  go_wp2_with fail
  refine hK.out _ _ (KK.out _ _ (by assumption) hb) (fun hHeld => ?_)
  clear hK
  try simp only [Act.put, List.setIfInBounds_toArray, List.set_cons_zero, List.set_cons_succ]
  clear hb
  refine wpAnyH_take (i := 19) (oi := _) (v := .bool true) rfl (by kernel_rfl) (by kernel_rfl) (by kernel_rfl) (fun _ _ _ h => h) (Or.inl ⟨by rfl, fun W1 hS => by go_simp⟩) (by assumption) ?_
  go_simp
  refine wpAnyH_take (i := 20) (oi := _) (v := .bool true) rfl (by kernel_rfl) (by kernel_rfl) (by kernel_rfl) (fun _ _ _ h => h) (Or.inl ⟨by rfl, fun W1 hS => by go_simp⟩) (by assumption) ?_
  go_simp
  refine wpAnyH_done (by kernel_rfl) ?_ _
  have HE : Hid (∀ W1 : World, SS w gp gx gv ga gb p (x0, x1, x2, x3) v y W1 → Below w.heap.size w W1) := Lib.hid fun _ h => h.n.b
  go_wp2_with fail
  go_ret
  exact ⟨rfl, HE.out _ (by assumption)⟩

open Go.ChangeShapes Go.WideShapes Go.ChangeAt Go.Joins Go.Deep

set_option maxRecDepth 100000 in
theorem contract (H : Type) (enc : TypeId × Value → H) (W : World) (base : Nat) (args : Array Value) (ds gs : List (DataW H)) (before : List MemPlace)
    (hval : ∀ (j : Nat) t v, Try.f6.params[j]? = some t → args[j]? = some v → Value.okWide Try.prog W .any base t v)
    (hW : DataW.Whole enc Try.prog Try.f6.params.toList Rows.profileColorsSpec.vars false W args.toList ds gs before) :
    Calls Try.prog 6 args W fun e W' => ∃ v, e = .returned v ∧ Rows.profileColorsSpec.post enc Try.prog Try.f6 false true false false W args v W' := by
  have hW' := hW
  obtain ⟨p, q, hA0, hV, rfl, hfz, hnd⟩ := hW
  have hA : DataW.TrodAll enc Try.prog W 0 (fun _ => true) true Try.f6.params.toList args.toList ds p := hA0
  rw [Try.params6] at hA hval
  obtain ⟨v0, vs0, d0, ds0, p0, q0, hargs, rfl, rfl, g0, r0⟩ := trodAll_cons hA
  obtain ⟨v1, vs1, d1, ds1, p1, q1, rfl, rfl, rfl, g1, r1⟩ := trodAll_cons r0
  obtain ⟨v2, vs2, d2, ds2, p2, q2, rfl, rfl, rfl, g2, r2⟩ := trodAll_cons r1
  obtain ⟨rfl, rfl, rfl⟩ := trodAll_nil r2
  obtain rfl : args = #[v0, v1, v2] := by cases args; simp_all
  obtain ⟨rfl, rfl⟩ := trodVars_none hV
  obtain ⟨p0_, rfl, hp0⟩ := arg_prof (hval 0 27 v0 rfl rfl) g0
  obtain ⟨x1_, rfl⟩ := arg_pix (hval 1 23 v1 rfl rfl) g1
  obtain ⟨m2_, rfl⟩ := arg_v3 (hval 2 34 v2 rfl rfl) g2
  clear hA0
  refine (walk p0_ x1_ m2_ W hp0).mono fun e W' ⟨he, hb⟩ => ?_
  subst he
  exact ⟨_, rfl, Frame.law_post Frame.laidOut (by kernel_rfl) Try.underlying4 (by kernel_rfl) rfl rfl hW' hb⟩

set_option maxRecDepth 100000 in
theorem lifted (os : Os) (started : os.Started) (H : Type) (enc : TypeId × Value → H) :
    ReturnsInHanded {} Try.checked os 6 .any (Rows.profileColorsSpec.pre6 enc Try.prog Try.f6 Rows.profileColorsRow.domain false) (Rows.profileColorsSpec.post enc Try.prog Try.f6 false true false false) := by
  refine returnsInHanded_of_change (C := Try.checked) Frame.own started (by kernel_rfl) Try.func6
    (ChangeSpec.witness6 (enc := enc) (C := Try.checked) false ⟨#[], #[.agg #[.string ⟨#[]⟩, .slice none 0 0, .int .i64 0, .int .i64 0, .int .i64 0, .int .i64 0, .int .i64 0, .int .i64 0, .int .i64 0, .int .i64 0, .int .i64 0], .agg #[.int .i64 0, .int .i64 0, .int .i64 0, .int .i64 0], .agg #[.int .i64 0, .int .i64 0, .int .i64 0]], []⟩ 8 (by kernel_rfl) (by kernel_rfl) (by kernel_rfl) (by kernel_rfl)) ?_
  intro W base args ds gs before hval hW _ _
  exact contract H enc W base args ds gs before hval hW

theorem proved : Rows.ProfileColorsSaid :=
  OpenClaim.holds_of_wide 6 Try.f6 rfl rfl rfl rfl rfl rfl rfl ⟨rfl, rfl, rfl, rfl, rfl⟩ rfl rfl rfl rfl rfl (by kernel_rfl) Try.func6 (by kernel_rfl)
    (of_decide_eq_true (by kernel_rfl)) (by unfold Func.isWrapper; first | (rw [if_pos (by decide +kernel)]; kernel_rfl) | (rw [if_neg (by decide +kernel)]; exact ⟨rfl, rfl⟩))
    (fun os started H enc _ => lifted os started H enc)


end Go.Proofs.Ytcighjeiimjbiaa.ProfileColors
