/-
  ProfileConverts: Convert is as specified; it does not change the alpha, and to the same profile not a valid pixel.
-/
import Derived.Test.YtcighjeiimjbiaaAll8
namespace Go.Proofs.Ytcighjeiimjbiaa.ProfileConverts
open Go.RowKit Go.Proofs.Ytcighjeiimjbiaa Go.Proofs.Ytcighjeiimjbiaa.Pro Go.Proofs.Ytcighjeiimjbiaa.NumPure

def valB (x0 x1 x2 x3 : Int) : Bool := decide (0 ≤ x0 ∧ x0 ≤ 65535 ∧ 0 ≤ x1 ∧ x1 ≤ 65535 ∧ 0 ≤ x2 ∧ x2 ≤ 65535 ∧ 0 ≤ x3 ∧ x3 ≤ 65535)
set_option maxRecDepth 100000 in
set_option maxHeartbeats 8000000 in
theorem walk (a b : Pf) (x : P4) (w : World) (ha : PfR w a) (hb : PfR w b) : Calls Try.prog 7 #[a.val, b.val, pagg x] w (Yes w) := by
  obtain ⟨x0, x1, x2, x3⟩ := x
  obtain ⟨y, hy⟩ : ∃ y, cnvV a b (x0, x1, x2, x3) = y := ⟨_, rfl⟩
  obtain ⟨z, hz⟩ : ∃ z, cErr a b = z := ⟨_, rfl⟩
  obtain ⟨c, hc⟩ : ∃ y, cnvV a a (x0, x1, x2, x3) = y := ⟨_, rfl⟩
  obtain ⟨u, hu⟩ : ∃ z, cErr a a = z := ⟨_, rfl⟩
  have HB0 := Bn.three w 27 27 23 a.cells b.cells (pcs (x0, x1, x2, x3))
  obtain ⟨W, hW⟩ : ∃ W, ((w.alloc (.cells a.cells 27)).alloc (.cells b.cells 27)).alloc (.cells (pcs (x0, x1, x2, x3)) 23) = W := ⟨_, rfl⟩
  rw [hW] at HB0
  have HB := Lib.hid HB0
  have HA := Lib.hid (ha.below HB0.b)
  have HA' := Lib.hid (hb.below HB0.b)
  have C1 := fun W h h' => Convert_any a b (x0, x1, x2, x3) W h h'
  have C2 := fun W h h' => rConvert_any a b (x0, x1, x2, x3) W h h'
  have C3 := fun W h => Convert_any a a (x0, x1, x2, x3) W h h
  unfold PxC at C1 C2 C3
  rw [hy, hz] at C1 C2
  rw [hc, hu] at C3
  unfold Pf.val at C1 C2 C3 ⊢
  simp only [pagg_pcs] at C1 C2 C3 ⊢
  have HC1 := Lib.hid C1
  have HC2 := Lib.hid C2
  have HC3 := Lib.hid C3
  have HY := Lib.hid hy
  have HZ := Lib.hid hz
  have HC := Lib.hid hc
  have HU := Lib.hid hu
  clear ha hb HB0 C1 C2 C3 hy hz hc hu
  go_enter Try.func7, Try.ntmps7
  go_wp2_with (first
    | (refine wpList_load_row rfl _ _ rfl w.heap.size rfl 27 a.cells (0, 0) _ (HB.out.get 0 rfl) Try.underlying27 rfl a.info ?_)
    | (refine wpList_load_row rfl _ _ rfl (w.heap.size + 1) rfl 27 b.cells (0, 0) _ (HB.out.get 1 rfl) Try.underlying27 rfl b.info ?_)
    | (refine wpList_load_row rfl _ _ rfl (w.heap.size + 1 + 1) rfl 23 (pcs (x0, x1, x2, x3)) (0, 0) _ (HB.out.get 2 rfl) Try.underlying23 rfl (infoX _) ?_))
  refine (HC1.out W HA.out HA'.out).mono ?_
  clear HC1 hW
  obtain ⟨ga, hga⟩ : ∃ g, w.heap.size = g := ⟨_, rfl⟩
  obtain ⟨gb, hgb⟩ : ∃ g, ga + 1 = g := ⟨_, rfl⟩
  obtain ⟨gx, hgx⟩ : ∃ g, gb + 1 = g := ⟨_, rfl⟩
  rw [hga, hgb, hgx] at HB ⊢
  clear hga hgb hgx
  rintro e w1 ⟨rfl, hb⟩
  have hB := (HB.out.below hb).push _ rfl 23 (pcs y)
  have HB1 : Hid (Bn w _ [(ga, 27, a.cells), (gb, 27, b.cells), (gx, 23, pcs (x0, x1, x2, x3)), (w1.heap.size, 23, pcs y)]) := Lib.hid hB
  have HA2 := Lib.hid ((HA.out.below hb).below ((Below.refl w1.heap.size _).alloc (Nat.le_refl _) (.cells (pcs y) 23)))
  have HA3 := Lib.hid ((HA'.out.below hb).below ((Below.refl w1.heap.size _).alloc (Nat.le_refl _) (.cells (pcs y) 23)))
  clear hb hB HB HA HA'
  go_upto_region 2 with (first
    | (refine wpList_allocC runX rfl rfl ?_)
    | (refine wpList_store_row rfl _ _ _ rfl w1.heap.size (pcs y) rfl rfl 23 (pcs (0, 0, 0, 0)) (heap_alloc_new _ _) (infoX _) rfl (pcs_one _) ?_; rw [World.setRow_alloc_new]))
  obtain ⟨gy, hg⟩ : ∃ g, w1.heap.size = g := ⟨_, rfl⟩
  obtain ⟨Wgy, hW⟩ : ∃ W, w1.alloc (.cells (pcs y) 23) = W := ⟨_, rfl⟩
  rw [hW, hg] at HB1
  rw [hW] at HA2 HA3
  rw [hW, hg]
  have HA := HA2
  have HA' := HA3
  clear hW hg HA2 HA3
  go_wp2_with (first
    | (refine wpList_load_row rfl _ _ rfl ga rfl 27 a.cells (0, 0) _ (HB1.out.get 0 rfl) Try.underlying27 rfl a.info ?_)
    | (refine wpList_load_row rfl _ _ rfl gb rfl 27 b.cells (0, 0) _ (HB1.out.get 1 rfl) Try.underlying27 rfl b.info ?_)
    | (refine wpList_load_row rfl _ _ rfl gx rfl 23 (pcs (x0, x1, x2, x3)) (0, 0) _ (HB1.out.get 2 rfl) Try.underlying23 rfl (infoX _) ?_))
  refine (HC2.out _ HA.out HA'.out).mono ?_
  clear HC2
  rintro e w2 ⟨rfl, hb⟩
  have hB := (HB1.out.below hb).push _ rfl 23 (pcs y)
  have HB2 : Hid (Bn w _ [(ga, 27, a.cells), (gb, 27, b.cells), (gx, 23, pcs (x0, x1, x2, x3)), (gy, 23, pcs y), (w2.heap.size, 23, pcs y)]) := Lib.hid hB
  have HA2 := Lib.hid ((HA.out.below hb).below ((Below.refl w2.heap.size _).alloc (Nat.le_refl _) (.cells (pcs y) 23)))
  have HA3 := Lib.hid ((HA'.out.below hb).below ((Below.refl w2.heap.size _).alloc (Nat.le_refl _) (.cells (pcs y) 23)))
  clear hb hB HB1 HA HA'
  go_upto_region 3 with (first
    | (refine wpList_allocC runX rfl rfl ?_)
    | (refine wpList_store_row rfl _ _ _ rfl w2.heap.size (pcs y) rfl rfl 23 (pcs (0, 0, 0, 0)) (heap_alloc_new _ _) (infoX _) rfl (pcs_one _) ?_; rw [World.setRow_alloc_new]))
  obtain ⟨gv, hg⟩ : ∃ g, w2.heap.size = g := ⟨_, rfl⟩
  obtain ⟨Wgv, hW⟩ : ∃ W, w2.alloc (.cells (pcs y) 23) = W := ⟨_, rfl⟩
  rw [hW, hg] at HB2
  rw [hW] at HA2 HA3
  rw [hW, hg]
  have HA := HA2
  have HA' := HA3
  clear hW hg HA2 HA3
  go_wp2_with (first
    | (refine wpList_load_row rfl _ _ rfl ga rfl 27 a.cells (0, 0) _ (HB2.out.get 0 rfl) Try.underlying27 rfl a.info ?_)
    | (refine wpList_load_row rfl _ _ rfl gb rfl 27 b.cells (0, 0) _ (HB2.out.get 1 rfl) Try.underlying27 rfl b.info ?_)
    | (refine wpList_load_row rfl _ _ rfl gx rfl 23 (pcs (x0, x1, x2, x3)) (0, 0) _ (HB2.out.get 2 rfl) Try.underlying23 rfl (infoX _) ?_))
  refine (HC3.out _ HA.out).mono ?_
  clear HC3
  rintro e w3 ⟨rfl, hb⟩
  have hB := (HB2.out.below hb).push _ rfl 23 (pcs c)
  have HB3 : Hid (Bn w _ [(ga, 27, a.cells), (gb, 27, b.cells), (gx, 23, pcs (x0, x1, x2, x3)), (gy, 23, pcs y), (gv, 23, pcs y), (w3.heap.size, 23, pcs c)]) := Lib.hid hB
  have HA2 := Lib.hid ((HA.out.below hb).below ((Below.refl w3.heap.size _).alloc (Nat.le_refl _) (.cells (pcs c) 23)))
  have HA3 := Lib.hid ((HA'.out.below hb).below ((Below.refl w3.heap.size _).alloc (Nat.le_refl _) (.cells (pcs c) 23)))
  clear hb hB HB2 HA HA'
  go_upto_region 4 with (first
    | (refine wpList_allocC runX rfl rfl ?_)
    | (refine wpList_store_row rfl _ _ _ rfl w3.heap.size (pcs c) rfl rfl 23 (pcs (0, 0, 0, 0)) (heap_alloc_new _ _) (infoX _) rfl (pcs_one _) ?_; rw [World.setRow_alloc_new]))
  obtain ⟨gc, hg⟩ : ∃ g, w3.heap.size = g := ⟨_, rfl⟩
  obtain ⟨Wgc, hW⟩ : ∃ W, w3.alloc (.cells (pcs c) 23) = W := ⟨_, rfl⟩
  rw [hW, hg] at HB3
  rw [hW] at HA2 HA3
  rw [hW, hg]
  have HA := HA2
  have HA' := HA3
  clear hW hg HA2 HA3
  have q0 : ∀ W, (binOp .neq 23 (.agg (pcs y)) (.agg (pcs y))).run Try.prog W = .ok (.bool false) W := fun W => (neqX y y W).trans (by rw [decide_eq_true rfl]; rfl)
  go_wp2_with (first
    | (refine wpList_load_row rfl _ _ rfl gy rfl 23 (pcs y) (0, 0) _ (HB3.out.get 3 rfl) Try.underlying23 rfl (infoX _) ?_)
    | (refine wpList_load_row rfl _ _ rfl gv rfl 23 (pcs y) (0, 0) _ (HB3.out.get 4 rfl) Try.underlying23 rfl (infoX _) ?_))
  refine (awake_any _).mono ?_
  rintro e w4 ⟨rfl, hb⟩
  have HB4 := Lib.hid (HB3.out.below hb)
  clear hb HB3 q0 HA HA'
  obtain ⟨y0, y1, y2, y3⟩ := y
  have al : Hid (z = 0 → y3 = unt x3) := Lib.hid fun h => by
    have := cnv_alpha (HZ.out.trans h) (x0, x1, x2, x3)
    rw [HY.out] at this
    exact this
  have co : Hid (u = 0 → c = (unt x0, unt x1, unt x2, unt x3)) := Lib.hid fun h => by
    rw [← HC.out, ← cnvV_ok (HU.out.trans h), ← cnv0_same (same_self a)]
    rfl
  obtain ⟨d0, d1, d2, d3, _⟩ := blk4 (show Blk w4 gx 23 #[.int .i64 x0, .int .i64 x1, .int .i64 x2, .int .i64 x3] from HB4.out.get 2 rfl)
  have d4 : w4.cell? ⟨gy, 3, none⟩ = some (.int .i64 y3) := (HB4.out.get 3 rfl).cell 3
  have hmid : (z == 0) = false ∨ (z = 0 ∧ 0 ≤ y3 ∧ y3 ≤ 65535 ∧ (0 ≤ x3 → x3 ≤ 65535 → y3 = x3)) := by
    by_cases h : z = 0
    · refine Or.inr ⟨h, ?_⟩
      have h1 := al.out h
      have h2 := unt_in x3
      refine ⟨by omega, by omega, fun a b => ?_⟩
      rw [h1, unt_id a b]
    · exact Or.inl (by simpa using h)
  obtain ⟨v, hv⟩ : ∃ v, valB x0 x1 x2 x3 = v := ⟨_, rfl⟩
  have hx : Hid (u = 0 → v = true → c = (x0, x1, x2, x3)) := Lib.hid fun h h' => by
    rw [h'] at hv
    unfold valB at hv
    obtain ⟨v0, v1, v2, v3, v4, v5, v6, v7⟩ := of_decide_eq_true hv
    rw [co.out h, unt_id v0 v1, unt_id v2 v3, unt_id v4 v5, unt_id v6 v7]
  clear al co
  have HV := Lib.hid hv
  have HM := Lib.hid hmid
  clear hv hmid
  go_upto_region 6 with fail
  go_cut [75] (fun s wx => s = .bool false ∧ w4 = wx)
  case first =>
    rcases HM.out with h1 | ⟨rfl, m0, m1, m2⟩
    · clear HM
      go_wp2_with fail
      go_meet
      exact ⟨rfl, rfl⟩
    · clear HM
      have m3 : x3 < 0 ∨ (0 ≤ x3 ∧ 65535 < x3) ∨ (0 ≤ x3 ∧ x3 ≤ 65535 ∧ y3 = x3) := by
        by_cases h : 0 ≤ x3 ∧ x3 ≤ 65535
        · exact Or.inr (Or.inr ⟨h.1, h.2, m2 h.1 h.2⟩)
        · omega
      clear m2
      rcases m3 with n0 | ⟨n0, n1⟩ | ⟨n0, n1, rfl⟩
      · go_wp2_with fail
        go_meet
        first
          | exact ⟨rfl, rfl⟩
          | exact ⟨by rw [decide_eq_false (by omega), decide_eq_false (by omega)]; rfl, rfl⟩
      · go_wp2_with fail
        go_meet
        first
          | exact ⟨rfl, rfl⟩
          | exact ⟨by rw [decide_eq_false (by omega), decide_eq_false (by omega)]; rfl, rfl⟩
      · go_wp2_with fail
        go_meet
        first
          | exact ⟨rfl, rfl⟩
          | exact ⟨by rw [decide_eq_false (by omega), decide_eq_false (by omega)]; rfl, rfl⟩
  case rest =>
    obtain ⟨rfl, rfl⟩ := hcut
    clear HM
    go_upto_region 8 with fail
    go_cut [13] (fun s wx => s = .bool v ∧ w4 = wx)
    case first =>
      have hv := HV.out
      unfold valB at hv
      clear HV hx
      by_cases h : 0 ≤ x0 ∧ x0 ≤ 65535 ∧ 0 ≤ x1 ∧ x1 ≤ 65535 ∧ 0 ≤ x2 ∧ x2 ≤ 65535 ∧ 0 ≤ x3 ∧ x3 ≤ 65535
      · rw [decide_eq_true h] at hv
        obtain ⟨h0, h1, h2, h3, h4, h5, h6, h7⟩ := h
        subst hv
        go_wp2_with fail
        go_meet
        exact ⟨rfl, rfl⟩
      · rw [decide_eq_false h] at hv
        subst hv
        have HV := Lib.hid h
        clear h
        go_wp2_with fail
        all_goals
          go_meet
          first
            | exact ⟨rfl, rfl⟩
            | (exfalso; have := HV.out; omega)
            | exact ⟨by rw [decide_eq_false (by have := HV.out; omega)], rfl⟩
    case rest =>
      obtain ⟨rfl, rfl⟩ := hcut
      clear HV d0 d1 d2 d3 d4
      by_cases h0 : u = 0
      · subst h0
        cases v with
        | true =>
          obtain rfl := hx.out rfl rfl
          clear hx
          have q : ∀ W, (binOp .eql 23 (.agg (pcs (x0, x1, x2, x3))) (.agg (pcs (x0, x1, x2, x3)))).run Try.prog W = .ok (.bool true) W := fun W => (eqlX (x0, x1, x2, x3) (x0, x1, x2, x3) W).trans (by rw [decide_eq_true rfl])
          go_wp2_with (first
            | (refine wpList_load_rowGX rfl _ rfl gx rfl (x0, x1, x2, x3) (HB4.out.get 2 rfl) ?_)
            | (refine wpList_load_rowGX rfl _ rfl gc rfl (x0, x1, x2, x3) (HB4.out.get 5 rfl) ?_))
          go_ret
          exact ⟨rfl, HB4.out.b⟩
        | false =>
          clear hx
          go_wp2_with fail
          go_ret
          exact ⟨rfl, HB4.out.b⟩
      · clear hx
        have h2 : (u != 0) = true := by simpa using h0
        go_wp2_with fail
        go_ret
        exact ⟨rfl, HB4.out.b⟩

open Go.ChangeShapes Go.WideShapes Go.ChangeAt Go.Joins Go.Deep

set_option maxRecDepth 100000 in
theorem contract (H : Type) (enc : TypeId × Value → H) (W : World) (base : Nat) (args : Array Value) (ds gs : List (DataW H)) (before : List MemPlace)
    (hval : ∀ (j : Nat) t v, Try.f7.params[j]? = some t → args[j]? = some v → Value.okWide Try.prog W .any base t v)
    (hW : DataW.Whole enc Try.prog Try.f7.params.toList Rows.profileConvertsSpec.vars false W args.toList ds gs before) :
    Calls Try.prog 7 args W fun e W' => ∃ v, e = .returned v ∧ Rows.profileConvertsSpec.post enc Try.prog Try.f7 false true false false W args v W' := by
  have hW' := hW
  obtain ⟨p, q, hA0, hV, rfl, hfz, hnd⟩ := hW
  have hA : DataW.TrodAll enc Try.prog W 0 (fun _ => true) true Try.f7.params.toList args.toList ds p := hA0
  rw [Try.params7] at hA hval
  obtain ⟨v0, vs0, d0, ds0, p0, q0, hargs, rfl, rfl, g0, r0⟩ := trodAll_cons hA
  obtain ⟨v1, vs1, d1, ds1, p1, q1, rfl, rfl, rfl, g1, r1⟩ := trodAll_cons r0
  obtain ⟨v2, vs2, d2, ds2, p2, q2, rfl, rfl, rfl, g2, r2⟩ := trodAll_cons r1
  obtain ⟨rfl, rfl, rfl⟩ := trodAll_nil r2
  obtain rfl : args = #[v0, v1, v2] := by cases args; simp_all
  obtain ⟨rfl, rfl⟩ := trodVars_none hV
  obtain ⟨p0_, rfl, hp0⟩ := arg_prof (hval 0 27 v0 rfl rfl) g0
  obtain ⟨p1_, rfl, hp1⟩ := arg_prof (hval 1 27 v1 rfl rfl) g1
  obtain ⟨x2_, rfl⟩ := arg_pix (hval 2 23 v2 rfl rfl) g2
  clear hA0
  refine (walk p0_ p1_ x2_ W hp0 hp1).mono fun e W' ⟨he, hb⟩ => ?_
  subst he
  exact ⟨_, rfl, Frame.law_post Frame.laidOut (by kernel_rfl) Try.underlying4 (by kernel_rfl) rfl rfl hW' hb⟩

set_option maxRecDepth 100000 in
theorem lifted (os : Os) (started : os.Started) (H : Type) (enc : TypeId × Value → H) :
    ReturnsInHanded {} Try.checked os 7 .any (Rows.profileConvertsSpec.pre6 enc Try.prog Try.f7 Rows.profileConvertsRow.domain false) (Rows.profileConvertsSpec.post enc Try.prog Try.f7 false true false false) := by
  refine returnsInHanded_of_change (C := Try.checked) Frame.own started (by kernel_rfl) Try.func7
    (ChangeSpec.witness6 (enc := enc) (C := Try.checked) false ⟨#[], #[.agg #[.string ⟨#[]⟩, .slice none 0 0, .int .i64 0, .int .i64 0, .int .i64 0, .int .i64 0, .int .i64 0, .int .i64 0, .int .i64 0, .int .i64 0, .int .i64 0], .agg #[.string ⟨#[]⟩, .slice none 0 0, .int .i64 0, .int .i64 0, .int .i64 0, .int .i64 0, .int .i64 0, .int .i64 0, .int .i64 0, .int .i64 0, .int .i64 0], .agg #[.int .i64 0, .int .i64 0, .int .i64 0, .int .i64 0]], []⟩ 8 (by kernel_rfl) (by kernel_rfl) (by kernel_rfl) (by kernel_rfl)) ?_
  intro W base args ds gs before hval hW _ _
  exact contract H enc W base args ds gs before hval hW

theorem proved : Rows.ProfileConvertsSaid :=
  OpenClaim.holds_of_wide 7 Try.f7 rfl rfl rfl rfl rfl rfl rfl ⟨rfl, rfl, rfl, rfl, rfl⟩ rfl rfl rfl rfl rfl (by kernel_rfl) Try.func7 (by kernel_rfl)
    (of_decide_eq_true (by kernel_rfl)) (by unfold Func.isWrapper; first | (rw [if_pos (by decide +kernel)]; kernel_rfl) | (rw [if_neg (by decide +kernel)]; exact ⟨rfl, rfl⟩))
    (fun os started H enc _ => lifted os started H enc)


end Go.Proofs.Ytcighjeiimjbiaa.ProfileConverts
