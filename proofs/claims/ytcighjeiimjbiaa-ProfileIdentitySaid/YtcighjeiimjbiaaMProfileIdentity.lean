/-
  ProfileIdentity: with the profile linear a valid pixel that is not clear is returned exactly; a gray pixel of a profile whose matrix is the identity has three equal numbers.
-/
import Derived.Test.YtcighjeiimjbiaaAll8
namespace Go.Proofs.Ytcighjeiimjbiaa.ProfileIdentity
open Go.RowKit Go.Proofs.Ytcighjeiimjbiaa Go.Proofs.Ytcighjeiimjbiaa.Pro Go.Proofs.Ytcighjeiimjbiaa.NumPure
open Go.Proofs.Ytcighjeiimjbiaa.Mat (al ac invM invX appM info9 info3)

def valB (x0 x1 x2 x3 : Int) : Bool := decide (0 ≤ x0 ∧ x0 ≤ 65535 ∧ 0 ≤ x1 ∧ x1 ≤ 65535 ∧ 0 ≤ x2 ∧ x2 ≤ 65535 ∧ 1 ≤ x3 ∧ x3 ≤ 65535)
set_option maxRecDepth 100000 in
set_option maxHeartbeats 8000000 in
theorem walk (x : P4) (A : Option Addr) (c : Nat) (k : List K2) (w : World) (hk : KnR w A k) : Calls Try.prog 3 #[pagg x, .slice A k.length c] w (Yes w) := by
  obtain ⟨x0, x1, x2, x3⟩ := x
  have H0 := (Bn.nil w).push _ rfl 23 (pcs (x0, x1, x2, x3))
  obtain ⟨W, hW⟩ : ∃ W, w.alloc (.cells (pcs (x0, x1, x2, x3)) 23) = W := ⟨_, rfl⟩
  rw [hW] at H0
  have HB : Hid (Bn w W [(w.heap.size, 23, pcs (x0, x1, x2, x3))]) := Lib.hid H0
  obtain ⟨n, hn⟩ : ∃ n, k.length = n := ⟨_, rfl⟩
  have HN := Lib.hid hn
  have HK := Lib.hid hk
  rw [hn]
  rw [pagg_pcs]
  clear hn hk H0
  go_enter Try.func3, Try.ntmps3
  go_wp2_with fail
  try rw [hW]
  clear hW
  obtain ⟨gx, hgx⟩ : ∃ g, w.heap.size = g := ⟨_, rfl⟩
  rw [hgx] at HB ⊢
  clear hgx
  refine (Standard_0 _).mono ?_
  rintro e w1 ⟨Ap, cp, rfl, hkp, hb⟩
  rw [show (Pf.mk stN0 Ap cp stK0 stM0).val = .agg (pf0 Ap cp).cells from rfl]
  have hB := (HB.out.below hb).push _ rfl 27 (pf0 Ap cp).cells
  have hgp0 := (HB.out.below hb).b.size
  have hgxp : gx < w1.heap.size := ((HB.out.below hb).get 0 rfl).lt
  have HB1 : Hid (Bn w _ [(gx, 23, pcs (x0, x1, x2, x3)), (w1.heap.size, 27, (pf0 Ap cp).cells)]) := Lib.hid hB
  have hn := (Below.refl w1.heap.size _).alloc (Nat.le_refl _) (.cells (pf0 Ap cp).cells 27)
  have HP1 := Lib.hid (show PfR _ (pf0 Ap cp) from ⟨hkp.below hn, stN_nm 0⟩)
  clear hkp hb hB hn HB
  go_upto_region 2 with (first
    | (refine wpList_allocC runP rfl rfl ?_)
    | (refine wpList_store_row rfl _ _ _ rfl w1.heap.size (pf0 Ap cp).cells rfl rfl 27 Pf.zero.cells (heap_alloc_new _ _) (pf0 Ap cp).info (by rw [Pf.size, Pf.size]) (pf0 Ap cp).one ?_; rw [World.setRow_alloc_new]))
  obtain ⟨gp, hg⟩ : ∃ g, w1.heap.size = g := ⟨_, rfl⟩
  obtain ⟨W1, hW⟩ : ∃ W, w1.alloc (.cells (pf0 Ap cp).cells 27) = W := ⟨_, rfl⟩
  rw [hW, hg] at HB1
  rw [hg] at hgp0 hgxp
  rw [hW] at HP1
  rw [hW, hg]
  clear hW hg
  go_wp2_with fail
  refine (awake_any _).mono ?_
  rintro e w2 ⟨rfl, hb⟩
  have HI := Lib.hid (HB1.out.below hb)
  have HP := Lib.hid (HP1.out.below hb)
  have hgp2 := (HI.out.get 1 rfl).lt
  clear hb HB1 HP1
  go_upto_region 4 with fail
  obtain ⟨v, hv⟩ : ∃ v, valB x0 x1 x2 x3 = v := ⟨_, rfl⟩
  go_cut [7] (fun s wx => s = .bool v ∧ w2 = wx)
  case first =>
    obtain ⟨d0, d1, d2, d3, _⟩ := blk4 (show Blk w2 gx 23 #[.int .i64 x0, .int .i64 x1, .int .i64 x2, .int .i64 x3] from HI.out.get 0 rfl)
    unfold valB at hv
    by_cases h : 0 ≤ x0 ∧ x0 ≤ 65535 ∧ 0 ≤ x1 ∧ x1 ≤ 65535 ∧ 0 ≤ x2 ∧ x2 ≤ 65535 ∧ 1 ≤ x3 ∧ x3 ≤ 65535
    · rw [decide_eq_true h] at hv
      obtain ⟨h0, h1, h2, h3, h4, h5, h6, h7⟩ := h
      subst hv
      go_wp2_with fail
      go_meet
      exact ⟨rfl, rfl⟩
    · rw [decide_eq_false h] at hv
      subst hv
      have HV := Lib.hid h
      clear h
      go_wp2_with fail
      all_goals
        go_meet
        first
          | exact ⟨rfl, rfl⟩
          | (exfalso; have := HV.out; omega)
          | exact ⟨by rw [decide_eq_false (by have := HV.out; omega)], rfl⟩
  case rest =>
    obtain ⟨rfl, rfl⟩ := hcut
    obtain ⟨l, hl⟩ : ∃ l, linV (pf0 Ap cp) (x0, x1, x2, x3) = l := ⟨_, rfl⟩
    obtain ⟨y, hy⟩ : ∃ y, encV (pf0 Ap cp) l x3 = y := ⟨_, rfl⟩
    have hvl : v = true → (∀ j, j < 3 → l j = l3 x0 x1 x2 j) ∧ y = (x0, x1, x2, x3) := fun h => by
      rw [h] at hv
      unfold valB at hv
      obtain ⟨h0, h1, h2, h3, h4, h5, h6, h7⟩ := of_decide_eq_true hv
      have q := lin_id Ap cp (x3 := x3) h0 h1 h2 h3 h4 h5
      rw [hl] at q
      exact ⟨q, hy.symm.trans (enc_id Ap cp h0 h1 h2 h3 h4 h5 h6 h7 q)⟩
    have C1 := fun W h => Encode_any (pf0 Ap cp) l x3 W h
    have C3 := fun W h => Linear_any (pf0 Ap cp) (x0, x1, x2, x3) W h
    unfold PxC at C1
    unfold LinC at C3
    rw [hy, ok0] at C1
    rw [hl] at C3
    unfold Pf.val at C1 C3
    simp only [pagg_pcs] at C1 C3
    have HC1 := Lib.hid C1
    have HC3 := Lib.hid C3
    have HL := Lib.hid fun h => (hvl h).1
    have HY := Lib.hid fun h => (hvl h).2
    clear C1 C3 hl hy hvl hv
    go_upto_region 5 with fail
    go_cut [8, 9] (fun s t wx => ∃ ga, s = .pointer (some ⟨ga, 0, none⟩) ∧ t = .int .i64 0 ∧ w2.heap.size ≤ ga ∧ Below w2.heap.size w2 wx ∧ Blk wx ga 23 (pcs y))
    case first =>
      have hB0 := (Below.refl w2.heap.size w2).drew
      refine wp_region_held_drew (S := fun W => Below w2.heap.size w2 W) (by kernel_rfl) hB0 (fun hHeld => ?_)
      refine wpAnyH_take (i := 0) (oi := _) (v := .agg (pf0 Ap cp).cells) rfl (by kernel_rfl) (by kernel_rfl) (by kernel_rfl) (fun _ _ _ h => h) (yLoadP rfl _ rfl gp rfl (pf0 Ap cp) (fun _ h => (HI.out.below h).get 1 rfl)) (by assumption) ?_
      go_simp
      refine wpAnyH_take (i := 1) (oi := _) (v := .agg (pf0 Ap cp).cells) rfl (by kernel_rfl) (by kernel_rfl) (by kernel_rfl) (fun _ _ _ h => h) (yLoadP rfl _ rfl gp rfl (pf0 Ap cp) (fun _ h => (HI.out.below h).get 1 rfl)) (by assumption) ?_
      go_simp
      refine wpAnyH_take (i := 2) (oi := _) (v := .agg (pcs (x0, x1, x2, x3))) rfl (by kernel_rfl) (by kernel_rfl) (by kernel_rfl) (fun _ _ _ h => h) (yLoadX rfl _ rfl gx rfl (x0, x1, x2, x3) (fun _ h => (HI.out.below h).get 0 rfl)) (by assumption) ?_
      go_simp
      refine wpAnyH_take (i := 4) (oi := _) (v := .pointer (some ⟨gx, 3, none⟩)) rfl (by kernel_rfl) (by kernel_rfl) (by kernel_rfl) (fun _ _ _ h => h) (Or.inl ⟨by rfl, fun W1 hS => by go_simp⟩) (by assumption) ?_
      go_simp
      refine wpAnyH_take (i := 5) (oi := _) (v := .int .i64 x3) rfl (by kernel_rfl) (by kernel_rfl) (by kernel_rfl) (fun _ _ _ h => h) (Or.inl ⟨by rfl, fun W1 hS => by (obtain ⟨z0, z1, z2, z3, _⟩ := blk4 (show Blk _ gx 23 #[.int .i64 x0, .int .i64 x1, .int .i64 x2, .int .i64 x3] from (HI.out.below hS).get 0 rfl); go_simp)⟩) (by assumption) ?_
      go_simp
      have T0 := Lib.hid hB0
      clear hHeld hB0
      refine wpAnyH_ready (rs := [3, 10]) (by kernel_rfl) (by simp) ?_
      refine AllReadyH.cons (o := _) rfl (fun K hK => ?_) (AllReadyH.cons (o := _) rfl (fun K hK => ?_) AllReadyH.nil)
      · go_simp
        go_at_call 13
        refine (HC3.out _ (HP.out.below T0.out)).mono ?_
        rintro e v1 ⟨rfl, hb⟩
        go_wp2_with fail
        have T1 := Lib.hid (T0.out.trans (hb.mono T0.out.size))
        have HQ := Lib.hid hb
        clear hb
        refine hK.out _ _ (T1.out) (fun hHeld => ?_)
        clear hK
        try simp only [Act.put, List.setIfInBounds_toArray, List.set_cons_zero, List.set_cons_succ]
        clear HQ
        clear hHeld
        refine wpAnyH_ready (rs := [6, 10]) (by kernel_rfl) (by simp) ?_
        refine AllReadyH.cons (o := _) rfl (fun K hK => ?_) (AllReadyH.cons (o := _) rfl (fun K hK => ?_) AllReadyH.nil)
        · go_simp
          go_at_call 12
          refine (HC1.out _ (HP.out.below T1.out)).mono ?_
          rintro e v2 ⟨rfl, hb⟩
          go_wp2_with fail
          have T2 := Lib.hid (T1.out.trans (hb.mono T1.out.size))
          have HQ := Lib.hid hb
          clear hb
          refine hK.out _ _ (T2.out) (fun hHeld => ?_)
          clear hK
          try simp only [Act.put, List.setIfInBounds_toArray, List.set_cons_zero, List.set_cons_succ]
          clear HQ
          refine wpAnyH_take (i := 7) (oi := _) (v := .tuple #[.agg (pcs y), .int .i64 0]) rfl (by kernel_rfl) (by kernel_rfl) (by kernel_rfl) (fun _ _ _ h => h) (Or.inl ⟨by rfl, fun W1 hS => by go_simp⟩) (by assumption) ?_
          go_simp
          refine wpAnyH_take (i := 8) (oi := _) (v := .agg (pcs y)) rfl (by kernel_rfl) (by kernel_rfl) (by kernel_rfl) (fun _ _ _ h => h) (Or.inl ⟨by rfl, fun W1 hS => by go_simp⟩) (by assumption) ?_
          go_simp
          refine wpAnyH_take (i := 9) (oi := _) (v := .int .i64 0) rfl (by kernel_rfl) (by kernel_rfl) (by kernel_rfl) (fun _ _ _ h => h) (Or.inl ⟨by rfl, fun W1 hS => by go_simp⟩) (by assumption) ?_
          go_simp
          clear hHeld
          refine wpAnyH_ready (rs := [10]) (by kernel_rfl) (by simp) ?_
          refine AllReadyH.cons (o := _) rfl (fun K hK => ?_) AllReadyH.nil
          rw [if_pos (by rfl)]
          refine wp_allocX 8 rfl rfl ?_
          have T3 := Lib.hid (T2.out.alloc T2.out.size (.cells (pcs (0, 0, 0, 0)) 23))
          have HG := Lib.hid (Blk.new (v2) 23 (pcs (0, 0, 0, 0)))
          have hgx : w2.heap.size ≤ (v2).heap.size := T2.out.size
          refine hK.out _ _ T3.out (fun hHeld => ?_)
          clear hK hHeld
          revert T3 HG hgx
          obtain ⟨ga, hg⟩ : ∃ g, g = (v2).heap.size := ⟨_, rfl⟩
          obtain ⟨v3, hW⟩ : ∃ W, W = (v2).alloc (.cells (pcs (0, 0, 0, 0)) 23) := ⟨_, rfl⟩
          rw [← hg, ← hW]
          clear hg hW
          intro T3 HG hgx
          have hHeld := T3.out
          try simp only [Act.put, List.setIfInBounds_toArray, List.set_cons_zero, List.set_cons_succ]
          clear hHeld
          refine wpAnyH_ready (rs := [11]) (by kernel_rfl) (by simp) ?_
          refine AllReadyH.cons (o := _) rfl (fun K hK => ?_) AllReadyH.nil
          rw [if_pos (by rfl)]
          refine wp_store_row 23 _ _ rfl ga (pcs y) rfl rfl 23 (pcs (0, 0, 0, 0)) HG.out (infoX _) rfl (pcs_one _) ?_
          have T9 := Lib.hid (Mat.below_setRow T3.out hgx (pcs y))
          have HG9 := Lib.hid (Blk.row HG.out (pcs y))
          clear HG
          refine hK.out _ _ (T9.out) (fun hHeld => ?_)
          clear hK
          try simp only [Act.put, List.setIfInBounds_toArray]
          clear hHeld
          refine wpAnyH_ready (rs := [12]) (by kernel_rfl) (by simp) ?_
          refine AllReadyH.cons (o := _) rfl (fun K hK => ?_) AllReadyH.nil
          rw [if_pos (by rfl)]
          go_simp
          refine hK.out _ _ T9.out (fun hHeld => ?_)
          clear hK hHeld
          try simp only [Act.put, List.setIfInBounds_toArray]
          refine wpAnyH_done (by kernel_rfl) ?_ _
          go_wp2_with fail
          go_meet
          exact ⟨ga, rfl, rfl, hgx, T9.out, HG9.out⟩
        · rw [if_pos (by rfl)]
          refine wp_allocX 8 rfl rfl ?_
          have T2 := Lib.hid (T1.out.alloc T1.out.size (.cells (pcs (0, 0, 0, 0)) 23))
          have HG := Lib.hid (Blk.new (v1) 23 (pcs (0, 0, 0, 0)))
          have hgx : w2.heap.size ≤ (v1).heap.size := T1.out.size
          refine hK.out _ _ T2.out (fun hHeld => ?_)
          clear hK hHeld
          revert T2 HG hgx
          obtain ⟨ga, hg⟩ : ∃ g, g = (v1).heap.size := ⟨_, rfl⟩
          obtain ⟨v2, hW⟩ : ∃ W, W = (v1).alloc (.cells (pcs (0, 0, 0, 0)) 23) := ⟨_, rfl⟩
          rw [← hg, ← hW]
          clear hg hW
          intro T2 HG hgx
          have hHeld := T2.out
          try simp only [Act.put, List.setIfInBounds_toArray, List.set_cons_zero, List.set_cons_succ]
          clear hHeld
          refine wpAnyH_ready (rs := [6]) (by kernel_rfl) (by simp) ?_
          refine AllReadyH.cons (o := _) rfl (fun K hK => ?_) AllReadyH.nil
          go_simp
          go_at_call 12
          refine (HC1.out _ (HP.out.below T2.out)).mono ?_
          rintro e v3 ⟨rfl, hb⟩
          go_wp2_with fail
          have T3 := Lib.hid (T2.out.trans (hb.mono T2.out.size))
          have HQ := Lib.hid hb
          clear hb
          refine hK.out _ _ (T3.out) (fun hHeld => ?_)
          clear hK
          try simp only [Act.put, List.setIfInBounds_toArray, List.set_cons_zero, List.set_cons_succ]
          have HG := Lib.hid (HG.out.below HQ.out HG.out.lt)
          clear HQ
          refine wpAnyH_take (i := 7) (oi := _) (v := .tuple #[.agg (pcs y), .int .i64 0]) rfl (by kernel_rfl) (by kernel_rfl) (by kernel_rfl) (fun _ _ _ h => h) (Or.inl ⟨by rfl, fun W1 hS => by go_simp⟩) (by assumption) ?_
          go_simp
          refine wpAnyH_take (i := 8) (oi := _) (v := .agg (pcs y)) rfl (by kernel_rfl) (by kernel_rfl) (by kernel_rfl) (fun _ _ _ h => h) (Or.inl ⟨by rfl, fun W1 hS => by go_simp⟩) (by assumption) ?_
          go_simp
          refine wpAnyH_take (i := 9) (oi := _) (v := .int .i64 0) rfl (by kernel_rfl) (by kernel_rfl) (by kernel_rfl) (fun _ _ _ h => h) (Or.inl ⟨by rfl, fun W1 hS => by go_simp⟩) (by assumption) ?_
          go_simp
          clear hHeld
          refine wpAnyH_ready (rs := [11]) (by kernel_rfl) (by simp) ?_
          refine AllReadyH.cons (o := _) rfl (fun K hK => ?_) AllReadyH.nil
          rw [if_pos (by rfl)]
          refine wp_store_row 23 _ _ rfl ga (pcs y) rfl rfl 23 (pcs (0, 0, 0, 0)) HG.out (infoX _) rfl (pcs_one _) ?_
          have T9 := Lib.hid (Mat.below_setRow T3.out hgx (pcs y))
          have HG9 := Lib.hid (Blk.row HG.out (pcs y))
          clear HG
          refine hK.out _ _ (T9.out) (fun hHeld => ?_)
          clear hK
          try simp only [Act.put, List.setIfInBounds_toArray]
          clear hHeld
          refine wpAnyH_ready (rs := [12]) (by kernel_rfl) (by simp) ?_
          refine AllReadyH.cons (o := _) rfl (fun K hK => ?_) AllReadyH.nil
          rw [if_pos (by rfl)]
          go_simp
          refine hK.out _ _ T9.out (fun hHeld => ?_)
          clear hK hHeld
          try simp only [Act.put, List.setIfInBounds_toArray]
          refine wpAnyH_done (by kernel_rfl) ?_ _
          go_wp2_with fail
          go_meet
          exact ⟨ga, rfl, rfl, hgx, T9.out, HG9.out⟩
      · rw [if_pos (by rfl)]
        refine wp_allocX 8 rfl rfl ?_
        have T1 := Lib.hid (T0.out.alloc T0.out.size (.cells (pcs (0, 0, 0, 0)) 23))
        have HG := Lib.hid (Blk.new (w2.drew) 23 (pcs (0, 0, 0, 0)))
        have hgx : w2.heap.size ≤ (w2.drew).heap.size := T0.out.size
        refine hK.out _ _ T1.out (fun hHeld => ?_)
        clear hK hHeld
        revert T1 HG hgx
        obtain ⟨ga, hg⟩ : ∃ g, g = (w2.drew).heap.size := ⟨_, rfl⟩
        obtain ⟨v1, hW⟩ : ∃ W, W = (w2.drew).alloc (.cells (pcs (0, 0, 0, 0)) 23) := ⟨_, rfl⟩
        rw [← hg, ← hW]
        clear hg hW
        intro T1 HG hgx
        have hHeld := T1.out
        try simp only [Act.put, List.setIfInBounds_toArray, List.set_cons_zero, List.set_cons_succ]
        clear hHeld
        refine wpAnyH_ready (rs := [3]) (by kernel_rfl) (by simp) ?_
        refine AllReadyH.cons (o := _) rfl (fun K hK => ?_) AllReadyH.nil
        go_simp
        go_at_call 13
        refine (HC3.out _ (HP.out.below T1.out)).mono ?_
        rintro e v2 ⟨rfl, hb⟩
        go_wp2_with fail
        have T2 := Lib.hid (T1.out.trans (hb.mono T1.out.size))
        have HQ := Lib.hid hb
        clear hb
        refine hK.out _ _ (T2.out) (fun hHeld => ?_)
        clear hK
        try simp only [Act.put, List.setIfInBounds_toArray, List.set_cons_zero, List.set_cons_succ]
        have HG := Lib.hid (HG.out.below HQ.out HG.out.lt)
        clear HQ
        clear hHeld
        refine wpAnyH_ready (rs := [6]) (by kernel_rfl) (by simp) ?_
        refine AllReadyH.cons (o := _) rfl (fun K hK => ?_) AllReadyH.nil
        go_simp
        go_at_call 12
        refine (HC1.out _ (HP.out.below T2.out)).mono ?_
        rintro e v3 ⟨rfl, hb⟩
        go_wp2_with fail
        have T3 := Lib.hid (T2.out.trans (hb.mono T2.out.size))
        have HQ := Lib.hid hb
        clear hb
        refine hK.out _ _ (T3.out) (fun hHeld => ?_)
        clear hK
        try simp only [Act.put, List.setIfInBounds_toArray, List.set_cons_zero, List.set_cons_succ]
        have HG := Lib.hid (HG.out.below HQ.out HG.out.lt)
        clear HQ
        refine wpAnyH_take (i := 7) (oi := _) (v := .tuple #[.agg (pcs y), .int .i64 0]) rfl (by kernel_rfl) (by kernel_rfl) (by kernel_rfl) (fun _ _ _ h => h) (Or.inl ⟨by rfl, fun W1 hS => by go_simp⟩) (by assumption) ?_
        go_simp
        refine wpAnyH_take (i := 8) (oi := _) (v := .agg (pcs y)) rfl (by kernel_rfl) (by kernel_rfl) (by kernel_rfl) (fun _ _ _ h => h) (Or.inl ⟨by rfl, fun W1 hS => by go_simp⟩) (by assumption) ?_
        go_simp
        refine wpAnyH_take (i := 9) (oi := _) (v := .int .i64 0) rfl (by kernel_rfl) (by kernel_rfl) (by kernel_rfl) (fun _ _ _ h => h) (Or.inl ⟨by rfl, fun W1 hS => by go_simp⟩) (by assumption) ?_
        go_simp
        clear hHeld
        refine wpAnyH_ready (rs := [11]) (by kernel_rfl) (by simp) ?_
        refine AllReadyH.cons (o := _) rfl (fun K hK => ?_) AllReadyH.nil
        rw [if_pos (by rfl)]
        refine wp_store_row 23 _ _ rfl ga (pcs y) rfl rfl 23 (pcs (0, 0, 0, 0)) HG.out (infoX _) rfl (pcs_one _) ?_
        have T9 := Lib.hid (Mat.below_setRow T3.out hgx (pcs y))
        have HG9 := Lib.hid (Blk.row HG.out (pcs y))
        clear HG
        refine hK.out _ _ (T9.out) (fun hHeld => ?_)
        clear hK
        try simp only [Act.put, List.setIfInBounds_toArray]
        clear hHeld
        refine wpAnyH_ready (rs := [12]) (by kernel_rfl) (by simp) ?_
        refine AllReadyH.cons (o := _) rfl (fun K hK => ?_) AllReadyH.nil
        rw [if_pos (by rfl)]
        go_simp
        refine hK.out _ _ T9.out (fun hHeld => ?_)
        clear hK hHeld
        try simp only [Act.put, List.setIfInBounds_toArray]
        refine wpAnyH_done (by kernel_rfl) ?_ _
        go_wp2_with fail
        go_meet
        exact ⟨ga, rfl, rfl, hgx, T9.out, HG9.out⟩
    case rest =>
      obtain ⟨ga, rfl, rfl, hga, hb3, hG⟩ := hcut
      obtain ⟨w3, rfl⟩ : ∃ w3, w3 = wc := ⟨_, rfl⟩
      have HI2 : Hid (Bn w w3 [(gx, 23, pcs (x0, x1, x2, x3)), (gp, 27, (pf0 Ap cp).cells), (ga, 23, pcs y)]) := Lib.hid ⟨(HI.out.below hb3).b, fun i e he => by
        rcases i with _ | _ | _ | i
        · exact (HI.out.below hb3).at_ 0 e he
        · exact (HI.out.below hb3).at_ 1 e he
        · simp only [List.getElem?_cons_succ, List.getElem?_cons_zero, Option.some.injEq] at he
          subst he
          exact hG
        · simp at he⟩
      have HP2 := Lib.hid (HP.out.below hb3)
      clear HI HP hb3 hG HC1
      have HI := HI2
      have HP := HP2
      clear HI2 HP2
      go_upto_region 6 with fail
      go_cut [91] (fun s wx => s = .bool false ∧ Below w3.heap.size w3 wx)
      case first =>
        cases v with
        | true =>
          obtain rfl := HY.out rfl
          have hB0 := (Below.refl w3.heap.size w3).drew
          refine wp_region_held_drew (S := fun W => Below w3.heap.size w3 W) (by kernel_rfl) hB0 (fun hHeld => ?_)
          refine wpAnyH_take (i := 0) (oi := _) (v := .int .i64 0) rfl (by kernel_rfl) (by kernel_rfl) (by kernel_rfl) (fun _ _ _ h => h) (Or.inl ⟨by rfl, fun W1 hS => by go_simp⟩) (by assumption) ?_
          go_simp
          refine wpAnyH_take (i := 1) (oi := _) (v := .bool false) rfl (by kernel_rfl) (by kernel_rfl) (by kernel_rfl) (fun _ _ _ h => h) (Or.inl ⟨by rfl, fun W1 hS => by go_simp⟩) (by assumption) ?_
          go_simp
          refine wpAnyH_take (i := 2) (oi := _) (v := .bool false) rfl (by kernel_rfl) (by kernel_rfl) (by kernel_rfl) (fun _ _ _ h => h) (Or.inl ⟨by rfl, fun W1 hS => by go_simp⟩) (by assumption) ?_
          go_simp
          refine wpAnyH_take (i := 3) (oi := _) (v := .bool true) rfl (by kernel_rfl) (by kernel_rfl) (by kernel_rfl) (fun _ _ _ h => h) (Or.inl ⟨by rfl, fun W1 hS => by go_simp⟩) (by assumption) ?_
          go_simp
          refine wpAnyH_take (i := 4) (oi := _) (v := .bool true) rfl (by kernel_rfl) (by kernel_rfl) (by kernel_rfl) (fun _ _ _ h => h) (Or.inl ⟨by rfl, fun W1 hS => by go_simp⟩) (by assumption) ?_
          go_simp
          refine wpAnyH_take (i := 5) (oi := _) (v := .agg (pcs (x0, x1, x2, x3))) rfl (by kernel_rfl) (by kernel_rfl) (by kernel_rfl) (fun _ _ _ h => h) (yLoadX rfl _ rfl ga rfl (x0, x1, x2, x3) (fun _ h => (HI.out.below h).get 2 rfl)) (by assumption) ?_
          go_simp
          refine wpAnyH_take (i := 6) (oi := _) (v := .agg (pcs (x0, x1, x2, x3))) rfl (by kernel_rfl) (by kernel_rfl) (by kernel_rfl) (fun _ _ _ h => h) (yLoadX rfl _ rfl gx rfl (x0, x1, x2, x3) (fun _ h => (HI.out.below h).get 0 rfl)) (by assumption) ?_
          go_simp
          refine wpAnyH_take (i := 7) (oi := _) (v := .bool false) rfl (by kernel_rfl) (by kernel_rfl) (by kernel_rfl) (fun _ _ _ h => h) (yBin rfl _ _ _ _ _ rfl (fun _ => by kernel_rfl) (neqX_self (x0, x1, x2, x3))) (by assumption) ?_
          go_simp
          refine wpAnyH_take (i := 8) (oi := _) (v := .bool false) rfl (by kernel_rfl) (by kernel_rfl) (by kernel_rfl) (fun _ _ _ h => h) (Or.inl ⟨by rfl, fun W1 hS => by go_simp⟩) (by assumption) ?_
          go_simp
          refine wpAnyH_take (i := 9) (oi := _) (v := .agg (pf0 Ap cp).cells) rfl (by kernel_rfl) (by kernel_rfl) (by kernel_rfl) (fun _ _ _ h => h) (yLoadP rfl _ rfl gp rfl (pf0 Ap cp) (fun _ h => (HI.out.below h).get 1 rfl)) (by assumption) ?_
          go_simp
          refine wpAnyH_take (i := 10) (oi := _) (v := .agg (pcs (x0, x1, x2, x3))) rfl (by kernel_rfl) (by kernel_rfl) (by kernel_rfl) (fun _ _ _ h => h) (yLoadX rfl _ rfl gx rfl (x0, x1, x2, x3) (fun _ h => (HI.out.below h).get 0 rfl)) (by assumption) ?_
          go_simp
          refine wpAnyH_take (i := 12) (oi := _) (v := .pointer (some ⟨gx, 0, none⟩)) rfl (by kernel_rfl) (by kernel_rfl) (by kernel_rfl) (fun _ _ _ h => h) (Or.inl ⟨by rfl, fun W1 hS => by go_simp⟩) (by assumption) ?_
          go_simp
          refine wpAnyH_take (i := 13) (oi := _) (v := .int .i64 x0) rfl (by kernel_rfl) (by kernel_rfl) (by kernel_rfl) (fun _ _ _ h => h) (Or.inl ⟨by rfl, fun W1 hS => by (obtain ⟨z0, z1, z2, z3, _⟩ := blk4 (show Blk _ gx 23 #[.int .i64 x0, .int .i64 x1, .int .i64 x2, .int .i64 x3] from (HI.out.below hS).get 0 rfl); go_simp)⟩) (by assumption) ?_
          go_simp
          refine wpAnyH_take (i := 14) (oi := _) (v := .pointer (some ⟨gx, 1, none⟩)) rfl (by kernel_rfl) (by kernel_rfl) (by kernel_rfl) (fun _ _ _ h => h) (Or.inl ⟨by rfl, fun W1 hS => by go_simp⟩) (by assumption) ?_
          go_simp
          refine wpAnyH_take (i := 15) (oi := _) (v := .int .i64 x1) rfl (by kernel_rfl) (by kernel_rfl) (by kernel_rfl) (fun _ _ _ h => h) (Or.inl ⟨by rfl, fun W1 hS => by (obtain ⟨z0, z1, z2, z3, _⟩ := blk4 (show Blk _ gx 23 #[.int .i64 x0, .int .i64 x1, .int .i64 x2, .int .i64 x3] from (HI.out.below hS).get 0 rfl); go_simp)⟩) (by assumption) ?_
          go_simp
          refine wpAnyH_take (i := 16) (oi := _) (v := .pointer (some ⟨gx, 2, none⟩)) rfl (by kernel_rfl) (by kernel_rfl) (by kernel_rfl) (fun _ _ _ h => h) (Or.inl ⟨by rfl, fun W1 hS => by go_simp⟩) (by assumption) ?_
          go_simp
          refine wpAnyH_take (i := 17) (oi := _) (v := .int .i64 x2) rfl (by kernel_rfl) (by kernel_rfl) (by kernel_rfl) (fun _ _ _ h => h) (Or.inl ⟨by rfl, fun W1 hS => by (obtain ⟨z0, z1, z2, z3, _⟩ := blk4 (show Blk _ gx 23 #[.int .i64 x0, .int .i64 x1, .int .i64 x2, .int .i64 x3] from (HI.out.below hS).get 0 rfl); go_simp)⟩) (by assumption) ?_
          go_simp
          refine wpAnyH_take (i := 18) (oi := _) (v := .agg (ac 3 (l3 x0 x1 x2))) rfl (by kernel_rfl) (by kernel_rfl) (by kernel_rfl) (fun _ _ _ h => h) (yBuild rfl _ _ rfl (by kernel_rfl)) (by assumption) ?_
          go_simp
          have T0 := Lib.hid hHeld
          clear hHeld
          refine wpAnyH_ready (rs := [11]) (by kernel_rfl) (by simp) ?_
          refine AllReadyH.cons (o := _) rfl (fun K hK => ?_) AllReadyH.nil
          go_simp
          go_at_call 13
          refine (HC3.out _ (HP.out.below T0.out)).mono ?_
          rintro e v1 ⟨rfl, hb⟩
          go_wp2_with fail
          have T1 := Lib.hid (T0.out.trans (hb.mono T0.out.size))
          have HQ := Lib.hid hb
          clear hb
          refine hK.out _ _ (T1.out) (fun hHeld => ?_)
          clear hK
          try simp only [Act.put, List.setIfInBounds_toArray, List.set_cons_zero, List.set_cons_succ]
          clear HQ
          refine wpAnyH_take (i := 19) (oi := _) (v := .bool false) rfl (by kernel_rfl) (by kernel_rfl) (by kernel_rfl) (fun _ _ _ h => h) (yBin rfl _ _ _ _ _ rfl (fun _ => by kernel_rfl) (neq3_of (HL.out (by trivial)))) (by assumption) ?_
          go_simp
          refine wpAnyH_take (i := 20) (oi := _) (v := .bool false) rfl (by kernel_rfl) (by kernel_rfl) (by kernel_rfl) (fun _ _ _ h => h) (Or.inl ⟨by rfl, fun W1 hS => by go_simp⟩) (by assumption) ?_
          go_simp
          refine wpAnyH_take (i := 21) (oi := _) (v := .bool false) rfl (by kernel_rfl) (by kernel_rfl) (by kernel_rfl) (fun _ _ _ h => h) (Or.inl ⟨by rfl, fun W1 hS => by go_simp⟩) (by assumption) ?_
          go_simp
          refine wpAnyH_take (i := 22) (oi := _) (v := .bool false) rfl (by kernel_rfl) (by kernel_rfl) (by kernel_rfl) (fun _ _ _ h => h) (Or.inl ⟨by rfl, fun W1 hS => by go_simp⟩) (by assumption) ?_
          go_simp
          refine wpAnyH_done (by kernel_rfl) ?_ _
          go_wp2_with fail
          go_meet
          exact ⟨rfl, T1.out⟩
        | false =>
          have hB0 := (Below.refl w3.heap.size w3).drew
          refine wp_region_held_drew (S := fun W => Below w3.heap.size w3 W) (by kernel_rfl) hB0 (fun hHeld => ?_)
          refine wpAnyH_take (i := 0) (oi := _) (v := .int .i64 0) rfl (by kernel_rfl) (by kernel_rfl) (by kernel_rfl) (fun _ _ _ h => h) (Or.inl ⟨by rfl, fun W1 hS => by go_simp⟩) (by assumption) ?_
          go_simp
          refine wpAnyH_take (i := 1) (oi := _) (v := .bool false) rfl (by kernel_rfl) (by kernel_rfl) (by kernel_rfl) (fun _ _ _ h => h) (Or.inl ⟨by rfl, fun W1 hS => by go_simp⟩) (by assumption) ?_
          go_simp
          refine wpAnyH_take (i := 2) (oi := _) (v := .bool false) rfl (by kernel_rfl) (by kernel_rfl) (by kernel_rfl) (fun _ _ _ h => h) (Or.inl ⟨by rfl, fun W1 hS => by go_simp⟩) (by assumption) ?_
          go_simp
          refine wpAnyH_take (i := 3) (oi := _) (v := .bool false) rfl (by kernel_rfl) (by kernel_rfl) (by kernel_rfl) (fun _ _ _ h => h) (Or.inl ⟨by rfl, fun W1 hS => by go_simp⟩) (by assumption) ?_
          go_simp
          refine wpAnyH_take (i := 4) (oi := _) (v := .bool false) rfl (by kernel_rfl) (by kernel_rfl) (by kernel_rfl) (fun _ _ _ h => h) (Or.inl ⟨by rfl, fun W1 hS => by go_simp⟩) (by assumption) ?_
          go_simp
          refine wpAnyH_take (i := 5) (oi := _) (v := undef) rfl (by kernel_rfl) (by kernel_rfl) (by kernel_rfl) (fun _ _ _ h => h) (Or.inr ⟨by rfl, rfl⟩) (by assumption) ?_
          go_simp
          refine wpAnyH_take (i := 6) (oi := _) (v := undef) rfl (by kernel_rfl) (by kernel_rfl) (by kernel_rfl) (fun _ _ _ h => h) (Or.inr ⟨by rfl, rfl⟩) (by assumption) ?_
          go_simp
          refine wpAnyH_take (i := 7) (oi := _) (v := undef) rfl (by kernel_rfl) (by kernel_rfl) (by kernel_rfl) (fun _ _ _ h => h) (Or.inr ⟨by rfl, rfl⟩) (by assumption) ?_
          go_simp
          refine wpAnyH_take (i := 8) (oi := _) (v := undef) rfl (by kernel_rfl) (by kernel_rfl) (by kernel_rfl) (fun _ _ _ h => h) (Or.inr ⟨by rfl, rfl⟩) (by assumption) ?_
          go_simp
          refine wpAnyH_take (i := 9) (oi := _) (v := undef) rfl (by kernel_rfl) (by kernel_rfl) (by kernel_rfl) (fun _ _ _ h => h) (Or.inr ⟨by rfl, rfl⟩) (by assumption) ?_
          go_simp
          refine wpAnyH_take (i := 10) (oi := _) (v := undef) rfl (by kernel_rfl) (by kernel_rfl) (by kernel_rfl) (fun _ _ _ h => h) (Or.inr ⟨by rfl, rfl⟩) (by assumption) ?_
          go_simp
          refine wpAnyH_take (i := 12) (oi := _) (v := undef) rfl (by kernel_rfl) (by kernel_rfl) (by kernel_rfl) (fun _ _ _ h => h) (Or.inr ⟨by rfl, rfl⟩) (by assumption) ?_
          go_simp
          refine wpAnyH_take (i := 13) (oi := _) (v := undef) rfl (by kernel_rfl) (by kernel_rfl) (by kernel_rfl) (fun _ _ _ h => h) (Or.inr ⟨by rfl, rfl⟩) (by assumption) ?_
          go_simp
          refine wpAnyH_take (i := 14) (oi := _) (v := undef) rfl (by kernel_rfl) (by kernel_rfl) (by kernel_rfl) (fun _ _ _ h => h) (Or.inr ⟨by rfl, rfl⟩) (by assumption) ?_
          go_simp
          refine wpAnyH_take (i := 15) (oi := _) (v := undef) rfl (by kernel_rfl) (by kernel_rfl) (by kernel_rfl) (fun _ _ _ h => h) (Or.inr ⟨by rfl, rfl⟩) (by assumption) ?_
          go_simp
          refine wpAnyH_take (i := 16) (oi := _) (v := undef) rfl (by kernel_rfl) (by kernel_rfl) (by kernel_rfl) (fun _ _ _ h => h) (Or.inr ⟨by rfl, rfl⟩) (by assumption) ?_
          go_simp
          refine wpAnyH_take (i := 17) (oi := _) (v := undef) rfl (by kernel_rfl) (by kernel_rfl) (by kernel_rfl) (fun _ _ _ h => h) (Or.inr ⟨by rfl, rfl⟩) (by assumption) ?_
          go_simp
          refine wpAnyH_take (i := 18) (oi := _) (v := undef) rfl (by kernel_rfl) (by kernel_rfl) (by kernel_rfl) (fun _ _ _ h => h) (Or.inr ⟨by rfl, rfl⟩) (by assumption) ?_
          go_simp
          refine wpAnyH_ready (rs := [11]) (by kernel_rfl) (by simp) ?_
          refine AllReadyH.cons (o := _) rfl (fun K hK => ?_) AllReadyH.nil
          rw [if_neg (by intro h; exact Bool.noConfusion (show false = true from h))]
          refine hK.out _ _ (hHeld) (fun hHeld => ?_)
          clear hK
          try simp only [Act.put, List.setIfInBounds_toArray]
          refine wpAnyH_take (i := 19) (oi := _) (v := undef) rfl (by kernel_rfl) (by kernel_rfl) (by kernel_rfl) (fun _ _ _ h => h) (Or.inr ⟨by rfl, rfl⟩) (by assumption) ?_
          go_simp
          refine wpAnyH_take (i := 20) (oi := _) (v := undef) rfl (by kernel_rfl) (by kernel_rfl) (by kernel_rfl) (fun _ _ _ h => h) (Or.inr ⟨by rfl, rfl⟩) (by assumption) ?_
          go_simp
          refine wpAnyH_take (i := 21) (oi := _) (v := .bool false) rfl (by kernel_rfl) (by kernel_rfl) (by kernel_rfl) (fun _ _ _ h => h) (Or.inl ⟨by rfl, fun W1 hS => by go_simp⟩) (by assumption) ?_
          go_simp
          refine wpAnyH_take (i := 22) (oi := _) (v := .bool false) rfl (by kernel_rfl) (by kernel_rfl) (by kernel_rfl) (fun _ _ _ h => h) (Or.inl ⟨by rfl, fun W1 hS => by go_simp⟩) (by assumption) ?_
          go_simp
          refine wpAnyH_done (by kernel_rfl) ?_ _
          go_wp2_with fail
          go_meet
          exact ⟨rfl, hHeld⟩
      case rest =>
        obtain ⟨rfl, hb4⟩ := hcut
        obtain ⟨w4, rfl⟩ : ∃ w4, w4 = wc := ⟨_, rfl⟩
        have HI4 := Lib.hid (HI.out.below hb4)
        have hgpa : gp < ga := by have := hgp2; omega
        clear HI HP hb4 HC3 HL HY
        have e5 : w4.setCell ⟨gp, 1, none⟩ (.slice A n c) = w4.setRow gp (Pf.mk stN0 A c k stM0).cells := by
          rw [setCell_eq_setRow w4 gp 1 _ _ _ (.slice A n c) (HI4.out.get 1 rfl), ← HN.out]
          rfl
        have hr := HI4.out.row 1 rfl hgp0 (by (intro j y hj hy; rcases j with _ | _ | _ | _ | _ | _ | j <;> first | exact absurd rfl hj | (simp only [List.getElem?_cons_zero, List.getElem?_cons_succ, Option.some.injEq] at hy; subst hy; dsimp only; omega) | (simp at hy; done))) (Pf.mk stN0 A c k stM0).cells
        have hfz : ∀ o, w4.frozen? ⟨gp, o, none⟩ = false := (HI4.out.get 1 rfl).frozen
        have hcl : w4.cell? ⟨gp, 1, none⟩ = some (.slice Ap stK0.length cp) := (HI4.out.get 1 rfl).cell 1
        go_upto_region 9 with fail
        clear hfz hcl
        try rw [e5]
        obtain ⟨W5, hW5⟩ : ∃ W, w4.setRow gp (Pf.mk stN0 A c k stM0).cells = W := ⟨_, rfl⟩
        rw [hW5] at hr ⊢
        have HI5 : Hid (Bn w W5 [(gx, 23, pcs (x0, x1, x2, x3)), (gp, 27, (Pf.mk stN0 A c k stM0).cells), (ga, 23, pcs y)]) := Lib.hid hr
        obtain ⟨p5, hp5⟩ : ∃ p, Pf.mk stN0 A c k stM0 = p := ⟨_, rfl⟩
        have HP5 : Hid (PfR W5 p5) := Lib.hid (by rw [← hp5]; exact ⟨HK.out.below HI5.out.b, stN_nm 0⟩)
        have hm5 : p5.m = stM0 := by rw [← hp5]
        rw [hp5] at HI5
        obtain ⟨g0, g1⟩ := gray p5 hm5 x0 0
        have C5 := Linear_any p5 (x0, x0, x0, 0) W5 HP5.out
        unfold LinC at C5
        obtain ⟨l5, hl5⟩ : ∃ l, linV p5 (x0, x0, x0, 0) = l := ⟨_, rfl⟩
        rw [hl5] at g0 g1 C5
        unfold Pf.val at C5
        rw [pagg_pcs] at C5
        obtain ⟨s, hs⟩ : ∃ s, l5 2 = s := ⟨_, rfl⟩
        have e6 : ac 3 l5 = #[.int .i64 s, .int .i64 s, .int .i64 s] := by
          show (#[.int .i64 (l5 0), .int .i64 (l5 1), .int .i64 (l5 2)] : Array Value) = _
          rw [g0, g1, hs]
        rw [e6] at C5
        have HC5 := Lib.hid C5
        clear C5 e5 e6 hr hW5 hp5 hm5 g0 g1 hl5 hs HI4 HP5 HK
        obtain ⟨d0, d1, d2, d3, _⟩ := blk4 (show Blk W5 gx 23 #[.int .i64 x0, .int .i64 x1, .int .i64 x2, .int .i64 x3] from HI5.out.get 0 rfl)
        go_wp2_with (refine wpList_load_row rfl _ _ rfl gp rfl 27 p5.cells (0, 0) _ (HI5.out.get 1 rfl) Try.underlying27 rfl p5.info ?_)
        refine HC5.out.mono ?_
        clear HC5 d0 d1 d2 d3
        rintro e w6 ⟨rfl, hb⟩
        have hB := (HI5.out.below hb).push _ rfl 34 #[.int .i64 s, .int .i64 s, .int .i64 s]
        have HI6 : Hid (Bn w _ [(gx, 23, pcs (x0, x1, x2, x3)), (gp, 27, p5.cells), (ga, 23, pcs y), (w6.heap.size, 34, #[.int .i64 s, .int .i64 s, .int .i64 s])]) := Lib.hid hB
        clear hB hb HI5
        go_upto_region 10 with (first
          | (refine Mat.wpList_alloc3 rfl rfl ?_)
          | (refine wpList_store_row rfl _ _ _ rfl w6.heap.size #[.int .i64 s, .int .i64 s, .int .i64 s] rfl rfl 34 (ac 3 fun _ => 0) (heap_alloc_new _ _) (info3 (m := fun _ => s)) (Mat.ac_same (n := 3) (m := fun _ => 0) (f := fun _ => s)) (Mat.ac_one 3 fun _ => s) ?_; rw [World.setRow_alloc_new]))
        obtain ⟨gv, hg⟩ : ∃ g, w6.heap.size = g := ⟨_, rfl⟩
        obtain ⟨W6, hW⟩ : ∃ W, w6.alloc (.cells #[.int .i64 s, .int .i64 s, .int .i64 s] 34) = W := ⟨_, rfl⟩
        rw [hW, hg] at HI6
        rw [hW, hg]
        clear hW hg
        obtain ⟨d0, d1, d2, _⟩ := blk3 (HI6.out.get 3 rfl)
        go_wp2_with fail
        go_ret
        exact ⟨rfl, HI6.out.b⟩

open Go.ChangeShapes Go.WideShapes Go.ChangeAt Go.Joins Go.Deep

set_option maxRecDepth 100000 in
theorem contract (H : Type) (enc : TypeId × Value → H) (W : World) (base : Nat) (args : Array Value) (ds gs : List (DataW H)) (before : List MemPlace)
    (hval : ∀ (j : Nat) t v, Try.f3.params[j]? = some t → args[j]? = some v → Value.okWide Try.prog W .any base t v)
    (hW : DataW.Whole enc Try.prog Try.f3.params.toList Rows.profileIdentitySpec.vars false W args.toList ds gs before) :
    Calls Try.prog 3 args W fun e W' => ∃ v, e = .returned v ∧ Rows.profileIdentitySpec.post enc Try.prog Try.f3 false true false false W args v W' := by
  have hW' := hW
  obtain ⟨p, q, hA0, hV, rfl, hfz, hnd⟩ := hW
  have hA : DataW.TrodAll enc Try.prog W 0 (fun _ => true) true Try.f3.params.toList args.toList ds p := hA0
  rw [Try.params3] at hA hval
  obtain ⟨v0, vs0, d0, ds0, p0, q0, hargs, rfl, rfl, g0, r0⟩ := trodAll_cons hA
  obtain ⟨v1, vs1, d1, ds1, p1, q1, rfl, rfl, rfl, g1, r1⟩ := trodAll_cons r0
  obtain ⟨rfl, rfl, rfl⟩ := trodAll_nil r1
  obtain rfl : args = #[v0, v1] := by cases args; simp_all
  obtain ⟨rfl, rfl⟩ := trodVars_none hV
  obtain ⟨x0_, rfl⟩ := arg_pix (hval 0 23 v0 rfl rfl) g0
  obtain ⟨A1, c1, k1, rfl, hk1⟩ := arg_knots (hval 1 24 v1 rfl rfl) g1
  clear hA0
  refine (walk x0_ A1 c1 k1 W hk1).mono fun e W' ⟨he, hb⟩ => ?_
  subst he
  exact ⟨_, rfl, Frame.law_post Frame.laidOut (by kernel_rfl) Try.underlying4 (by kernel_rfl) rfl rfl hW' hb⟩

set_option maxRecDepth 100000 in
theorem lifted (os : Os) (started : os.Started) (H : Type) (enc : TypeId × Value → H) :
    ReturnsInHanded {} Try.checked os 3 .any (Rows.profileIdentitySpec.pre6 enc Try.prog Try.f3 Rows.profileIdentityRow.domain false) (Rows.profileIdentitySpec.post enc Try.prog Try.f3 false true false false) := by
  refine returnsInHanded_of_change (C := Try.checked) Frame.own started (by kernel_rfl) Try.func3
    (ChangeSpec.witness6 (enc := enc) (C := Try.checked) false ⟨#[], #[.agg #[.int .i64 0, .int .i64 0, .int .i64 0, .int .i64 0], .slice none 0 0], []⟩ 8 (by kernel_rfl) (by kernel_rfl) (by kernel_rfl) (by kernel_rfl)) ?_
  intro W base args ds gs before hval hW _ _
  exact contract H enc W base args ds gs before hval hW

theorem proved : Rows.ProfileIdentitySaid :=
  OpenClaim.holds_of_wide 3 Try.f3 rfl rfl rfl rfl rfl rfl rfl ⟨rfl, rfl, rfl, rfl, rfl⟩ rfl rfl rfl rfl rfl (by kernel_rfl) Try.func3 (by kernel_rfl)
    (of_decide_eq_true (by kernel_rfl)) (by unfold Func.isWrapper; first | (rw [if_pos (by decide +kernel)]; kernel_rfl) | (rw [if_neg (by decide +kernel)]; exact ⟨rfl, rfl⟩))
    (fun os started H enc _ => lifted os started H enc)


end Go.Proofs.Ytcighjeiimjbiaa.ProfileIdentity
