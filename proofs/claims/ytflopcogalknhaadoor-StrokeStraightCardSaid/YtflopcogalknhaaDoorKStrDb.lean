/-
  Layer 21: the point of a line at a distance (program).
-/
import Derived.Test.YtflopcogalknhaaDoorKStrDa
import Derived.Test.YtflopcogalknhaaDoorKStrCo
set_option linter.unusedVariables false
set_option linter.unusedSimpArgs false
namespace Go.Proofs.YtflopcogalknhaaDoor.Str
open Go.RowKit Go.Proofs.YtflopcogalknhaaDoor Go.Proofs.YtflopcogalknhaaDoor.NumPure

theorem Bn.of2d {w W : World} {a b : Ent} (hb : Below w.heap.size w W) (h0 : Blk W a.1 a.2.1 a.2.2) (h1 : Blk W b.1 b.2.1 b.2.2) : Bn w W [a, b] := ⟨hb, fun i x hx => by
  rcases i with _ | _ | i
  · simp only [List.getElem?_cons_zero, Option.some.injEq] at hx; subst hx; exact h0
  · simp only [List.getElem?_cons_zero, List.getElem?_cons_succ, Option.some.injEq] at hx; subst hx; exact h1
  · simp at hx⟩
set_option maxRecDepth 100000 in
set_option maxHeartbeats 4000000 in
theorem place_any (pb ab cp ca : Nat) (l : List P2) (i s : Nat) (w : World) (h : LnR w pb ab l) (hl : Lin l) (hi : i + 1 < l.length) (h0 : atN l i ≤ s) (h1 : s ≤ atN l (i + 1)) :
    Calls Tryd.prog 57 #[.agg #[.slice (some ⟨pb, 0, none⟩) l.length cp, .slice (some ⟨ab, 0, none⟩) l.length ca], .int .i64 (i : Int), .int .i64 (s : Int)] w (PtC (plc l i s) w) := by
  have hbd := plc_bd hl hi h0 h1
  have hyp := hl.hyp hi
  have hga := gp_in hl.inb (show i < l.length by omega)
  have hgb := gp_in hl.inb hi
  have hat := atN_bd hl (i + 1) hi
  have hln := hl.len
  have hst : atN l (i + 1) = atN l i + hypN (gp l i) (gp l (i + 1)) := rfl
  have SP : Hid (∀ W, Below w.heap.size w W → W.cell? ⟨pb, i * 2, none⟩ = some (.int .i64 (gp l i).1) ∧ W.cell? ⟨pb, i * 2 + 1, none⟩ = some (.int .i64 (gp l i).2) ∧ W.cell? ⟨pb, (i + 1) * 2, none⟩ = some (.int .i64 (gp l (i + 1)).1) ∧ W.cell? ⟨pb, (i + 1) * 2 + 1, none⟩ = some (.int .i64 (gp l (i + 1)).2) ∧ W.cell? ⟨ab, i, none⟩ = some (.int .i64 (atN l i : Nat)) ∧ W.cell? ⟨ab, i + 1, none⟩ = some (.int .i64 (atN l (i + 1) : Nat))) := Lib.hid fun W hW => by
    obtain ⟨y0, y1⟩ := (h.below hW).pt_ i (by omega)
    obtain ⟨y2, y3⟩ := (h.below hW).pt_ (i + 1) hi
    exact ⟨y0, y1, y2, y3, (h.below hW).at_ i (by omega), (h.below hW).at_ (i + 1) hi⟩
  obtain ⟨n, hn⟩ : ∃ n, l.length = n := ⟨_, rfl⟩
  rw [hn] at hi hln ⊢
  have HPL : Hid (plc l i s = ((gp l i).1 + dvr (((gp l (i + 1)).1 - (gp l i).1) * ((s : Int) - (atN l i : Nat))) (hypN (gp l i) (gp l (i + 1)) : Nat), (gp l i).2 + dvr (((gp l (i + 1)).2 - (gp l i).2) * ((s : Int) - (atN l i : Nat))) (hypN (gp l i) (gp l (i + 1)) : Nat))) := Lib.hid rfl
  obtain ⟨H, hH⟩ : ∃ H, hypN (gp l i) (gp l (i + 1)) = H := ⟨_, rfl⟩
  obtain ⟨⟨a0, a1⟩, ha⟩ : ∃ p, gp l i = p := ⟨_, rfl⟩
  obtain ⟨⟨b0, b1⟩, hb⟩ : ∃ p, gp l (i + 1) = p := ⟨_, rfl⟩
  obtain ⟨u, hu⟩ : ∃ u, atN l i = u := ⟨_, rfl⟩
  obtain ⟨v, hv⟩ : ∃ u, atN l (i + 1) = u := ⟨_, rfl⟩
  rw [hH] at hbd hyp hst HPL
  rw [ha, hb, hu] at hbd HPL
  rw [ha, hb, hu, hv] at SP
  rw [hu] at hst h0
  rw [hv] at hst h1 hat
  rw [ha] at hga
  rw [hb] at hgb
  dsimp only at hbd HPL SP
  unfold Inb at hga hgb
  dsimp only at hga hgb
  obtain ⟨d, hd⟩ : ∃ d : Int, (s : Int) - (u : Nat) = d := ⟨_, rfl⟩
  obtain ⟨x, hx⟩ : ∃ x : Int, b0 - a0 = x := ⟨_, rfl⟩
  obtain ⟨y, hy⟩ : ∃ x : Int, b1 - a1 = x := ⟨_, rfl⟩
  rw [hd, hx, hy] at hbd HPL
  obtain ⟨N1, hN1⟩ : ∃ z : Int, x * d = z := ⟨_, rfl⟩
  obtain ⟨N2, hN2⟩ : ∃ z : Int, y * d = z := ⟨_, rfl⟩
  rw [hN1, hN2] at hbd HPL
  obtain ⟨q1, hq1⟩ : ∃ z : Int, dvr N1 (H : Nat) = z := ⟨_, rfl⟩
  obtain ⟨q2, hq2⟩ : ∃ z : Int, dvr N2 (H : Nat) = z := ⟨_, rfl⟩
  rw [hq1, hq2] at hbd HPL
  obtain ⟨⟨n0, n1⟩, ⟨n2, n3⟩, ⟨n4, n5⟩, n6, n7⟩ := hbd
  have HC1 := Lib.hid (fun W => Num.div_is N1 (H : Nat) q1 hq1.symm (by omega) (by omega) (by omega) (by omega) W)
  have HC2 := Lib.hid (fun W => Num.div_is N2 (H : Nat) q2 hq2.symm (by omega) (by omega) (by omega) (by omega) W)
  obtain ⟨r0, hr0⟩ : ∃ z : Int, a0 + q1 = z := ⟨_, rfl⟩
  obtain ⟨r1, hr1⟩ : ∃ z : Int, a1 + q2 = z := ⟨_, rfl⟩
  rw [hr0, hr1] at HPL
  have X1 : Hid (IntKind.i64.wrap (b0 - a0) = x) := Lib.hid (by rw [hx]; exact i64w (by omega) (by omega))
  have X2 : Hid (IntKind.i64.wrap (b1 - a1) = y) := Lib.hid (by rw [hy]; exact i64w (by omega) (by omega))
  have X3 : Hid (IntKind.i64.wrap (x * d) = N1) := Lib.hid (by rw [hN1]; exact i64w (by omega) (by omega))
  have X4 : Hid (IntKind.i64.wrap (y * d) = N2) := Lib.hid (by rw [hN2]; exact i64w (by omega) (by omega))
  have X5 : Hid (IntKind.i64.wrap (a0 + q1) = r0) := Lib.hid (by rw [hr0]; exact i64w (by omega) (by omega))
  have X6 : Hid (IntKind.i64.wrap (a1 + q2) = r1) := Lib.hid (by rw [hr1]; exact i64w (by omega) (by omega))
  have X7 : Hid (IntKind.i64.wrap ((i : Int) + 1) = (i : Int) + 1) := Lib.hid (i64w (by omega) (by omega))
  have X8 : Hid (IntKind.i64.wrap ((v : Int) - (u : Int)) = (H : Int)) := Lib.hid (by rw [show (v : Int) - (u : Int) = (H : Int) by omega]; exact i64w (by omega) (by omega))
  have X9 : Hid (IntKind.i64.wrap ((s : Int) - (u : Int)) = d) := Lib.hid (by rw [hd]; exact i64w (by omega) (by omega))
  have HI : Hid ((i : Int) < (n : Int) ∧ (0 : Int) ≤ (i : Int) ∧ (i : Int) + 1 < (n : Int) ∧ (0 : Int) ≤ (i : Int) + 1) := Lib.hid (by omega)
  clear h hl hi h0 h1 hyp hga hgb hat hln hst hn hH ha hb hu hv hd hx hy hN1 hN2 hq1 hq2 hr0 hr1 n0 n1 n2 n3 n4 n5 n6 n7
  have HB0 := Lib.hid (Bn.two w 58 30 #[.slice (some ⟨pb, 0, none⟩) n cp, .slice (some ⟨ab, 0, none⟩) n ca] #[.int .i64 0, .int .i64 0])
  go_enter Tryd.func57, Tryd.ntmps57
  go_upto_region 1 with fail
  obtain ⟨W0, hW0⟩ : ∃ W, (w.alloc (.cells #[.slice (some ⟨pb, 0, none⟩) n cp, .slice (some ⟨ab, 0, none⟩) n ca] 58)).alloc (.cells #[.int .i64 0, .int .i64 0] 30) = W := ⟨_, rfl⟩
  rw [hW0] at HB0
  rw [hW0]
  obtain ⟨g3, hg3⟩ : ∃ g, w.heap.size = g := ⟨_, rfl⟩
  obtain ⟨g6, hg6⟩ : ∃ g, g3 + 1 = g := ⟨_, rfl⟩
  rw [hg3, hg6] at HB0
  rw [hg3, hg6]
  have HGE : Hid (w.heap.size ≤ g6) := Lib.hid (by omega)
  clear hW0 hg3 hg6
  go_cut [7, 8] (fun r t wx => ∃ g7 g8, r = .pointer (some ⟨g7, 0, none⟩) ∧ t = .pointer (some ⟨g8, 0, none⟩) ∧ Bn W0 wx [(g7, 30, #[.int .i64 a0, .int .i64 a1]), (g8, 30, #[.int .i64 b0, .int .i64 b1])] ∧ W0.heap.size ≤ g7 ∧ W0.heap.size ≤ g8)
  case first =>
    obtain ⟨k0, k1, k2, k3⟩ := HI.out
    have x7 := X7.out
    have HN : Hid (Bn W0 W0.drew []) := Lib.hid (Bn.nil W0).drew
    refine wp_region_held_drew (S := fun W => Below W0.heap.size W0 W) (by kernel_rfl) HN.out.b (fun hHeld => ?_)
    refine wpAnyH_take (i := 0) (oi := _) (v := .pointer (some ⟨g3, 0, none⟩)) rfl (by kernel_rfl) (by kernel_rfl) (by kernel_rfl) (fun _ _ _ h => h) (Or.inl ⟨by rfl, fun W1 hS => by go_simp⟩) (by assumption) ?_
    go_simp
    refine wpAnyH_take (i := 1) (oi := _) (v := .slice (some ⟨pb, 0, none⟩) n cp) rfl (by kernel_rfl) (by kernel_rfl) (by kernel_rfl) (fun _ _ _ h => h) (Or.inl ⟨by rfl, fun W1 hS => by (obtain ⟨y0, y1, y2⟩ := blk2 ((HB0.out.get 0 rfl).below hS (HB0.out.get 0 rfl).lt); go_simp)⟩) (by assumption) ?_
    go_simp
    refine wpAnyH_take (i := 2) (oi := _) (v := .int .i64 (i : Int)) rfl (by kernel_rfl) (by kernel_rfl) (by kernel_rfl) (fun _ _ _ h => h) (Or.inl ⟨by rfl, fun W1 hS => by go_simp⟩) (by assumption) ?_
    go_simp
    refine wpAnyH_take (i := 3) (oi := _) (v := .pointer (some ⟨pb, i * 2, none⟩)) rfl (by kernel_rfl) (by kernel_rfl) (by kernel_rfl) (fun _ _ _ h => h) (Or.inl ⟨by rfl, fun W1 hS => by go_simp⟩) (by assumption) ?_
    go_simp
    refine wpAnyH_take (i := 4) (oi := _) (v := .agg #[.int .i64 a0, .int .i64 a1]) rfl (by kernel_rfl) (by kernel_rfl) (by kernel_rfl) (fun _ _ _ h => h) (Or.inl ⟨by rfl, fun W1 hS => by (obtain ⟨z0, z1, z2, z3, z4, z5⟩ := SP.out _ (HB0.out.b.trans (hS.mono HB0.out.b.size)); go_simp)⟩) (by assumption) ?_
    go_simp
    refine wpAnyH_take (i := 5) (oi := _) (v := .pointer (some ⟨g3, 0, none⟩)) rfl (by kernel_rfl) (by kernel_rfl) (by kernel_rfl) (fun _ _ _ h => h) (Or.inl ⟨by rfl, fun W1 hS => by go_simp⟩) (by assumption) ?_
    go_simp
    refine wpAnyH_take (i := 6) (oi := _) (v := .slice (some ⟨pb, 0, none⟩) n cp) rfl (by kernel_rfl) (by kernel_rfl) (by kernel_rfl) (fun _ _ _ h => h) (Or.inl ⟨by rfl, fun W1 hS => by (obtain ⟨y0, y1, y2⟩ := blk2 ((HB0.out.get 0 rfl).below hS (HB0.out.get 0 rfl).lt); go_simp)⟩) (by assumption) ?_
    go_simp
    refine wpAnyH_take (i := 7) (oi := _) (v := .int .i64 (i : Int)) rfl (by kernel_rfl) (by kernel_rfl) (by kernel_rfl) (fun _ _ _ h => h) (Or.inl ⟨by rfl, fun W1 hS => by go_simp⟩) (by assumption) ?_
    go_simp
    refine wpAnyH_take (i := 8) (oi := _) (v := .int .i64 ((i : Int) + 1)) rfl (by kernel_rfl) (by kernel_rfl) (by kernel_rfl) (fun _ _ _ h => h) (Or.inl ⟨by rfl, fun W1 hS => by go_simp⟩) (by assumption) ?_
    go_simp
    refine wpAnyH_take (i := 9) (oi := _) (v := .pointer (some ⟨pb, (i + 1) * 2, none⟩)) rfl (by kernel_rfl) (by kernel_rfl) (by kernel_rfl) (fun _ _ _ h => h) (Or.inl ⟨by rfl, fun W1 hS => by go_simp⟩) (by assumption) ?_
    go_simp
    refine wpAnyH_take (i := 10) (oi := _) (v := .agg #[.int .i64 b0, .int .i64 b1]) rfl (by kernel_rfl) (by kernel_rfl) (by kernel_rfl) (fun _ _ _ h => h) (Or.inl ⟨by rfl, fun W1 hS => by (obtain ⟨z0, z1, z2, z3, z4, z5⟩ := SP.out _ (HB0.out.b.trans (hS.mono HB0.out.b.size)); go_simp)⟩) (by assumption) ?_
    go_simp
    clear hHeld
    refine wpAnyH_ready (rs := [11, 12]) (by kernel_rfl) (by simp) ?_
    refine AllReadyH.cons (o := _) rfl (fun K hK => ?_) (AllReadyH.cons (o := _) rfl (fun K hK => ?_) AllReadyH.nil)
    · rw [if_pos (by rfl)]
      refine wp_allocPt 7 rfl rfl ?_
      have HM := Lib.hid (HN.out.push _ rfl 30 #[.int .i64 0, .int .i64 0])
      have ge_g7 : W0.heap.size ≤ (W0.drew).heap.size := HN.out.b.size
      refine hK.out _ _ HM.out.b (fun hHeld => ?_)
      clear hK hHeld HN
      revert HM ge_g7 
      obtain ⟨g7, hg⟩ : ∃ g, g = (W0.drew).heap.size := ⟨_, rfl⟩
      obtain ⟨Wn0, hW⟩ : ∃ W, W = (W0.drew).alloc (.cells #[.int .i64 0, .int .i64 0] 30) := ⟨_, rfl⟩
      rw [← hg, ← hW]
      clear hg hW
      intro HM  ge_g7
      have HN : Hid (Bn W0 Wn0 [(g7, 30, #[.int .i64 0, .int .i64 0])]) := HM
      clear HM
      have hHeld := HN.out.b
      try simp only [Act.put, List.setIfInBounds_toArray, List.set_cons_zero, List.set_cons_succ]
      clear hHeld
      refine wpAnyH_ready (rs := [12]) (by kernel_rfl) (by simp) ?_
      refine AllReadyH.cons (o := _) rfl (fun K hK => ?_) AllReadyH.nil
      rw [if_pos (by rfl)]
      refine wp_allocPt 8 rfl rfl ?_
      have HM := Lib.hid (HN.out.push _ rfl 30 #[.int .i64 0, .int .i64 0])
      have ne_g7_g8 : g7 ≠ (Wn0).heap.size := by have := (HN.out.get 0 rfl).lt; omega
      have ge_g8 : W0.heap.size ≤ (Wn0).heap.size := HN.out.b.size
      refine hK.out _ _ HM.out.b (fun hHeld => ?_)
      clear hK hHeld HN
      revert HM ge_g8 ne_g7_g8
      obtain ⟨g8, hg⟩ : ∃ g, g = (Wn0).heap.size := ⟨_, rfl⟩
      obtain ⟨Wn1, hW⟩ : ∃ W, W = (Wn0).alloc (.cells #[.int .i64 0, .int .i64 0] 30) := ⟨_, rfl⟩
      rw [← hg, ← hW]
      clear hg hW
      intro HM ne_g7_g8 ge_g8
      have HN : Hid (Bn W0 Wn1 [(g7, 30, #[.int .i64 0, .int .i64 0]), (g8, 30, #[.int .i64 0, .int .i64 0])]) := HM
      clear HM
      have hHeld := HN.out.b
      try simp only [Act.put, List.setIfInBounds_toArray, List.set_cons_zero, List.set_cons_succ]
      clear hHeld
      refine wpAnyH_ready (rs := [13]) (by kernel_rfl) (by simp) ?_
      refine AllReadyH.cons (o := _) rfl (fun K hK => ?_) AllReadyH.nil
      rw [if_pos (by rfl)]
      refine wp_store_row 30 _ _ rfl g7 #[.int .i64 a0, .int .i64 a1] rfl rfl 30 #[.int .i64 0, .int .i64 0] (HN.out.get 0 rfl) (infoPt (0, 0)) rfl (by simp [Value.oneCell']) ?_
      have HM : Hid (Bn W0 (Wn1.setRow g7 #[.int .i64 a0, .int .i64 a1]) [(g7, 30, #[.int .i64 a0, .int .i64 a1]), (g8, 30, #[.int .i64 0, .int .i64 0])]) := Lib.hid (HN.out.row 0 rfl ge_g7 (by (intro j y hj hy; rcases j with _ | _ | _ | _ | _ | _ | j <;> first | exact absurd rfl hj | (simp only [List.getElem?_cons_zero, List.getElem?_cons_succ, Option.some.injEq] at hy; subst hy; dsimp only; omega) | (simp at hy; done))) #[.int .i64 a0, .int .i64 a1])
      refine hK.out _ _ HM.out.b (fun hHeld => ?_)
      clear hK hHeld HN
      have HN := HM
      clear HM
      have hHeld := HN.out.b
      try simp only [Act.put, List.setIfInBounds_toArray, List.set_cons_zero, List.set_cons_succ]
      clear hHeld
      refine wpAnyH_ready (rs := [14]) (by kernel_rfl) (by simp) ?_
      refine AllReadyH.cons (o := _) rfl (fun K hK => ?_) AllReadyH.nil
      rw [if_pos (by rfl)]
      refine wp_store_row 30 _ _ rfl g8 #[.int .i64 b0, .int .i64 b1] rfl rfl 30 #[.int .i64 0, .int .i64 0] (HN.out.get 1 rfl) (infoPt (0, 0)) rfl (by simp [Value.oneCell']) ?_
      have HM : Hid (Bn W0 ((Wn1.setRow g7 #[.int .i64 a0, .int .i64 a1]).setRow g8 #[.int .i64 b0, .int .i64 b1]) [(g7, 30, #[.int .i64 a0, .int .i64 a1]), (g8, 30, #[.int .i64 b0, .int .i64 b1])]) := Lib.hid (HN.out.row 1 rfl ge_g8 (by (intro j y hj hy; rcases j with _ | _ | _ | _ | _ | _ | j <;> first | exact absurd rfl hj | (simp only [List.getElem?_cons_zero, List.getElem?_cons_succ, Option.some.injEq] at hy; subst hy; dsimp only; omega) | (simp at hy; done))) #[.int .i64 b0, .int .i64 b1])
      refine hK.out _ _ HM.out.b (fun hHeld => ?_)
      clear hK hHeld HN
      have HN := HM
      clear HM
      have hHeld := HN.out.b
      try simp only [Act.put, List.setIfInBounds_toArray, List.set_cons_zero, List.set_cons_succ]
      clear hHeld
      refine wpAnyH_done (by kernel_rfl) ?_ _
      go_wp2_with fail
      go_meet
      exact ⟨g7, g8, rfl, rfl, Bn.of2d HN.out.b (HN.out.get 0 rfl) (HN.out.get 1 rfl), ge_g7, ge_g8⟩
    · rw [if_pos (by rfl)]
      refine wp_allocPt 8 rfl rfl ?_
      have HM := Lib.hid (HN.out.push _ rfl 30 #[.int .i64 0, .int .i64 0])
      have ge_g8 : W0.heap.size ≤ (W0.drew).heap.size := HN.out.b.size
      refine hK.out _ _ HM.out.b (fun hHeld => ?_)
      clear hK hHeld HN
      revert HM ge_g8 
      obtain ⟨g8, hg⟩ : ∃ g, g = (W0.drew).heap.size := ⟨_, rfl⟩
      obtain ⟨Wn0, hW⟩ : ∃ W, W = (W0.drew).alloc (.cells #[.int .i64 0, .int .i64 0] 30) := ⟨_, rfl⟩
      rw [← hg, ← hW]
      clear hg hW
      intro HM  ge_g8
      have HN : Hid (Bn W0 Wn0 [(g8, 30, #[.int .i64 0, .int .i64 0])]) := HM
      clear HM
      have hHeld := HN.out.b
      try simp only [Act.put, List.setIfInBounds_toArray, List.set_cons_zero, List.set_cons_succ]
      clear hHeld
      refine wpAnyH_ready (rs := [11]) (by kernel_rfl) (by simp) ?_
      refine AllReadyH.cons (o := _) rfl (fun K hK => ?_) AllReadyH.nil
      rw [if_pos (by rfl)]
      refine wp_allocPt 7 rfl rfl ?_
      have HM := Lib.hid (HN.out.push _ rfl 30 #[.int .i64 0, .int .i64 0])
      have ne_g8_g7 : g8 ≠ (Wn0).heap.size := by have := (HN.out.get 0 rfl).lt; omega
      have ge_g7 : W0.heap.size ≤ (Wn0).heap.size := HN.out.b.size
      refine hK.out _ _ HM.out.b (fun hHeld => ?_)
      clear hK hHeld HN
      revert HM ge_g7 ne_g8_g7
      obtain ⟨g7, hg⟩ : ∃ g, g = (Wn0).heap.size := ⟨_, rfl⟩
      obtain ⟨Wn1, hW⟩ : ∃ W, W = (Wn0).alloc (.cells #[.int .i64 0, .int .i64 0] 30) := ⟨_, rfl⟩
      rw [← hg, ← hW]
      clear hg hW
      intro HM ne_g8_g7 ge_g7
      have HN : Hid (Bn W0 Wn1 [(g8, 30, #[.int .i64 0, .int .i64 0]), (g7, 30, #[.int .i64 0, .int .i64 0])]) := HM
      clear HM
      have hHeld := HN.out.b
      try simp only [Act.put, List.setIfInBounds_toArray, List.set_cons_zero, List.set_cons_succ]
      clear hHeld
      refine wpAnyH_ready (rs := [13]) (by kernel_rfl) (by simp) ?_
      refine AllReadyH.cons (o := _) rfl (fun K hK => ?_) AllReadyH.nil
      rw [if_pos (by rfl)]
      refine wp_store_row 30 _ _ rfl g7 #[.int .i64 a0, .int .i64 a1] rfl rfl 30 #[.int .i64 0, .int .i64 0] (HN.out.get 1 rfl) (infoPt (0, 0)) rfl (by simp [Value.oneCell']) ?_
      have HM : Hid (Bn W0 (Wn1.setRow g7 #[.int .i64 a0, .int .i64 a1]) [(g8, 30, #[.int .i64 0, .int .i64 0]), (g7, 30, #[.int .i64 a0, .int .i64 a1])]) := Lib.hid (HN.out.row 1 rfl ge_g7 (by (intro j y hj hy; rcases j with _ | _ | _ | _ | _ | _ | j <;> first | exact absurd rfl hj | (simp only [List.getElem?_cons_zero, List.getElem?_cons_succ, Option.some.injEq] at hy; subst hy; dsimp only; omega) | (simp at hy; done))) #[.int .i64 a0, .int .i64 a1])
      refine hK.out _ _ HM.out.b (fun hHeld => ?_)
      clear hK hHeld HN
      have HN := HM
      clear HM
      have hHeld := HN.out.b
      try simp only [Act.put, List.setIfInBounds_toArray, List.set_cons_zero, List.set_cons_succ]
      clear hHeld
      refine wpAnyH_ready (rs := [14]) (by kernel_rfl) (by simp) ?_
      refine AllReadyH.cons (o := _) rfl (fun K hK => ?_) AllReadyH.nil
      rw [if_pos (by rfl)]
      refine wp_store_row 30 _ _ rfl g8 #[.int .i64 b0, .int .i64 b1] rfl rfl 30 #[.int .i64 0, .int .i64 0] (HN.out.get 0 rfl) (infoPt (0, 0)) rfl (by simp [Value.oneCell']) ?_
      have HM : Hid (Bn W0 ((Wn1.setRow g7 #[.int .i64 a0, .int .i64 a1]).setRow g8 #[.int .i64 b0, .int .i64 b1]) [(g8, 30, #[.int .i64 b0, .int .i64 b1]), (g7, 30, #[.int .i64 a0, .int .i64 a1])]) := Lib.hid (HN.out.row 0 rfl ge_g8 (by (intro j y hj hy; rcases j with _ | _ | _ | _ | _ | _ | j <;> first | exact absurd rfl hj | (simp only [List.getElem?_cons_zero, List.getElem?_cons_succ, Option.some.injEq] at hy; subst hy; dsimp only; omega) | (simp at hy; done))) #[.int .i64 b0, .int .i64 b1])
      refine hK.out _ _ HM.out.b (fun hHeld => ?_)
      clear hK hHeld HN
      have HN := HM
      clear HM
      have hHeld := HN.out.b
      try simp only [Act.put, List.setIfInBounds_toArray, List.set_cons_zero, List.set_cons_succ]
      clear hHeld
      refine wpAnyH_done (by kernel_rfl) ?_ _
      go_wp2_with fail
      go_meet
      exact ⟨g7, g8, rfl, rfl, Bn.of2d HN.out.b (HN.out.get 1 rfl) (HN.out.get 0 rfl), ge_g7, ge_g8⟩
  case rest =>
    obtain ⟨g7, g8, rfl, rfl, hbn, h7, h8⟩ := hcut
    obtain ⟨W1, rfl⟩ : ∃ W1, W1 = wc := ⟨_, rfl⟩
    have HBN := Lib.hid hbn
    have H78 : Hid (W0.heap.size ≤ g7 ∧ W0.heap.size ≤ g8) := Lib.hid ⟨h7, h8⟩
    have HBW := Lib.hid (HB0.out.b.trans (hbn.b.mono HB0.out.b.size))
    obtain ⟨z7, z8, _⟩ := blk2 (HBN.out.get 0 rfl)
    obtain ⟨z9, z10, _⟩ := blk2 (HBN.out.get 1 rfl)
    obtain ⟨k0, k1, k2, k3⟩ := HI.out
    obtain ⟨z0, z1, z2, z3, z4, z5⟩ := SP.out _ HBW.out
    obtain ⟨z11, z12, _⟩ := blk2 ((HB0.out.get 0 rfl).below HBN.out.b (HB0.out.get 0 rfl).lt)
    have x7 := X7.out
    have x8 := X8.out
    have x9 := X9.out
    clear hbn h7 h8
    go_wp2_with fail
    go_quiet (fail)
    have HBQ := Lib.hid (drew_below (n := nq) (Below.refl W1.heap.size W1))
    obtain ⟨W2, hW2⟩ : ∃ W, W1.drewN nq = W := ⟨_, rfl⟩
    rw [hW2] at HBQ
    rw [hW2]
    have HB2 := Lib.hid (HBW.out.trans (HBQ.out.mono HBW.out.size))
    have H6 := Lib.hid (((HB0.out.get 1 rfl).below HBN.out.b (HB0.out.get 1 rfl).lt).below HBQ.out ((HB0.out.get 1 rfl).below HBN.out.b (HB0.out.get 1 rfl).lt).lt)
    have H7 := Lib.hid ((HBN.out.get 0 rfl).below HBQ.out (HBN.out.get 0 rfl).lt)
    have H8 := Lib.hid ((HBN.out.get 1 rfl).below HBQ.out (HBN.out.get 1 rfl).lt)
    have n1 : ¬ (g6 = g7) := by have := (HB0.out.get 1 rfl).lt; have := H78.out; omega
    have n2 : ¬ (g6 = g8) := by have := (HB0.out.get 1 rfl).lt; have := H78.out; omega
    clear z0 z1 z2 z3 z4 z5 z7 z8 z9 z10 z11 z12 x8 hW2
    obtain ⟨_, _, _, _, z4, _⟩ := SP.out _ HB2.out
    obtain ⟨z11, z12, _⟩ := blk2 ((((HB0.out.get 0 rfl).below HBN.out.b (HB0.out.get 0 rfl).lt)).below HBQ.out ((HB0.out.get 0 rfl).below HBN.out.b (HB0.out.get 0 rfl).lt).lt)
    go_upto_region 4 with fail
    clear z4 z11 z12 x7 x9 k0 k1 k2 k3
    obtain ⟨a2, a3, _⟩ := blk2 H7.out
    obtain ⟨b2, b3, _⟩ := blk2 H8.out
    obtain ⟨z0, z1, z2⟩ := blk2 H6.out
    have x1 := X1.out
    have x2 := X2.out
    have x3 := X3.out
    have x4 := X4.out
    have x5 := X5.out
    have x6 := X6.out
    go_region_held3 (fun W => W.cell? ⟨g7, 0, none⟩ = some (.int .i64 a0) ∧ W.cell? ⟨g7, 1, none⟩ = some (.int .i64 a1) ∧ W.cell? ⟨g8, 0, none⟩ = some (.int .i64 b0) ∧ W.cell? ⟨g8, 1, none⟩ = some (.int .i64 b1))
      (go_keep)
      (first
        | (go_at_call_of 52 N1; refine (HC1.out _).mono ?_; rintro e w' ⟨rfl, rfl⟩)
        | (go_at_call_of 52 N2; refine (HC2.out _).mono ?_; rintro e w' ⟨rfl, rfl⟩))
    all_goals go_wp2_with fail
    all_goals rw [two_row (show Blk _ g6 30 #[.int .i64 0, .int .i64 0] from H6.out)]
    all_goals refine bodyPost_ret (v := .agg #[.int .i64 r0, .int .i64 r1]) (results_cell_row rfl _ _ g6 30 #[.int .i64 r0, .int .i64 r1] (0, 0) _ rfl (Blk.row H6.out _).drew Tryd.underlying30 rfl (infoPt (0, 0))) rfl ?_
    all_goals exact ⟨by rw [HPL.out], (below_setRow HB2.out HGE.out _).drew⟩
end Go.Proofs.YtflopcogalknhaaDoor.Str
