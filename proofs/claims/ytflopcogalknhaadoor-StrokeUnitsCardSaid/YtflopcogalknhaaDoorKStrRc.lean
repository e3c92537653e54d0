/-
  Layer 21: the join of two edges (the document's).
-/
import Derived.Test.YtflopcogalknhaaDoorKStrRq
set_option linter.unusedVariables false
set_option linter.unusedSimpArgs false
namespace Go.Proofs.YtflopcogalknhaaDoor.Str
open Go.RowKit Go.Proofs.YtflopcogalknhaaDoor Go.Proofs.YtflopcogalknhaaDoor.NumPure

theorem Bn.of2 {w W : World} {a b : Ent} (hb : Below w.heap.size w W) (h0 : Blk W a.1 a.2.1 a.2.2) (h1 : Blk W b.1 b.2.1 b.2.2) : Bn w W [a, b] := ⟨hb, fun i x hx => by
  rcases i with _ | _ | i
  · simp only [List.getElem?_cons_zero, Option.some.injEq] at hx; subst hx; exact h0
  · simp only [List.getElem?_cons_zero, List.getElem?_cons_succ, Option.some.injEq] at hx; subst hx; exact h1
  · simp at hx⟩
set_option maxRecDepth 100000 in
set_option maxHeartbeats 4000000 in
theorem rcorner_any {B : Nat} {L : List (List P2)} {v : Value} {M : List Nat} {w : World} (hO : RL B L v w M) (a c b : P2) (wd j : Int) (w1 : 1 ≤ wd) (w2 : wd ≤ 4096) (ha : Inb 16777216 a) (hc : Inb 16777216 c) (hb : Inb 16777216 b)
    (hj : 0 ≤ j ∧ j ≤ 2) (hBs : B ≤ w.heap.size) (hL : L.length ≤ 900000) : Calls Tryd.prog 42 #[v, .agg #[.int .i64 a.1, .int .i64 a.2], .agg #[.int .i64 c.1, .int .i64 c.2], .agg #[.int .i64 b.1, .int .i64 b.2], .int .i64 wd, .int .i64 j] w fun e' w' => LsC B (crn wd j L a c b) M w e' w' := by
  have HA := Lib.hid ha
  have HC := Lib.hid hc
  have HBb := Lib.hid hb
  obtain ⟨a0, a1⟩ := a
  obtain ⟨c0, c1⟩ := c
  obtain ⟨b0, b1⟩ := b
  dsimp only
  have HB0 := Lib.hid (Bn.three w 30 30 30 #[.int .i64 a0, .int .i64 a1] #[.int .i64 c0, .int .i64 c1] #[.int .i64 b0, .int .i64 b1])
  obtain ⟨W0, hW0⟩ : ∃ W, ((w.alloc (.cells #[.int .i64 a0, .int .i64 a1] 30)).alloc (.cells #[.int .i64 c0, .int .i64 c1] 30)).alloc (.cells #[.int .i64 b0, .int .i64 b1] 30) = W := ⟨_, rfl⟩
  rw [hW0] at HB0
  have HO := Lib.hid hO
  have HBS := Lib.hid hBs
  have HLn : Hid (L.length ≤ 900000) := Lib.hid hL
  obtain ⟨g7, hg7⟩ : ∃ g, w.heap.size = g := ⟨_, rfl⟩
  obtain ⟨g8, hg8⟩ : ∃ g, g7 + 1 = g := ⟨_, rfl⟩
  obtain ⟨g9, hg9⟩ : ∃ g, g8 + 1 = g := ⟨_, rfl⟩
  have HGE : Hid (w.heap.size ≤ g7 ∧ w.heap.size ≤ g8 ∧ w.heap.size ≤ g9) := Lib.hid (by omega)
  rw [hg7, hg8, hg9] at HB0
  obtain ⟨z0, z1, _⟩ := blk2 (HB0.out.get 0 rfl)
  obtain ⟨z2, z3, _⟩ := blk2 (HB0.out.get 1 rfl)
  obtain ⟨z4, z5, _⟩ := blk2 (HB0.out.get 2 rfl)
  clear hO hBs hL ha hc hb
  unfold LsC
  by_cases h1 : j = 1
  · have h1' : (j == 1) = true := by simpa using h1
    have HS : Hid (crn wd j L (a0, a1) (c0, c1) (b0, b1) = put L (crc wd (c0, c1))) := Lib.hid (by unfold crn; rw [if_pos h1])
    clear h1
    go_enter Tryd.func42, Tryd.ntmps42
    go_wp2_with fail
    refine (rcircle_any (c0, c1) wd _ w1 w2 HC.out).mono ?_
    rintro e' w9 ⟨v9, rfl, hown, hbq⟩
    obtain ⟨p, cap, cs, rfl, hp, hpr, hpb⟩ := own_pts hown (by rw [crc_len]; omega)
    have HB9 : Hid (Below w.heap.size w w9) := Lib.hid (HB0.out.b.trans (hbq.mono HB0.out.b.size))
    have HP := Lib.hid hp
    have HPR := Lib.hid hpr
    have HPB := Lib.hid hpb
    clear hown hp hpr hpb hbq z0 z1 z2 z3 z4 z5 hW0 hg7 hg8 hg9
    go_wp2_with fail
    refine (rputP_any HO.out p cap (crc wd (c0, c1)) _ HB9.out HPR.out HPB.out (Nat.le_trans HB0.out.b.size HP.out) HBS.out (by rw [crc_len]; omega) (by rw [crc_len]; omega) (crc_in w1 w2 HC.out) (by have := HLn.out; omega)).mono ?_
    rintro e' w' ⟨v', rfl, hout⟩
    have HOUT := Lib.hid hout
    clear hout
    go_wp2_with fail
    go_ret
    exact ⟨v', rfl, by rw [HS.out]; exact HOUT.out⟩
  have h1' : (j == 1) = false := by simpa using h1
  have HN1 := Lib.hid (nrm_in w1 w2 HA.out HC.out).1
  have HN2 := Lib.hid (nrm_in w1 w2 HC.out HBb.out).1
  have CN1 := fun W => rnormal_any (a0, a1) (c0, c1) wd W w1 w2 HA.out HC.out
  have CN2 := fun W => rnormal_any (c0, c1) (b0, b1) wd W w1 w2 HC.out HBb.out
  obtain ⟨⟨m0, m1⟩, hm⟩ : ∃ p, nrm wd (a0, a1) (c0, c1) = p := ⟨_, rfl⟩
  obtain ⟨⟨q0, q1⟩, hq⟩ : ∃ p, nrm wd (c0, c1) (b0, b1) = p := ⟨_, rfl⟩
  unfold PtC at CN1 CN2
  rw [hm] at HN1 CN1
  rw [hq] at HN2 CN2
  dsimp only at CN1 CN2
  have HCN1 := Lib.hid CN1
  have HCN2 := Lib.hid CN2
  have HEM := Lib.hid hm
  have HEQ := Lib.hid hq
  have HJ := Lib.hid h1
  have HJB := Lib.hid hj
  clear CN1 CN2 hm hq h1 hj
  go_enter Tryd.func42, Tryd.ntmps42
  go_wp2_with fail
  clear z0 z1 z2 z3 z4 z5 hW0 hg7 hg8 hg9
  go_cut [13, 14] (fun r s wx => ∃ g13 g14, r = .pointer (some ⟨g13, 0, none⟩) ∧ s = .pointer (some ⟨g14, 0, none⟩) ∧ Bn W0 wx [(g13, 30, #[.int .i64 m0, .int .i64 m1]), (g14, 30, #[.int .i64 q0, .int .i64 q1])] ∧ W0.heap.size ≤ g13 ∧ W0.heap.size ≤ g14)
  case first =>
    have HN : Hid (Bn W0 W0.drew []) := Lib.hid (Bn.nil W0).drew
    refine wp_region_held_drew (S := fun W => Below W0.heap.size W0 W) (by kernel_rfl) HN.out.b (fun hHeld => ?_)
    refine wpAnyH_take (i := 0) (oi := _) (v := .agg #[.int .i64 a0, .int .i64 a1]) rfl (by kernel_rfl) (by kernel_rfl) (by kernel_rfl) (fun _ _ _ h => h) (Or.inl ⟨by rfl, fun W1 hS => by (obtain ⟨z0, z1⟩ := two_at ((HB0.out.below hS).get 0 rfl) 0 rfl rfl; go_simp)⟩) (by assumption) ?_
    go_simp
    refine wpAnyH_take (i := 1) (oi := _) (v := .agg #[.int .i64 c0, .int .i64 c1]) rfl (by kernel_rfl) (by kernel_rfl) (by kernel_rfl) (fun _ _ _ h => h) (Or.inl ⟨by rfl, fun W1 hS => by (obtain ⟨z0, z1⟩ := two_at ((HB0.out.below hS).get 1 rfl) 0 rfl rfl; go_simp)⟩) (by assumption) ?_
    go_simp
    refine wpAnyH_take (i := 2) (oi := _) (v := .int .i64 wd) rfl (by kernel_rfl) (by kernel_rfl) (by kernel_rfl) (fun _ _ _ h => h) (Or.inl ⟨by rfl, fun W1 hS => by go_simp⟩) (by assumption) ?_
    go_simp
    refine wpAnyH_take (i := 4) (oi := _) (v := .agg #[.int .i64 c0, .int .i64 c1]) rfl (by kernel_rfl) (by kernel_rfl) (by kernel_rfl) (fun _ _ _ h => h) (Or.inl ⟨by rfl, fun W1 hS => by (obtain ⟨z0, z1⟩ := two_at ((HB0.out.below hS).get 1 rfl) 0 rfl rfl; go_simp)⟩) (by assumption) ?_
    go_simp
    refine wpAnyH_take (i := 5) (oi := _) (v := .agg #[.int .i64 b0, .int .i64 b1]) rfl (by kernel_rfl) (by kernel_rfl) (by kernel_rfl) (fun _ _ _ h => h) (Or.inl ⟨by rfl, fun W1 hS => by (obtain ⟨z0, z1⟩ := two_at ((HB0.out.below hS).get 2 rfl) 0 rfl rfl; go_simp)⟩) (by assumption) ?_
    go_simp
    refine wpAnyH_take (i := 6) (oi := _) (v := .int .i64 wd) rfl (by kernel_rfl) (by kernel_rfl) (by kernel_rfl) (fun _ _ _ h => h) (Or.inl ⟨by rfl, fun W1 hS => by go_simp⟩) (by assumption) ?_
    go_simp
    clear hHeld
    refine wpAnyH_ready (rs := [3, 8, 9]) (by kernel_rfl) (by simp) ?_
    refine AllReadyH.cons (o := _) rfl (fun K hK => ?_) (AllReadyH.cons (o := _) rfl (fun K hK => ?_) (AllReadyH.cons (o := _) rfl (fun K hK => ?_) AllReadyH.nil))
    · go_simp
      go_at_call 39
      refine (HCN1.out _).mono ?_
      rintro e Wn0 ⟨rfl, hbq⟩
      go_wp2_with fail
      have HM := Lib.hid (HN.out.below hbq)
      clear hbq
      refine hK.out _ _ HM.out.b (fun hHeld => ?_)
      clear hK hHeld HN
      have HN : Hid (Bn W0 Wn0 []) := HM
      clear HM
      have hHeld := HN.out.b
      try simp only [Act.put, List.setIfInBounds_toArray, List.set_cons_zero, List.set_cons_succ]
      clear hHeld
      refine wpAnyH_ready (rs := [7, 8, 9]) (by kernel_rfl) (by simp) ?_
      refine AllReadyH.cons (o := _) rfl (fun K hK => ?_) (AllReadyH.cons (o := _) rfl (fun K hK => ?_) (AllReadyH.cons (o := _) rfl (fun K hK => ?_) AllReadyH.nil))
      · go_simp
        go_at_call 39
        refine (HCN2.out _).mono ?_
        rintro e Wn1 ⟨rfl, hbq⟩
        go_wp2_with fail
        have HM := Lib.hid (HN.out.below hbq)
        clear hbq
        refine hK.out _ _ HM.out.b (fun hHeld => ?_)
        clear hK hHeld HN
        have HN : Hid (Bn W0 Wn1 []) := HM
        clear HM
        have hHeld := HN.out.b
        try simp only [Act.put, List.setIfInBounds_toArray, List.set_cons_zero, List.set_cons_succ]
        clear hHeld
        refine wpAnyH_ready (rs := [8, 9]) (by kernel_rfl) (by simp) ?_
        refine AllReadyH.cons (o := _) rfl (fun K hK => ?_) (AllReadyH.cons (o := _) rfl (fun K hK => ?_) AllReadyH.nil)
        · rw [if_pos (by rfl)]
          refine wp_allocPt 13 rfl rfl ?_
          have HM := Lib.hid (HN.out.push _ rfl 30 #[.int .i64 0, .int .i64 0])
          have ge_g13 : W0.heap.size ≤ (Wn1).heap.size := HN.out.b.size
          refine hK.out _ _ HM.out.b (fun hHeld => ?_)
          clear hK hHeld HN
          revert HM ge_g13 
          obtain ⟨g13, hg⟩ : ∃ g, g = (Wn1).heap.size := ⟨_, rfl⟩
          obtain ⟨Wn2, hW⟩ : ∃ W, W = (Wn1).alloc (.cells #[.int .i64 0, .int .i64 0] 30) := ⟨_, rfl⟩
          rw [← hg, ← hW]
          clear hg hW
          intro HM  ge_g13
          have HN : Hid (Bn W0 Wn2 [(g13, 30, #[.int .i64 0, .int .i64 0])]) := HM
          clear HM
          have hHeld := HN.out.b
          try simp only [Act.put, List.setIfInBounds_toArray, List.set_cons_zero, List.set_cons_succ]
          clear hHeld
          refine wpAnyH_ready (rs := [9]) (by kernel_rfl) (by simp) ?_
          refine AllReadyH.cons (o := _) rfl (fun K hK => ?_) AllReadyH.nil
          rw [if_pos (by rfl)]
          refine wp_allocPt 14 rfl rfl ?_
          have HM := Lib.hid (HN.out.push _ rfl 30 #[.int .i64 0, .int .i64 0])
          have ne_g13_g14 : g13 ≠ (Wn2).heap.size := by have := (HN.out.get 0 rfl).lt; omega
          have ge_g14 : W0.heap.size ≤ (Wn2).heap.size := HN.out.b.size
          refine hK.out _ _ HM.out.b (fun hHeld => ?_)
          clear hK hHeld HN
          revert HM ge_g14 ne_g13_g14
          obtain ⟨g14, hg⟩ : ∃ g, g = (Wn2).heap.size := ⟨_, rfl⟩
          obtain ⟨Wn3, hW⟩ : ∃ W, W = (Wn2).alloc (.cells #[.int .i64 0, .int .i64 0] 30) := ⟨_, rfl⟩
          rw [← hg, ← hW]
          clear hg hW
          intro HM ne_g13_g14 ge_g14
          have HN : Hid (Bn W0 Wn3 [(g13, 30, #[.int .i64 0, .int .i64 0]), (g14, 30, #[.int .i64 0, .int .i64 0])]) := HM
          clear HM
          have hHeld := HN.out.b
          try simp only [Act.put, List.setIfInBounds_toArray, List.set_cons_zero, List.set_cons_succ]
          clear hHeld
          refine wpAnyH_ready (rs := [10]) (by kernel_rfl) (by simp) ?_
          refine AllReadyH.cons (o := _) rfl (fun K hK => ?_) AllReadyH.nil
          rw [if_pos (by rfl)]
          refine wp_store_row 30 _ _ rfl g13 #[.int .i64 m0, .int .i64 m1] rfl rfl 30 #[.int .i64 0, .int .i64 0] (HN.out.get 0 rfl) (infoPt (0, 0)) rfl (by simp [Value.oneCell']) ?_
          have HM : Hid (Bn W0 (Wn3.setRow g13 #[.int .i64 m0, .int .i64 m1]) [(g13, 30, #[.int .i64 m0, .int .i64 m1]), (g14, 30, #[.int .i64 0, .int .i64 0])]) := Lib.hid (HN.out.row 0 rfl ge_g13 (by (intro j y hj hy; rcases j with _ | _ | _ | _ | _ | _ | j <;> first | exact absurd rfl hj | (simp only [List.getElem?_cons_zero, List.getElem?_cons_succ, Option.some.injEq] at hy; subst hy; dsimp only; omega) | (simp at hy; done))) #[.int .i64 m0, .int .i64 m1])
          refine hK.out _ _ HM.out.b (fun hHeld => ?_)
          clear hK hHeld HN
          have HN := HM
          clear HM
          have hHeld := HN.out.b
          try simp only [Act.put, List.setIfInBounds_toArray, List.set_cons_zero, List.set_cons_succ]
          clear hHeld
          refine wpAnyH_ready (rs := [11]) (by kernel_rfl) (by simp) ?_
          refine AllReadyH.cons (o := _) rfl (fun K hK => ?_) AllReadyH.nil
          rw [if_pos (by rfl)]
          refine wp_store_row 30 _ _ rfl g14 #[.int .i64 q0, .int .i64 q1] rfl rfl 30 #[.int .i64 0, .int .i64 0] (HN.out.get 1 rfl) (infoPt (0, 0)) rfl (by simp [Value.oneCell']) ?_
          have HM : Hid (Bn W0 ((Wn3.setRow g13 #[.int .i64 m0, .int .i64 m1]).setRow g14 #[.int .i64 q0, .int .i64 q1]) [(g13, 30, #[.int .i64 m0, .int .i64 m1]), (g14, 30, #[.int .i64 q0, .int .i64 q1])]) := Lib.hid (HN.out.row 1 rfl ge_g14 (by (intro j y hj hy; rcases j with _ | _ | _ | _ | _ | _ | j <;> first | exact absurd rfl hj | (simp only [List.getElem?_cons_zero, List.getElem?_cons_succ, Option.some.injEq] at hy; subst hy; dsimp only; omega) | (simp at hy; done))) #[.int .i64 q0, .int .i64 q1])
          refine hK.out _ _ HM.out.b (fun hHeld => ?_)
          clear hK hHeld HN
          have HN := HM
          clear HM
          have hHeld := HN.out.b
          try simp only [Act.put, List.setIfInBounds_toArray, List.set_cons_zero, List.set_cons_succ]
          clear hHeld
          refine wpAnyH_done (by kernel_rfl) ?_ _
          go_wp2_with fail
          go_meet
          exact ⟨g13, g14, rfl, rfl, Bn.of2 HN.out.b (HN.out.get 0 rfl) (HN.out.get 1 rfl), ge_g13, ge_g14⟩
        · rw [if_pos (by rfl)]
          refine wp_allocPt 14 rfl rfl ?_
          have HM := Lib.hid (HN.out.push _ rfl 30 #[.int .i64 0, .int .i64 0])
          have ge_g14 : W0.heap.size ≤ (Wn1).heap.size := HN.out.b.size
          refine hK.out _ _ HM.out.b (fun hHeld => ?_)
          clear hK hHeld HN
          revert HM ge_g14 
          obtain ⟨g14, hg⟩ : ∃ g, g = (Wn1).heap.size := ⟨_, rfl⟩
          obtain ⟨Wn2, hW⟩ : ∃ W, W = (Wn1).alloc (.cells #[.int .i64 0, .int .i64 0] 30) := ⟨_, rfl⟩
          rw [← hg, ← hW]
          clear hg hW
          intro HM  ge_g14
          have HN : Hid (Bn W0 Wn2 [(g14, 30, #[.int .i64 0, .int .i64 0])]) := HM
          clear HM
          have hHeld := HN.out.b
          try simp only [Act.put, List.setIfInBounds_toArray, List.set_cons_zero, List.set_cons_succ]
          clear hHeld
          refine wpAnyH_ready (rs := [8]) (by kernel_rfl) (by simp) ?_
          refine AllReadyH.cons (o := _) rfl (fun K hK => ?_) AllReadyH.nil
          rw [if_pos (by rfl)]
          refine wp_allocPt 13 rfl rfl ?_
          have HM := Lib.hid (HN.out.push _ rfl 30 #[.int .i64 0, .int .i64 0])
          have ne_g14_g13 : g14 ≠ (Wn2).heap.size := by have := (HN.out.get 0 rfl).lt; omega
          have ge_g13 : W0.heap.size ≤ (Wn2).heap.size := HN.out.b.size
          refine hK.out _ _ HM.out.b (fun hHeld => ?_)
          clear hK hHeld HN
          revert HM ge_g13 ne_g14_g13
          obtain ⟨g13, hg⟩ : ∃ g, g = (Wn2).heap.size := ⟨_, rfl⟩
          obtain ⟨Wn3, hW⟩ : ∃ W, W = (Wn2).alloc (.cells #[.int .i64 0, .int .i64 0] 30) := ⟨_, rfl⟩
          rw [← hg, ← hW]
          clear hg hW
          intro HM ne_g14_g13 ge_g13
          have HN : Hid (Bn W0 Wn3 [(g14, 30, #[.int .i64 0, .int .i64 0]), (g13, 30, #[.int .i64 0, .int .i64 0])]) := HM
          clear HM
          have hHeld := HN.out.b
          try simp only [Act.put, List.setIfInBounds_toArray, List.set_cons_zero, List.set_cons_succ]
          clear hHeld
          refine wpAnyH_ready (rs := [10]) (by kernel_rfl) (by simp) ?_
          refine AllReadyH.cons (o := _) rfl (fun K hK => ?_) AllReadyH.nil
          rw [if_pos (by rfl)]
          refine wp_store_row 30 _ _ rfl g13 #[.int .i64 m0, .int .i64 m1] rfl rfl 30 #[.int .i64 0, .int .i64 0] (HN.out.get 1 rfl) (infoPt (0, 0)) rfl (by simp [Value.oneCell']) ?_
          have HM : Hid (Bn W0 (Wn3.setRow g13 #[.int .i64 m0, .int .i64 m1]) [(g14, 30, #[.int .i64 0, .int .i64 0]), (g13, 30, #[.int .i64 m0, .int .i64 m1])]) := Lib.hid (HN.out.row 1 rfl ge_g13 (by (intro j y hj hy; rcases j with _ | _ | _ | _ | _ | _ | j <;> first | exact absurd rfl hj | (simp only [List.getElem?_cons_zero, List.getElem?_cons_succ, Option.some.injEq] at hy; subst hy; dsimp only; omega) | (simp at hy; done))) #[.int .i64 m0, .int .i64 m1])
          refine hK.out _ _ HM.out.b (fun hHeld => ?_)
          clear hK hHeld HN
          have HN := HM
          clear HM
          have hHeld := HN.out.b
          try simp only [Act.put, List.setIfInBounds_toArray, List.set_cons_zero, List.set_cons_succ]
          clear hHeld
          refine wpAnyH_ready (rs := [11]) (by kernel_rfl) (by simp) ?_
          refine AllReadyH.cons (o := _) rfl (fun K hK => ?_) AllReadyH.nil
          rw [if_pos (by rfl)]
          refine wp_store_row 30 _ _ rfl g14 #[.int .i64 q0, .int .i64 q1] rfl rfl 30 #[.int .i64 0, .int .i64 0] (HN.out.get 0 rfl) (infoPt (0, 0)) rfl (by simp [Value.oneCell']) ?_
          have HM : Hid (Bn W0 ((Wn3.setRow g13 #[.int .i64 m0, .int .i64 m1]).setRow g14 #[.int .i64 q0, .int .i64 q1]) [(g14, 30, #[.int .i64 q0, .int .i64 q1]), (g13, 30, #[.int .i64 m0, .int .i64 m1])]) := Lib.hid (HN.out.row 0 rfl ge_g14 (by (intro j y hj hy; rcases j with _ | _ | _ | _ | _ | _ | j <;> first | exact absurd rfl hj | (simp only [List.getElem?_cons_zero, List.getElem?_cons_succ, Option.some.injEq] at hy; subst hy; dsimp only; omega) | (simp at hy; done))) #[.int .i64 q0, .int .i64 q1])
          refine hK.out _ _ HM.out.b (fun hHeld => ?_)
          clear hK hHeld HN
          have HN := HM
          clear HM
          have hHeld := HN.out.b
          try simp only [Act.put, List.setIfInBounds_toArray, List.set_cons_zero, List.set_cons_succ]
          clear hHeld
          refine wpAnyH_done (by kernel_rfl) ?_ _
          go_wp2_with fail
          go_meet
          exact ⟨g13, g14, rfl, rfl, Bn.of2 HN.out.b (HN.out.get 1 rfl) (HN.out.get 0 rfl), ge_g13, ge_g14⟩
      · rw [if_pos (by rfl)]
        refine wp_allocPt 13 rfl rfl ?_
        have HM := Lib.hid (HN.out.push _ rfl 30 #[.int .i64 0, .int .i64 0])
        have ge_g13 : W0.heap.size ≤ (Wn0).heap.size := HN.out.b.size
        refine hK.out _ _ HM.out.b (fun hHeld => ?_)
        clear hK hHeld HN
        revert HM ge_g13 
        obtain ⟨g13, hg⟩ : ∃ g, g = (Wn0).heap.size := ⟨_, rfl⟩
        obtain ⟨Wn1, hW⟩ : ∃ W, W = (Wn0).alloc (.cells #[.int .i64 0, .int .i64 0] 30) := ⟨_, rfl⟩
        rw [← hg, ← hW]
        clear hg hW
        intro HM  ge_g13
        have HN : Hid (Bn W0 Wn1 [(g13, 30, #[.int .i64 0, .int .i64 0])]) := HM
        clear HM
        have hHeld := HN.out.b
        try simp only [Act.put, List.setIfInBounds_toArray, List.set_cons_zero, List.set_cons_succ]
        clear hHeld
        refine wpAnyH_ready (rs := [7, 9]) (by kernel_rfl) (by simp) ?_
        refine AllReadyH.cons (o := _) rfl (fun K hK => ?_) (AllReadyH.cons (o := _) rfl (fun K hK => ?_) AllReadyH.nil)
        · go_simp
          go_at_call 39
          refine (HCN2.out _).mono ?_
          rintro e Wn2 ⟨rfl, hbq⟩
          go_wp2_with fail
          have HM := Lib.hid (HN.out.below hbq)
          clear hbq
          refine hK.out _ _ HM.out.b (fun hHeld => ?_)
          clear hK hHeld HN
          have HN : Hid (Bn W0 Wn2 [(g13, 30, #[.int .i64 0, .int .i64 0])]) := HM
          clear HM
          have hHeld := HN.out.b
          try simp only [Act.put, List.setIfInBounds_toArray, List.set_cons_zero, List.set_cons_succ]
          clear hHeld
          refine wpAnyH_ready (rs := [9]) (by kernel_rfl) (by simp) ?_
          refine AllReadyH.cons (o := _) rfl (fun K hK => ?_) AllReadyH.nil
          rw [if_pos (by rfl)]
          refine wp_allocPt 14 rfl rfl ?_
          have HM := Lib.hid (HN.out.push _ rfl 30 #[.int .i64 0, .int .i64 0])
          have ne_g13_g14 : g13 ≠ (Wn2).heap.size := by have := (HN.out.get 0 rfl).lt; omega
          have ge_g14 : W0.heap.size ≤ (Wn2).heap.size := HN.out.b.size
          refine hK.out _ _ HM.out.b (fun hHeld => ?_)
          clear hK hHeld HN
          revert HM ge_g14 ne_g13_g14
          obtain ⟨g14, hg⟩ : ∃ g, g = (Wn2).heap.size := ⟨_, rfl⟩
          obtain ⟨Wn3, hW⟩ : ∃ W, W = (Wn2).alloc (.cells #[.int .i64 0, .int .i64 0] 30) := ⟨_, rfl⟩
          rw [← hg, ← hW]
          clear hg hW
          intro HM ne_g13_g14 ge_g14
          have HN : Hid (Bn W0 Wn3 [(g13, 30, #[.int .i64 0, .int .i64 0]), (g14, 30, #[.int .i64 0, .int .i64 0])]) := HM
          clear HM
          have hHeld := HN.out.b
          try simp only [Act.put, List.setIfInBounds_toArray, List.set_cons_zero, List.set_cons_succ]
          clear hHeld
          refine wpAnyH_ready (rs := [10]) (by kernel_rfl) (by simp) ?_
          refine AllReadyH.cons (o := _) rfl (fun K hK => ?_) AllReadyH.nil
          rw [if_pos (by rfl)]
          refine wp_store_row 30 _ _ rfl g13 #[.int .i64 m0, .int .i64 m1] rfl rfl 30 #[.int .i64 0, .int .i64 0] (HN.out.get 0 rfl) (infoPt (0, 0)) rfl (by simp [Value.oneCell']) ?_
          have HM : Hid (Bn W0 (Wn3.setRow g13 #[.int .i64 m0, .int .i64 m1]) [(g13, 30, #[.int .i64 m0, .int .i64 m1]), (g14, 30, #[.int .i64 0, .int .i64 0])]) := Lib.hid (HN.out.row 0 rfl ge_g13 (by (intro j y hj hy; rcases j with _ | _ | _ | _ | _ | _ | j <;> first | exact absurd rfl hj | (simp only [List.getElem?_cons_zero, List.getElem?_cons_succ, Option.some.injEq] at hy; subst hy; dsimp only; omega) | (simp at hy; done))) #[.int .i64 m0, .int .i64 m1])
          refine hK.out _ _ HM.out.b (fun hHeld => ?_)
          clear hK hHeld HN
          have HN := HM
          clear HM
          have hHeld := HN.out.b
          try simp only [Act.put, List.setIfInBounds_toArray, List.set_cons_zero, List.set_cons_succ]
          clear hHeld
          refine wpAnyH_ready (rs := [11]) (by kernel_rfl) (by simp) ?_
          refine AllReadyH.cons (o := _) rfl (fun K hK => ?_) AllReadyH.nil
          rw [if_pos (by rfl)]
          refine wp_store_row 30 _ _ rfl g14 #[.int .i64 q0, .int .i64 q1] rfl rfl 30 #[.int .i64 0, .int .i64 0] (HN.out.get 1 rfl) (infoPt (0, 0)) rfl (by simp [Value.oneCell']) ?_
          have HM : Hid (Bn W0 ((Wn3.setRow g13 #[.int .i64 m0, .int .i64 m1]).setRow g14 #[.int .i64 q0, .int .i64 q1]) [(g13, 30, #[.int .i64 m0, .int .i64 m1]), (g14, 30, #[.int .i64 q0, .int .i64 q1])]) := Lib.hid (HN.out.row 1 rfl ge_g14 (by (intro j y hj hy; rcases j with _ | _ | _ | _ | _ | _ | j <;> first | exact absurd rfl hj | (simp only [List.getElem?_cons_zero, List.getElem?_cons_succ, Option.some.injEq] at hy; subst hy; dsimp only; omega) | (simp at hy; done))) #[.int .i64 q0, .int .i64 q1])
          refine hK.out _ _ HM.out.b (fun hHeld => ?_)
          clear hK hHeld HN
          have HN := HM
          clear HM
          have hHeld := HN.out.b
          try simp only [Act.put, List.setIfInBounds_toArray, List.set_cons_zero, List.set_cons_succ]
          clear hHeld
          refine wpAnyH_done (by kernel_rfl) ?_ _
          go_wp2_with fail
          go_meet
          exact ⟨g13, g14, rfl, rfl, Bn.of2 HN.out.b (HN.out.get 0 rfl) (HN.out.get 1 rfl), ge_g13, ge_g14⟩
        · rw [if_pos (by rfl)]
          refine wp_allocPt 14 rfl rfl ?_
          have HM := Lib.hid (HN.out.push _ rfl 30 #[.int .i64 0, .int .i64 0])
          have ne_g13_g14 : g13 ≠ (Wn1).heap.size := by have := (HN.out.get 0 rfl).lt; omega
          have ge_g14 : W0.heap.size ≤ (Wn1).heap.size := HN.out.b.size
          refine hK.out _ _ HM.out.b (fun hHeld => ?_)
          clear hK hHeld HN
          revert HM ge_g14 ne_g13_g14
          obtain ⟨g14, hg⟩ : ∃ g, g = (Wn1).heap.size := ⟨_, rfl⟩
          obtain ⟨Wn2, hW⟩ : ∃ W, W = (Wn1).alloc (.cells #[.int .i64 0, .int .i64 0] 30) := ⟨_, rfl⟩
          rw [← hg, ← hW]
          clear hg hW
          intro HM ne_g13_g14 ge_g14
          have HN : Hid (Bn W0 Wn2 [(g13, 30, #[.int .i64 0, .int .i64 0]), (g14, 30, #[.int .i64 0, .int .i64 0])]) := HM
          clear HM
          have hHeld := HN.out.b
          try simp only [Act.put, List.setIfInBounds_toArray, List.set_cons_zero, List.set_cons_succ]
          clear hHeld
          refine wpAnyH_ready (rs := [7]) (by kernel_rfl) (by simp) ?_
          refine AllReadyH.cons (o := _) rfl (fun K hK => ?_) AllReadyH.nil
          go_simp
          go_at_call 39
          refine (HCN2.out _).mono ?_
          rintro e Wn3 ⟨rfl, hbq⟩
          go_wp2_with fail
          have HM := Lib.hid (HN.out.below hbq)
          clear hbq
          refine hK.out _ _ HM.out.b (fun hHeld => ?_)
          clear hK hHeld HN
          have HN : Hid (Bn W0 Wn3 [(g13, 30, #[.int .i64 0, .int .i64 0]), (g14, 30, #[.int .i64 0, .int .i64 0])]) := HM
          clear HM
          have hHeld := HN.out.b
          try simp only [Act.put, List.setIfInBounds_toArray, List.set_cons_zero, List.set_cons_succ]
          clear hHeld
          refine wpAnyH_ready (rs := [10]) (by kernel_rfl) (by simp) ?_
          refine AllReadyH.cons (o := _) rfl (fun K hK => ?_) AllReadyH.nil
          rw [if_pos (by rfl)]
          refine wp_store_row 30 _ _ rfl g13 #[.int .i64 m0, .int .i64 m1] rfl rfl 30 #[.int .i64 0, .int .i64 0] (HN.out.get 0 rfl) (infoPt (0, 0)) rfl (by simp [Value.oneCell']) ?_
          have HM : Hid (Bn W0 (Wn3.setRow g13 #[.int .i64 m0, .int .i64 m1]) [(g13, 30, #[.int .i64 m0, .int .i64 m1]), (g14, 30, #[.int .i64 0, .int .i64 0])]) := Lib.hid (HN.out.row 0 rfl ge_g13 (by (intro j y hj hy; rcases j with _ | _ | _ | _ | _ | _ | j <;> first | exact absurd rfl hj | (simp only [List.getElem?_cons_zero, List.getElem?_cons_succ, Option.some.injEq] at hy; subst hy; dsimp only; omega) | (simp at hy; done))) #[.int .i64 m0, .int .i64 m1])
          refine hK.out _ _ HM.out.b (fun hHeld => ?_)
          clear hK hHeld HN
          have HN := HM
          clear HM
          have hHeld := HN.out.b
          try simp only [Act.put, List.setIfInBounds_toArray, List.set_cons_zero, List.set_cons_succ]
          clear hHeld
          refine wpAnyH_ready (rs := [11]) (by kernel_rfl) (by simp) ?_
          refine AllReadyH.cons (o := _) rfl (fun K hK => ?_) AllReadyH.nil
          rw [if_pos (by rfl)]
          refine wp_store_row 30 _ _ rfl g14 #[.int .i64 q0, .int .i64 q1] rfl rfl 30 #[.int .i64 0, .int .i64 0] (HN.out.get 1 rfl) (infoPt (0, 0)) rfl (by simp [Value.oneCell']) ?_
          have HM : Hid (Bn W0 ((Wn3.setRow g13 #[.int .i64 m0, .int .i64 m1]).setRow g14 #[.int .i64 q0, .int .i64 q1]) [(g13, 30, #[.int .i64 m0, .int .i64 m1]), (g14, 30, #[.int .i64 q0, .int .i64 q1])]) := Lib.hid (HN.out.row 1 rfl ge_g14 (by (intro j y hj hy; rcases j with _ | _ | _ | _ | _ | _ | j <;> first | exact absurd rfl hj | (simp only [List.getElem?_cons_zero, List.getElem?_cons_succ, Option.some.injEq] at hy; subst hy; dsimp only; omega) | (simp at hy; done))) #[.int .i64 q0, .int .i64 q1])
          refine hK.out _ _ HM.out.b (fun hHeld => ?_)
          clear hK hHeld HN
          have HN := HM
          clear HM
          have hHeld := HN.out.b
          try simp only [Act.put, List.setIfInBounds_toArray, List.set_cons_zero, List.set_cons_succ]
          clear hHeld
          refine wpAnyH_done (by kernel_rfl) ?_ _
          go_wp2_with fail
          go_meet
          exact ⟨g13, g14, rfl, rfl, Bn.of2 HN.out.b (HN.out.get 0 rfl) (HN.out.get 1 rfl), ge_g13, ge_g14⟩
      · rw [if_pos (by rfl)]
        refine wp_allocPt 14 rfl rfl ?_
        have HM := Lib.hid (HN.out.push _ rfl 30 #[.int .i64 0, .int .i64 0])
        have ge_g14 : W0.heap.size ≤ (Wn0).heap.size := HN.out.b.size
        refine hK.out _ _ HM.out.b (fun hHeld => ?_)
        clear hK hHeld HN
        revert HM ge_g14 
        obtain ⟨g14, hg⟩ : ∃ g, g = (Wn0).heap.size := ⟨_, rfl⟩
        obtain ⟨Wn1, hW⟩ : ∃ W, W = (Wn0).alloc (.cells #[.int .i64 0, .int .i64 0] 30) := ⟨_, rfl⟩
        rw [← hg, ← hW]
        clear hg hW
        intro HM  ge_g14
        have HN : Hid (Bn W0 Wn1 [(g14, 30, #[.int .i64 0, .int .i64 0])]) := HM
        clear HM
        have hHeld := HN.out.b
        try simp only [Act.put, List.setIfInBounds_toArray, List.set_cons_zero, List.set_cons_succ]
        clear hHeld
        refine wpAnyH_ready (rs := [7, 8]) (by kernel_rfl) (by simp) ?_
        refine AllReadyH.cons (o := _) rfl (fun K hK => ?_) (AllReadyH.cons (o := _) rfl (fun K hK => ?_) AllReadyH.nil)
        · go_simp
          go_at_call 39
          refine (HCN2.out _).mono ?_
          rintro e Wn2 ⟨rfl, hbq⟩
          go_wp2_with fail
          have HM := Lib.hid (HN.out.below hbq)
          clear hbq
          refine hK.out _ _ HM.out.b (fun hHeld => ?_)
          clear hK hHeld HN
          have HN : Hid (Bn W0 Wn2 [(g14, 30, #[.int .i64 0, .int .i64 0])]) := HM
          clear HM
          have hHeld := HN.out.b
          try simp only [Act.put, List.setIfInBounds_toArray, List.set_cons_zero, List.set_cons_succ]
          clear hHeld
          refine wpAnyH_ready (rs := [8]) (by kernel_rfl) (by simp) ?_
          refine AllReadyH.cons (o := _) rfl (fun K hK => ?_) AllReadyH.nil
          rw [if_pos (by rfl)]
          refine wp_allocPt 13 rfl rfl ?_
          have HM := Lib.hid (HN.out.push _ rfl 30 #[.int .i64 0, .int .i64 0])
          have ne_g14_g13 : g14 ≠ (Wn2).heap.size := by have := (HN.out.get 0 rfl).lt; omega
          have ge_g13 : W0.heap.size ≤ (Wn2).heap.size := HN.out.b.size
          refine hK.out _ _ HM.out.b (fun hHeld => ?_)
          clear hK hHeld HN
          revert HM ge_g13 ne_g14_g13
          obtain ⟨g13, hg⟩ : ∃ g, g = (Wn2).heap.size := ⟨_, rfl⟩
          obtain ⟨Wn3, hW⟩ : ∃ W, W = (Wn2).alloc (.cells #[.int .i64 0, .int .i64 0] 30) := ⟨_, rfl⟩
          rw [← hg, ← hW]
          clear hg hW
          intro HM ne_g14_g13 ge_g13
          have HN : Hid (Bn W0 Wn3 [(g14, 30, #[.int .i64 0, .int .i64 0]), (g13, 30, #[.int .i64 0, .int .i64 0])]) := HM
          clear HM
          have hHeld := HN.out.b
          try simp only [Act.put, List.setIfInBounds_toArray, List.set_cons_zero, List.set_cons_succ]
          clear hHeld
          refine wpAnyH_ready (rs := [10]) (by kernel_rfl) (by simp) ?_
          refine AllReadyH.cons (o := _) rfl (fun K hK => ?_) AllReadyH.nil
          rw [if_pos (by rfl)]
          refine wp_store_row 30 _ _ rfl g13 #[.int .i64 m0, .int .i64 m1] rfl rfl 30 #[.int .i64 0, .int .i64 0] (HN.out.get 1 rfl) (infoPt (0, 0)) rfl (by simp [Value.oneCell']) ?_
          have HM : Hid (Bn W0 (Wn3.setRow g13 #[.int .i64 m0, .int .i64 m1]) [(g14, 30, #[.int .i64 0, .int .i64 0]), (g13, 30, #[.int .i64 m0, .int .i64 m1])]) := Lib.hid (HN.out.row 1 rfl ge_g13 (by (intro j y hj hy; rcases j with _ | _ | _ | _ | _ | _ | j <;> first | exact absurd rfl hj | (simp only [List.getElem?_cons_zero, List.getElem?_cons_succ, Option.some.injEq] at hy; subst hy; dsimp only; omega) | (simp at hy; done))) #[.int .i64 m0, .int .i64 m1])
          refine hK.out _ _ HM.out.b (fun hHeld => ?_)
          clear hK hHeld HN
          have HN := HM
          clear HM
          have hHeld := HN.out.b
          try simp only [Act.put, List.setIfInBounds_toArray, List.set_cons_zero, List.set_cons_succ]
          clear hHeld
          refine wpAnyH_ready (rs := [11]) (by kernel_rfl) (by simp) ?_
          refine AllReadyH.cons (o := _) rfl (fun K hK => ?_) AllReadyH.nil
          rw [if_pos (by rfl)]
          refine wp_store_row 30 _ _ rfl g14 #[.int .i64 q0, .int .i64 q1] rfl rfl 30 #[.int .i64 0, .int .i64 0] (HN.out.get 0 rfl) (infoPt (0, 0)) rfl (by simp [Value.oneCell']) ?_
          have HM : Hid (Bn W0 ((Wn3.setRow g13 #[.int .i64 m0, .int .i64 m1]).setRow g14 #[.int .i64 q0, .int .i64 q1]) [(g14, 30, #[.int .i64 q0, .int .i64 q1]), (g13, 30, #[.int .i64 m0, .int .i64 m1])]) := Lib.hid (HN.out.row 0 rfl ge_g14 (by (intro j y hj hy; rcases j with _ | _ | _ | _ | _ | _ | j <;> first | exact absurd rfl hj | (simp only [List.getElem?_cons_zero, List.getElem?_cons_succ, Option.some.injEq] at hy; subst hy; dsimp only; omega) | (simp at hy; done))) #[.int .i64 q0, .int .i64 q1])
          refine hK.out _ _ HM.out.b (fun hHeld => ?_)
          clear hK hHeld HN
          have HN := HM
          clear HM
          have hHeld := HN.out.b
          try simp only [Act.put, List.setIfInBounds_toArray, List.set_cons_zero, List.set_cons_succ]
          clear hHeld
          refine wpAnyH_done (by kernel_rfl) ?_ _
          go_wp2_with fail
          go_meet
          exact ⟨g13, g14, rfl, rfl, Bn.of2 HN.out.b (HN.out.get 1 rfl) (HN.out.get 0 rfl), ge_g13, ge_g14⟩
        · rw [if_pos (by rfl)]
          refine wp_allocPt 13 rfl rfl ?_
          have HM := Lib.hid (HN.out.push _ rfl 30 #[.int .i64 0, .int .i64 0])
          have ne_g14_g13 : g14 ≠ (Wn1).heap.size := by have := (HN.out.get 0 rfl).lt; omega
          have ge_g13 : W0.heap.size ≤ (Wn1).heap.size := HN.out.b.size
          refine hK.out _ _ HM.out.b (fun hHeld => ?_)
          clear hK hHeld HN
          revert HM ge_g13 ne_g14_g13
          obtain ⟨g13, hg⟩ : ∃ g, g = (Wn1).heap.size := ⟨_, rfl⟩
          obtain ⟨Wn2, hW⟩ : ∃ W, W = (Wn1).alloc (.cells #[.int .i64 0, .int .i64 0] 30) := ⟨_, rfl⟩
          rw [← hg, ← hW]
          clear hg hW
          intro HM ne_g14_g13 ge_g13
          have HN : Hid (Bn W0 Wn2 [(g14, 30, #[.int .i64 0, .int .i64 0]), (g13, 30, #[.int .i64 0, .int .i64 0])]) := HM
          clear HM
          have hHeld := HN.out.b
          try simp only [Act.put, List.setIfInBounds_toArray, List.set_cons_zero, List.set_cons_succ]
          clear hHeld
          refine wpAnyH_ready (rs := [7]) (by kernel_rfl) (by simp) ?_
          refine AllReadyH.cons (o := _) rfl (fun K hK => ?_) AllReadyH.nil
          go_simp
          go_at_call 39
          refine (HCN2.out _).mono ?_
          rintro e Wn3 ⟨rfl, hbq⟩
          go_wp2_with fail
          have HM := Lib.hid (HN.out.below hbq)
          clear hbq
          refine hK.out _ _ HM.out.b (fun hHeld => ?_)
          clear hK hHeld HN
          have HN : Hid (Bn W0 Wn3 [(g14, 30, #[.int .i64 0, .int .i64 0]), (g13, 30, #[.int .i64 0, .int .i64 0])]) := HM
          clear HM
          have hHeld := HN.out.b
          try simp only [Act.put, List.setIfInBounds_toArray, List.set_cons_zero, List.set_cons_succ]
          clear hHeld
          refine wpAnyH_ready (rs := [10]) (by kernel_rfl) (by simp) ?_
          refine AllReadyH.cons (o := _) rfl (fun K hK => ?_) AllReadyH.nil
          rw [if_pos (by rfl)]
          refine wp_store_row 30 _ _ rfl g13 #[.int .i64 m0, .int .i64 m1] rfl rfl 30 #[.int .i64 0, .int .i64 0] (HN.out.get 1 rfl) (infoPt (0, 0)) rfl (by simp [Value.oneCell']) ?_
          have HM : Hid (Bn W0 (Wn3.setRow g13 #[.int .i64 m0, .int .i64 m1]) [(g14, 30, #[.int .i64 0, .int .i64 0]), (g13, 30, #[.int .i64 m0, .int .i64 m1])]) := Lib.hid (HN.out.row 1 rfl ge_g13 (by (intro j y hj hy; rcases j with _ | _ | _ | _ | _ | _ | j <;> first | exact absurd rfl hj | (simp only [List.getElem?_cons_zero, List.getElem?_cons_succ, Option.some.injEq] at hy; subst hy; dsimp only; omega) | (simp at hy; done))) #[.int .i64 m0, .int .i64 m1])
          refine hK.out _ _ HM.out.b (fun hHeld => ?_)
          clear hK hHeld HN
          have HN := HM
          clear HM
          have hHeld := HN.out.b
          try simp only [Act.put, List.setIfInBounds_toArray, List.set_cons_zero, List.set_cons_succ]
          clear hHeld
          refine wpAnyH_ready (rs := [11]) (by kernel_rfl) (by simp) ?_
          refine AllReadyH.cons (o := _) rfl (fun K hK => ?_) AllReadyH.nil
          rw [if_pos (by rfl)]
          refine wp_store_row 30 _ _ rfl g14 #[.int .i64 q0, .int .i64 q1] rfl rfl 30 #[.int .i64 0, .int .i64 0] (HN.out.get 0 rfl) (infoPt (0, 0)) rfl (by simp [Value.oneCell']) ?_
          have HM : Hid (Bn W0 ((Wn3.setRow g13 #[.int .i64 m0, .int .i64 m1]).setRow g14 #[.int .i64 q0, .int .i64 q1]) [(g14, 30, #[.int .i64 q0, .int .i64 q1]), (g13, 30, #[.int .i64 m0, .int .i64 m1])]) := Lib.hid (HN.out.row 0 rfl ge_g14 (by (intro j y hj hy; rcases j with _ | _ | _ | _ | _ | _ | j <;> first | exact absurd rfl hj | (simp only [List.getElem?_cons_zero, List.getElem?_cons_succ, Option.some.injEq] at hy; subst hy; dsimp only; omega) | (simp at hy; done))) #[.int .i64 q0, .int .i64 q1])
          refine hK.out _ _ HM.out.b (fun hHeld => ?_)
          clear hK hHeld HN
          have HN := HM
          clear HM
          have hHeld := HN.out.b
          try simp only [Act.put, List.setIfInBounds_toArray, List.set_cons_zero, List.set_cons_succ]
          clear hHeld
          refine wpAnyH_done (by kernel_rfl) ?_ _
          go_wp2_with fail
          go_meet
          exact ⟨g13, g14, rfl, rfl, Bn.of2 HN.out.b (HN.out.get 1 rfl) (HN.out.get 0 rfl), ge_g13, ge_g14⟩
    · rw [if_pos (by rfl)]
      refine wp_allocPt 13 rfl rfl ?_
      have HM := Lib.hid (HN.out.push _ rfl 30 #[.int .i64 0, .int .i64 0])
      have ge_g13 : W0.heap.size ≤ (W0.drew).heap.size := HN.out.b.size
      refine hK.out _ _ HM.out.b (fun hHeld => ?_)
      clear hK hHeld HN
      revert HM ge_g13 
      obtain ⟨g13, hg⟩ : ∃ g, g = (W0.drew).heap.size := ⟨_, rfl⟩
      obtain ⟨Wn0, hW⟩ : ∃ W, W = (W0.drew).alloc (.cells #[.int .i64 0, .int .i64 0] 30) := ⟨_, rfl⟩
      rw [← hg, ← hW]
      clear hg hW
      intro HM  ge_g13
      have HN : Hid (Bn W0 Wn0 [(g13, 30, #[.int .i64 0, .int .i64 0])]) := HM
      clear HM
      have hHeld := HN.out.b
      try simp only [Act.put, List.setIfInBounds_toArray, List.set_cons_zero, List.set_cons_succ]
      clear hHeld
      refine wpAnyH_ready (rs := [3, 9]) (by kernel_rfl) (by simp) ?_
      refine AllReadyH.cons (o := _) rfl (fun K hK => ?_) (AllReadyH.cons (o := _) rfl (fun K hK => ?_) AllReadyH.nil)
      · go_simp
        go_at_call 39
        refine (HCN1.out _).mono ?_
        rintro e Wn1 ⟨rfl, hbq⟩
        go_wp2_with fail
        have HM := Lib.hid (HN.out.below hbq)
        clear hbq
        refine hK.out _ _ HM.out.b (fun hHeld => ?_)
        clear hK hHeld HN
        have HN : Hid (Bn W0 Wn1 [(g13, 30, #[.int .i64 0, .int .i64 0])]) := HM
        clear HM
        have hHeld := HN.out.b
        try simp only [Act.put, List.setIfInBounds_toArray, List.set_cons_zero, List.set_cons_succ]
        clear hHeld
        refine wpAnyH_ready (rs := [7, 9]) (by kernel_rfl) (by simp) ?_
        refine AllReadyH.cons (o := _) rfl (fun K hK => ?_) (AllReadyH.cons (o := _) rfl (fun K hK => ?_) AllReadyH.nil)
        · go_simp
          go_at_call 39
          refine (HCN2.out _).mono ?_
          rintro e Wn2 ⟨rfl, hbq⟩
          go_wp2_with fail
          have HM := Lib.hid (HN.out.below hbq)
          clear hbq
          refine hK.out _ _ HM.out.b (fun hHeld => ?_)
          clear hK hHeld HN
          have HN : Hid (Bn W0 Wn2 [(g13, 30, #[.int .i64 0, .int .i64 0])]) := HM
          clear HM
          have hHeld := HN.out.b
          try simp only [Act.put, List.setIfInBounds_toArray, List.set_cons_zero, List.set_cons_succ]
          clear hHeld
          refine wpAnyH_ready (rs := [9]) (by kernel_rfl) (by simp) ?_
          refine AllReadyH.cons (o := _) rfl (fun K hK => ?_) AllReadyH.nil
          rw [if_pos (by rfl)]
          refine wp_allocPt 14 rfl rfl ?_
          have HM := Lib.hid (HN.out.push _ rfl 30 #[.int .i64 0, .int .i64 0])
          have ne_g13_g14 : g13 ≠ (Wn2).heap.size := by have := (HN.out.get 0 rfl).lt; omega
          have ge_g14 : W0.heap.size ≤ (Wn2).heap.size := HN.out.b.size
          refine hK.out _ _ HM.out.b (fun hHeld => ?_)
          clear hK hHeld HN
          revert HM ge_g14 ne_g13_g14
          obtain ⟨g14, hg⟩ : ∃ g, g = (Wn2).heap.size := ⟨_, rfl⟩
          obtain ⟨Wn3, hW⟩ : ∃ W, W = (Wn2).alloc (.cells #[.int .i64 0, .int .i64 0] 30) := ⟨_, rfl⟩
          rw [← hg, ← hW]
          clear hg hW
          intro HM ne_g13_g14 ge_g14
          have HN : Hid (Bn W0 Wn3 [(g13, 30, #[.int .i64 0, .int .i64 0]), (g14, 30, #[.int .i64 0, .int .i64 0])]) := HM
          clear HM
          have hHeld := HN.out.b
          try simp only [Act.put, List.setIfInBounds_toArray, List.set_cons_zero, List.set_cons_succ]
          clear hHeld
          refine wpAnyH_ready (rs := [10]) (by kernel_rfl) (by simp) ?_
          refine AllReadyH.cons (o := _) rfl (fun K hK => ?_) AllReadyH.nil
          rw [if_pos (by rfl)]
          refine wp_store_row 30 _ _ rfl g13 #[.int .i64 m0, .int .i64 m1] rfl rfl 30 #[.int .i64 0, .int .i64 0] (HN.out.get 0 rfl) (infoPt (0, 0)) rfl (by simp [Value.oneCell']) ?_
          have HM : Hid (Bn W0 (Wn3.setRow g13 #[.int .i64 m0, .int .i64 m1]) [(g13, 30, #[.int .i64 m0, .int .i64 m1]), (g14, 30, #[.int .i64 0, .int .i64 0])]) := Lib.hid (HN.out.row 0 rfl ge_g13 (by (intro j y hj hy; rcases j with _ | _ | _ | _ | _ | _ | j <;> first | exact absurd rfl hj | (simp only [List.getElem?_cons_zero, List.getElem?_cons_succ, Option.some.injEq] at hy; subst hy; dsimp only; omega) | (simp at hy; done))) #[.int .i64 m0, .int .i64 m1])
          refine hK.out _ _ HM.out.b (fun hHeld => ?_)
          clear hK hHeld HN
          have HN := HM
          clear HM
          have hHeld := HN.out.b
          try simp only [Act.put, List.setIfInBounds_toArray, List.set_cons_zero, List.set_cons_succ]
          clear hHeld
          refine wpAnyH_ready (rs := [11]) (by kernel_rfl) (by simp) ?_
          refine AllReadyH.cons (o := _) rfl (fun K hK => ?_) AllReadyH.nil
          rw [if_pos (by rfl)]
          refine wp_store_row 30 _ _ rfl g14 #[.int .i64 q0, .int .i64 q1] rfl rfl 30 #[.int .i64 0, .int .i64 0] (HN.out.get 1 rfl) (infoPt (0, 0)) rfl (by simp [Value.oneCell']) ?_
          have HM : Hid (Bn W0 ((Wn3.setRow g13 #[.int .i64 m0, .int .i64 m1]).setRow g14 #[.int .i64 q0, .int .i64 q1]) [(g13, 30, #[.int .i64 m0, .int .i64 m1]), (g14, 30, #[.int .i64 q0, .int .i64 q1])]) := Lib.hid (HN.out.row 1 rfl ge_g14 (by (intro j y hj hy; rcases j with _ | _ | _ | _ | _ | _ | j <;> first | exact absurd rfl hj | (simp only [List.getElem?_cons_zero, List.getElem?_cons_succ, Option.some.injEq] at hy; subst hy; dsimp only; omega) | (simp at hy; done))) #[.int .i64 q0, .int .i64 q1])
          refine hK.out _ _ HM.out.b (fun hHeld => ?_)
          clear hK hHeld HN
          have HN := HM
          clear HM
          have hHeld := HN.out.b
          try simp only [Act.put, List.setIfInBounds_toArray, List.set_cons_zero, List.set_cons_succ]
          clear hHeld
          refine wpAnyH_done (by kernel_rfl) ?_ _
          go_wp2_with fail
          go_meet
          exact ⟨g13, g14, rfl, rfl, Bn.of2 HN.out.b (HN.out.get 0 rfl) (HN.out.get 1 rfl), ge_g13, ge_g14⟩
        · rw [if_pos (by rfl)]
          refine wp_allocPt 14 rfl rfl ?_
          have HM := Lib.hid (HN.out.push _ rfl 30 #[.int .i64 0, .int .i64 0])
          have ne_g13_g14 : g13 ≠ (Wn1).heap.size := by have := (HN.out.get 0 rfl).lt; omega
          have ge_g14 : W0.heap.size ≤ (Wn1).heap.size := HN.out.b.size
          refine hK.out _ _ HM.out.b (fun hHeld => ?_)
          clear hK hHeld HN
          revert HM ge_g14 ne_g13_g14
          obtain ⟨g14, hg⟩ : ∃ g, g = (Wn1).heap.size := ⟨_, rfl⟩
          obtain ⟨Wn2, hW⟩ : ∃ W, W = (Wn1).alloc (.cells #[.int .i64 0, .int .i64 0] 30) := ⟨_, rfl⟩
          rw [← hg, ← hW]
          clear hg hW
          intro HM ne_g13_g14 ge_g14
          have HN : Hid (Bn W0 Wn2 [(g13, 30, #[.int .i64 0, .int .i64 0]), (g14, 30, #[.int .i64 0, .int .i64 0])]) := HM
          clear HM
          have hHeld := HN.out.b
          try simp only [Act.put, List.setIfInBounds_toArray, List.set_cons_zero, List.set_cons_succ]
          clear hHeld
          refine wpAnyH_ready (rs := [7]) (by kernel_rfl) (by simp) ?_
          refine AllReadyH.cons (o := _) rfl (fun K hK => ?_) AllReadyH.nil
          go_simp
          go_at_call 39
          refine (HCN2.out _).mono ?_
          rintro e Wn3 ⟨rfl, hbq⟩
          go_wp2_with fail
          have HM := Lib.hid (HN.out.below hbq)
          clear hbq
          refine hK.out _ _ HM.out.b (fun hHeld => ?_)
          clear hK hHeld HN
          have HN : Hid (Bn W0 Wn3 [(g13, 30, #[.int .i64 0, .int .i64 0]), (g14, 30, #[.int .i64 0, .int .i64 0])]) := HM
          clear HM
          have hHeld := HN.out.b
          try simp only [Act.put, List.setIfInBounds_toArray, List.set_cons_zero, List.set_cons_succ]
          clear hHeld
          refine wpAnyH_ready (rs := [10]) (by kernel_rfl) (by simp) ?_
          refine AllReadyH.cons (o := _) rfl (fun K hK => ?_) AllReadyH.nil
          rw [if_pos (by rfl)]
          refine wp_store_row 30 _ _ rfl g13 #[.int .i64 m0, .int .i64 m1] rfl rfl 30 #[.int .i64 0, .int .i64 0] (HN.out.get 0 rfl) (infoPt (0, 0)) rfl (by simp [Value.oneCell']) ?_
          have HM : Hid (Bn W0 (Wn3.setRow g13 #[.int .i64 m0, .int .i64 m1]) [(g13, 30, #[.int .i64 m0, .int .i64 m1]), (g14, 30, #[.int .i64 0, .int .i64 0])]) := Lib.hid (HN.out.row 0 rfl ge_g13 (by (intro j y hj hy; rcases j with _ | _ | _ | _ | _ | _ | j <;> first | exact absurd rfl hj | (simp only [List.getElem?_cons_zero, List.getElem?_cons_succ, Option.some.injEq] at hy; subst hy; dsimp only; omega) | (simp at hy; done))) #[.int .i64 m0, .int .i64 m1])
          refine hK.out _ _ HM.out.b (fun hHeld => ?_)
          clear hK hHeld HN
          have HN := HM
          clear HM
          have hHeld := HN.out.b
          try simp only [Act.put, List.setIfInBounds_toArray, List.set_cons_zero, List.set_cons_succ]
          clear hHeld
          refine wpAnyH_ready (rs := [11]) (by kernel_rfl) (by simp) ?_
          refine AllReadyH.cons (o := _) rfl (fun K hK => ?_) AllReadyH.nil
          rw [if_pos (by rfl)]
          refine wp_store_row 30 _ _ rfl g14 #[.int .i64 q0, .int .i64 q1] rfl rfl 30 #[.int .i64 0, .int .i64 0] (HN.out.get 1 rfl) (infoPt (0, 0)) rfl (by simp [Value.oneCell']) ?_
          have HM : Hid (Bn W0 ((Wn3.setRow g13 #[.int .i64 m0, .int .i64 m1]).setRow g14 #[.int .i64 q0, .int .i64 q1]) [(g13, 30, #[.int .i64 m0, .int .i64 m1]), (g14, 30, #[.int .i64 q0, .int .i64 q1])]) := Lib.hid (HN.out.row 1 rfl ge_g14 (by (intro j y hj hy; rcases j with _ | _ | _ | _ | _ | _ | j <;> first | exact absurd rfl hj | (simp only [List.getElem?_cons_zero, List.getElem?_cons_succ, Option.some.injEq] at hy; subst hy; dsimp only; omega) | (simp at hy; done))) #[.int .i64 q0, .int .i64 q1])
          refine hK.out _ _ HM.out.b (fun hHeld => ?_)
          clear hK hHeld HN
          have HN := HM
          clear HM
          have hHeld := HN.out.b
          try simp only [Act.put, List.setIfInBounds_toArray, List.set_cons_zero, List.set_cons_succ]
          clear hHeld
          refine wpAnyH_done (by kernel_rfl) ?_ _
          go_wp2_with fail
          go_meet
          exact ⟨g13, g14, rfl, rfl, Bn.of2 HN.out.b (HN.out.get 0 rfl) (HN.out.get 1 rfl), ge_g13, ge_g14⟩
      · rw [if_pos (by rfl)]
        refine wp_allocPt 14 rfl rfl ?_
        have HM := Lib.hid (HN.out.push _ rfl 30 #[.int .i64 0, .int .i64 0])
        have ne_g13_g14 : g13 ≠ (Wn0).heap.size := by have := (HN.out.get 0 rfl).lt; omega
        have ge_g14 : W0.heap.size ≤ (Wn0).heap.size := HN.out.b.size
        refine hK.out _ _ HM.out.b (fun hHeld => ?_)
        clear hK hHeld HN
        revert HM ge_g14 ne_g13_g14
        obtain ⟨g14, hg⟩ : ∃ g, g = (Wn0).heap.size := ⟨_, rfl⟩
        obtain ⟨Wn1, hW⟩ : ∃ W, W = (Wn0).alloc (.cells #[.int .i64 0, .int .i64 0] 30) := ⟨_, rfl⟩
        rw [← hg, ← hW]
        clear hg hW
        intro HM ne_g13_g14 ge_g14
        have HN : Hid (Bn W0 Wn1 [(g13, 30, #[.int .i64 0, .int .i64 0]), (g14, 30, #[.int .i64 0, .int .i64 0])]) := HM
        clear HM
        have hHeld := HN.out.b
        try simp only [Act.put, List.setIfInBounds_toArray, List.set_cons_zero, List.set_cons_succ]
        clear hHeld
        refine wpAnyH_ready (rs := [3]) (by kernel_rfl) (by simp) ?_
        refine AllReadyH.cons (o := _) rfl (fun K hK => ?_) AllReadyH.nil
        go_simp
        go_at_call 39
        refine (HCN1.out _).mono ?_
        rintro e Wn2 ⟨rfl, hbq⟩
        go_wp2_with fail
        have HM := Lib.hid (HN.out.below hbq)
        clear hbq
        refine hK.out _ _ HM.out.b (fun hHeld => ?_)
        clear hK hHeld HN
        have HN : Hid (Bn W0 Wn2 [(g13, 30, #[.int .i64 0, .int .i64 0]), (g14, 30, #[.int .i64 0, .int .i64 0])]) := HM
        clear HM
        have hHeld := HN.out.b
        try simp only [Act.put, List.setIfInBounds_toArray, List.set_cons_zero, List.set_cons_succ]
        clear hHeld
        refine wpAnyH_ready (rs := [7]) (by kernel_rfl) (by simp) ?_
        refine AllReadyH.cons (o := _) rfl (fun K hK => ?_) AllReadyH.nil
        go_simp
        go_at_call 39
        refine (HCN2.out _).mono ?_
        rintro e Wn3 ⟨rfl, hbq⟩
        go_wp2_with fail
        have HM := Lib.hid (HN.out.below hbq)
        clear hbq
        refine hK.out _ _ HM.out.b (fun hHeld => ?_)
        clear hK hHeld HN
        have HN : Hid (Bn W0 Wn3 [(g13, 30, #[.int .i64 0, .int .i64 0]), (g14, 30, #[.int .i64 0, .int .i64 0])]) := HM
        clear HM
        have hHeld := HN.out.b
        try simp only [Act.put, List.setIfInBounds_toArray, List.set_cons_zero, List.set_cons_succ]
        clear hHeld
        refine wpAnyH_ready (rs := [10]) (by kernel_rfl) (by simp) ?_
        refine AllReadyH.cons (o := _) rfl (fun K hK => ?_) AllReadyH.nil
        rw [if_pos (by rfl)]
        refine wp_store_row 30 _ _ rfl g13 #[.int .i64 m0, .int .i64 m1] rfl rfl 30 #[.int .i64 0, .int .i64 0] (HN.out.get 0 rfl) (infoPt (0, 0)) rfl (by simp [Value.oneCell']) ?_
        have HM : Hid (Bn W0 (Wn3.setRow g13 #[.int .i64 m0, .int .i64 m1]) [(g13, 30, #[.int .i64 m0, .int .i64 m1]), (g14, 30, #[.int .i64 0, .int .i64 0])]) := Lib.hid (HN.out.row 0 rfl ge_g13 (by (intro j y hj hy; rcases j with _ | _ | _ | _ | _ | _ | j <;> first | exact absurd rfl hj | (simp only [List.getElem?_cons_zero, List.getElem?_cons_succ, Option.some.injEq] at hy; subst hy; dsimp only; omega) | (simp at hy; done))) #[.int .i64 m0, .int .i64 m1])
        refine hK.out _ _ HM.out.b (fun hHeld => ?_)
        clear hK hHeld HN
        have HN := HM
        clear HM
        have hHeld := HN.out.b
        try simp only [Act.put, List.setIfInBounds_toArray, List.set_cons_zero, List.set_cons_succ]
        clear hHeld
        refine wpAnyH_ready (rs := [11]) (by kernel_rfl) (by simp) ?_
        refine AllReadyH.cons (o := _) rfl (fun K hK => ?_) AllReadyH.nil
        rw [if_pos (by rfl)]
        refine wp_store_row 30 _ _ rfl g14 #[.int .i64 q0, .int .i64 q1] rfl rfl 30 #[.int .i64 0, .int .i64 0] (HN.out.get 1 rfl) (infoPt (0, 0)) rfl (by simp [Value.oneCell']) ?_
        have HM : Hid (Bn W0 ((Wn3.setRow g13 #[.int .i64 m0, .int .i64 m1]).setRow g14 #[.int .i64 q0, .int .i64 q1]) [(g13, 30, #[.int .i64 m0, .int .i64 m1]), (g14, 30, #[.int .i64 q0, .int .i64 q1])]) := Lib.hid (HN.out.row 1 rfl ge_g14 (by (intro j y hj hy; rcases j with _ | _ | _ | _ | _ | _ | j <;> first | exact absurd rfl hj | (simp only [List.getElem?_cons_zero, List.getElem?_cons_succ, Option.some.injEq] at hy; subst hy; dsimp only; omega) | (simp at hy; done))) #[.int .i64 q0, .int .i64 q1])
        refine hK.out _ _ HM.out.b (fun hHeld => ?_)
        clear hK hHeld HN
        have HN := HM
        clear HM
        have hHeld := HN.out.b
        try simp only [Act.put, List.setIfInBounds_toArray, List.set_cons_zero, List.set_cons_succ]
        clear hHeld
        refine wpAnyH_done (by kernel_rfl) ?_ _
        go_wp2_with fail
        go_meet
        exact ⟨g13, g14, rfl, rfl, Bn.of2 HN.out.b (HN.out.get 0 rfl) (HN.out.get 1 rfl), ge_g13, ge_g14⟩
    · rw [if_pos (by rfl)]
      refine wp_allocPt 14 rfl rfl ?_
      have HM := Lib.hid (HN.out.push _ rfl 30 #[.int .i64 0, .int .i64 0])
      have ge_g14 : W0.heap.size ≤ (W0.drew).heap.size := HN.out.b.size
      refine hK.out _ _ HM.out.b (fun hHeld => ?_)
      clear hK hHeld HN
      revert HM ge_g14 
      obtain ⟨g14, hg⟩ : ∃ g, g = (W0.drew).heap.size := ⟨_, rfl⟩
      obtain ⟨Wn0, hW⟩ : ∃ W, W = (W0.drew).alloc (.cells #[.int .i64 0, .int .i64 0] 30) := ⟨_, rfl⟩
      rw [← hg, ← hW]
      clear hg hW
      intro HM  ge_g14
      have HN : Hid (Bn W0 Wn0 [(g14, 30, #[.int .i64 0, .int .i64 0])]) := HM
      clear HM
      have hHeld := HN.out.b
      try simp only [Act.put, List.setIfInBounds_toArray, List.set_cons_zero, List.set_cons_succ]
      clear hHeld
      refine wpAnyH_ready (rs := [3, 8]) (by kernel_rfl) (by simp) ?_
      refine AllReadyH.cons (o := _) rfl (fun K hK => ?_) (AllReadyH.cons (o := _) rfl (fun K hK => ?_) AllReadyH.nil)
      · go_simp
        go_at_call 39
        refine (HCN1.out _).mono ?_
        rintro e Wn1 ⟨rfl, hbq⟩
        go_wp2_with fail
        have HM := Lib.hid (HN.out.below hbq)
        clear hbq
        refine hK.out _ _ HM.out.b (fun hHeld => ?_)
        clear hK hHeld HN
        have HN : Hid (Bn W0 Wn1 [(g14, 30, #[.int .i64 0, .int .i64 0])]) := HM
        clear HM
        have hHeld := HN.out.b
        try simp only [Act.put, List.setIfInBounds_toArray, List.set_cons_zero, List.set_cons_succ]
        clear hHeld
        refine wpAnyH_ready (rs := [7, 8]) (by kernel_rfl) (by simp) ?_
        refine AllReadyH.cons (o := _) rfl (fun K hK => ?_) (AllReadyH.cons (o := _) rfl (fun K hK => ?_) AllReadyH.nil)
        · go_simp
          go_at_call 39
          refine (HCN2.out _).mono ?_
          rintro e Wn2 ⟨rfl, hbq⟩
          go_wp2_with fail
          have HM := Lib.hid (HN.out.below hbq)
          clear hbq
          refine hK.out _ _ HM.out.b (fun hHeld => ?_)
          clear hK hHeld HN
          have HN : Hid (Bn W0 Wn2 [(g14, 30, #[.int .i64 0, .int .i64 0])]) := HM
          clear HM
          have hHeld := HN.out.b
          try simp only [Act.put, List.setIfInBounds_toArray, List.set_cons_zero, List.set_cons_succ]
          clear hHeld
          refine wpAnyH_ready (rs := [8]) (by kernel_rfl) (by simp) ?_
          refine AllReadyH.cons (o := _) rfl (fun K hK => ?_) AllReadyH.nil
          rw [if_pos (by rfl)]
          refine wp_allocPt 13 rfl rfl ?_
          have HM := Lib.hid (HN.out.push _ rfl 30 #[.int .i64 0, .int .i64 0])
          have ne_g14_g13 : g14 ≠ (Wn2).heap.size := by have := (HN.out.get 0 rfl).lt; omega
          have ge_g13 : W0.heap.size ≤ (Wn2).heap.size := HN.out.b.size
          refine hK.out _ _ HM.out.b (fun hHeld => ?_)
          clear hK hHeld HN
          revert HM ge_g13 ne_g14_g13
          obtain ⟨g13, hg⟩ : ∃ g, g = (Wn2).heap.size := ⟨_, rfl⟩
          obtain ⟨Wn3, hW⟩ : ∃ W, W = (Wn2).alloc (.cells #[.int .i64 0, .int .i64 0] 30) := ⟨_, rfl⟩
          rw [← hg, ← hW]
          clear hg hW
          intro HM ne_g14_g13 ge_g13
          have HN : Hid (Bn W0 Wn3 [(g14, 30, #[.int .i64 0, .int .i64 0]), (g13, 30, #[.int .i64 0, .int .i64 0])]) := HM
          clear HM
          have hHeld := HN.out.b
          try simp only [Act.put, List.setIfInBounds_toArray, List.set_cons_zero, List.set_cons_succ]
          clear hHeld
          refine wpAnyH_ready (rs := [10]) (by kernel_rfl) (by simp) ?_
          refine AllReadyH.cons (o := _) rfl (fun K hK => ?_) AllReadyH.nil
          rw [if_pos (by rfl)]
          refine wp_store_row 30 _ _ rfl g13 #[.int .i64 m0, .int .i64 m1] rfl rfl 30 #[.int .i64 0, .int .i64 0] (HN.out.get 1 rfl) (infoPt (0, 0)) rfl (by simp [Value.oneCell']) ?_
          have HM : Hid (Bn W0 (Wn3.setRow g13 #[.int .i64 m0, .int .i64 m1]) [(g14, 30, #[.int .i64 0, .int .i64 0]), (g13, 30, #[.int .i64 m0, .int .i64 m1])]) := Lib.hid (HN.out.row 1 rfl ge_g13 (by (intro j y hj hy; rcases j with _ | _ | _ | _ | _ | _ | j <;> first | exact absurd rfl hj | (simp only [List.getElem?_cons_zero, List.getElem?_cons_succ, Option.some.injEq] at hy; subst hy; dsimp only; omega) | (simp at hy; done))) #[.int .i64 m0, .int .i64 m1])
          refine hK.out _ _ HM.out.b (fun hHeld => ?_)
          clear hK hHeld HN
          have HN := HM
          clear HM
          have hHeld := HN.out.b
          try simp only [Act.put, List.setIfInBounds_toArray, List.set_cons_zero, List.set_cons_succ]
          clear hHeld
          refine wpAnyH_ready (rs := [11]) (by kernel_rfl) (by simp) ?_
          refine AllReadyH.cons (o := _) rfl (fun K hK => ?_) AllReadyH.nil
          rw [if_pos (by rfl)]
          refine wp_store_row 30 _ _ rfl g14 #[.int .i64 q0, .int .i64 q1] rfl rfl 30 #[.int .i64 0, .int .i64 0] (HN.out.get 0 rfl) (infoPt (0, 0)) rfl (by simp [Value.oneCell']) ?_
          have HM : Hid (Bn W0 ((Wn3.setRow g13 #[.int .i64 m0, .int .i64 m1]).setRow g14 #[.int .i64 q0, .int .i64 q1]) [(g14, 30, #[.int .i64 q0, .int .i64 q1]), (g13, 30, #[.int .i64 m0, .int .i64 m1])]) := Lib.hid (HN.out.row 0 rfl ge_g14 (by (intro j y hj hy; rcases j with _ | _ | _ | _ | _ | _ | j <;> first | exact absurd rfl hj | (simp only [List.getElem?_cons_zero, List.getElem?_cons_succ, Option.some.injEq] at hy; subst hy; dsimp only; omega) | (simp at hy; done))) #[.int .i64 q0, .int .i64 q1])
          refine hK.out _ _ HM.out.b (fun hHeld => ?_)
          clear hK hHeld HN
          have HN := HM
          clear HM
          have hHeld := HN.out.b
          try simp only [Act.put, List.setIfInBounds_toArray, List.set_cons_zero, List.set_cons_succ]
          clear hHeld
          refine wpAnyH_done (by kernel_rfl) ?_ _
          go_wp2_with fail
          go_meet
          exact ⟨g13, g14, rfl, rfl, Bn.of2 HN.out.b (HN.out.get 1 rfl) (HN.out.get 0 rfl), ge_g13, ge_g14⟩
        · rw [if_pos (by rfl)]
          refine wp_allocPt 13 rfl rfl ?_
          have HM := Lib.hid (HN.out.push _ rfl 30 #[.int .i64 0, .int .i64 0])
          have ne_g14_g13 : g14 ≠ (Wn1).heap.size := by have := (HN.out.get 0 rfl).lt; omega
          have ge_g13 : W0.heap.size ≤ (Wn1).heap.size := HN.out.b.size
          refine hK.out _ _ HM.out.b (fun hHeld => ?_)
          clear hK hHeld HN
          revert HM ge_g13 ne_g14_g13
          obtain ⟨g13, hg⟩ : ∃ g, g = (Wn1).heap.size := ⟨_, rfl⟩
          obtain ⟨Wn2, hW⟩ : ∃ W, W = (Wn1).alloc (.cells #[.int .i64 0, .int .i64 0] 30) := ⟨_, rfl⟩
          rw [← hg, ← hW]
          clear hg hW
          intro HM ne_g14_g13 ge_g13
          have HN : Hid (Bn W0 Wn2 [(g14, 30, #[.int .i64 0, .int .i64 0]), (g13, 30, #[.int .i64 0, .int .i64 0])]) := HM
          clear HM
          have hHeld := HN.out.b
          try simp only [Act.put, List.setIfInBounds_toArray, List.set_cons_zero, List.set_cons_succ]
          clear hHeld
          refine wpAnyH_ready (rs := [7]) (by kernel_rfl) (by simp) ?_
          refine AllReadyH.cons (o := _) rfl (fun K hK => ?_) AllReadyH.nil
          go_simp
          go_at_call 39
          refine (HCN2.out _).mono ?_
          rintro e Wn3 ⟨rfl, hbq⟩
          go_wp2_with fail
          have HM := Lib.hid (HN.out.below hbq)
          clear hbq
          refine hK.out _ _ HM.out.b (fun hHeld => ?_)
          clear hK hHeld HN
          have HN : Hid (Bn W0 Wn3 [(g14, 30, #[.int .i64 0, .int .i64 0]), (g13, 30, #[.int .i64 0, .int .i64 0])]) := HM
          clear HM
          have hHeld := HN.out.b
          try simp only [Act.put, List.setIfInBounds_toArray, List.set_cons_zero, List.set_cons_succ]
          clear hHeld
          refine wpAnyH_ready (rs := [10]) (by kernel_rfl) (by simp) ?_
          refine AllReadyH.cons (o := _) rfl (fun K hK => ?_) AllReadyH.nil
          rw [if_pos (by rfl)]
          refine wp_store_row 30 _ _ rfl g13 #[.int .i64 m0, .int .i64 m1] rfl rfl 30 #[.int .i64 0, .int .i64 0] (HN.out.get 1 rfl) (infoPt (0, 0)) rfl (by simp [Value.oneCell']) ?_
          have HM : Hid (Bn W0 (Wn3.setRow g13 #[.int .i64 m0, .int .i64 m1]) [(g14, 30, #[.int .i64 0, .int .i64 0]), (g13, 30, #[.int .i64 m0, .int .i64 m1])]) := Lib.hid (HN.out.row 1 rfl ge_g13 (by (intro j y hj hy; rcases j with _ | _ | _ | _ | _ | _ | j <;> first | exact absurd rfl hj | (simp only [List.getElem?_cons_zero, List.getElem?_cons_succ, Option.some.injEq] at hy; subst hy; dsimp only; omega) | (simp at hy; done))) #[.int .i64 m0, .int .i64 m1])
          refine hK.out _ _ HM.out.b (fun hHeld => ?_)
          clear hK hHeld HN
          have HN := HM
          clear HM
          have hHeld := HN.out.b
          try simp only [Act.put, List.setIfInBounds_toArray, List.set_cons_zero, List.set_cons_succ]
          clear hHeld
          refine wpAnyH_ready (rs := [11]) (by kernel_rfl) (by simp) ?_
          refine AllReadyH.cons (o := _) rfl (fun K hK => ?_) AllReadyH.nil
          rw [if_pos (by rfl)]
          refine wp_store_row 30 _ _ rfl g14 #[.int .i64 q0, .int .i64 q1] rfl rfl 30 #[.int .i64 0, .int .i64 0] (HN.out.get 0 rfl) (infoPt (0, 0)) rfl (by simp [Value.oneCell']) ?_
          have HM : Hid (Bn W0 ((Wn3.setRow g13 #[.int .i64 m0, .int .i64 m1]).setRow g14 #[.int .i64 q0, .int .i64 q1]) [(g14, 30, #[.int .i64 q0, .int .i64 q1]), (g13, 30, #[.int .i64 m0, .int .i64 m1])]) := Lib.hid (HN.out.row 0 rfl ge_g14 (by (intro j y hj hy; rcases j with _ | _ | _ | _ | _ | _ | j <;> first | exact absurd rfl hj | (simp only [List.getElem?_cons_zero, List.getElem?_cons_succ, Option.some.injEq] at hy; subst hy; dsimp only; omega) | (simp at hy; done))) #[.int .i64 q0, .int .i64 q1])
          refine hK.out _ _ HM.out.b (fun hHeld => ?_)
          clear hK hHeld HN
          have HN := HM
          clear HM
          have hHeld := HN.out.b
          try simp only [Act.put, List.setIfInBounds_toArray, List.set_cons_zero, List.set_cons_succ]
          clear hHeld
          refine wpAnyH_done (by kernel_rfl) ?_ _
          go_wp2_with fail
          go_meet
          exact ⟨g13, g14, rfl, rfl, Bn.of2 HN.out.b (HN.out.get 1 rfl) (HN.out.get 0 rfl), ge_g13, ge_g14⟩
      · rw [if_pos (by rfl)]
        refine wp_allocPt 13 rfl rfl ?_
        have HM := Lib.hid (HN.out.push _ rfl 30 #[.int .i64 0, .int .i64 0])
        have ne_g14_g13 : g14 ≠ (Wn0).heap.size := by have := (HN.out.get 0 rfl).lt; omega
        have ge_g13 : W0.heap.size ≤ (Wn0).heap.size := HN.out.b.size
        refine hK.out _ _ HM.out.b (fun hHeld => ?_)
        clear hK hHeld HN
        revert HM ge_g13 ne_g14_g13
        obtain ⟨g13, hg⟩ : ∃ g, g = (Wn0).heap.size := ⟨_, rfl⟩
        obtain ⟨Wn1, hW⟩ : ∃ W, W = (Wn0).alloc (.cells #[.int .i64 0, .int .i64 0] 30) := ⟨_, rfl⟩
        rw [← hg, ← hW]
        clear hg hW
        intro HM ne_g14_g13 ge_g13
        have HN : Hid (Bn W0 Wn1 [(g14, 30, #[.int .i64 0, .int .i64 0]), (g13, 30, #[.int .i64 0, .int .i64 0])]) := HM
        clear HM
        have hHeld := HN.out.b
        try simp only [Act.put, List.setIfInBounds_toArray, List.set_cons_zero, List.set_cons_succ]
        clear hHeld
        refine wpAnyH_ready (rs := [3]) (by kernel_rfl) (by simp) ?_
        refine AllReadyH.cons (o := _) rfl (fun K hK => ?_) AllReadyH.nil
        go_simp
        go_at_call 39
        refine (HCN1.out _).mono ?_
        rintro e Wn2 ⟨rfl, hbq⟩
        go_wp2_with fail
        have HM := Lib.hid (HN.out.below hbq)
        clear hbq
        refine hK.out _ _ HM.out.b (fun hHeld => ?_)
        clear hK hHeld HN
        have HN : Hid (Bn W0 Wn2 [(g14, 30, #[.int .i64 0, .int .i64 0]), (g13, 30, #[.int .i64 0, .int .i64 0])]) := HM
        clear HM
        have hHeld := HN.out.b
        try simp only [Act.put, List.setIfInBounds_toArray, List.set_cons_zero, List.set_cons_succ]
        clear hHeld
        refine wpAnyH_ready (rs := [7]) (by kernel_rfl) (by simp) ?_
        refine AllReadyH.cons (o := _) rfl (fun K hK => ?_) AllReadyH.nil
        go_simp
        go_at_call 39
        refine (HCN2.out _).mono ?_
        rintro e Wn3 ⟨rfl, hbq⟩
        go_wp2_with fail
        have HM := Lib.hid (HN.out.below hbq)
        clear hbq
        refine hK.out _ _ HM.out.b (fun hHeld => ?_)
        clear hK hHeld HN
        have HN : Hid (Bn W0 Wn3 [(g14, 30, #[.int .i64 0, .int .i64 0]), (g13, 30, #[.int .i64 0, .int .i64 0])]) := HM
        clear HM
        have hHeld := HN.out.b
        try simp only [Act.put, List.setIfInBounds_toArray, List.set_cons_zero, List.set_cons_succ]
        clear hHeld
        refine wpAnyH_ready (rs := [10]) (by kernel_rfl) (by simp) ?_
        refine AllReadyH.cons (o := _) rfl (fun K hK => ?_) AllReadyH.nil
        rw [if_pos (by rfl)]
        refine wp_store_row 30 _ _ rfl g13 #[.int .i64 m0, .int .i64 m1] rfl rfl 30 #[.int .i64 0, .int .i64 0] (HN.out.get 1 rfl) (infoPt (0, 0)) rfl (by simp [Value.oneCell']) ?_
        have HM : Hid (Bn W0 (Wn3.setRow g13 #[.int .i64 m0, .int .i64 m1]) [(g14, 30, #[.int .i64 0, .int .i64 0]), (g13, 30, #[.int .i64 m0, .int .i64 m1])]) := Lib.hid (HN.out.row 1 rfl ge_g13 (by (intro j y hj hy; rcases j with _ | _ | _ | _ | _ | _ | j <;> first | exact absurd rfl hj | (simp only [List.getElem?_cons_zero, List.getElem?_cons_succ, Option.some.injEq] at hy; subst hy; dsimp only; omega) | (simp at hy; done))) #[.int .i64 m0, .int .i64 m1])
        refine hK.out _ _ HM.out.b (fun hHeld => ?_)
        clear hK hHeld HN
        have HN := HM
        clear HM
        have hHeld := HN.out.b
        try simp only [Act.put, List.setIfInBounds_toArray, List.set_cons_zero, List.set_cons_succ]
        clear hHeld
        refine wpAnyH_ready (rs := [11]) (by kernel_rfl) (by simp) ?_
        refine AllReadyH.cons (o := _) rfl (fun K hK => ?_) AllReadyH.nil
        rw [if_pos (by rfl)]
        refine wp_store_row 30 _ _ rfl g14 #[.int .i64 q0, .int .i64 q1] rfl rfl 30 #[.int .i64 0, .int .i64 0] (HN.out.get 0 rfl) (infoPt (0, 0)) rfl (by simp [Value.oneCell']) ?_
        have HM : Hid (Bn W0 ((Wn3.setRow g13 #[.int .i64 m0, .int .i64 m1]).setRow g14 #[.int .i64 q0, .int .i64 q1]) [(g14, 30, #[.int .i64 q0, .int .i64 q1]), (g13, 30, #[.int .i64 m0, .int .i64 m1])]) := Lib.hid (HN.out.row 0 rfl ge_g14 (by (intro j y hj hy; rcases j with _ | _ | _ | _ | _ | _ | j <;> first | exact absurd rfl hj | (simp only [List.getElem?_cons_zero, List.getElem?_cons_succ, Option.some.injEq] at hy; subst hy; dsimp only; omega) | (simp at hy; done))) #[.int .i64 q0, .int .i64 q1])
        refine hK.out _ _ HM.out.b (fun hHeld => ?_)
        clear hK hHeld HN
        have HN := HM
        clear HM
        have hHeld := HN.out.b
        try simp only [Act.put, List.setIfInBounds_toArray, List.set_cons_zero, List.set_cons_succ]
        clear hHeld
        refine wpAnyH_done (by kernel_rfl) ?_ _
        go_wp2_with fail
        go_meet
        exact ⟨g13, g14, rfl, rfl, Bn.of2 HN.out.b (HN.out.get 1 rfl) (HN.out.get 0 rfl), ge_g13, ge_g14⟩
  case rest =>
    obtain ⟨g13, g14, rfl, rfl, hbn, h13, h14⟩ := hcut
    obtain ⟨W1, rfl⟩ : ∃ W1, W1 = wc := ⟨_, rfl⟩
    have HBN := Lib.hid hbn
    have hb1 := HB0.out.b.trans (hbn.b.mono HB0.out.b.size)
    have HB1 := Lib.hid hb1
    have HO1 := Lib.hid (HO.out.later hb1)
    have hsz := HB0.out.b.size
    have HM : Hid (∀ k, k ∈ M → k < w.heap.size) := Lib.hid HO.out.size
    have HNM : Hid (g8 ∉ M ∧ g13 ∉ M ∧ g14 ∉ M) := Lib.hid ⟨fun h => by have := HM.out _ h; have := HGE.out; omega, fun h => by have := HM.out _ h; omega, fun h => by have := HM.out _ h; omega⟩
    have SSX : Hid (∀ W, Tch M W1 W → W.cell? ⟨g8, 0, none⟩ = some (.int .i64 c0) ∧ W.cell? ⟨g8, 1, none⟩ = some (.int .i64 c1) ∧ W.cell? ⟨g13, 0, none⟩ = some (.int .i64 m0) ∧ W.cell? ⟨g13, 1, none⟩ = some (.int .i64 m1) ∧ W.cell? ⟨g14, 0, none⟩ = some (.int .i64 q0) ∧ W.cell? ⟨g14, 1, none⟩ = some (.int .i64 q1)) := Lib.hid fun W ht => by
      have h8 := ht.blk ((HB0.out.get 1 rfl).below HBN.out.b (HB0.out.get 1 rfl).lt) HNM.out.1
      have hx := ht.blk (HBN.out.get 0 rfl) HNM.out.2.1
      have hy := ht.blk (HBN.out.get 1 rfl) HNM.out.2.2
      exact ⟨h8.cell 0, h8.cell 1, hx.cell 0, hx.cell 1, hy.cell 0, hy.cell 1⟩
    have SE : Hid (∀ W, Tch M W1 W → W.cell? ⟨g7, 0, none⟩ = some (.int .i64 a0) ∧ W.cell? ⟨g7, 1, none⟩ = some (.int .i64 a1) ∧ W.cell? ⟨g9, 0, none⟩ = some (.int .i64 b0) ∧ W.cell? ⟨g9, 1, none⟩ = some (.int .i64 b1)) := Lib.hid fun W ht => by
      have h7 := ht.blk ((HB0.out.get 0 rfl).below HBN.out.b (HB0.out.get 0 rfl).lt) (fun h => by have := HM.out _ h; have := HGE.out; omega)
      have h9 := ht.blk ((HB0.out.get 2 rfl).below HBN.out.b (HB0.out.get 2 rfl).lt) (fun h => by have := HM.out _ h; have := HGE.out; omega)
      exact ⟨h7.cell 0, h7.cell 1, h9.cell 0, h9.cell 1⟩
    have HTW : Hid (Tch M w W1) := Lib.hid (tch_of_below hb1)
    have HBW : Hid (B ≤ W1.heap.size) := Lib.hid (Nat.le_trans HBS.out hb1.size)
    have HOc := HO1
    have HTc := Lib.hid (Tch.refl M W1)
    have HMc : Hid (∀ k ∈ M, k ∈ M ∨ W1.heap.size ≤ k) := Lib.hid fun k hk => Or.inl hk
    have HLs := HLn
    clear HLn
    have HLn : Hid (L.length ≤ 1000000) := Lib.hid (by have := HLs.out; omega)
    have HCB : Hid (Inb 1000000000000 (c0, c1)) := Lib.hid (HC.out.mono (by omega))
    have HMB : Hid (Inb 1000000000000 (m0, m1)) := Lib.hid (HN1.out.mono (by omega))
    have HQB : Hid (Inb 1000000000000 (q0, q1)) := Lib.hid (HN2.out.mono (by omega))
    have HT3 : Hid (AllB 33554432 [(c0, c1), pl (c0, c1) (m0, m1), pl (c0, c1) (q0, q1)]) := Lib.hid (tri_in HC.out HN1.out HN2.out true)
    clear hbn hb1 hsz h13 h14
    go_wp2_with fail
    have HTq := Lib.hid HTc.out.drew
    have HOq := Lib.hid (HOc.out.later (Below.refl _ _).drew)
    have HK := SSX.out _ HTq.out
    go_region_held3 (fun W => W.cell? ⟨g8, 0, none⟩ = some (.int .i64 c0) ∧ W.cell? ⟨g8, 1, none⟩ = some (.int .i64 c1) ∧ W.cell? ⟨g13, 0, none⟩ = some (.int .i64 m0) ∧ W.cell? ⟨g13, 1, none⟩ = some (.int .i64 m1) ∧ W.cell? ⟨g14, 0, none⟩ = some (.int .i64 q0) ∧ W.cell? ⟨g14, 1, none⟩ = some (.int .i64 q1))
      (first | exact HK | go_keep)
      (first
        | (go_at_call_of 41 (Value.agg #[Value.int IntKind.i64 m0, Value.int IntKind.i64 m1]); refine (radd_p (c0, c1) (m0, m1) _ HCB.out HMB.out).mono ?_; rintro e' w' ⟨rfl, hbq⟩; have HTq := Lib.hid (HTq.out.below hbq); have HOq := Lib.hid (HOq.out.later hbq); have HK := SSX.out _ HTq.out; clear hbq)
        | (go_at_call_of 41 (Value.agg #[Value.int IntKind.i64 q0, Value.int IntKind.i64 q1]); refine (radd_p (c0, c1) (q0, q1) _ HCB.out HQB.out).mono ?_; rintro e' w' ⟨rfl, hbq⟩; have HTq := Lib.hid (HTq.out.below hbq); have HOq := Lib.hid (HOq.out.later hbq); have HK := SSX.out _ HTq.out; clear hbq)
        | (go_at_call 40; refine (rput_any HOq.out _ 3 ([(c0, c1), pl (c0, c1) (m0, m1), pl (c0, c1) (q0, q1)]) _ ((Below.refl _ _).alloc (Nat.le_refl _) _) (Blk.new _ _ _) (Nat.le_refl _) (Nat.le_trans HBW.out HTq.out.size) (show 3 ≤ 3 by omega) (show 3 ≤ 16 by omega) (HT3.out) HLn.out).mono ?_; rintro e' w' ⟨v9, rfl, hout⟩; have HOUT := Lib.hid (out_step HTq.out HMc.out hout); have HK := SSX.out _ HOUT.out.choose_spec.2.1; clear hout))
    clear HK HOq HTq HOc HTc HMc
    obtain ⟨Mc, ho2, ht2, hm2⟩ := HOUT.out
    have HOc := Lib.hid ho2
    have HTc := Lib.hid ht2
    have HMc := Lib.hid hm2
    clear ho2 ht2 hm2 HOUT
    obtain ⟨P1, hP1⟩ : ∃ P, put L [(c0, c1), pl (c0, c1) (m0, m1), pl (c0, c1) (q0, q1)] = P := ⟨_, rfl⟩
    have HP1 := Lib.hid hP1
    have hl1 := put_len L [(c0, c1), pl (c0, c1) (m0, m1), pl (c0, c1) (q0, q1)]
    rw [hP1] at hl1 HOc
    clear HLn
    have HLn : Hid (P1.length ≤ 1000000) := Lib.hid (by have := HLs.out; omega)
    have HT4 : Hid (AllB 33554432 [(c0, c1), mi (c0, c1) (m0, m1), mi (c0, c1) (q0, q1)]) := Lib.hid (tri_in HC.out HN1.out HN2.out false)
    clear hP1 hl1
    go_wp2_with fail
    have HTq := Lib.hid HTc.out.drew
    have HOq := Lib.hid (HOc.out.later (Below.refl _ _).drew)
    have HK := SSX.out _ HTq.out
    go_region_held3 (fun W => W.cell? ⟨g8, 0, none⟩ = some (.int .i64 c0) ∧ W.cell? ⟨g8, 1, none⟩ = some (.int .i64 c1) ∧ W.cell? ⟨g13, 0, none⟩ = some (.int .i64 m0) ∧ W.cell? ⟨g13, 1, none⟩ = some (.int .i64 m1) ∧ W.cell? ⟨g14, 0, none⟩ = some (.int .i64 q0) ∧ W.cell? ⟨g14, 1, none⟩ = some (.int .i64 q1))
      (first | exact HK | go_keep)
      (first
        | (go_at_call_of 41 (Value.agg #[Value.int IntKind.i64 m0, Value.int IntKind.i64 m1]); refine (radd_m (c0, c1) (m0, m1) _ HCB.out HMB.out).mono ?_; rintro e' w' ⟨rfl, hbq⟩; have HTq := Lib.hid (HTq.out.below hbq); have HOq := Lib.hid (HOq.out.later hbq); have HK := SSX.out _ HTq.out; clear hbq)
        | (go_at_call_of 41 (Value.agg #[Value.int IntKind.i64 q0, Value.int IntKind.i64 q1]); refine (radd_m (c0, c1) (q0, q1) _ HCB.out HQB.out).mono ?_; rintro e' w' ⟨rfl, hbq⟩; have HTq := Lib.hid (HTq.out.below hbq); have HOq := Lib.hid (HOq.out.later hbq); have HK := SSX.out _ HTq.out; clear hbq)
        | (go_at_call 40; refine (rput_any HOq.out _ 3 ([(c0, c1), mi (c0, c1) (m0, m1), mi (c0, c1) (q0, q1)]) _ ((Below.refl _ _).alloc (Nat.le_refl _) _) (Blk.new _ _ _) (Nat.le_refl _) (Nat.le_trans HBW.out HTq.out.size) (show 3 ≤ 3 by omega) (show 3 ≤ 16 by omega) (HT4.out) HLn.out).mono ?_; rintro e' w' ⟨v9, rfl, hout⟩; have HOUT := Lib.hid (out_step HTq.out HMc.out hout); have HK := SSX.out _ HOUT.out.choose_spec.2.1; clear hout))
    clear HK HOq HTq HOc HTc HMc
    obtain ⟨Mc, ho2, ht2, hm2⟩ := HOUT.out
    have HOc := Lib.hid ho2
    have HTc := Lib.hid ht2
    have HMc := Lib.hid hm2
    clear ho2 ht2 hm2 HOUT
    obtain ⟨P2, hP2⟩ : ∃ P, put P1 [(c0, c1), mi (c0, c1) (m0, m1), mi (c0, c1) (q0, q1)] = P := ⟨_, rfl⟩
    have HP2 := Lib.hid hP2
    have hl2 := put_len P1 [(c0, c1), mi (c0, c1) (m0, m1), mi (c0, c1) (q0, q1)]
    have hl1 := put_len L [(c0, c1), pl (c0, c1) (m0, m1), pl (c0, c1) (q0, q1)]
    rw [HP1.out] at hl1
    rw [hP2] at hl2 HOc
    clear HLn
    have HLn : Hid (P2.length ≤ 1000000) := Lib.hid (by have := HLs.out; omega)
    clear hP2 hl1 hl2
    obtain ⟨k8, k9, k0, k1, k4, k5⟩ := SSX.out _ HTc.out
    obtain ⟨v0, v1, v2, v3⟩ := SE.out _ HTc.out
    obtain ⟨d0, hd0⟩ : ∃ z, c0 - a0 = z := ⟨_, rfl⟩
    obtain ⟨d1, hd1⟩ : ∃ z, c1 - a1 = z := ⟨_, rfl⟩
    obtain ⟨f0, hf0⟩ : ∃ z, b0 - c0 = z := ⟨_, rfl⟩
    obtain ⟨f1, hf1⟩ : ∃ z, b1 - c1 = z := ⟨_, rfl⟩
    have HDB : Hid ((-33554432 ≤ d0 ∧ d0 ≤ 33554432) ∧ (-33554432 ≤ d1 ∧ d1 ≤ 33554432) ∧ (-33554432 ≤ f0 ∧ f0 ≤ 33554432) ∧ (-33554432 ≤ f1 ∧ f1 ≤ 33554432)) := Lib.hid (by have h1 := HA.out; have h2 := HC.out; have h3 := HBb.out; unfold Inb at h1 h2 h3; dsimp only at h1 h2 h3; omega)
    obtain ⟨⟨i0, i1⟩, ⟨i2, i3⟩, ⟨i4, i5⟩, i6, i7⟩ := HDB.out
    have X5 : IntKind.i64.wrap (c0 - a0) = d0 := by rw [hd0]; exact i64w (by omega) (by omega)
    have X6 : IntKind.i64.wrap (c1 - a1) = d1 := by rw [hd1]; exact i64w (by omega) (by omega)
    have X7 : IntKind.i64.wrap (b0 - c0) = f0 := by rw [hf0]; exact i64w (by omega) (by omega)
    have X8 : IntKind.i64.wrap (b1 - c1) = f1 := by rw [hf1]; exact i64w (by omega) (by omega)
    have HZ : Hid (zV (a0, a1) (c0, c1) (b0, b1) = d0 * f1 - d1 * f0) := Lib.hid (by unfold zV; dsimp only; rw [hd0, hd1, hf0, hf1])
    clear hd0 hd1 hf0 hf1
    obtain ⟨r0, r2⟩ := mul_in i0 i1 i6 i7
    obtain ⟨r1, r3⟩ := mul_in i2 i3 i4 i5
    obtain ⟨⟨s0, s1⟩, ⟨s2, s3⟩, s4, s5⟩ := k_in w1 w2 HN1.out HN2.out
    dsimp only at s2 s3 s4 s5
    obtain ⟨z, hz⟩ : ∃ z, d0 * f1 - d1 * f0 = z := ⟨_, rfl⟩
    obtain ⟨sq, hsq⟩ : ∃ z, wd * wd = z := ⟨_, rfl⟩
    have HSQ : Hid (IntKind.i64.wrap (wd * wd) = sq) := Lib.hid (by rw [hsq]; exact i64w (by omega) (by omega))
    obtain ⟨K, hK⟩ : ∃ z, sq + 4 * (m0 * q0 + m1 * q1) = z := ⟨_, rfl⟩
    obtain ⟨t0, ht0⟩ : ∃ z, dvr (sq * (m0 + q0)) K = z := ⟨_, rfl⟩
    obtain ⟨t1, ht1⟩ : ∃ z, dvr (sq * (m1 + q1)) K = z := ⟨_, rfl⟩
    have HKV : Hid (kV wd (m0, m1) (q0, q1) = K) := Lib.hid (by unfold kV; dsimp only; rw [hsq, hK])
    have HTV : Hid (tV wd (m0, m1) (q0, q1) = (t0, t1)) := Lib.hid (by unfold tV; rw [HKV.out]; dsimp only; rw [hsq, ht0, ht1])
    have HPT1 : Hid (put L (tri (c0, c1) (m0, m1) (q0, q1) true) = P1) := HP1
    have HPT2 : Hid (put P1 (tri (c0, c1) (m0, m1) (q0, q1) false) = P2) := HP2
    have HCR : Hid (crn wd j L (a0, a1) (c0, c1) (b0, b1) = if j = 2 ∨ z = 0 ∨ K ≤ 0 then P2 else if 4 * wd < Num.hypU t0 t1 then P2 else put P2 (mitre (c0, c1) (m0, m1) (t0, t1) (q0, q1) (decide (0 < z)))) := Lib.hid (by
      unfold crn
      rw [if_neg HJ.out, HEM.out, HEQ.out, HPT1.out, HPT2.out, HZ.out, HKV.out, HTV.out, hz])
    have HT0 := Lib.hid ht0
    have HT1' := Lib.hid ht1
    have HS0 := Lib.hid (show 1 ≤ sq ∧ sq ≤ 16777216 by omega)
    have HK0 := Lib.hid (show -50000000 ≤ K ∧ K ≤ 50331648 by omega)
    have HFIN := Lib.hid (out_step HTW.out (fun k hk => Or.inl hk) (⟨Mc, HOc.out, HTc.out, HMc.out⟩ : Out (RL B P2 v9) M W1 w'))
    clear i0 i1 i2 i3 i4 i5 i6 i7 ht0 ht1
    obtain ⟨y4, y5⟩ := HK0.out
    go_upto_region 8 with fail
    clear k8 k9 v0 v1 v2 v3 X5 X6 X7 X8 r0 r1 r2 r3 hz hsq
    by_cases h2 : j = 2
    · have HR : Hid (crn wd j L (a0, a1) (c0, c1) (b0, b1) = P2) := Lib.hid (by rw [HCR.out, if_pos (Or.inl h2)])
      subst h2
      go_wp2_with fail
      go_ret
      exact ⟨v9, rfl, by rw [HR.out]; exact HFIN.out⟩
    obtain rfl : j = 0 := by have := HJ.out; have := HJB.out; omega
    by_cases h3 : z = 0
    · have HR : Hid (crn wd 0 L (a0, a1) (c0, c1) (b0, b1) = P2) := Lib.hid (by rw [HCR.out, if_pos (Or.inr (Or.inl h3))])
      subst h3
      go_wp2_with fail
      go_ret
      exact ⟨v9, rfl, by rw [HR.out]; exact HFIN.out⟩
    have h3' : (z == 0) = false := by simpa using h3
    by_cases h4 : K ≤ 0
    · have HR : Hid (crn wd 0 L (a0, a1) (c0, c1) (b0, b1) = P2) := Lib.hid (by rw [HCR.out, if_pos (Or.inr (Or.inr h4))])
      have h4' : decide (K ≤ 0) = true := by simpa using h4
      go_wp2_with fail
      go_ret
      exact ⟨v9, rfl, by rw [HR.out]; exact HFIN.out⟩
    have HC2 : Hid (crn wd 0 L (a0, a1) (c0, c1) (b0, b1) = if 4 * wd < Num.hypU t0 t1 then P2 else put P2 (mitre (c0, c1) (m0, m1) (t0, t1) (q0, q1) (decide (0 < z)))) := Lib.hid (by rw [HCR.out, if_neg (by rintro (h | h | h); exact h2 h; exact h3 h; exact h4 h)])
    have HTI : Hid (Inb 68719476736 (t0, t1)) := Lib.hid (by rw [← HTV.out]; exact tin w1 w2 HN1.out HN2.out (by rw [HKV.out]; omega))
    obtain ⟨u0, hu0⟩ : ∃ z, m0 + q0 = z := ⟨_, rfl⟩
    obtain ⟨u1, hu1⟩ : ∃ z, m1 + q1 = z := ⟨_, rfl⟩
    obtain ⟨N1, hN1⟩ : ∃ z, sq * u0 = z := ⟨_, rfl⟩
    obtain ⟨N2, hN2⟩ : ∃ z, sq * u1 = z := ⟨_, rfl⟩
    have ht0 := HT0.out
    have ht1 := HT1'.out
    rw [hu0, hN1] at ht0
    rw [hu1, hN2] at ht1
    obtain ⟨⟨p0, p1⟩, p2, p3⟩ := HN1.out
    obtain ⟨⟨l0, l1⟩, l2, l3⟩ := HN2.out
    dsimp only at p0 p1 p2 p3 l0 l1 l2 l3
    obtain ⟨y2, y3⟩ := HS0.out
    have hb1 := mul_in (a := sq) (b := u0) (A := 16777216) (B := 4096) (by omega) (by omega) (by omega) (by omega)
    have hb2 := mul_in (a := sq) (b := u1) (A := 16777216) (B := 4096) (by omega) (by omega) (by omega) (by omega)
    rw [hN1] at hb1
    rw [hN2] at hb2
    have HC3 : Hid (∀ W, Calls Tryd.prog 55 #[.int .i64 N1, .int .i64 K] W (NmC t0 W)) := Lib.hid fun W => (Ref01.div_is N1 K t0 ht0.symm (by omega) (by omega) (by omega) (by omega) W).mono (by rintro e w9 ⟨rfl, n, rfl⟩; exact ⟨rfl, drew_below (Below.refl _ _)⟩)
    have HC4 : Hid (∀ W, Calls Tryd.prog 55 #[.int .i64 N2, .int .i64 K] W (NmC t1 W)) := Lib.hid fun W => (Ref01.div_is N2 K t1 ht1.symm (by omega) (by omega) (by omega) (by omega) W).mono (by rintro e w9 ⟨rfl, n, rfl⟩; exact ⟨rfl, drew_below (Below.refl _ _)⟩)
    have H13 := Lib.hid (HTc.out.blk (HBN.out.get 0 rfl) HNM.out.2.1)
    have H14 := Lib.hid (HTc.out.blk (HBN.out.get 1 rfl) HNM.out.2.2)
    have X1 : Hid (IntKind.i64.wrap (m0 + q0) = u0) := Lib.hid (by rw [hu0]; exact i64w (by omega) (by omega))
    have X2 : Hid (IntKind.i64.wrap (m1 + q1) = u1) := Lib.hid (by rw [hu1]; exact i64w (by omega) (by omega))
    have X3 : Hid (IntKind.i64.wrap (sq * u0) = N1) := Lib.hid (by rw [hN1]; exact i64w (by omega) (by omega))
    have X4 : Hid (IntKind.i64.wrap (sq * u1) = N2) := Lib.hid (by rw [hN2]; exact i64w (by omega) (by omega))
    have X0 : Hid (IntKind.i64.wrap (wd * wd) = sq) := HSQ
    clear hu0 hu1 hN1 hN2 ht0 ht1 p0 p1 p2 p3 l0 l1 l2 l3 hb1 hb2
    have h4' : decide (K ≤ 0) = false := by simpa using h4
    go_upto_region 10 with fail
    clear h4' s0 s1 s2 s3 s4 s5 hK h3' y2 y3 y4 y5
    go_cut [17] (fun s wx => ∃ g17, s = .pointer (some ⟨g17, 0, none⟩) ∧ Below w'.heap.size w' wx ∧ Blk wx g17 30 #[.int .i64 t0, .int .i64 t1] ∧ w'.heap.size ≤ g17)
    case first =>
      have x0 := X0.out
      have x1 := X1.out
      have x2 := X2.out
      have x3 := X3.out
      have x4 := X4.out
      have HN : Hid (Bn w' w'.drew []) := Lib.hid (Bn.nil w').drew
      refine wp_region_held_drew (S := fun W => Below w'.heap.size w' W) (by kernel_rfl) HN.out.b (fun hHeld => ?_)
      refine wpAnyH_take (i := 0) (oi := _) (v := .int .i64 wd) rfl (by kernel_rfl) (by kernel_rfl) (by kernel_rfl) (fun _ _ _ h => h) (Or.inl ⟨by rfl, fun W1 hS => by go_simp⟩) (by assumption) ?_
      go_simp
      refine wpAnyH_take (i := 1) (oi := _) (v := .int .i64 wd) rfl (by kernel_rfl) (by kernel_rfl) (by kernel_rfl) (fun _ _ _ h => h) (Or.inl ⟨by rfl, fun W1 hS => by go_simp⟩) (by assumption) ?_
      go_simp
      refine wpAnyH_take (i := 2) (oi := _) (v := .int .i64 sq) rfl (by kernel_rfl) (by kernel_rfl) (by kernel_rfl) (fun _ _ _ h => h) (Or.inl ⟨by rfl, fun W1 hS => by go_simp⟩) (by assumption) ?_
      go_simp
      refine wpAnyH_take (i := 3) (oi := _) (v := .pointer (some ⟨g13, 0, none⟩)) rfl (by kernel_rfl) (by kernel_rfl) (by kernel_rfl) (fun _ _ _ h => h) (Or.inl ⟨by rfl, fun W1 hS => by go_simp⟩) (by assumption) ?_
      go_simp
      refine wpAnyH_take (i := 4) (oi := _) (v := .int .i64 m0) rfl (by kernel_rfl) (by kernel_rfl) (by kernel_rfl) (fun _ _ _ h => h) (Or.inl ⟨by rfl, fun W1 hS => by (obtain ⟨z0, z1, _⟩ := blk2 (H13.out.below hS H13.out.lt); go_simp)⟩) (by assumption) ?_
      go_simp
      refine wpAnyH_take (i := 5) (oi := _) (v := .pointer (some ⟨g14, 0, none⟩)) rfl (by kernel_rfl) (by kernel_rfl) (by kernel_rfl) (fun _ _ _ h => h) (Or.inl ⟨by rfl, fun W1 hS => by go_simp⟩) (by assumption) ?_
      go_simp
      refine wpAnyH_take (i := 6) (oi := _) (v := .int .i64 q0) rfl (by kernel_rfl) (by kernel_rfl) (by kernel_rfl) (fun _ _ _ h => h) (Or.inl ⟨by rfl, fun W1 hS => by (obtain ⟨z0, z1, _⟩ := blk2 (H14.out.below hS H14.out.lt); go_simp)⟩) (by assumption) ?_
      go_simp
      refine wpAnyH_take (i := 7) (oi := _) (v := .int .i64 u0) rfl (by kernel_rfl) (by kernel_rfl) (by kernel_rfl) (fun _ _ _ h => h) (Or.inl ⟨by rfl, fun W1 hS => by go_simp⟩) (by assumption) ?_
      go_simp
      refine wpAnyH_take (i := 8) (oi := _) (v := .int .i64 N1) rfl (by kernel_rfl) (by kernel_rfl) (by kernel_rfl) (fun _ _ _ h => h) (Or.inl ⟨by rfl, fun W1 hS => by go_simp⟩) (by assumption) ?_
      go_simp
      refine wpAnyH_take (i := 9) (oi := _) (v := .int .i64 K) rfl (by kernel_rfl) (by kernel_rfl) (by kernel_rfl) (fun _ _ _ h => h) (Or.inl ⟨by rfl, fun W1 hS => by go_simp⟩) (by assumption) ?_
      go_simp
      refine wpAnyH_take (i := 11) (oi := _) (v := .int .i64 wd) rfl (by kernel_rfl) (by kernel_rfl) (by kernel_rfl) (fun _ _ _ h => h) (Or.inl ⟨by rfl, fun W1 hS => by go_simp⟩) (by assumption) ?_
      go_simp
      refine wpAnyH_take (i := 12) (oi := _) (v := .int .i64 wd) rfl (by kernel_rfl) (by kernel_rfl) (by kernel_rfl) (fun _ _ _ h => h) (Or.inl ⟨by rfl, fun W1 hS => by go_simp⟩) (by assumption) ?_
      go_simp
      refine wpAnyH_take (i := 13) (oi := _) (v := .int .i64 sq) rfl (by kernel_rfl) (by kernel_rfl) (by kernel_rfl) (fun _ _ _ h => h) (Or.inl ⟨by rfl, fun W1 hS => by go_simp⟩) (by assumption) ?_
      go_simp
      refine wpAnyH_take (i := 14) (oi := _) (v := .pointer (some ⟨g13, 1, none⟩)) rfl (by kernel_rfl) (by kernel_rfl) (by kernel_rfl) (fun _ _ _ h => h) (Or.inl ⟨by rfl, fun W1 hS => by go_simp⟩) (by assumption) ?_
      go_simp
      refine wpAnyH_take (i := 15) (oi := _) (v := .int .i64 m1) rfl (by kernel_rfl) (by kernel_rfl) (by kernel_rfl) (fun _ _ _ h => h) (Or.inl ⟨by rfl, fun W1 hS => by (obtain ⟨z0, z1, _⟩ := blk2 (H13.out.below hS H13.out.lt); go_simp)⟩) (by assumption) ?_
      go_simp
      refine wpAnyH_take (i := 16) (oi := _) (v := .pointer (some ⟨g14, 1, none⟩)) rfl (by kernel_rfl) (by kernel_rfl) (by kernel_rfl) (fun _ _ _ h => h) (Or.inl ⟨by rfl, fun W1 hS => by go_simp⟩) (by assumption) ?_
      go_simp
      refine wpAnyH_take (i := 17) (oi := _) (v := .int .i64 q1) rfl (by kernel_rfl) (by kernel_rfl) (by kernel_rfl) (fun _ _ _ h => h) (Or.inl ⟨by rfl, fun W1 hS => by (obtain ⟨z0, z1, _⟩ := blk2 (H14.out.below hS H14.out.lt); go_simp)⟩) (by assumption) ?_
      go_simp
      refine wpAnyH_take (i := 18) (oi := _) (v := .int .i64 u1) rfl (by kernel_rfl) (by kernel_rfl) (by kernel_rfl) (fun _ _ _ h => h) (Or.inl ⟨by rfl, fun W1 hS => by go_simp⟩) (by assumption) ?_
      go_simp
      refine wpAnyH_take (i := 19) (oi := _) (v := .int .i64 N2) rfl (by kernel_rfl) (by kernel_rfl) (by kernel_rfl) (fun _ _ _ h => h) (Or.inl ⟨by rfl, fun W1 hS => by go_simp⟩) (by assumption) ?_
      go_simp
      refine wpAnyH_take (i := 20) (oi := _) (v := .int .i64 K) rfl (by kernel_rfl) (by kernel_rfl) (by kernel_rfl) (fun _ _ _ h => h) (Or.inl ⟨by rfl, fun W1 hS => by go_simp⟩) (by assumption) ?_
      go_simp
      clear hHeld
      refine wpAnyH_ready (rs := [10, 23]) (by kernel_rfl) (by simp) ?_
      refine AllReadyH.cons (o := _) rfl (fun K hK => ?_) (AllReadyH.cons (o := _) rfl (fun K hK => ?_) AllReadyH.nil)
      · go_simp
        go_at_call 55
        refine (HC3.out _).mono ?_
        rintro e Wn0 ⟨rfl, hbq⟩
        go_wp2_with fail
        have HM := Lib.hid (HN.out.below hbq)
        clear hbq
        refine hK.out _ _ HM.out.b (fun hHeld => ?_)
        clear hK hHeld HN
        have HN : Hid (Bn w' Wn0 []) := HM
        clear HM
        have hHeld := HN.out.b
        try simp only [Act.put, List.setIfInBounds_toArray, List.set_cons_zero, List.set_cons_succ]
        clear hHeld
        refine wpAnyH_ready (rs := [21, 23]) (by kernel_rfl) (by simp) ?_
        refine AllReadyH.cons (o := _) rfl (fun K hK => ?_) (AllReadyH.cons (o := _) rfl (fun K hK => ?_) AllReadyH.nil)
        · go_simp
          go_at_call 55
          refine (HC4.out _).mono ?_
          rintro e Wn1 ⟨rfl, hbq⟩
          go_wp2_with fail
          have HM := Lib.hid (HN.out.below hbq)
          clear hbq
          refine hK.out _ _ HM.out.b (fun hHeld => ?_)
          clear hK hHeld HN
          have HN : Hid (Bn w' Wn1 []) := HM
          clear HM
          have hHeld := HN.out.b
          try simp only [Act.put, List.setIfInBounds_toArray, List.set_cons_zero, List.set_cons_succ]
          refine wpAnyH_take (i := 22) (oi := _) (v := .agg #[.int .i64 t0, .int .i64 t1]) rfl (by kernel_rfl) (by kernel_rfl) (by kernel_rfl) (fun _ _ _ h => h) (Or.inl ⟨by rfl, fun W1 hS => by go_simp⟩) (by assumption) ?_
          go_simp
          clear hHeld
          refine wpAnyH_ready (rs := [23]) (by kernel_rfl) (by simp) ?_
          refine AllReadyH.cons (o := _) rfl (fun K hK => ?_) AllReadyH.nil
          rw [if_pos (by rfl)]
          refine wp_allocPt 17 rfl rfl ?_
          have HM := Lib.hid (HN.out.push _ rfl 30 #[.int .i64 0, .int .i64 0])
          have ge_g17 : w'.heap.size ≤ (Wn1).heap.size := HN.out.b.size
          refine hK.out _ _ HM.out.b (fun hHeld => ?_)
          clear hK hHeld HN
          revert HM ge_g17 
          obtain ⟨g17, hg⟩ : ∃ g, g = (Wn1).heap.size := ⟨_, rfl⟩
          obtain ⟨Wn2, hW⟩ : ∃ W, W = (Wn1).alloc (.cells #[.int .i64 0, .int .i64 0] 30) := ⟨_, rfl⟩
          rw [← hg, ← hW]
          clear hg hW
          intro HM  ge_g17
          have HN : Hid (Bn w' Wn2 [(g17, 30, #[.int .i64 0, .int .i64 0])]) := HM
          clear HM
          have hHeld := HN.out.b
          try simp only [Act.put, List.setIfInBounds_toArray, List.set_cons_zero, List.set_cons_succ]
          clear hHeld
          refine wpAnyH_ready (rs := [24]) (by kernel_rfl) (by simp) ?_
          refine AllReadyH.cons (o := _) rfl (fun K hK => ?_) AllReadyH.nil
          rw [if_pos (by rfl)]
          refine wp_store_row 30 _ _ rfl g17 #[.int .i64 t0, .int .i64 t1] rfl rfl 30 #[.int .i64 0, .int .i64 0] (HN.out.get 0 rfl) (infoPt (0, 0)) rfl (by simp [Value.oneCell']) ?_
          have HM : Hid (Bn w' (Wn2.setRow g17 #[.int .i64 t0, .int .i64 t1]) [(g17, 30, #[.int .i64 t0, .int .i64 t1])]) := Lib.hid (HN.out.row 0 rfl ge_g17 (by (intro j y hj hy; rcases j with _ | _ | _ | _ | _ | _ | j <;> first | exact absurd rfl hj | (simp only [List.getElem?_cons_zero, List.getElem?_cons_succ, Option.some.injEq] at hy; subst hy; dsimp only; omega) | (simp at hy; done))) #[.int .i64 t0, .int .i64 t1])
          refine hK.out _ _ HM.out.b (fun hHeld => ?_)
          clear hK hHeld HN
          have HN := HM
          clear HM
          have hHeld := HN.out.b
          try simp only [Act.put, List.setIfInBounds_toArray, List.set_cons_zero, List.set_cons_succ]
          clear hHeld
          refine wpAnyH_done (by kernel_rfl) ?_ _
          go_wp2_with fail
          go_meet
          exact ⟨g17, rfl, HN.out.b, HN.out.get 0 rfl, ge_g17⟩
        · rw [if_pos (by rfl)]
          refine wp_allocPt 17 rfl rfl ?_
          have HM := Lib.hid (HN.out.push _ rfl 30 #[.int .i64 0, .int .i64 0])
          have ge_g17 : w'.heap.size ≤ (Wn0).heap.size := HN.out.b.size
          refine hK.out _ _ HM.out.b (fun hHeld => ?_)
          clear hK hHeld HN
          revert HM ge_g17 
          obtain ⟨g17, hg⟩ : ∃ g, g = (Wn0).heap.size := ⟨_, rfl⟩
          obtain ⟨Wn1, hW⟩ : ∃ W, W = (Wn0).alloc (.cells #[.int .i64 0, .int .i64 0] 30) := ⟨_, rfl⟩
          rw [← hg, ← hW]
          clear hg hW
          intro HM  ge_g17
          have HN : Hid (Bn w' Wn1 [(g17, 30, #[.int .i64 0, .int .i64 0])]) := HM
          clear HM
          have hHeld := HN.out.b
          try simp only [Act.put, List.setIfInBounds_toArray, List.set_cons_zero, List.set_cons_succ]
          clear hHeld
          refine wpAnyH_ready (rs := [21]) (by kernel_rfl) (by simp) ?_
          refine AllReadyH.cons (o := _) rfl (fun K hK => ?_) AllReadyH.nil
          go_simp
          go_at_call 55
          refine (HC4.out _).mono ?_
          rintro e Wn2 ⟨rfl, hbq⟩
          go_wp2_with fail
          have HM := Lib.hid (HN.out.below hbq)
          clear hbq
          refine hK.out _ _ HM.out.b (fun hHeld => ?_)
          clear hK hHeld HN
          have HN : Hid (Bn w' Wn2 [(g17, 30, #[.int .i64 0, .int .i64 0])]) := HM
          clear HM
          have hHeld := HN.out.b
          try simp only [Act.put, List.setIfInBounds_toArray, List.set_cons_zero, List.set_cons_succ]
          refine wpAnyH_take (i := 22) (oi := _) (v := .agg #[.int .i64 t0, .int .i64 t1]) rfl (by kernel_rfl) (by kernel_rfl) (by kernel_rfl) (fun _ _ _ h => h) (Or.inl ⟨by rfl, fun W1 hS => by go_simp⟩) (by assumption) ?_
          go_simp
          clear hHeld
          refine wpAnyH_ready (rs := [24]) (by kernel_rfl) (by simp) ?_
          refine AllReadyH.cons (o := _) rfl (fun K hK => ?_) AllReadyH.nil
          rw [if_pos (by rfl)]
          refine wp_store_row 30 _ _ rfl g17 #[.int .i64 t0, .int .i64 t1] rfl rfl 30 #[.int .i64 0, .int .i64 0] (HN.out.get 0 rfl) (infoPt (0, 0)) rfl (by simp [Value.oneCell']) ?_
          have HM : Hid (Bn w' (Wn2.setRow g17 #[.int .i64 t0, .int .i64 t1]) [(g17, 30, #[.int .i64 t0, .int .i64 t1])]) := Lib.hid (HN.out.row 0 rfl ge_g17 (by (intro j y hj hy; rcases j with _ | _ | _ | _ | _ | _ | j <;> first | exact absurd rfl hj | (simp only [List.getElem?_cons_zero, List.getElem?_cons_succ, Option.some.injEq] at hy; subst hy; dsimp only; omega) | (simp at hy; done))) #[.int .i64 t0, .int .i64 t1])
          refine hK.out _ _ HM.out.b (fun hHeld => ?_)
          clear hK hHeld HN
          have HN := HM
          clear HM
          have hHeld := HN.out.b
          try simp only [Act.put, List.setIfInBounds_toArray, List.set_cons_zero, List.set_cons_succ]
          clear hHeld
          refine wpAnyH_done (by kernel_rfl) ?_ _
          go_wp2_with fail
          go_meet
          exact ⟨g17, rfl, HN.out.b, HN.out.get 0 rfl, ge_g17⟩
      · rw [if_pos (by rfl)]
        refine wp_allocPt 17 rfl rfl ?_
        have HM := Lib.hid (HN.out.push _ rfl 30 #[.int .i64 0, .int .i64 0])
        have ge_g17 : w'.heap.size ≤ (w'.drew).heap.size := HN.out.b.size
        refine hK.out _ _ HM.out.b (fun hHeld => ?_)
        clear hK hHeld HN
        revert HM ge_g17 
        obtain ⟨g17, hg⟩ : ∃ g, g = (w'.drew).heap.size := ⟨_, rfl⟩
        obtain ⟨Wn0, hW⟩ : ∃ W, W = (w'.drew).alloc (.cells #[.int .i64 0, .int .i64 0] 30) := ⟨_, rfl⟩
        rw [← hg, ← hW]
        clear hg hW
        intro HM  ge_g17
        have HN : Hid (Bn w' Wn0 [(g17, 30, #[.int .i64 0, .int .i64 0])]) := HM
        clear HM
        have hHeld := HN.out.b
        try simp only [Act.put, List.setIfInBounds_toArray, List.set_cons_zero, List.set_cons_succ]
        clear hHeld
        refine wpAnyH_ready (rs := [10]) (by kernel_rfl) (by simp) ?_
        refine AllReadyH.cons (o := _) rfl (fun K hK => ?_) AllReadyH.nil
        go_simp
        go_at_call 55
        refine (HC3.out _).mono ?_
        rintro e Wn1 ⟨rfl, hbq⟩
        go_wp2_with fail
        have HM := Lib.hid (HN.out.below hbq)
        clear hbq
        refine hK.out _ _ HM.out.b (fun hHeld => ?_)
        clear hK hHeld HN
        have HN : Hid (Bn w' Wn1 [(g17, 30, #[.int .i64 0, .int .i64 0])]) := HM
        clear HM
        have hHeld := HN.out.b
        try simp only [Act.put, List.setIfInBounds_toArray, List.set_cons_zero, List.set_cons_succ]
        clear hHeld
        refine wpAnyH_ready (rs := [21]) (by kernel_rfl) (by simp) ?_
        refine AllReadyH.cons (o := _) rfl (fun K hK => ?_) AllReadyH.nil
        go_simp
        go_at_call 55
        refine (HC4.out _).mono ?_
        rintro e Wn2 ⟨rfl, hbq⟩
        go_wp2_with fail
        have HM := Lib.hid (HN.out.below hbq)
        clear hbq
        refine hK.out _ _ HM.out.b (fun hHeld => ?_)
        clear hK hHeld HN
        have HN : Hid (Bn w' Wn2 [(g17, 30, #[.int .i64 0, .int .i64 0])]) := HM
        clear HM
        have hHeld := HN.out.b
        try simp only [Act.put, List.setIfInBounds_toArray, List.set_cons_zero, List.set_cons_succ]
        refine wpAnyH_take (i := 22) (oi := _) (v := .agg #[.int .i64 t0, .int .i64 t1]) rfl (by kernel_rfl) (by kernel_rfl) (by kernel_rfl) (fun _ _ _ h => h) (Or.inl ⟨by rfl, fun W1 hS => by go_simp⟩) (by assumption) ?_
        go_simp
        clear hHeld
        refine wpAnyH_ready (rs := [24]) (by kernel_rfl) (by simp) ?_
        refine AllReadyH.cons (o := _) rfl (fun K hK => ?_) AllReadyH.nil
        rw [if_pos (by rfl)]
        refine wp_store_row 30 _ _ rfl g17 #[.int .i64 t0, .int .i64 t1] rfl rfl 30 #[.int .i64 0, .int .i64 0] (HN.out.get 0 rfl) (infoPt (0, 0)) rfl (by simp [Value.oneCell']) ?_
        have HM : Hid (Bn w' (Wn2.setRow g17 #[.int .i64 t0, .int .i64 t1]) [(g17, 30, #[.int .i64 t0, .int .i64 t1])]) := Lib.hid (HN.out.row 0 rfl ge_g17 (by (intro j y hj hy; rcases j with _ | _ | _ | _ | _ | _ | j <;> first | exact absurd rfl hj | (simp only [List.getElem?_cons_zero, List.getElem?_cons_succ, Option.some.injEq] at hy; subst hy; dsimp only; omega) | (simp at hy; done))) #[.int .i64 t0, .int .i64 t1])
        refine hK.out _ _ HM.out.b (fun hHeld => ?_)
        clear hK hHeld HN
        have HN := HM
        clear HM
        have hHeld := HN.out.b
        try simp only [Act.put, List.setIfInBounds_toArray, List.set_cons_zero, List.set_cons_succ]
        clear hHeld
        refine wpAnyH_done (by kernel_rfl) ?_ _
        go_wp2_with fail
        go_meet
        exact ⟨g17, rfl, HN.out.b, HN.out.get 0 rfl, ge_g17⟩
    case rest =>
      obtain ⟨g17, rfl, hbx, hg17, hge17⟩ := hcut
      obtain ⟨W9, rfl⟩ : ∃ W9, W9 = wc := ⟨_, rfl⟩
      have HMs := Lib.hid HOc.out.size
      have HT9 := Lib.hid (HTc.out.below hbx)
      have HO9 := Lib.hid (HOc.out.later hbx)
      have H8 := Lib.hid ((HB0.out.get 1 rfl).below HBN.out.b (HB0.out.get 1 rfl).lt)
      have HN17 : Hid (g8 ∉ Mc ∧ g13 ∉ Mc ∧ g14 ∉ Mc ∧ g17 ∉ Mc) := Lib.hid (by
        have f : ∀ k, k ∉ M → k < W1.heap.size → k ∉ Mc := fun k h1 h2 h => by
          rcases HMc.out k h with h3 | h3
          · exact h1 h3
          · omega
        exact ⟨f g8 HNM.out.1 H8.out.lt, f g13 HNM.out.2.1 (HBN.out.get 0 rfl).lt, f g14 HNM.out.2.2 (HBN.out.get 1 rfl).lt, fun h => by have := HMs.out _ h; omega⟩)
      have HG17 := Lib.hid hg17
      have SS9 : Hid (∀ W, Tch Mc W9 W → W.cell? ⟨g8, 0, none⟩ = some (.int .i64 c0) ∧ W.cell? ⟨g8, 1, none⟩ = some (.int .i64 c1) ∧ W.cell? ⟨g13, 0, none⟩ = some (.int .i64 m0) ∧ W.cell? ⟨g13, 1, none⟩ = some (.int .i64 m1) ∧ W.cell? ⟨g14, 0, none⟩ = some (.int .i64 q0) ∧ W.cell? ⟨g14, 1, none⟩ = some (.int .i64 q1) ∧ W.cell? ⟨g17, 0, none⟩ = some (.int .i64 t0) ∧ W.cell? ⟨g17, 1, none⟩ = some (.int .i64 t1)) := Lib.hid fun W ht => by
        have h8 := ht.blk (HT9.out.blk H8.out HNM.out.1) HN17.out.1
        have h13 := ht.blk (HT9.out.blk (HBN.out.get 0 rfl) HNM.out.2.1) HN17.out.2.1
        have h14 := ht.blk (HT9.out.blk (HBN.out.get 1 rfl) HNM.out.2.2) HN17.out.2.2.1
        have h17 := ht.blk HG17.out HN17.out.2.2.2
        exact ⟨h8.cell 0, h8.cell 1, h13.cell 0, h13.cell 1, h14.cell 0, h14.cell 1, h17.cell 0, h17.cell 1⟩
      have HW9 : Hid (Tch M w W9) := Lib.hid (HTW.out.trans HT9.out fun k hk => Or.inl hk)
      have HMW : Hid (∀ k ∈ Mc, k ∈ M ∨ w.heap.size ≤ k) := Lib.hid fun k hk => by
        rcases HMc.out k hk with h | h
        · exact Or.inl h
        · exact Or.inr (Nat.le_trans HB1.out.size h)
      have HB9 : Hid (B ≤ W9.heap.size) := Lib.hid (Nat.le_trans HBW.out HT9.out.size)
      clear hbx hg17 hge17 HTc HOc HMc HFIN HC3 HC4 H13 H14 k0 k1 k4 k5 SSX
      have HTc := Lib.hid (Tch.refl Mc W9)
      have HOc := HO9
      have HMc : Hid (∀ k ∈ Mc, k ∈ Mc ∨ W9.heap.size ≤ k) := Lib.hid fun k hk => Or.inl hk
      have SSX := SS9
      obtain ⟨H, hH⟩ : ∃ H, Num.hypU t0 t1 = H := ⟨_, rfl⟩
      have hti := HTI.out
      unfold Inb at hti
      dsimp only at hti
      have CH := fun W => Ref01.hypot_any t0 t1 (by omega) (by omega) (by omega) (by omega) W
      have hge := hyp_ge (x := t0) (y := t1) (by omega) (by omega)
      rw [hH] at CH hge
      have HCH := Lib.hid CH
      have HHH := Lib.hid hH
      obtain ⟨_, _, _, _, _, _, k6, k7⟩ := SS9.out _ HTc.out
      have k8 : IntKind.i64.wrap (4 * wd) = 4 * wd := i64w (by omega) (by omega)
      have HGE0 := Lib.hid hge
      clear CH hti hH hge
      go_wp2_with fail
      refine (HCH.out _).mono ?_
      rintro e8 w8 ⟨rfl, rfl⟩
      clear k6 k7 HCH
      by_cases h5 : 4 * wd < H
      · have h5' : decide (4 * wd < H) = true := by simpa using h5
        have HR : Hid (crn wd 0 L (a0, a1) (c0, c1) (b0, b1) = P2) := Lib.hid (by rw [HC2.out, HHH.out, if_pos h5])
        have HF9 : Hid (Out (RL B P2 v9) M w W9) := Lib.hid ⟨Mc, HO9.out, HW9.out, HMW.out⟩
        go_wp2_with fail
        go_ret
        exact ⟨v9, rfl, by rw [HR.out]; exact HF9.out⟩
      have h5' : decide (4 * wd < H) = false := by simpa using h5
      have HTS : Hid (Inb 16384 (t0, t1)) := Lib.hid (tsmall (w := wd) w2 HTI.out (by rw [HHH.out]; exact h5))
      have HTB : Hid (Inb 1000000000000 (t0, t1)) := Lib.hid (HTS.out.mono (by omega))
      have HC5 : Hid (crn wd 0 L (a0, a1) (c0, c1) (b0, b1) = put P2 (mitre (c0, c1) (m0, m1) (t0, t1) (q0, q1) (decide (0 < z)))) := Lib.hid (by rw [HC2.out, HHH.out, if_neg h5])
      by_cases h6 : 0 < z
      · have h6' : decide (0 < z) = true := by simpa using h6
        have H6 := Lib.hid h6'
        have HMI : Hid (AllB 33554432 [(c0, c1), mi (c0, c1) (m0, m1), mi (c0, c1) (t0, t1), mi (c0, c1) (q0, q1)]) := Lib.hid (mitre_in HC.out HN1.out HTS.out HN2.out true)
        go_upto_region 16 with fail
        clear k8 h5' h6'
        have HTq := Lib.hid HTc.out.drew
        have HOq := Lib.hid (HOc.out.later (Below.refl _ _).drew)
        have HK := SSX.out _ HTq.out
        go_region_held3 (fun W => W.cell? ⟨g8, 0, none⟩ = some (.int .i64 c0) ∧ W.cell? ⟨g8, 1, none⟩ = some (.int .i64 c1) ∧ W.cell? ⟨g13, 0, none⟩ = some (.int .i64 m0) ∧ W.cell? ⟨g13, 1, none⟩ = some (.int .i64 m1) ∧ W.cell? ⟨g14, 0, none⟩ = some (.int .i64 q0) ∧ W.cell? ⟨g14, 1, none⟩ = some (.int .i64 q1) ∧ W.cell? ⟨g17, 0, none⟩ = some (.int .i64 t0) ∧ W.cell? ⟨g17, 1, none⟩ = some (.int .i64 t1))
          (first | exact HK | go_keep)
          (first
            | (go_at_call_of 41 (Value.agg #[Value.int IntKind.i64 m0, Value.int IntKind.i64 m1]); refine (radd_m (c0, c1) (m0, m1) _ HCB.out HMB.out).mono ?_; rintro e' w' ⟨rfl, hbq⟩; have HTq := Lib.hid (HTq.out.below hbq); have HOq := Lib.hid (HOq.out.later hbq); have HK := SSX.out _ HTq.out; clear hbq)
            | (go_at_call_of 41 (Value.agg #[Value.int IntKind.i64 t0, Value.int IntKind.i64 t1]); refine (radd_m (c0, c1) (t0, t1) _ HCB.out HTB.out).mono ?_; rintro e' w' ⟨rfl, hbq⟩; have HTq := Lib.hid (HTq.out.below hbq); have HOq := Lib.hid (HOq.out.later hbq); have HK := SSX.out _ HTq.out; clear hbq)
            | (go_at_call_of 41 (Value.agg #[Value.int IntKind.i64 q0, Value.int IntKind.i64 q1]); refine (radd_m (c0, c1) (q0, q1) _ HCB.out HQB.out).mono ?_; rintro e' w' ⟨rfl, hbq⟩; have HTq := Lib.hid (HTq.out.below hbq); have HOq := Lib.hid (HOq.out.later hbq); have HK := SSX.out _ HTq.out; clear hbq)
            | (go_at_call 40; refine (rput_any HOq.out _ 4 ([(c0, c1), mi (c0, c1) (m0, m1), mi (c0, c1) (t0, t1), mi (c0, c1) (q0, q1)]) _ ((Below.refl _ _).alloc (Nat.le_refl _) _) (Blk.new _ _ _) (Nat.le_refl _) (Nat.le_trans HB9.out HTq.out.size) (show 3 ≤ 4 by omega) (show 4 ≤ 16 by omega) (HMI.out) HLn.out).mono ?_; rintro e' w' ⟨v9, rfl, hout⟩; have HOUT := Lib.hid (out_step HTq.out HMc.out hout); have HK := SSX.out _ HOUT.out.choose_spec.2.1; clear hout))
        have HR : Hid (crn wd 0 L (a0, a1) (c0, c1) (b0, b1) = put P2 [(c0, c1), mi (c0, c1) (m0, m1), mi (c0, c1) (t0, t1), mi (c0, c1) (q0, q1)]) := Lib.hid (by rw [HC5.out, H6.out]; rfl)
        have HFIN2 := Lib.hid (out_step HW9.out HMW.out HOUT.out)
        clear HK
        go_wp2_with fail
        go_ret
        exact ⟨v9, rfl, by rw [HR.out]; exact HFIN2.out⟩
      · have h6' : decide (0 < z) = false := by simpa using h6
        have H6 := Lib.hid h6'
        have HMI : Hid (AllB 33554432 [(c0, c1), pl (c0, c1) (m0, m1), pl (c0, c1) (t0, t1), pl (c0, c1) (q0, q1)]) := Lib.hid (mitre_in HC.out HN1.out HTS.out HN2.out false)
        go_upto_region 16 with fail
        clear k8 h5' h6'
        have HTq := Lib.hid HTc.out.drew
        have HOq := Lib.hid (HOc.out.later (Below.refl _ _).drew)
        have HK := SSX.out _ HTq.out
        go_region_held3 (fun W => W.cell? ⟨g8, 0, none⟩ = some (.int .i64 c0) ∧ W.cell? ⟨g8, 1, none⟩ = some (.int .i64 c1) ∧ W.cell? ⟨g13, 0, none⟩ = some (.int .i64 m0) ∧ W.cell? ⟨g13, 1, none⟩ = some (.int .i64 m1) ∧ W.cell? ⟨g14, 0, none⟩ = some (.int .i64 q0) ∧ W.cell? ⟨g14, 1, none⟩ = some (.int .i64 q1) ∧ W.cell? ⟨g17, 0, none⟩ = some (.int .i64 t0) ∧ W.cell? ⟨g17, 1, none⟩ = some (.int .i64 t1))
          (first | exact HK | go_keep)
          (first
            | (go_at_call_of 41 (Value.agg #[Value.int IntKind.i64 m0, Value.int IntKind.i64 m1]); refine (radd_p (c0, c1) (m0, m1) _ HCB.out HMB.out).mono ?_; rintro e' w' ⟨rfl, hbq⟩; have HTq := Lib.hid (HTq.out.below hbq); have HOq := Lib.hid (HOq.out.later hbq); have HK := SSX.out _ HTq.out; clear hbq)
            | (go_at_call_of 41 (Value.agg #[Value.int IntKind.i64 t0, Value.int IntKind.i64 t1]); refine (radd_p (c0, c1) (t0, t1) _ HCB.out HTB.out).mono ?_; rintro e' w' ⟨rfl, hbq⟩; have HTq := Lib.hid (HTq.out.below hbq); have HOq := Lib.hid (HOq.out.later hbq); have HK := SSX.out _ HTq.out; clear hbq)
            | (go_at_call_of 41 (Value.agg #[Value.int IntKind.i64 q0, Value.int IntKind.i64 q1]); refine (radd_p (c0, c1) (q0, q1) _ HCB.out HQB.out).mono ?_; rintro e' w' ⟨rfl, hbq⟩; have HTq := Lib.hid (HTq.out.below hbq); have HOq := Lib.hid (HOq.out.later hbq); have HK := SSX.out _ HTq.out; clear hbq)
            | (go_at_call 40; refine (rput_any HOq.out _ 4 ([(c0, c1), pl (c0, c1) (m0, m1), pl (c0, c1) (t0, t1), pl (c0, c1) (q0, q1)]) _ ((Below.refl _ _).alloc (Nat.le_refl _) _) (Blk.new _ _ _) (Nat.le_refl _) (Nat.le_trans HB9.out HTq.out.size) (show 3 ≤ 4 by omega) (show 4 ≤ 16 by omega) (HMI.out) HLn.out).mono ?_; rintro e' w' ⟨v9, rfl, hout⟩; have HOUT := Lib.hid (out_step HTq.out HMc.out hout); have HK := SSX.out _ HOUT.out.choose_spec.2.1; clear hout))
        have HR : Hid (crn wd 0 L (a0, a1) (c0, c1) (b0, b1) = put P2 [(c0, c1), pl (c0, c1) (m0, m1), pl (c0, c1) (t0, t1), pl (c0, c1) (q0, q1)]) := Lib.hid (by rw [HC5.out, H6.out]; rfl)
        have HFIN2 := Lib.hid (out_step HW9.out HMW.out HOUT.out)
        clear HK
        go_wp2_with fail
        go_ret
        exact ⟨v9, rfl, by rw [HR.out]; exact HFIN2.out⟩
end Go.Proofs.YtflopcogalknhaaDoor.Str
