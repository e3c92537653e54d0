/-
  Layer 21: the joins of a stroke.
-/
import Derived.Test.YtflopcogalknhaaDoorKStrAd
set_option linter.unusedVariables false
set_option linter.unusedSimpArgs false
namespace Go.Proofs.YtflopcogalknhaaDoor.Str
open Go.RowKit Go.Proofs.YtflopcogalknhaaDoor Go.Proofs.YtflopcogalknhaaDoor.NumPure

theorem AllB.cons {B : Int} {p : P2} {l : List P2} (h : Inb B p) (hl : AllB B l) : AllB B (p :: l) := fun x hx => by
  rcases List.mem_cons.1 hx with rfl | hx
  · exact h
  · exact hl x hx
theorem AllB.nil (B : Int) : AllB B [] := fun x hx => by simp at hx
theorem all3 {a b c : P2} (ha : Inb 33554432 a) (hb : Inb 33554432 b) (hc : Inb 33554432 c) : AllB 33554432 [a, b, c] := .cons ha (.cons hb (.cons hc (.nil _)))
theorem all4 {a b c d : P2} (ha : Inb 33554432 a) (hb : Inb 33554432 b) (hc : Inb 33554432 c) (hd : Inb 33554432 d) : AllB 33554432 [a, b, c, d] := .cons ha (all3 hb hc hd)
theorem crc_in {wd : Int} {c : P2} (w1 : 1 ≤ wd) (w2 : wd ≤ 4096) (hc : Inb 16777216 c) : AllB 33554432 (crc wd c) := fun p hp => by
  unfold crc crcN at hp
  obtain ⟨k, _, rfl⟩ := List.mem_map.1 hp
  exact (crcP_in w1 w2 hc k).mono (by omega)
theorem crc_len (wd : Int) (c : P2) : (crc wd c).length = 16 := crcN_len _ _ _
theorem tri_in {c m n : P2} (hc : Inb 16777216 c) (hm : Inb 2048 m) (hn : Inb 2048 n) (up : Bool) : AllB 33554432 (tri c m n up) := by
  unfold tri
  split
  · exact all3 (hc.mono (by omega)) ((pl_in hc hm).mono (by omega)) ((pl_in hc hn).mono (by omega))
  · exact all3 (hc.mono (by omega)) ((mi_in hc hm).mono (by omega)) ((mi_in hc hn).mono (by omega))
theorem tri_len (c m n : P2) (up : Bool) : (tri c m n up).length = 3 := by unfold tri; split <;> rfl
theorem mitre_len (c m t n : P2) (dn : Bool) : (mitre c m t n dn).length = 4 := by unfold mitre; split <;> rfl
theorem mitre_in {c m t n : P2} (hc : Inb 16777216 c) (hm : Inb 2048 m) (ht : Inb 16384 t) (hn : Inb 2048 n) (dn : Bool) : AllB 33554432 (mitre c m t n dn) := by
  unfold mitre
  split
  · exact all4 (hc.mono (by omega)) ((mi_in hc hm).mono (by omega)) ((mi_in hc ht).mono (by omega)) ((mi_in hc hn).mono (by omega))
  · exact all4 (hc.mono (by omega)) ((pl_in hc hm).mono (by omega)) ((pl_in hc ht).mono (by omega)) ((pl_in hc hn).mono (by omega))
theorem quad_in {a b v : P2} (ha : Inb 16777216 a) (hb : Inb 16777216 b) (hv : Inb 2048 v) : AllB 33554432 (quad a b v) :=
  all4 ((pl_in ha hv).mono (by omega)) ((pl_in hb hv).mono (by omega)) ((mi_in hb hv).mono (by omega)) ((mi_in ha hv).mono (by omega))
theorem capA_in {a v e : P2} (ha : Inb 16777216 a) (hv : Inb 2048 v) (he : Inb 2048 e) : AllB 33554432 (capA a v e) :=
  all4 ((pl_in (mi_in ha he) hv).mono (by omega)) ((pl_in ha hv).mono (by omega)) ((mi_in ha hv).mono (by omega)) ((mi_in (mi_in ha he) hv).mono (by omega))
theorem capB_in {b v e : P2} (hb : Inb 16777216 b) (hv : Inb 2048 v) (he : Inb 2048 e) : AllB 33554432 (capB b v e) :=
  all4 ((pl_in hb hv).mono (by omega)) ((pl_in (pl_in hb he) hv).mono (by omega)) ((mi_in (pl_in hb he) hv).mono (by omega)) ((mi_in hb hv).mono (by omega))
theorem sngB_in {r : Int} {c : P2} (hc : Inb 16777216 c) (h0 : 0 ≤ r) (h1 : r ≤ 2048) : AllB 33554432 (sngB r c) := by
  unfold Inb at hc
  unfold sngB
  refine all4 ?_ ?_ ?_ ?_ <;> (unfold Inb; dsimp only; omega)
theorem wp_allocPt {o : Oper} {a : Act} {W : World} {K : Act → World → Prop} {Q : Exit → Act → World → Prop} (dd : Tmp) (hd : o.dst = some dd) (ho : o.op = .alloc 30)
    (h : K (a.put (some dd) (.pointer (some ⟨W.heap.size, 0, none⟩))) (W.alloc (.cells #[.int .i64 0, .int .i64 0] 30))) : o.wp Tryd.prog a W K Q := by
  unfold Oper.wp
  simp only [execOp, ho, Sem.run_bind, runPt W, Result.andThen_ok, Sem.run_pure]
  show K (a.put o.dst _) _
  rw [hd]
  exact h
theorem Bn.two (w : World) (t1 t2 : TypeId) (c1 c2 : Array Value) : Bn w ((w.alloc (.cells c1 t1)).alloc (.cells c2 t2)) [(w.heap.size, t1, c1), (w.heap.size + 1, t2, c2)] := ((Bn.nil w).push _ rfl t1 c1).push _ (size_alloc1 _ _) t2 c2
theorem Bn.of3 {w W : World} {a b c : Ent} (hb : Below w.heap.size w W) (h0 : Blk W a.1 a.2.1 a.2.2) (h1 : Blk W b.1 b.2.1 b.2.2) (h2 : Blk W c.1 c.2.1 c.2.2) : Bn w W [a, b, c] := ⟨hb, fun i x hx => by
  rcases i with _ | _ | _ | i
  · injection hx with hx; subst hx; exact h0
  · injection hx with hx; subst hx; exact h1
  · injection hx with hx; subst hx; exact h2
  · simp at hx⟩
theorem two_at {w : World} {g : Nat} {t : TypeId} {cs : Array Value} (h : Blk w g t cs) (i : Nat) {u v : Value} (hu : cs[i]? = some u) (hv : cs[i + 1]? = some v) : w.cell? ⟨g, i, none⟩ = some u ∧ w.cell? ⟨g, i + 1, none⟩ = some v := ⟨(h.cell i).trans hu, (h.cell (i + 1)).trans hv⟩
set_option maxRecDepth 100000 in
set_option maxHeartbeats 8000000 in
theorem corner_any {wd j e : Int} {g B : Nat} {L : List (List P2)} {M : List Nat} {w : World} (hO : OL wd j e B g L w M) (a c b : P2) (w1 : 1 ≤ wd) (w2 : wd ≤ 4096) (ha : Inb 16777216 a) (hc : Inb 16777216 c) (hb : Inb 16777216 b) (hT : Num.Tab w)
    (hBs : B ≤ w.heap.size) (hL : L.length ≤ 900000) (hG : GL L) : Calls Tryd.prog 36 #[.pointer (some ⟨g, 0, none⟩), .agg (edc wd a c), .agg (edc wd c b)] w fun e' w' => e' = .returned (.tuple #[]) ∧ Out (OL wd j e B g (crn wd j L a c b)) M w w' := by
  have HN1 := Lib.hid (nrm_in w1 w2 ha hc).1
  have HN2 := Lib.hid (nrm_in w1 w2 hc hb).1
  obtain ⟨⟨m0, m1⟩, hm⟩ : ∃ p, nrm wd a c = p := ⟨_, rfl⟩
  obtain ⟨⟨q0, q1⟩, hq⟩ : ∃ p, nrm wd c b = p := ⟨_, rfl⟩
  obtain ⟨⟨x0, x1⟩, hx⟩ : ∃ p, ext wd a c = p := ⟨_, rfl⟩
  obtain ⟨⟨y0, y1⟩, hy⟩ : ∃ p, ext wd c b = p := ⟨_, rfl⟩
  have HEM := Lib.hid hm
  have HEQ := Lib.hid hq
  rw [hm] at HN1
  rw [hq] at HN2
  obtain ⟨a0, a1⟩ := a
  obtain ⟨c0, c1⟩ := c
  obtain ⟨b0, b1⟩ := b
  obtain ⟨d0, hd0⟩ : ∃ z, c0 - a0 = z := ⟨_, rfl⟩
  obtain ⟨d1, hd1⟩ : ∃ z, c1 - a1 = z := ⟨_, rfl⟩
  obtain ⟨f0, hf0⟩ : ∃ z, b0 - c0 = z := ⟨_, rfl⟩
  obtain ⟨f1, hf1⟩ : ∃ z, b1 - c1 = z := ⟨_, rfl⟩
  have e1 : edc wd (a0, a1) (c0, c1) = #[.int .i64 a0, .int .i64 a1, .int .i64 c0, .int .i64 c1, .int .i64 d0, .int .i64 d1, .int .i64 m0, .int .i64 m1, .int .i64 x0, .int .i64 x1] := by unfold edc mi; rw [hm, hx]; dsimp only; rw [hd0, hd1]
  have e2 : edc wd (c0, c1) (b0, b1) = #[.int .i64 c0, .int .i64 c1, .int .i64 b0, .int .i64 b1, .int .i64 f0, .int .i64 f1, .int .i64 q0, .int .i64 q1, .int .i64 y0, .int .i64 y1] := by unfold edc mi; rw [hq, hy]; dsimp only; rw [hf0, hf1]
  have HZ : Hid (zV (a0, a1) (c0, c1) (b0, b1) = d0 * f1 - d1 * f0) := Lib.hid (by unfold zV; dsimp only; rw [hd0, hd1, hf0, hf1])
  have HDB : Hid ((-33554432 ≤ d0 ∧ d0 ≤ 33554432) ∧ (-33554432 ≤ d1 ∧ d1 ≤ 33554432) ∧ (-33554432 ≤ f0 ∧ f0 ≤ 33554432) ∧ (-33554432 ≤ f1 ∧ f1 ≤ 33554432)) := Lib.hid (by unfold Inb at ha hb hc; dsimp only at ha hb hc; omega)
  rw [e1, e2]
  have HO := Lib.hid hO
  have HT := Lib.hid hT
  have HG := Lib.hid hG
  have HA := Lib.hid ha
  have HC := Lib.hid hc
  have HB := Lib.hid hb
  clear e1 e2 hm hq hx hy hO hT hG ha hc hb hd0 hd1 hf0 hf1
  have HB0 := Lib.hid (Bn.two w 65 65 #[.int .i64 a0, .int .i64 a1, .int .i64 c0, .int .i64 c1, .int .i64 d0, .int .i64 d1, .int .i64 m0, .int .i64 m1, .int .i64 x0, .int .i64 x1] #[.int .i64 c0, .int .i64 c1, .int .i64 b0, .int .i64 b1, .int .i64 f0, .int .i64 f1, .int .i64 q0, .int .i64 q1, .int .i64 y0, .int .i64 y1])
  go_enter Tryd.func36, Tryd.ntmps36
  go_upto_region 1 with fail
  obtain ⟨W0, hW0⟩ : ∃ W, (w.alloc (.cells #[.int .i64 a0, .int .i64 a1, .int .i64 c0, .int .i64 c1, .int .i64 d0, .int .i64 d1, .int .i64 m0, .int .i64 m1, .int .i64 x0, .int .i64 x1] 65)).alloc (.cells #[.int .i64 c0, .int .i64 c1, .int .i64 b0, .int .i64 b1, .int .i64 f0, .int .i64 f1, .int .i64 q0, .int .i64 q1, .int .i64 y0, .int .i64 y1] 65) = W := ⟨_, rfl⟩
  rw [hW0] at HB0
  rw [hW0]
  obtain ⟨g4, hg4⟩ : ∃ g, w.heap.size = g := ⟨_, rfl⟩
  obtain ⟨g5, hg5⟩ : ∃ g, g4 + 1 = g := ⟨_, rfl⟩
  rw [hg4, hg5] at HB0
  rw [hg4, hg5]
  have HGE : Hid (w.heap.size ≤ g4 ∧ w.heap.size ≤ g5) := Lib.hid (by omega)
  clear hW0 hg4 hg5
  go_cut [6, 7, 8] (fun r s t wx => ∃ g6 g7 g8, r = .pointer (some ⟨g6, 0, none⟩) ∧ s = .pointer (some ⟨g7, 0, none⟩) ∧ t = .pointer (some ⟨g8, 0, none⟩) ∧ Bn W0 wx [(g6, 30, #[.int .i64 c0, .int .i64 c1]), (g7, 30, #[.int .i64 m0, .int .i64 m1]), (g8, 30, #[.int .i64 q0, .int .i64 q1])] ∧ W0.heap.size ≤ g6 ∧ W0.heap.size ≤ g7 ∧ W0.heap.size ≤ g8)
  case first =>
    have HN : Hid (Bn W0 W0.drew []) := Lib.hid (Bn.nil W0).drew
    refine wp_region_held_drew (S := fun W => Below W0.heap.size W0 W) (by kernel_rfl) HN.out.b (fun hHeld => ?_)
    refine wpAnyH_take (i := 0) (oi := _) (v := .pointer (some ⟨g5, 0, none⟩)) rfl (by kernel_rfl) (by kernel_rfl) (by kernel_rfl) (fun _ _ _ h => h) (Or.inl ⟨by rfl, fun W1 hS => by go_simp⟩) (by assumption) ?_
    go_simp
    refine wpAnyH_take (i := 1) (oi := _) (v := .agg #[.int .i64 c0, .int .i64 c1]) rfl (by kernel_rfl) (by kernel_rfl) (by kernel_rfl) (fun _ _ _ h => h) (Or.inl ⟨by rfl, fun W1 hS => by (obtain ⟨z0, z1⟩ := two_at ((HB0.out.below hS).get 1 rfl) 0 rfl rfl; go_simp)⟩) (by assumption) ?_
    go_simp
    refine wpAnyH_take (i := 2) (oi := _) (v := .pointer (some ⟨g4, 6, none⟩)) rfl (by kernel_rfl) (by kernel_rfl) (by kernel_rfl) (fun _ _ _ h => h) (Or.inl ⟨by rfl, fun W1 hS => by go_simp⟩) (by assumption) ?_
    go_simp
    refine wpAnyH_take (i := 3) (oi := _) (v := .agg #[.int .i64 m0, .int .i64 m1]) rfl (by kernel_rfl) (by kernel_rfl) (by kernel_rfl) (fun _ _ _ h => h) (Or.inl ⟨by rfl, fun W1 hS => by (obtain ⟨z0, z1⟩ := two_at ((HB0.out.below hS).get 0 rfl) 6 rfl rfl; go_simp)⟩) (by assumption) ?_
    go_simp
    refine wpAnyH_take (i := 4) (oi := _) (v := .pointer (some ⟨g5, 6, none⟩)) rfl (by kernel_rfl) (by kernel_rfl) (by kernel_rfl) (fun _ _ _ h => h) (Or.inl ⟨by rfl, fun W1 hS => by go_simp⟩) (by assumption) ?_
    go_simp
    refine wpAnyH_take (i := 5) (oi := _) (v := .agg #[.int .i64 q0, .int .i64 q1]) rfl (by kernel_rfl) (by kernel_rfl) (by kernel_rfl) (fun _ _ _ h => h) (Or.inl ⟨by rfl, fun W1 hS => by (obtain ⟨z0, z1⟩ := two_at ((HB0.out.below hS).get 1 rfl) 6 rfl rfl; go_simp)⟩) (by assumption) ?_
    go_simp
    clear hHeld
    refine wpAnyH_ready (rs := [6, 7, 8]) (by kernel_rfl) (by simp) ?_
    refine AllReadyH.cons (o := _) rfl (fun K hK => ?_) (AllReadyH.cons (o := _) rfl (fun K hK => ?_) (AllReadyH.cons (o := _) rfl (fun K hK => ?_) AllReadyH.nil))
    · rw [if_pos (by rfl)]
      refine wp_allocPt 6 rfl rfl ?_
      have HM := Lib.hid (HN.out.push _ rfl 30 #[.int .i64 0, .int .i64 0])
      have ge_g6 : W0.heap.size ≤ (W0.drew).heap.size := HN.out.b.size
      refine hK.out _ _ HM.out.b (fun hHeld => ?_)
      clear hK hHeld HN
      revert HM ge_g6 
      obtain ⟨g6, hg⟩ : ∃ g, g = (W0.drew).heap.size := ⟨_, rfl⟩
      obtain ⟨Wn0, hW⟩ : ∃ W, W = (W0.drew).alloc (.cells #[.int .i64 0, .int .i64 0] 30) := ⟨_, rfl⟩
      rw [← hg, ← hW]
      clear hg hW
      intro HM  ge_g6
      have HN : Hid (Bn W0 Wn0 [(g6, 30, #[.int .i64 0, .int .i64 0])]) := HM
      clear HM
      have hHeld := HN.out.b
      try simp only [Act.put, List.setIfInBounds_toArray, List.set_cons_zero, List.set_cons_succ]
      clear hHeld
      refine wpAnyH_ready (rs := [7, 8]) (by kernel_rfl) (by simp) ?_
      refine AllReadyH.cons (o := _) rfl (fun K hK => ?_) (AllReadyH.cons (o := _) rfl (fun K hK => ?_) AllReadyH.nil)
      · rw [if_pos (by rfl)]
        refine wp_allocPt 7 rfl rfl ?_
        have HM := Lib.hid (HN.out.push _ rfl 30 #[.int .i64 0, .int .i64 0])
        have ne_g6_g7 : g6 ≠ (Wn0).heap.size := by have := (HN.out.get 0 rfl).lt; omega
        have ge_g7 : W0.heap.size ≤ (Wn0).heap.size := HN.out.b.size
        refine hK.out _ _ HM.out.b (fun hHeld => ?_)
        clear hK hHeld HN
        revert HM ge_g7 ne_g6_g7
        obtain ⟨g7, hg⟩ : ∃ g, g = (Wn0).heap.size := ⟨_, rfl⟩
        obtain ⟨Wn1, hW⟩ : ∃ W, W = (Wn0).alloc (.cells #[.int .i64 0, .int .i64 0] 30) := ⟨_, rfl⟩
        rw [← hg, ← hW]
        clear hg hW
        intro HM ne_g6_g7 ge_g7
        have HN : Hid (Bn W0 Wn1 [(g6, 30, #[.int .i64 0, .int .i64 0]), (g7, 30, #[.int .i64 0, .int .i64 0])]) := HM
        clear HM
        have hHeld := HN.out.b
        try simp only [Act.put, List.setIfInBounds_toArray, List.set_cons_zero, List.set_cons_succ]
        clear hHeld
        refine wpAnyH_ready (rs := [8]) (by kernel_rfl) (by simp) ?_
        refine AllReadyH.cons (o := _) rfl (fun K hK => ?_) AllReadyH.nil
        rw [if_pos (by rfl)]
        refine wp_allocPt 8 rfl rfl ?_
        have HM := Lib.hid (HN.out.push _ rfl 30 #[.int .i64 0, .int .i64 0])
        have ne_g6_g8 : g6 ≠ (Wn1).heap.size := by have := (HN.out.get 0 rfl).lt; omega
        have ne_g7_g8 : g7 ≠ (Wn1).heap.size := by have := (HN.out.get 1 rfl).lt; omega
        have ge_g8 : W0.heap.size ≤ (Wn1).heap.size := HN.out.b.size
        refine hK.out _ _ HM.out.b (fun hHeld => ?_)
        clear hK hHeld HN
        revert HM ge_g8 ne_g6_g8 ne_g7_g8
        obtain ⟨g8, hg⟩ : ∃ g, g = (Wn1).heap.size := ⟨_, rfl⟩
        obtain ⟨Wn2, hW⟩ : ∃ W, W = (Wn1).alloc (.cells #[.int .i64 0, .int .i64 0] 30) := ⟨_, rfl⟩
        rw [← hg, ← hW]
        clear hg hW
        intro HM ne_g6_g8 ne_g7_g8 ge_g8
        have HN : Hid (Bn W0 Wn2 [(g6, 30, #[.int .i64 0, .int .i64 0]), (g7, 30, #[.int .i64 0, .int .i64 0]), (g8, 30, #[.int .i64 0, .int .i64 0])]) := HM
        clear HM
        have hHeld := HN.out.b
        try simp only [Act.put, List.setIfInBounds_toArray, List.set_cons_zero, List.set_cons_succ]
        clear hHeld
        refine wpAnyH_ready (rs := [9]) (by kernel_rfl) (by simp) ?_
        refine AllReadyH.cons (o := _) rfl (fun K hK => ?_) AllReadyH.nil
        rw [if_pos (by rfl)]
        refine wp_store_row 30 _ _ rfl g6 #[.int .i64 c0, .int .i64 c1] rfl rfl 30 #[.int .i64 0, .int .i64 0] (HN.out.get 0 rfl) (infoPt (0, 0)) rfl (by simp [Value.oneCell']) ?_
        have HM : Hid (Bn W0 (Wn2.setRow g6 #[.int .i64 c0, .int .i64 c1]) [(g6, 30, #[.int .i64 c0, .int .i64 c1]), (g7, 30, #[.int .i64 0, .int .i64 0]), (g8, 30, #[.int .i64 0, .int .i64 0])]) := Lib.hid (HN.out.row 0 rfl ge_g6 (by (intro j y hj hy; rcases j with _ | _ | _ | _ | _ | _ | j <;> first | exact absurd rfl hj | (simp only [List.getElem?_cons_zero, List.getElem?_cons_succ, Option.some.injEq] at hy; subst hy; dsimp only; omega) | (simp at hy; done))) #[.int .i64 c0, .int .i64 c1])
        refine hK.out _ _ HM.out.b (fun hHeld => ?_)
        clear hK hHeld HN
        have HN := HM
        clear HM
        have hHeld := HN.out.b
        try simp only [Act.put, List.setIfInBounds_toArray, List.set_cons_zero, List.set_cons_succ]
        clear hHeld
        refine wpAnyH_ready (rs := [10]) (by kernel_rfl) (by simp) ?_
        refine AllReadyH.cons (o := _) rfl (fun K hK => ?_) AllReadyH.nil
        rw [if_pos (by rfl)]
        refine wp_store_row 30 _ _ rfl g7 #[.int .i64 m0, .int .i64 m1] rfl rfl 30 #[.int .i64 0, .int .i64 0] (HN.out.get 1 rfl) (infoPt (0, 0)) rfl (by simp [Value.oneCell']) ?_
        have HM : Hid (Bn W0 ((Wn2.setRow g6 #[.int .i64 c0, .int .i64 c1]).setRow g7 #[.int .i64 m0, .int .i64 m1]) [(g6, 30, #[.int .i64 c0, .int .i64 c1]), (g7, 30, #[.int .i64 m0, .int .i64 m1]), (g8, 30, #[.int .i64 0, .int .i64 0])]) := Lib.hid (HN.out.row 1 rfl ge_g7 (by (intro j y hj hy; rcases j with _ | _ | _ | _ | _ | _ | j <;> first | exact absurd rfl hj | (simp only [List.getElem?_cons_zero, List.getElem?_cons_succ, Option.some.injEq] at hy; subst hy; dsimp only; omega) | (simp at hy; done))) #[.int .i64 m0, .int .i64 m1])
        refine hK.out _ _ HM.out.b (fun hHeld => ?_)
        clear hK hHeld HN
        have HN := HM
        clear HM
        have hHeld := HN.out.b
        try simp only [Act.put, List.setIfInBounds_toArray, List.set_cons_zero, List.set_cons_succ]
        clear hHeld
        refine wpAnyH_ready (rs := [11]) (by kernel_rfl) (by simp) ?_
        refine AllReadyH.cons (o := _) rfl (fun K hK => ?_) AllReadyH.nil
        rw [if_pos (by rfl)]
        refine wp_store_row 30 _ _ rfl g8 #[.int .i64 q0, .int .i64 q1] rfl rfl 30 #[.int .i64 0, .int .i64 0] (HN.out.get 2 rfl) (infoPt (0, 0)) rfl (by simp [Value.oneCell']) ?_
        have HM : Hid (Bn W0 (((Wn2.setRow g6 #[.int .i64 c0, .int .i64 c1]).setRow g7 #[.int .i64 m0, .int .i64 m1]).setRow g8 #[.int .i64 q0, .int .i64 q1]) [(g6, 30, #[.int .i64 c0, .int .i64 c1]), (g7, 30, #[.int .i64 m0, .int .i64 m1]), (g8, 30, #[.int .i64 q0, .int .i64 q1])]) := Lib.hid (HN.out.row 2 rfl ge_g8 (by (intro j y hj hy; rcases j with _ | _ | _ | _ | _ | _ | j <;> first | exact absurd rfl hj | (simp only [List.getElem?_cons_zero, List.getElem?_cons_succ, Option.some.injEq] at hy; subst hy; dsimp only; omega) | (simp at hy; done))) #[.int .i64 q0, .int .i64 q1])
        refine hK.out _ _ HM.out.b (fun hHeld => ?_)
        clear hK hHeld HN
        have HN := HM
        clear HM
        have hHeld := HN.out.b
        try simp only [Act.put, List.setIfInBounds_toArray, List.set_cons_zero, List.set_cons_succ]
        clear hHeld
        refine wpAnyH_done (by kernel_rfl) ?_ _
        go_wp2_with fail
        go_meet
        exact ⟨g6, g7, g8, rfl, rfl, rfl, Bn.of3 HN.out.b (HN.out.get 0 rfl) (HN.out.get 1 rfl) (HN.out.get 2 rfl), ge_g6, ge_g7, ge_g8⟩
      · rw [if_pos (by rfl)]
        refine wp_allocPt 8 rfl rfl ?_
        have HM := Lib.hid (HN.out.push _ rfl 30 #[.int .i64 0, .int .i64 0])
        have ne_g6_g8 : g6 ≠ (Wn0).heap.size := by have := (HN.out.get 0 rfl).lt; omega
        have ge_g8 : W0.heap.size ≤ (Wn0).heap.size := HN.out.b.size
        refine hK.out _ _ HM.out.b (fun hHeld => ?_)
        clear hK hHeld HN
        revert HM ge_g8 ne_g6_g8
        obtain ⟨g8, hg⟩ : ∃ g, g = (Wn0).heap.size := ⟨_, rfl⟩
        obtain ⟨Wn1, hW⟩ : ∃ W, W = (Wn0).alloc (.cells #[.int .i64 0, .int .i64 0] 30) := ⟨_, rfl⟩
        rw [← hg, ← hW]
        clear hg hW
        intro HM ne_g6_g8 ge_g8
        have HN : Hid (Bn W0 Wn1 [(g6, 30, #[.int .i64 0, .int .i64 0]), (g8, 30, #[.int .i64 0, .int .i64 0])]) := HM
        clear HM
        have hHeld := HN.out.b
        try simp only [Act.put, List.setIfInBounds_toArray, List.set_cons_zero, List.set_cons_succ]
        clear hHeld
        refine wpAnyH_ready (rs := [7]) (by kernel_rfl) (by simp) ?_
        refine AllReadyH.cons (o := _) rfl (fun K hK => ?_) AllReadyH.nil
        rw [if_pos (by rfl)]
        refine wp_allocPt 7 rfl rfl ?_
        have HM := Lib.hid (HN.out.push _ rfl 30 #[.int .i64 0, .int .i64 0])
        have ne_g6_g7 : g6 ≠ (Wn1).heap.size := by have := (HN.out.get 0 rfl).lt; omega
        have ne_g8_g7 : g8 ≠ (Wn1).heap.size := by have := (HN.out.get 1 rfl).lt; omega
        have ge_g7 : W0.heap.size ≤ (Wn1).heap.size := HN.out.b.size
        refine hK.out _ _ HM.out.b (fun hHeld => ?_)
        clear hK hHeld HN
        revert HM ge_g7 ne_g6_g7 ne_g8_g7
        obtain ⟨g7, hg⟩ : ∃ g, g = (Wn1).heap.size := ⟨_, rfl⟩
        obtain ⟨Wn2, hW⟩ : ∃ W, W = (Wn1).alloc (.cells #[.int .i64 0, .int .i64 0] 30) := ⟨_, rfl⟩
        rw [← hg, ← hW]
        clear hg hW
        intro HM ne_g6_g7 ne_g8_g7 ge_g7
        have HN : Hid (Bn W0 Wn2 [(g6, 30, #[.int .i64 0, .int .i64 0]), (g8, 30, #[.int .i64 0, .int .i64 0]), (g7, 30, #[.int .i64 0, .int .i64 0])]) := HM
        clear HM
        have hHeld := HN.out.b
        try simp only [Act.put, List.setIfInBounds_toArray, List.set_cons_zero, List.set_cons_succ]
        clear hHeld
        refine wpAnyH_ready (rs := [9]) (by kernel_rfl) (by simp) ?_
        refine AllReadyH.cons (o := _) rfl (fun K hK => ?_) AllReadyH.nil
        rw [if_pos (by rfl)]
        refine wp_store_row 30 _ _ rfl g6 #[.int .i64 c0, .int .i64 c1] rfl rfl 30 #[.int .i64 0, .int .i64 0] (HN.out.get 0 rfl) (infoPt (0, 0)) rfl (by simp [Value.oneCell']) ?_
        have HM : Hid (Bn W0 (Wn2.setRow g6 #[.int .i64 c0, .int .i64 c1]) [(g6, 30, #[.int .i64 c0, .int .i64 c1]), (g8, 30, #[.int .i64 0, .int .i64 0]), (g7, 30, #[.int .i64 0, .int .i64 0])]) := Lib.hid (HN.out.row 0 rfl ge_g6 (by (intro j y hj hy; rcases j with _ | _ | _ | _ | _ | _ | j <;> first | exact absurd rfl hj | (simp only [List.getElem?_cons_zero, List.getElem?_cons_succ, Option.some.injEq] at hy; subst hy; dsimp only; omega) | (simp at hy; done))) #[.int .i64 c0, .int .i64 c1])
        refine hK.out _ _ HM.out.b (fun hHeld => ?_)
        clear hK hHeld HN
        have HN := HM
        clear HM
        have hHeld := HN.out.b
        try simp only [Act.put, List.setIfInBounds_toArray, List.set_cons_zero, List.set_cons_succ]
        clear hHeld
        refine wpAnyH_ready (rs := [10]) (by kernel_rfl) (by simp) ?_
        refine AllReadyH.cons (o := _) rfl (fun K hK => ?_) AllReadyH.nil
        rw [if_pos (by rfl)]
        refine wp_store_row 30 _ _ rfl g7 #[.int .i64 m0, .int .i64 m1] rfl rfl 30 #[.int .i64 0, .int .i64 0] (HN.out.get 2 rfl) (infoPt (0, 0)) rfl (by simp [Value.oneCell']) ?_
        have HM : Hid (Bn W0 ((Wn2.setRow g6 #[.int .i64 c0, .int .i64 c1]).setRow g7 #[.int .i64 m0, .int .i64 m1]) [(g6, 30, #[.int .i64 c0, .int .i64 c1]), (g8, 30, #[.int .i64 0, .int .i64 0]), (g7, 30, #[.int .i64 m0, .int .i64 m1])]) := Lib.hid (HN.out.row 2 rfl ge_g7 (by (intro j y hj hy; rcases j with _ | _ | _ | _ | _ | _ | j <;> first | exact absurd rfl hj | (simp only [List.getElem?_cons_zero, List.getElem?_cons_succ, Option.some.injEq] at hy; subst hy; dsimp only; omega) | (simp at hy; done))) #[.int .i64 m0, .int .i64 m1])
        refine hK.out _ _ HM.out.b (fun hHeld => ?_)
        clear hK hHeld HN
        have HN := HM
        clear HM
        have hHeld := HN.out.b
        try simp only [Act.put, List.setIfInBounds_toArray, List.set_cons_zero, List.set_cons_succ]
        clear hHeld
        refine wpAnyH_ready (rs := [11]) (by kernel_rfl) (by simp) ?_
        refine AllReadyH.cons (o := _) rfl (fun K hK => ?_) AllReadyH.nil
        rw [if_pos (by rfl)]
        refine wp_store_row 30 _ _ rfl g8 #[.int .i64 q0, .int .i64 q1] rfl rfl 30 #[.int .i64 0, .int .i64 0] (HN.out.get 1 rfl) (infoPt (0, 0)) rfl (by simp [Value.oneCell']) ?_
        have HM : Hid (Bn W0 (((Wn2.setRow g6 #[.int .i64 c0, .int .i64 c1]).setRow g7 #[.int .i64 m0, .int .i64 m1]).setRow g8 #[.int .i64 q0, .int .i64 q1]) [(g6, 30, #[.int .i64 c0, .int .i64 c1]), (g8, 30, #[.int .i64 q0, .int .i64 q1]), (g7, 30, #[.int .i64 m0, .int .i64 m1])]) := Lib.hid (HN.out.row 1 rfl ge_g8 (by (intro j y hj hy; rcases j with _ | _ | _ | _ | _ | _ | j <;> first | exact absurd rfl hj | (simp only [List.getElem?_cons_zero, List.getElem?_cons_succ, Option.some.injEq] at hy; subst hy; dsimp only; omega) | (simp at hy; done))) #[.int .i64 q0, .int .i64 q1])
        refine hK.out _ _ HM.out.b (fun hHeld => ?_)
        clear hK hHeld HN
        have HN := HM
        clear HM
        have hHeld := HN.out.b
        try simp only [Act.put, List.setIfInBounds_toArray, List.set_cons_zero, List.set_cons_succ]
        clear hHeld
        refine wpAnyH_done (by kernel_rfl) ?_ _
        go_wp2_with fail
        go_meet
        exact ⟨g6, g7, g8, rfl, rfl, rfl, Bn.of3 HN.out.b (HN.out.get 0 rfl) (HN.out.get 2 rfl) (HN.out.get 1 rfl), ge_g6, ge_g7, ge_g8⟩
    · rw [if_pos (by rfl)]
      refine wp_allocPt 7 rfl rfl ?_
      have HM := Lib.hid (HN.out.push _ rfl 30 #[.int .i64 0, .int .i64 0])
      have ge_g7 : W0.heap.size ≤ (W0.drew).heap.size := HN.out.b.size
      refine hK.out _ _ HM.out.b (fun hHeld => ?_)
      clear hK hHeld HN
      revert HM ge_g7 
      obtain ⟨g7, hg⟩ : ∃ g, g = (W0.drew).heap.size := ⟨_, rfl⟩
      obtain ⟨Wn0, hW⟩ : ∃ W, W = (W0.drew).alloc (.cells #[.int .i64 0, .int .i64 0] 30) := ⟨_, rfl⟩
      rw [← hg, ← hW]
      clear hg hW
      intro HM  ge_g7
      have HN : Hid (Bn W0 Wn0 [(g7, 30, #[.int .i64 0, .int .i64 0])]) := HM
      clear HM
      have hHeld := HN.out.b
      try simp only [Act.put, List.setIfInBounds_toArray, List.set_cons_zero, List.set_cons_succ]
      clear hHeld
      refine wpAnyH_ready (rs := [6, 8]) (by kernel_rfl) (by simp) ?_
      refine AllReadyH.cons (o := _) rfl (fun K hK => ?_) (AllReadyH.cons (o := _) rfl (fun K hK => ?_) AllReadyH.nil)
      · rw [if_pos (by rfl)]
        refine wp_allocPt 6 rfl rfl ?_
        have HM := Lib.hid (HN.out.push _ rfl 30 #[.int .i64 0, .int .i64 0])
        have ne_g7_g6 : g7 ≠ (Wn0).heap.size := by have := (HN.out.get 0 rfl).lt; omega
        have ge_g6 : W0.heap.size ≤ (Wn0).heap.size := HN.out.b.size
        refine hK.out _ _ HM.out.b (fun hHeld => ?_)
        clear hK hHeld HN
        revert HM ge_g6 ne_g7_g6
        obtain ⟨g6, hg⟩ : ∃ g, g = (Wn0).heap.size := ⟨_, rfl⟩
        obtain ⟨Wn1, hW⟩ : ∃ W, W = (Wn0).alloc (.cells #[.int .i64 0, .int .i64 0] 30) := ⟨_, rfl⟩
        rw [← hg, ← hW]
        clear hg hW
        intro HM ne_g7_g6 ge_g6
        have HN : Hid (Bn W0 Wn1 [(g7, 30, #[.int .i64 0, .int .i64 0]), (g6, 30, #[.int .i64 0, .int .i64 0])]) := HM
        clear HM
        have hHeld := HN.out.b
        try simp only [Act.put, List.setIfInBounds_toArray, List.set_cons_zero, List.set_cons_succ]
        clear hHeld
        refine wpAnyH_ready (rs := [8]) (by kernel_rfl) (by simp) ?_
        refine AllReadyH.cons (o := _) rfl (fun K hK => ?_) AllReadyH.nil
        rw [if_pos (by rfl)]
        refine wp_allocPt 8 rfl rfl ?_
        have HM := Lib.hid (HN.out.push _ rfl 30 #[.int .i64 0, .int .i64 0])
        have ne_g7_g8 : g7 ≠ (Wn1).heap.size := by have := (HN.out.get 0 rfl).lt; omega
        have ne_g6_g8 : g6 ≠ (Wn1).heap.size := by have := (HN.out.get 1 rfl).lt; omega
        have ge_g8 : W0.heap.size ≤ (Wn1).heap.size := HN.out.b.size
        refine hK.out _ _ HM.out.b (fun hHeld => ?_)
        clear hK hHeld HN
        revert HM ge_g8 ne_g7_g8 ne_g6_g8
        obtain ⟨g8, hg⟩ : ∃ g, g = (Wn1).heap.size := ⟨_, rfl⟩
        obtain ⟨Wn2, hW⟩ : ∃ W, W = (Wn1).alloc (.cells #[.int .i64 0, .int .i64 0] 30) := ⟨_, rfl⟩
        rw [← hg, ← hW]
        clear hg hW
        intro HM ne_g7_g8 ne_g6_g8 ge_g8
        have HN : Hid (Bn W0 Wn2 [(g7, 30, #[.int .i64 0, .int .i64 0]), (g6, 30, #[.int .i64 0, .int .i64 0]), (g8, 30, #[.int .i64 0, .int .i64 0])]) := HM
        clear HM
        have hHeld := HN.out.b
        try simp only [Act.put, List.setIfInBounds_toArray, List.set_cons_zero, List.set_cons_succ]
        clear hHeld
        refine wpAnyH_ready (rs := [9]) (by kernel_rfl) (by simp) ?_
        refine AllReadyH.cons (o := _) rfl (fun K hK => ?_) AllReadyH.nil
        rw [if_pos (by rfl)]
        refine wp_store_row 30 _ _ rfl g6 #[.int .i64 c0, .int .i64 c1] rfl rfl 30 #[.int .i64 0, .int .i64 0] (HN.out.get 1 rfl) (infoPt (0, 0)) rfl (by simp [Value.oneCell']) ?_
        have HM : Hid (Bn W0 (Wn2.setRow g6 #[.int .i64 c0, .int .i64 c1]) [(g7, 30, #[.int .i64 0, .int .i64 0]), (g6, 30, #[.int .i64 c0, .int .i64 c1]), (g8, 30, #[.int .i64 0, .int .i64 0])]) := Lib.hid (HN.out.row 1 rfl ge_g6 (by (intro j y hj hy; rcases j with _ | _ | _ | _ | _ | _ | j <;> first | exact absurd rfl hj | (simp only [List.getElem?_cons_zero, List.getElem?_cons_succ, Option.some.injEq] at hy; subst hy; dsimp only; omega) | (simp at hy; done))) #[.int .i64 c0, .int .i64 c1])
        refine hK.out _ _ HM.out.b (fun hHeld => ?_)
        clear hK hHeld HN
        have HN := HM
        clear HM
        have hHeld := HN.out.b
        try simp only [Act.put, List.setIfInBounds_toArray, List.set_cons_zero, List.set_cons_succ]
        clear hHeld
        refine wpAnyH_ready (rs := [10]) (by kernel_rfl) (by simp) ?_
        refine AllReadyH.cons (o := _) rfl (fun K hK => ?_) AllReadyH.nil
        rw [if_pos (by rfl)]
        refine wp_store_row 30 _ _ rfl g7 #[.int .i64 m0, .int .i64 m1] rfl rfl 30 #[.int .i64 0, .int .i64 0] (HN.out.get 0 rfl) (infoPt (0, 0)) rfl (by simp [Value.oneCell']) ?_
        have HM : Hid (Bn W0 ((Wn2.setRow g6 #[.int .i64 c0, .int .i64 c1]).setRow g7 #[.int .i64 m0, .int .i64 m1]) [(g7, 30, #[.int .i64 m0, .int .i64 m1]), (g6, 30, #[.int .i64 c0, .int .i64 c1]), (g8, 30, #[.int .i64 0, .int .i64 0])]) := Lib.hid (HN.out.row 0 rfl ge_g7 (by (intro j y hj hy; rcases j with _ | _ | _ | _ | _ | _ | j <;> first | exact absurd rfl hj | (simp only [List.getElem?_cons_zero, List.getElem?_cons_succ, Option.some.injEq] at hy; subst hy; dsimp only; omega) | (simp at hy; done))) #[.int .i64 m0, .int .i64 m1])
        refine hK.out _ _ HM.out.b (fun hHeld => ?_)
        clear hK hHeld HN
        have HN := HM
        clear HM
        have hHeld := HN.out.b
        try simp only [Act.put, List.setIfInBounds_toArray, List.set_cons_zero, List.set_cons_succ]
        clear hHeld
        refine wpAnyH_ready (rs := [11]) (by kernel_rfl) (by simp) ?_
        refine AllReadyH.cons (o := _) rfl (fun K hK => ?_) AllReadyH.nil
        rw [if_pos (by rfl)]
        refine wp_store_row 30 _ _ rfl g8 #[.int .i64 q0, .int .i64 q1] rfl rfl 30 #[.int .i64 0, .int .i64 0] (HN.out.get 2 rfl) (infoPt (0, 0)) rfl (by simp [Value.oneCell']) ?_
        have HM : Hid (Bn W0 (((Wn2.setRow g6 #[.int .i64 c0, .int .i64 c1]).setRow g7 #[.int .i64 m0, .int .i64 m1]).setRow g8 #[.int .i64 q0, .int .i64 q1]) [(g7, 30, #[.int .i64 m0, .int .i64 m1]), (g6, 30, #[.int .i64 c0, .int .i64 c1]), (g8, 30, #[.int .i64 q0, .int .i64 q1])]) := Lib.hid (HN.out.row 2 rfl ge_g8 (by (intro j y hj hy; rcases j with _ | _ | _ | _ | _ | _ | j <;> first | exact absurd rfl hj | (simp only [List.getElem?_cons_zero, List.getElem?_cons_succ, Option.some.injEq] at hy; subst hy; dsimp only; omega) | (simp at hy; done))) #[.int .i64 q0, .int .i64 q1])
        refine hK.out _ _ HM.out.b (fun hHeld => ?_)
        clear hK hHeld HN
        have HN := HM
        clear HM
        have hHeld := HN.out.b
        try simp only [Act.put, List.setIfInBounds_toArray, List.set_cons_zero, List.set_cons_succ]
        clear hHeld
        refine wpAnyH_done (by kernel_rfl) ?_ _
        go_wp2_with fail
        go_meet
        exact ⟨g6, g7, g8, rfl, rfl, rfl, Bn.of3 HN.out.b (HN.out.get 1 rfl) (HN.out.get 0 rfl) (HN.out.get 2 rfl), ge_g6, ge_g7, ge_g8⟩
      · rw [if_pos (by rfl)]
        refine wp_allocPt 8 rfl rfl ?_
        have HM := Lib.hid (HN.out.push _ rfl 30 #[.int .i64 0, .int .i64 0])
        have ne_g7_g8 : g7 ≠ (Wn0).heap.size := by have := (HN.out.get 0 rfl).lt; omega
        have ge_g8 : W0.heap.size ≤ (Wn0).heap.size := HN.out.b.size
        refine hK.out _ _ HM.out.b (fun hHeld => ?_)
        clear hK hHeld HN
        revert HM ge_g8 ne_g7_g8
        obtain ⟨g8, hg⟩ : ∃ g, g = (Wn0).heap.size := ⟨_, rfl⟩
        obtain ⟨Wn1, hW⟩ : ∃ W, W = (Wn0).alloc (.cells #[.int .i64 0, .int .i64 0] 30) := ⟨_, rfl⟩
        rw [← hg, ← hW]
        clear hg hW
        intro HM ne_g7_g8 ge_g8
        have HN : Hid (Bn W0 Wn1 [(g7, 30, #[.int .i64 0, .int .i64 0]), (g8, 30, #[.int .i64 0, .int .i64 0])]) := HM
        clear HM
        have hHeld := HN.out.b
        try simp only [Act.put, List.setIfInBounds_toArray, List.set_cons_zero, List.set_cons_succ]
        clear hHeld
        refine wpAnyH_ready (rs := [6]) (by kernel_rfl) (by simp) ?_
        refine AllReadyH.cons (o := _) rfl (fun K hK => ?_) AllReadyH.nil
        rw [if_pos (by rfl)]
        refine wp_allocPt 6 rfl rfl ?_
        have HM := Lib.hid (HN.out.push _ rfl 30 #[.int .i64 0, .int .i64 0])
        have ne_g7_g6 : g7 ≠ (Wn1).heap.size := by have := (HN.out.get 0 rfl).lt; omega
        have ne_g8_g6 : g8 ≠ (Wn1).heap.size := by have := (HN.out.get 1 rfl).lt; omega
        have ge_g6 : W0.heap.size ≤ (Wn1).heap.size := HN.out.b.size
        refine hK.out _ _ HM.out.b (fun hHeld => ?_)
        clear hK hHeld HN
        revert HM ge_g6 ne_g7_g6 ne_g8_g6
        obtain ⟨g6, hg⟩ : ∃ g, g = (Wn1).heap.size := ⟨_, rfl⟩
        obtain ⟨Wn2, hW⟩ : ∃ W, W = (Wn1).alloc (.cells #[.int .i64 0, .int .i64 0] 30) := ⟨_, rfl⟩
        rw [← hg, ← hW]
        clear hg hW
        intro HM ne_g7_g6 ne_g8_g6 ge_g6
        have HN : Hid (Bn W0 Wn2 [(g7, 30, #[.int .i64 0, .int .i64 0]), (g8, 30, #[.int .i64 0, .int .i64 0]), (g6, 30, #[.int .i64 0, .int .i64 0])]) := HM
        clear HM
        have hHeld := HN.out.b
        try simp only [Act.put, List.setIfInBounds_toArray, List.set_cons_zero, List.set_cons_succ]
        clear hHeld
        refine wpAnyH_ready (rs := [9]) (by kernel_rfl) (by simp) ?_
        refine AllReadyH.cons (o := _) rfl (fun K hK => ?_) AllReadyH.nil
        rw [if_pos (by rfl)]
        refine wp_store_row 30 _ _ rfl g6 #[.int .i64 c0, .int .i64 c1] rfl rfl 30 #[.int .i64 0, .int .i64 0] (HN.out.get 2 rfl) (infoPt (0, 0)) rfl (by simp [Value.oneCell']) ?_
        have HM : Hid (Bn W0 (Wn2.setRow g6 #[.int .i64 c0, .int .i64 c1]) [(g7, 30, #[.int .i64 0, .int .i64 0]), (g8, 30, #[.int .i64 0, .int .i64 0]), (g6, 30, #[.int .i64 c0, .int .i64 c1])]) := Lib.hid (HN.out.row 2 rfl ge_g6 (by (intro j y hj hy; rcases j with _ | _ | _ | _ | _ | _ | j <;> first | exact absurd rfl hj | (simp only [List.getElem?_cons_zero, List.getElem?_cons_succ, Option.some.injEq] at hy; subst hy; dsimp only; omega) | (simp at hy; done))) #[.int .i64 c0, .int .i64 c1])
        refine hK.out _ _ HM.out.b (fun hHeld => ?_)
        clear hK hHeld HN
        have HN := HM
        clear HM
        have hHeld := HN.out.b
        try simp only [Act.put, List.setIfInBounds_toArray, List.set_cons_zero, List.set_cons_succ]
        clear hHeld
        refine wpAnyH_ready (rs := [10]) (by kernel_rfl) (by simp) ?_
        refine AllReadyH.cons (o := _) rfl (fun K hK => ?_) AllReadyH.nil
        rw [if_pos (by rfl)]
        refine wp_store_row 30 _ _ rfl g7 #[.int .i64 m0, .int .i64 m1] rfl rfl 30 #[.int .i64 0, .int .i64 0] (HN.out.get 0 rfl) (infoPt (0, 0)) rfl (by simp [Value.oneCell']) ?_
        have HM : Hid (Bn W0 ((Wn2.setRow g6 #[.int .i64 c0, .int .i64 c1]).setRow g7 #[.int .i64 m0, .int .i64 m1]) [(g7, 30, #[.int .i64 m0, .int .i64 m1]), (g8, 30, #[.int .i64 0, .int .i64 0]), (g6, 30, #[.int .i64 c0, .int .i64 c1])]) := Lib.hid (HN.out.row 0 rfl ge_g7 (by (intro j y hj hy; rcases j with _ | _ | _ | _ | _ | _ | j <;> first | exact absurd rfl hj | (simp only [List.getElem?_cons_zero, List.getElem?_cons_succ, Option.some.injEq] at hy; subst hy; dsimp only; omega) | (simp at hy; done))) #[.int .i64 m0, .int .i64 m1])
        refine hK.out _ _ HM.out.b (fun hHeld => ?_)
        clear hK hHeld HN
        have HN := HM
        clear HM
        have hHeld := HN.out.b
        try simp only [Act.put, List.setIfInBounds_toArray, List.set_cons_zero, List.set_cons_succ]
        clear hHeld
        refine wpAnyH_ready (rs := [11]) (by kernel_rfl) (by simp) ?_
        refine AllReadyH.cons (o := _) rfl (fun K hK => ?_) AllReadyH.nil
        rw [if_pos (by rfl)]
        refine wp_store_row 30 _ _ rfl g8 #[.int .i64 q0, .int .i64 q1] rfl rfl 30 #[.int .i64 0, .int .i64 0] (HN.out.get 1 rfl) (infoPt (0, 0)) rfl (by simp [Value.oneCell']) ?_
        have HM : Hid (Bn W0 (((Wn2.setRow g6 #[.int .i64 c0, .int .i64 c1]).setRow g7 #[.int .i64 m0, .int .i64 m1]).setRow g8 #[.int .i64 q0, .int .i64 q1]) [(g7, 30, #[.int .i64 m0, .int .i64 m1]), (g8, 30, #[.int .i64 q0, .int .i64 q1]), (g6, 30, #[.int .i64 c0, .int .i64 c1])]) := Lib.hid (HN.out.row 1 rfl ge_g8 (by (intro j y hj hy; rcases j with _ | _ | _ | _ | _ | _ | j <;> first | exact absurd rfl hj | (simp only [List.getElem?_cons_zero, List.getElem?_cons_succ, Option.some.injEq] at hy; subst hy; dsimp only; omega) | (simp at hy; done))) #[.int .i64 q0, .int .i64 q1])
        refine hK.out _ _ HM.out.b (fun hHeld => ?_)
        clear hK hHeld HN
        have HN := HM
        clear HM
        have hHeld := HN.out.b
        try simp only [Act.put, List.setIfInBounds_toArray, List.set_cons_zero, List.set_cons_succ]
        clear hHeld
        refine wpAnyH_done (by kernel_rfl) ?_ _
        go_wp2_with fail
        go_meet
        exact ⟨g6, g7, g8, rfl, rfl, rfl, Bn.of3 HN.out.b (HN.out.get 2 rfl) (HN.out.get 0 rfl) (HN.out.get 1 rfl), ge_g6, ge_g7, ge_g8⟩
    · rw [if_pos (by rfl)]
      refine wp_allocPt 8 rfl rfl ?_
      have HM := Lib.hid (HN.out.push _ rfl 30 #[.int .i64 0, .int .i64 0])
      have ge_g8 : W0.heap.size ≤ (W0.drew).heap.size := HN.out.b.size
      refine hK.out _ _ HM.out.b (fun hHeld => ?_)
      clear hK hHeld HN
      revert HM ge_g8 
      obtain ⟨g8, hg⟩ : ∃ g, g = (W0.drew).heap.size := ⟨_, rfl⟩
      obtain ⟨Wn0, hW⟩ : ∃ W, W = (W0.drew).alloc (.cells #[.int .i64 0, .int .i64 0] 30) := ⟨_, rfl⟩
      rw [← hg, ← hW]
      clear hg hW
      intro HM  ge_g8
      have HN : Hid (Bn W0 Wn0 [(g8, 30, #[.int .i64 0, .int .i64 0])]) := HM
      clear HM
      have hHeld := HN.out.b
      try simp only [Act.put, List.setIfInBounds_toArray, List.set_cons_zero, List.set_cons_succ]
      clear hHeld
      refine wpAnyH_ready (rs := [6, 7]) (by kernel_rfl) (by simp) ?_
      refine AllReadyH.cons (o := _) rfl (fun K hK => ?_) (AllReadyH.cons (o := _) rfl (fun K hK => ?_) AllReadyH.nil)
      · rw [if_pos (by rfl)]
        refine wp_allocPt 6 rfl rfl ?_
        have HM := Lib.hid (HN.out.push _ rfl 30 #[.int .i64 0, .int .i64 0])
        have ne_g8_g6 : g8 ≠ (Wn0).heap.size := by have := (HN.out.get 0 rfl).lt; omega
        have ge_g6 : W0.heap.size ≤ (Wn0).heap.size := HN.out.b.size
        refine hK.out _ _ HM.out.b (fun hHeld => ?_)
        clear hK hHeld HN
        revert HM ge_g6 ne_g8_g6
        obtain ⟨g6, hg⟩ : ∃ g, g = (Wn0).heap.size := ⟨_, rfl⟩
        obtain ⟨Wn1, hW⟩ : ∃ W, W = (Wn0).alloc (.cells #[.int .i64 0, .int .i64 0] 30) := ⟨_, rfl⟩
        rw [← hg, ← hW]
        clear hg hW
        intro HM ne_g8_g6 ge_g6
        have HN : Hid (Bn W0 Wn1 [(g8, 30, #[.int .i64 0, .int .i64 0]), (g6, 30, #[.int .i64 0, .int .i64 0])]) := HM
        clear HM
        have hHeld := HN.out.b
        try simp only [Act.put, List.setIfInBounds_toArray, List.set_cons_zero, List.set_cons_succ]
        clear hHeld
        refine wpAnyH_ready (rs := [7]) (by kernel_rfl) (by simp) ?_
        refine AllReadyH.cons (o := _) rfl (fun K hK => ?_) AllReadyH.nil
        rw [if_pos (by rfl)]
        refine wp_allocPt 7 rfl rfl ?_
        have HM := Lib.hid (HN.out.push _ rfl 30 #[.int .i64 0, .int .i64 0])
        have ne_g8_g7 : g8 ≠ (Wn1).heap.size := by have := (HN.out.get 0 rfl).lt; omega
        have ne_g6_g7 : g6 ≠ (Wn1).heap.size := by have := (HN.out.get 1 rfl).lt; omega
        have ge_g7 : W0.heap.size ≤ (Wn1).heap.size := HN.out.b.size
        refine hK.out _ _ HM.out.b (fun hHeld => ?_)
        clear hK hHeld HN
        revert HM ge_g7 ne_g8_g7 ne_g6_g7
        obtain ⟨g7, hg⟩ : ∃ g, g = (Wn1).heap.size := ⟨_, rfl⟩
        obtain ⟨Wn2, hW⟩ : ∃ W, W = (Wn1).alloc (.cells #[.int .i64 0, .int .i64 0] 30) := ⟨_, rfl⟩
        rw [← hg, ← hW]
        clear hg hW
        intro HM ne_g8_g7 ne_g6_g7 ge_g7
        have HN : Hid (Bn W0 Wn2 [(g8, 30, #[.int .i64 0, .int .i64 0]), (g6, 30, #[.int .i64 0, .int .i64 0]), (g7, 30, #[.int .i64 0, .int .i64 0])]) := HM
        clear HM
        have hHeld := HN.out.b
        try simp only [Act.put, List.setIfInBounds_toArray, List.set_cons_zero, List.set_cons_succ]
        clear hHeld
        refine wpAnyH_ready (rs := [9]) (by kernel_rfl) (by simp) ?_
        refine AllReadyH.cons (o := _) rfl (fun K hK => ?_) AllReadyH.nil
        rw [if_pos (by rfl)]
        refine wp_store_row 30 _ _ rfl g6 #[.int .i64 c0, .int .i64 c1] rfl rfl 30 #[.int .i64 0, .int .i64 0] (HN.out.get 1 rfl) (infoPt (0, 0)) rfl (by simp [Value.oneCell']) ?_
        have HM : Hid (Bn W0 (Wn2.setRow g6 #[.int .i64 c0, .int .i64 c1]) [(g8, 30, #[.int .i64 0, .int .i64 0]), (g6, 30, #[.int .i64 c0, .int .i64 c1]), (g7, 30, #[.int .i64 0, .int .i64 0])]) := Lib.hid (HN.out.row 1 rfl ge_g6 (by (intro j y hj hy; rcases j with _ | _ | _ | _ | _ | _ | j <;> first | exact absurd rfl hj | (simp only [List.getElem?_cons_zero, List.getElem?_cons_succ, Option.some.injEq] at hy; subst hy; dsimp only; omega) | (simp at hy; done))) #[.int .i64 c0, .int .i64 c1])
        refine hK.out _ _ HM.out.b (fun hHeld => ?_)
        clear hK hHeld HN
        have HN := HM
        clear HM
        have hHeld := HN.out.b
        try simp only [Act.put, List.setIfInBounds_toArray, List.set_cons_zero, List.set_cons_succ]
        clear hHeld
        refine wpAnyH_ready (rs := [10]) (by kernel_rfl) (by simp) ?_
        refine AllReadyH.cons (o := _) rfl (fun K hK => ?_) AllReadyH.nil
        rw [if_pos (by rfl)]
        refine wp_store_row 30 _ _ rfl g7 #[.int .i64 m0, .int .i64 m1] rfl rfl 30 #[.int .i64 0, .int .i64 0] (HN.out.get 2 rfl) (infoPt (0, 0)) rfl (by simp [Value.oneCell']) ?_
        have HM : Hid (Bn W0 ((Wn2.setRow g6 #[.int .i64 c0, .int .i64 c1]).setRow g7 #[.int .i64 m0, .int .i64 m1]) [(g8, 30, #[.int .i64 0, .int .i64 0]), (g6, 30, #[.int .i64 c0, .int .i64 c1]), (g7, 30, #[.int .i64 m0, .int .i64 m1])]) := Lib.hid (HN.out.row 2 rfl ge_g7 (by (intro j y hj hy; rcases j with _ | _ | _ | _ | _ | _ | j <;> first | exact absurd rfl hj | (simp only [List.getElem?_cons_zero, List.getElem?_cons_succ, Option.some.injEq] at hy; subst hy; dsimp only; omega) | (simp at hy; done))) #[.int .i64 m0, .int .i64 m1])
        refine hK.out _ _ HM.out.b (fun hHeld => ?_)
        clear hK hHeld HN
        have HN := HM
        clear HM
        have hHeld := HN.out.b
        try simp only [Act.put, List.setIfInBounds_toArray, List.set_cons_zero, List.set_cons_succ]
        clear hHeld
        refine wpAnyH_ready (rs := [11]) (by kernel_rfl) (by simp) ?_
        refine AllReadyH.cons (o := _) rfl (fun K hK => ?_) AllReadyH.nil
        rw [if_pos (by rfl)]
        refine wp_store_row 30 _ _ rfl g8 #[.int .i64 q0, .int .i64 q1] rfl rfl 30 #[.int .i64 0, .int .i64 0] (HN.out.get 0 rfl) (infoPt (0, 0)) rfl (by simp [Value.oneCell']) ?_
        have HM : Hid (Bn W0 (((Wn2.setRow g6 #[.int .i64 c0, .int .i64 c1]).setRow g7 #[.int .i64 m0, .int .i64 m1]).setRow g8 #[.int .i64 q0, .int .i64 q1]) [(g8, 30, #[.int .i64 q0, .int .i64 q1]), (g6, 30, #[.int .i64 c0, .int .i64 c1]), (g7, 30, #[.int .i64 m0, .int .i64 m1])]) := Lib.hid (HN.out.row 0 rfl ge_g8 (by (intro j y hj hy; rcases j with _ | _ | _ | _ | _ | _ | j <;> first | exact absurd rfl hj | (simp only [List.getElem?_cons_zero, List.getElem?_cons_succ, Option.some.injEq] at hy; subst hy; dsimp only; omega) | (simp at hy; done))) #[.int .i64 q0, .int .i64 q1])
        refine hK.out _ _ HM.out.b (fun hHeld => ?_)
        clear hK hHeld HN
        have HN := HM
        clear HM
        have hHeld := HN.out.b
        try simp only [Act.put, List.setIfInBounds_toArray, List.set_cons_zero, List.set_cons_succ]
        clear hHeld
        refine wpAnyH_done (by kernel_rfl) ?_ _
        go_wp2_with fail
        go_meet
        exact ⟨g6, g7, g8, rfl, rfl, rfl, Bn.of3 HN.out.b (HN.out.get 1 rfl) (HN.out.get 2 rfl) (HN.out.get 0 rfl), ge_g6, ge_g7, ge_g8⟩
      · rw [if_pos (by rfl)]
        refine wp_allocPt 7 rfl rfl ?_
        have HM := Lib.hid (HN.out.push _ rfl 30 #[.int .i64 0, .int .i64 0])
        have ne_g8_g7 : g8 ≠ (Wn0).heap.size := by have := (HN.out.get 0 rfl).lt; omega
        have ge_g7 : W0.heap.size ≤ (Wn0).heap.size := HN.out.b.size
        refine hK.out _ _ HM.out.b (fun hHeld => ?_)
        clear hK hHeld HN
        revert HM ge_g7 ne_g8_g7
        obtain ⟨g7, hg⟩ : ∃ g, g = (Wn0).heap.size := ⟨_, rfl⟩
        obtain ⟨Wn1, hW⟩ : ∃ W, W = (Wn0).alloc (.cells #[.int .i64 0, .int .i64 0] 30) := ⟨_, rfl⟩
        rw [← hg, ← hW]
        clear hg hW
        intro HM ne_g8_g7 ge_g7
        have HN : Hid (Bn W0 Wn1 [(g8, 30, #[.int .i64 0, .int .i64 0]), (g7, 30, #[.int .i64 0, .int .i64 0])]) := HM
        clear HM
        have hHeld := HN.out.b
        try simp only [Act.put, List.setIfInBounds_toArray, List.set_cons_zero, List.set_cons_succ]
        clear hHeld
        refine wpAnyH_ready (rs := [6]) (by kernel_rfl) (by simp) ?_
        refine AllReadyH.cons (o := _) rfl (fun K hK => ?_) AllReadyH.nil
        rw [if_pos (by rfl)]
        refine wp_allocPt 6 rfl rfl ?_
        have HM := Lib.hid (HN.out.push _ rfl 30 #[.int .i64 0, .int .i64 0])
        have ne_g8_g6 : g8 ≠ (Wn1).heap.size := by have := (HN.out.get 0 rfl).lt; omega
        have ne_g7_g6 : g7 ≠ (Wn1).heap.size := by have := (HN.out.get 1 rfl).lt; omega
        have ge_g6 : W0.heap.size ≤ (Wn1).heap.size := HN.out.b.size
        refine hK.out _ _ HM.out.b (fun hHeld => ?_)
        clear hK hHeld HN
        revert HM ge_g6 ne_g8_g6 ne_g7_g6
        obtain ⟨g6, hg⟩ : ∃ g, g = (Wn1).heap.size := ⟨_, rfl⟩
        obtain ⟨Wn2, hW⟩ : ∃ W, W = (Wn1).alloc (.cells #[.int .i64 0, .int .i64 0] 30) := ⟨_, rfl⟩
        rw [← hg, ← hW]
        clear hg hW
        intro HM ne_g8_g6 ne_g7_g6 ge_g6
        have HN : Hid (Bn W0 Wn2 [(g8, 30, #[.int .i64 0, .int .i64 0]), (g7, 30, #[.int .i64 0, .int .i64 0]), (g6, 30, #[.int .i64 0, .int .i64 0])]) := HM
        clear HM
        have hHeld := HN.out.b
        try simp only [Act.put, List.setIfInBounds_toArray, List.set_cons_zero, List.set_cons_succ]
        clear hHeld
        refine wpAnyH_ready (rs := [9]) (by kernel_rfl) (by simp) ?_
        refine AllReadyH.cons (o := _) rfl (fun K hK => ?_) AllReadyH.nil
        rw [if_pos (by rfl)]
        refine wp_store_row 30 _ _ rfl g6 #[.int .i64 c0, .int .i64 c1] rfl rfl 30 #[.int .i64 0, .int .i64 0] (HN.out.get 2 rfl) (infoPt (0, 0)) rfl (by simp [Value.oneCell']) ?_
        have HM : Hid (Bn W0 (Wn2.setRow g6 #[.int .i64 c0, .int .i64 c1]) [(g8, 30, #[.int .i64 0, .int .i64 0]), (g7, 30, #[.int .i64 0, .int .i64 0]), (g6, 30, #[.int .i64 c0, .int .i64 c1])]) := Lib.hid (HN.out.row 2 rfl ge_g6 (by (intro j y hj hy; rcases j with _ | _ | _ | _ | _ | _ | j <;> first | exact absurd rfl hj | (simp only [List.getElem?_cons_zero, List.getElem?_cons_succ, Option.some.injEq] at hy; subst hy; dsimp only; omega) | (simp at hy; done))) #[.int .i64 c0, .int .i64 c1])
        refine hK.out _ _ HM.out.b (fun hHeld => ?_)
        clear hK hHeld HN
        have HN := HM
        clear HM
        have hHeld := HN.out.b
        try simp only [Act.put, List.setIfInBounds_toArray, List.set_cons_zero, List.set_cons_succ]
        clear hHeld
        refine wpAnyH_ready (rs := [10]) (by kernel_rfl) (by simp) ?_
        refine AllReadyH.cons (o := _) rfl (fun K hK => ?_) AllReadyH.nil
        rw [if_pos (by rfl)]
        refine wp_store_row 30 _ _ rfl g7 #[.int .i64 m0, .int .i64 m1] rfl rfl 30 #[.int .i64 0, .int .i64 0] (HN.out.get 1 rfl) (infoPt (0, 0)) rfl (by simp [Value.oneCell']) ?_
        have HM : Hid (Bn W0 ((Wn2.setRow g6 #[.int .i64 c0, .int .i64 c1]).setRow g7 #[.int .i64 m0, .int .i64 m1]) [(g8, 30, #[.int .i64 0, .int .i64 0]), (g7, 30, #[.int .i64 m0, .int .i64 m1]), (g6, 30, #[.int .i64 c0, .int .i64 c1])]) := Lib.hid (HN.out.row 1 rfl ge_g7 (by (intro j y hj hy; rcases j with _ | _ | _ | _ | _ | _ | j <;> first | exact absurd rfl hj | (simp only [List.getElem?_cons_zero, List.getElem?_cons_succ, Option.some.injEq] at hy; subst hy; dsimp only; omega) | (simp at hy; done))) #[.int .i64 m0, .int .i64 m1])
        refine hK.out _ _ HM.out.b (fun hHeld => ?_)
        clear hK hHeld HN
        have HN := HM
        clear HM
        have hHeld := HN.out.b
        try simp only [Act.put, List.setIfInBounds_toArray, List.set_cons_zero, List.set_cons_succ]
        clear hHeld
        refine wpAnyH_ready (rs := [11]) (by kernel_rfl) (by simp) ?_
        refine AllReadyH.cons (o := _) rfl (fun K hK => ?_) AllReadyH.nil
        rw [if_pos (by rfl)]
        refine wp_store_row 30 _ _ rfl g8 #[.int .i64 q0, .int .i64 q1] rfl rfl 30 #[.int .i64 0, .int .i64 0] (HN.out.get 0 rfl) (infoPt (0, 0)) rfl (by simp [Value.oneCell']) ?_
        have HM : Hid (Bn W0 (((Wn2.setRow g6 #[.int .i64 c0, .int .i64 c1]).setRow g7 #[.int .i64 m0, .int .i64 m1]).setRow g8 #[.int .i64 q0, .int .i64 q1]) [(g8, 30, #[.int .i64 q0, .int .i64 q1]), (g7, 30, #[.int .i64 m0, .int .i64 m1]), (g6, 30, #[.int .i64 c0, .int .i64 c1])]) := Lib.hid (HN.out.row 0 rfl ge_g8 (by (intro j y hj hy; rcases j with _ | _ | _ | _ | _ | _ | j <;> first | exact absurd rfl hj | (simp only [List.getElem?_cons_zero, List.getElem?_cons_succ, Option.some.injEq] at hy; subst hy; dsimp only; omega) | (simp at hy; done))) #[.int .i64 q0, .int .i64 q1])
        refine hK.out _ _ HM.out.b (fun hHeld => ?_)
        clear hK hHeld HN
        have HN := HM
        clear HM
        have hHeld := HN.out.b
        try simp only [Act.put, List.setIfInBounds_toArray, List.set_cons_zero, List.set_cons_succ]
        clear hHeld
        refine wpAnyH_done (by kernel_rfl) ?_ _
        go_wp2_with fail
        go_meet
        exact ⟨g6, g7, g8, rfl, rfl, rfl, Bn.of3 HN.out.b (HN.out.get 2 rfl) (HN.out.get 1 rfl) (HN.out.get 0 rfl), ge_g6, ge_g7, ge_g8⟩
  case rest =>
    obtain ⟨g6, g7, g8, rfl, rfl, rfl, hbn, hg6, hg7, hg8⟩ := hcut
    obtain ⟨W1, rfl⟩ : ∃ W1, W1 = wc := ⟨_, rfl⟩
    have HBN := Lib.hid hbn
    have hb1 := HB0.out.b.trans (hbn.b.mono HB0.out.b.size)
    have HB1 := Lib.hid hb1
    have HO1 := Lib.hid (HO.out.later hb1)
    have hsz := HB0.out.b.size
    have HM : Hid (∀ k, k ∈ M → k < w.heap.size) := Lib.hid HO.out.size
    have HNM : Hid (g4 ∉ M ∧ g5 ∉ M ∧ g6 ∉ M ∧ g7 ∉ M ∧ g8 ∉ M) := Lib.hid ⟨fun h => by have := HM.out _ h; have := HGE.out; omega, fun h => by have := HM.out _ h; have := HGE.out; omega, fun h => by have := HM.out _ h; omega, fun h => by have := HM.out _ h; omega, fun h => by have := HM.out _ h; omega⟩
    have SS : Hid (∀ W, Tch M W1 W → W.cell? ⟨g6, 0, none⟩ = some (.int .i64 c0) ∧ W.cell? ⟨g6, 1, none⟩ = some (.int .i64 c1) ∧ W.cell? ⟨g7, 0, none⟩ = some (.int .i64 m0) ∧ W.cell? ⟨g7, 1, none⟩ = some (.int .i64 m1) ∧ W.cell? ⟨g8, 0, none⟩ = some (.int .i64 q0) ∧ W.cell? ⟨g8, 1, none⟩ = some (.int .i64 q1)) := Lib.hid fun W ht => by
      have h6 := ht.blk (HBN.out.get 0 rfl) HNM.out.2.2.1
      have h7 := ht.blk (HBN.out.get 1 rfl) HNM.out.2.2.2.1
      have h8 := ht.blk (HBN.out.get 2 rfl) HNM.out.2.2.2.2
      exact ⟨h6.cell 0, h6.cell 1, h7.cell 0, h7.cell 1, h8.cell 0, h8.cell 1⟩
    have SE : Hid (∀ W, Tch M W1 W → W.cell? ⟨g4, 4, none⟩ = some (.int .i64 d0) ∧ W.cell? ⟨g4, 5, none⟩ = some (.int .i64 d1) ∧ W.cell? ⟨g5, 4, none⟩ = some (.int .i64 f0) ∧ W.cell? ⟨g5, 5, none⟩ = some (.int .i64 f1)) := Lib.hid fun W ht => by
      have h4 := ht.blk ((HB0.out.get 0 rfl).below HBN.out.b (HB0.out.get 0 rfl).lt) HNM.out.1
      have h5 := ht.blk ((HB0.out.get 1 rfl).below HBN.out.b (HB0.out.get 1 rfl).lt) HNM.out.2.1
      exact ⟨h4.cell 4, h4.cell 5, h5.cell 4, h5.cell 5⟩
    have HBS : Hid (B ≤ W1.heap.size) := Lib.hid (Nat.le_trans hBs hb1.size)
    have HT1 : Hid (∀ W, Below W1.heap.size W1 W → Num.Tab W) := Lib.hid fun W hW => tab_below (tab_below HT.out hb1) hW
    have HTW : Hid (Tch M w W1) := Lib.hid (tch_of_below hb1)
    clear hbn hb1 hsz hg6 hg7 hg8 HT HO
    have hcB : Inb 1000000000000 (c0, c1) := HC.out.mono (by omega)
    have hmB : Inb 1000000000000 (m0, m1) := HN1.out.mono (by omega)
    have hqB : Inb 1000000000000 (q0, q1) := HN2.out.mono (by omega)
    have HCB := Lib.hid hcB
    have HMB := Lib.hid hmB
    have HQB := Lib.hid hqB
    clear hcB hmB hqB
    obtain ⟨o0, o1, _⟩ := HO1.out.cells
    by_cases hj : j = 1
    · subst hj
      go_wp2_with fail
      have HTq : Hid (Tch M W1 W1.drew) := Lib.hid (Tch.refl _ _).drew
      have HOq : Hid (OL wd 1 e B g L W1.drew M) := Lib.hid (HO1.out.later (Below.refl _ _).drew)
      have HK := (⟨(SS.out _ HTq.out).1, (SS.out _ HTq.out).2.1, HOq.out.cells.1⟩ : W1.drew.cell? ⟨g6, 0, none⟩ = some (.int .i64 c0) ∧ W1.drew.cell? ⟨g6, 1, none⟩ = some (.int .i64 c1) ∧ W1.drew.cell? ⟨g, 0, none⟩ = some (.int .i64 wd))
      clear o0 o1
      go_region_held3 (fun W => W.cell? ⟨g6, 0, none⟩ = some (.int .i64 c0) ∧ W.cell? ⟨g6, 1, none⟩ = some (.int .i64 c1) ∧ W.cell? ⟨g, 0, none⟩ = some (.int .i64 wd))
        (first | exact HK | go_keep)
        (first
          | (go_at_call 51; refine (circle_any (c0, c1) wd _ w1 w2 HC.out (HT1.out W1.drew (Below.refl _ _).drew)).mono ?_; rintro e' w' ⟨p, rfl, hp, hpg, hbq⟩; have HP := Lib.hid hp; have HPG := Lib.hid hpg; have HBQ := Lib.hid hbq; have HTq2 := Lib.hid (HTq.out.below hbq); have HOq2 := Lib.hid (HOq.out.later hbq); clear HK; have HK := (⟨(SS.out _ HTq2.out).1, (SS.out _ HTq2.out).2.1, HOq2.out.cells.1⟩ : w'.cell? ⟨g6, 0, none⟩ = some (.int .i64 c0) ∧ w'.cell? ⟨g6, 1, none⟩ = some (.int .i64 c1) ∧ w'.cell? ⟨g, 0, none⟩ = some (.int .i64 wd)); clear hp hpg hbq)
          | (go_at_call 33; refine (add_any HOq.out _ _ (crc wd (c0, c1)) _ HBQ.out HP.out HPG.out HBS.out (by rw [crc_len]; omega) (by rw [crc_len]; omega) (crc_in w1 w2 HC.out) (by omega) HG.out).mono ?_; rintro e' w' ⟨rfl, hout⟩; have HOUT := Lib.hid hout; clear HK; have HK := (by obtain ⟨M', h1, h2, h3⟩ := hout; exact ⟨(SS.out _ (HTq.out.trans h2 fun k hk => Or.inl hk)).1, (SS.out _ (HTq.out.trans h2 fun k hk => Or.inl hk)).2.1, h1.cells.1⟩ : w'.cell? ⟨g6, 0, none⟩ = some (.int .i64 c0) ∧ w'.cell? ⟨g6, 1, none⟩ = some (.int .i64 c1) ∧ w'.cell? ⟨g, 0, none⟩ = some (.int .i64 wd)); clear hout))
      have HFIN := Lib.hid (out_step (HTW.out.trans HTq.out fun k hk => Or.inl hk) (fun k hk => Or.inl hk) HOUT.out)
      clear HK
      go_wp2_with fail
      refine bodyPost_ret (results_none rfl _ _ _) rfl ?_
      refine ⟨rfl, ?_⟩
      unfold crn
      rw [if_pos rfl]
      exact HFIN.out
    · have hj1 : (j == 1) = false := by simpa using hj
      have HJ := Lib.hid hj
      have HOc := Lib.hid HO1.out
      have HTc := Lib.hid (Tch.refl M W1)
      have HMc : Hid (∀ k ∈ M, k ∈ M ∨ W1.heap.size ≤ k) := Lib.hid fun k hk => Or.inl hk
      have HLn : Hid (L.length ≤ 1000000) := Lib.hid (by omega)
      have HGn := HG
      have SSX := SS
      obtain ⟨P1, hP1⟩ : ∃ P, put L (tri (c0, c1) (m0, m1) (q0, q1) true) = P := ⟨_, rfl⟩
      obtain ⟨P2, hP2⟩ : ∃ P, put P1 (tri (c0, c1) (m0, m1) (q0, q1) false) = P := ⟨_, rfl⟩
      have HP1 := Lib.hid hP1
      have HP2 := Lib.hid hP2
      have HL1 : Hid (P1.length ≤ 1000000) := Lib.hid (by have := put_len L (tri (c0, c1) (m0, m1) (q0, q1) true); rw [hP1] at this; omega)
      have HL2 : Hid (P2.length ≤ 1000000) := Lib.hid (by have := put_len L (tri (c0, c1) (m0, m1) (q0, q1) true); have h2 := put_len P1 (tri (c0, c1) (m0, m1) (q0, q1) false); rw [hP1] at this; rw [hP2] at h2; omega)
      have HG1 : Hid (GL P1) := Lib.hid (by rw [← hP1]; exact HG.out.put (by rw [tri_len]; omega) (by rw [tri_len]; omega))
      have HG2 : Hid (GL P2) := Lib.hid (by rw [← hP2]; exact HG1.out.put (by rw [tri_len]; omega) (by rw [tri_len]; omega))
      clear hj hP1 hP2
      go_wp2_with fail
      have HTq := Lib.hid HTc.out.drew
      have HOq := Lib.hid (HOc.out.later (Below.refl _ _).drew)
      have HK := SSX.out _ HTq.out
      go_region_held3 (fun W => W.cell? ⟨g6, 0, none⟩ = some (.int .i64 c0) ∧ W.cell? ⟨g6, 1, none⟩ = some (.int .i64 c1) ∧ W.cell? ⟨g7, 0, none⟩ = some (.int .i64 m0) ∧ W.cell? ⟨g7, 1, none⟩ = some (.int .i64 m1) ∧ W.cell? ⟨g8, 0, none⟩ = some (.int .i64 q0) ∧ W.cell? ⟨g8, 1, none⟩ = some (.int .i64 q1))
        (first | exact HK | go_keep)
        (first
          | (go_at_call_of 34 (Value.int IntKind.i64 m0); refine (plus_any (c0, c1) (m0, m1) _ HCB.out HMB.out).mono ?_; rintro e' w' ⟨rfl, hbq⟩; have HTq := Lib.hid (HTq.out.below hbq); have HOq := Lib.hid (HOq.out.later hbq); have HK := SSX.out _ HTq.out; clear hbq)
          | (go_at_call_of 34 (Value.int IntKind.i64 q0); refine (plus_any (c0, c1) (q0, q1) _ HCB.out HQB.out).mono ?_; rintro e' w' ⟨rfl, hbq⟩; have HTq := Lib.hid (HTq.out.below hbq); have HOq := Lib.hid (HOq.out.later hbq); have HK := SSX.out _ HTq.out; clear hbq)
          | (go_at_call 33; refine (add_any HOq.out _ 3 (tri (c0, c1) (m0, m1) (q0, q1) true) _ ((Below.refl _ _).alloc (Nat.le_refl _) _) (Blk.new _ _ _) (Nat.le_refl _) (Nat.le_trans HBS.out HTq.out.size) (by rw [tri_len]; omega) (by rw [tri_len]; omega) (tri_in HC.out HN1.out HN2.out true) HLn.out HGn.out).mono ?_; rintro e' w' ⟨rfl, hout⟩; have HOUT := Lib.hid (out_step HTq.out HMc.out hout); have HK := SSX.out _ HOUT.out.choose_spec.2.1; clear hout))
      clear HK HOq HTq HOc HTc HMc
      obtain ⟨Mc, ho2, ht2, hm2⟩ := HOUT.out
      have HOc := Lib.hid ho2
      have HTc := Lib.hid ht2
      have HMc := Lib.hid hm2
      clear ho2 ht2 hm2 HOUT
      rw [HP1.out] at HOc
      have HLn := HL1
      have HGn := HG1
      clear o0 o1 hj1
      go_wp2_with fail
      have HTq := Lib.hid HTc.out.drew
      have HOq := Lib.hid (HOc.out.later (Below.refl _ _).drew)
      have HK := SSX.out _ HTq.out
      go_region_held3 (fun W => W.cell? ⟨g6, 0, none⟩ = some (.int .i64 c0) ∧ W.cell? ⟨g6, 1, none⟩ = some (.int .i64 c1) ∧ W.cell? ⟨g7, 0, none⟩ = some (.int .i64 m0) ∧ W.cell? ⟨g7, 1, none⟩ = some (.int .i64 m1) ∧ W.cell? ⟨g8, 0, none⟩ = some (.int .i64 q0) ∧ W.cell? ⟨g8, 1, none⟩ = some (.int .i64 q1))
        (first | exact HK | go_keep)
        (first
          | (go_at_call_of 35 (Value.int IntKind.i64 m0); refine (minus_any (c0, c1) (m0, m1) _ HCB.out HMB.out).mono ?_; rintro e' w' ⟨rfl, hbq⟩; have HTq := Lib.hid (HTq.out.below hbq); have HOq := Lib.hid (HOq.out.later hbq); have HK := SSX.out _ HTq.out; clear hbq)
          | (go_at_call_of 35 (Value.int IntKind.i64 q0); refine (minus_any (c0, c1) (q0, q1) _ HCB.out HQB.out).mono ?_; rintro e' w' ⟨rfl, hbq⟩; have HTq := Lib.hid (HTq.out.below hbq); have HOq := Lib.hid (HOq.out.later hbq); have HK := SSX.out _ HTq.out; clear hbq)
          | (go_at_call 33; refine (add_any HOq.out _ 3 (tri (c0, c1) (m0, m1) (q0, q1) false) _ ((Below.refl _ _).alloc (Nat.le_refl _) _) (Blk.new _ _ _) (Nat.le_refl _) (Nat.le_trans HBS.out HTq.out.size) (by rw [tri_len]; omega) (by rw [tri_len]; omega) (tri_in HC.out HN1.out HN2.out false) HLn.out HGn.out).mono ?_; rintro e' w' ⟨rfl, hout⟩; have HOUT := Lib.hid (out_step HTq.out HMc.out hout); have HK := SSX.out _ HOUT.out.choose_spec.2.1; clear hout))
      clear HK HOq HTq HOc HTc HMc
      obtain ⟨Mc, ho2, ht2, hm2⟩ := HOUT.out
      have HOc := Lib.hid ho2
      have HTc := Lib.hid ht2
      have HMc := Lib.hid hm2
      clear ho2 ht2 hm2 HOUT
      rw [HP2.out] at HOc
      have HLn := HL2
      have HGn := HG2
      obtain ⟨k0, k1, k2, k3, k4, k5⟩ := SS.out _ HTc.out
      obtain ⟨v0, v1, v2, v3⟩ := SE.out _ HTc.out
      obtain ⟨o0, o1, _⟩ := HOc.out.cells
      obtain ⟨⟨i0, i1⟩, ⟨i2, i3⟩, ⟨i4, i5⟩, i6, i7⟩ := HDB.out
      have r0 := mul_in i0 i1 i6 i7
      have r1 := mul_in i2 i3 i4 i5
      obtain ⟨r0, r2⟩ := r0
      obtain ⟨r1, r3⟩ := r1
      obtain ⟨⟨s0, s1⟩, ⟨s2, s3⟩, s4, s5⟩ := k_in w1 w2 HN1.out HN2.out
      dsimp only at s2 s3 s4 s5
      obtain ⟨z, hz⟩ : ∃ z, d0 * f1 - d1 * f0 = z := ⟨_, rfl⟩
      obtain ⟨sq, hsq⟩ : ∃ z, wd * wd = z := ⟨_, rfl⟩
      obtain ⟨K, hK⟩ : ∃ z, sq + 4 * (m0 * q0 + m1 * q1) = z := ⟨_, rfl⟩
      obtain ⟨t0, ht0⟩ : ∃ z, dvr (sq * (m0 + q0)) K = z := ⟨_, rfl⟩
      obtain ⟨t1, ht1⟩ : ∃ z, dvr (sq * (m1 + q1)) K = z := ⟨_, rfl⟩
      have HKV : Hid (kV wd (m0, m1) (q0, q1) = K) := Lib.hid (by unfold kV; dsimp only; rw [hsq, hK])
      have HTV : Hid (tV wd (m0, m1) (q0, q1) = (t0, t1)) := Lib.hid (by unfold tV; rw [HKV.out]; dsimp only; rw [hsq, ht0, ht1])
      have HCR : Hid (crn wd j L (a0, a1) (c0, c1) (b0, b1) = if j = 2 ∨ z = 0 ∨ K ≤ 0 then P2 else if 4 * wd < Num.hypU t0 t1 then P2 else put P2 (mitre (c0, c1) (m0, m1) (t0, t1) (q0, q1) (decide (0 < z)))) := Lib.hid (by
        unfold crn
        rw [if_neg HJ.out, HEM.out, HEQ.out, HP1.out, HP2.out, HZ.out, HKV.out, HTV.out, hz])
      have HT0 := Lib.hid ht0
      have HT1' := Lib.hid ht1
      have HS0 := Lib.hid (show 1 ≤ sq ∧ sq ≤ 16777216 by omega)
      have HK0 := Lib.hid (show -50000000 ≤ K ∧ K ≤ 50331648 by omega)
      clear i0 i1 i2 i3 i4 i5 i6 i7 ht0 ht1
      go_wp2_with fail
      go_quiet (fail)
      have HTc := Lib.hid (HTc.out.below (drew_below (n := nq) (Below.refl _ _)))
      have HOc := Lib.hid (HOc.out.later (drew_below (n := nq) (Below.refl _ _)))
      obtain ⟨Wc, hWc⟩ : ∃ W, w'.drewN nq = W := ⟨_, rfl⟩
      rw [hWc] at HTc HOc
      rw [hWc]
      obtain ⟨k0, k1, k2, k3, k4, k5⟩ := SS.out _ HTc.out
      obtain ⟨o0, o1, _⟩ := HOc.out.cells
      clear hWc
      have HFIN := Lib.hid (out_step HTW.out (fun k hk => Or.inl hk) (⟨Mc, HOc.out, HTc.out, HMc.out⟩ : Out (OL wd j e B g P2) M W1 Wc))
      clear hz hsq r0 r1 r2 r3
      obtain ⟨y4, y5⟩ := HK0.out
      by_cases h2 : j = 2
      · have HR : Hid (crn wd j L (a0, a1) (c0, c1) (b0, b1) = P2) := Lib.hid (by rw [HCR.out, if_pos (Or.inl h2)])
        subst h2
        go_wp2_with fail
        refine bodyPost_ret (results_none rfl _ _ _) rfl ?_
        exact ⟨rfl, by rw [HR.out]; exact HFIN.out⟩
      have h2' : (j == 2) = false := by simpa using h2
      by_cases h3 : z = 0
      · have HR : Hid (crn wd j L (a0, a1) (c0, c1) (b0, b1) = P2) := Lib.hid (by rw [HCR.out, if_pos (Or.inr (Or.inl h3))])
        subst h3
        go_wp2_with fail
        refine bodyPost_ret (results_none rfl _ _ _) rfl ?_
        exact ⟨rfl, by rw [HR.out]; exact HFIN.out⟩
      have h3' : (z == 0) = false := by simpa using h3
      by_cases h4 : K ≤ 0
      · have HR : Hid (crn wd j L (a0, a1) (c0, c1) (b0, b1) = P2) := Lib.hid (by rw [HCR.out, if_pos (Or.inr (Or.inr h4))])
        have h4' : decide (K ≤ 0) = true := by simpa using h4
        go_wp2_with fail
        refine bodyPost_ret (results_none rfl _ _ _) rfl ?_
        exact ⟨rfl, by rw [HR.out]; exact HFIN.out⟩
      have HC2 : Hid (crn wd j L (a0, a1) (c0, c1) (b0, b1) = if 4 * wd < Num.hypU t0 t1 then P2 else put P2 (mitre (c0, c1) (m0, m1) (t0, t1) (q0, q1) (decide (0 < z)))) := Lib.hid (by rw [HCR.out, if_neg (by rintro (h | h | h); exact h2 h; exact h3 h; exact h4 h)])
      have HTI : Hid (Inb 68719476736 (t0, t1)) := Lib.hid (by rw [← HTV.out]; exact tin w1 w2 HN1.out HN2.out (by rw [HKV.out]; omega))
      obtain ⟨u0, hu0⟩ : ∃ z, m0 + q0 = z := ⟨_, rfl⟩
      obtain ⟨u1, hu1⟩ : ∃ z, m1 + q1 = z := ⟨_, rfl⟩
      obtain ⟨N1, hN1⟩ : ∃ z, sq * u0 = z := ⟨_, rfl⟩
      obtain ⟨N2, hN2⟩ : ∃ z, sq * u1 = z := ⟨_, rfl⟩
      have ht0 := HT0.out
      have ht1 := HT1'.out
      rw [hu0, hN1] at ht0
      rw [hu1, hN2] at ht1
      obtain ⟨⟨p0, p1⟩, p2, p3⟩ := HN1.out
      obtain ⟨⟨l0, l1⟩, l2, l3⟩ := HN2.out
      dsimp only at p0 p1 p2 p3 l0 l1 l2 l3
      obtain ⟨y2, y3⟩ := HS0.out
      have hb1 := mul_in (a := sq) (b := u0) (A := 16777216) (B := 4096) (by omega) (by omega) (by omega) (by omega)
      have hb2 := mul_in (a := sq) (b := u1) (A := 16777216) (B := 4096) (by omega) (by omega) (by omega) (by omega)
      rw [hN1] at hb1
      rw [hN2] at hb2
      have HC3 := Lib.hid (fun W => Num.div_is N1 K t0 ht0.symm (by omega) (by omega) (by omega) (by omega) W)
      have HC4 := Lib.hid (fun W => Num.div_is N2 K t1 ht1.symm (by omega) (by omega) (by omega) (by omega) W)
      have X1 : Hid (IntKind.i64.wrap (m0 + q0) = u0) := Lib.hid (by rw [hu0]; exact i64w (by omega) (by omega))
      have X2 : Hid (IntKind.i64.wrap (m1 + q1) = u1) := Lib.hid (by rw [hu1]; exact i64w (by omega) (by omega))
      have X3 : Hid (IntKind.i64.wrap (sq * u0) = N1) := Lib.hid (by rw [hN1]; exact i64w (by omega) (by omega))
      have X4 : Hid (IntKind.i64.wrap (sq * u1) = N2) := Lib.hid (by rw [hN2]; exact i64w (by omega) (by omega))
      clear hu0 hu1 hN1 hN2 ht0 ht1 p0 p1 p2 p3 l0 l1 l2 l3 hb1 hb2
      have h4' : decide (K ≤ 0) = false := by simpa using h4
      go_upto_region 10 with fail
      clear h4' s0 s1 s2 s3 s4 s5 hK k0 k1 h2' h3' y2 y3 y4 y5 o0 o1
      go_cut [12] (fun s wx => ∃ g12, s = .pointer (some ⟨g12, 0, none⟩) ∧ Below Wc.heap.size Wc wx ∧ Blk wx g12 30 #[.int .i64 t0, .int .i64 t1] ∧ Wc.heap.size ≤ g12)
      case first =>
        have x1 := X1.out
        have x2 := X2.out
        have x3 := X3.out
        have x4 := X4.out
        go_region_held3 (fun W => W.cell? ⟨g7, 0, none⟩ = some (.int .i64 m0) ∧ W.cell? ⟨g7, 1, none⟩ = some (.int .i64 m1) ∧ W.cell? ⟨g8, 0, none⟩ = some (.int .i64 q0) ∧ W.cell? ⟨g8, 1, none⟩ = some (.int .i64 q1))
          (go_keep)
          (first
            | (go_at_call_of 52 (Value.int IntKind.i64 N1); refine (HC3.out _).mono ?_; rintro e' w' ⟨rfl, rfl⟩)
            | (go_at_call_of 52 (Value.int IntKind.i64 N2); refine (HC4.out _).mono ?_; rintro e' w' ⟨rfl, rfl⟩))
        all_goals go_wp2_with fail
        all_goals go_meet
        all_goals exact ⟨_, rfl, by first | exact ((Below.refl _ _).drew.alloc (Nat.le_refl _) _) | trace_state, by first | exact Blk.new _ _ _ | trace_state, Nat.le_refl _⟩
      case rest =>
        obtain ⟨g12, rfl, hbx, hg12, hge12⟩ := hcut
        obtain ⟨W9, rfl⟩ : ∃ W9, W9 = wc := ⟨_, rfl⟩
        have HMs := Lib.hid HOc.out.size
        have HT9 := Lib.hid (HTc.out.below hbx)
        have HO9 := Lib.hid (HOc.out.later hbx)
        have HN12 : Hid (g6 ∉ Mc ∧ g7 ∉ Mc ∧ g8 ∉ Mc ∧ g12 ∉ Mc) := Lib.hid (by
          have f : ∀ k, k ∉ M → k < W1.heap.size → k ∉ Mc := fun k h1 h2 h => by
            rcases HMc.out k h with h3 | h3
            · exact h1 h3
            · omega
          exact ⟨f g6 HNM.out.2.2.1 (HBN.out.get 0 rfl).lt, f g7 HNM.out.2.2.2.1 (HBN.out.get 1 rfl).lt, f g8 HNM.out.2.2.2.2 (HBN.out.get 2 rfl).lt, fun h => by have := HMs.out _ h; omega⟩)
        have HG12 := Lib.hid hg12
        have SS9 : Hid (∀ W, Tch Mc W9 W → W.cell? ⟨g6, 0, none⟩ = some (.int .i64 c0) ∧ W.cell? ⟨g6, 1, none⟩ = some (.int .i64 c1) ∧ W.cell? ⟨g7, 0, none⟩ = some (.int .i64 m0) ∧ W.cell? ⟨g7, 1, none⟩ = some (.int .i64 m1) ∧ W.cell? ⟨g8, 0, none⟩ = some (.int .i64 q0) ∧ W.cell? ⟨g8, 1, none⟩ = some (.int .i64 q1) ∧ W.cell? ⟨g12, 0, none⟩ = some (.int .i64 t0) ∧ W.cell? ⟨g12, 1, none⟩ = some (.int .i64 t1)) := Lib.hid fun W ht => by
          have h6 := ht.blk (HT9.out.blk (HBN.out.get 0 rfl) HNM.out.2.2.1) HN12.out.1
          have h7 := ht.blk (HT9.out.blk (HBN.out.get 1 rfl) HNM.out.2.2.2.1) HN12.out.2.1
          have h8 := ht.blk (HT9.out.blk (HBN.out.get 2 rfl) HNM.out.2.2.2.2) HN12.out.2.2.1
          have h12 := ht.blk HG12.out HN12.out.2.2.2
          exact ⟨h6.cell 0, h6.cell 1, h7.cell 0, h7.cell 1, h8.cell 0, h8.cell 1, h12.cell 0, h12.cell 1⟩
        have HW9 : Hid (Tch M w W9) := Lib.hid (HTW.out.trans HT9.out fun k hk => Or.inl hk)
        have HMW : Hid (∀ k ∈ Mc, k ∈ M ∨ w.heap.size ≤ k) := Lib.hid fun k hk => by
          rcases HMc.out k hk with h | h
          · exact Or.inl h
          · exact Or.inr (Nat.le_trans HB1.out.size h)
        have HF9 : Hid (Out (OL wd j e B g P2) M w W9) := Lib.hid ⟨Mc, HO9.out, HW9.out, HMW.out⟩
        have HB9 : Hid (B ≤ W9.heap.size) := Lib.hid (Nat.le_trans HBS.out HT9.out.size)
        clear hbx hg12 hge12 HTc HOc HMc HFIN k2 k3 k4 k5
        have HTc := Lib.hid (Tch.refl Mc W9)
        have HOc := HO9
        have HMc : Hid (∀ k ∈ Mc, k ∈ Mc ∨ W9.heap.size ≤ k) := Lib.hid fun k hk => Or.inl hk
        have SSX := SS9
        obtain ⟨H, hH⟩ : ∃ H, Num.hypU t0 t1 = H := ⟨_, rfl⟩
        have hti := HTI.out
        unfold Inb at hti
        dsimp only at hti
        have CH := fun W => Num.hypot_any t0 t1 (by omega) (by omega) (by omega) (by omega) W
        have hge := hyp_ge (x := t0) (y := t1) (by omega) (by omega)
        rw [hH] at CH hge
        have HCH := Lib.hid CH
        have HHH := Lib.hid hH
        obtain ⟨_, _, z6, z7, z8, z9, k6, k7⟩ := SS9.out _ HTc.out
        obtain ⟨o0, _, _⟩ := HOc.out.cells
        have k8 : IntKind.i64.wrap (4 * wd) = 4 * wd := i64w (by omega) (by omega)
        have HGE0 := Lib.hid hge
        clear CH hti hH hge z6 z7 z8 z9
        go_wp2_with fail
        go_region_held3 (fun W => W.cell? ⟨g12, 0, none⟩ = some (.int .i64 t0) ∧ W.cell? ⟨g12, 1, none⟩ = some (.int .i64 t1) ∧ W.cell? ⟨g, 0, none⟩ = some (.int .i64 wd))
          (go_keep)
          (first | (go_at_call 47; refine (HCH.out _).mono ?_; rintro e' w' ⟨rfl, rfl⟩))
        have HTc : Hid (Tch Mc W9 W9.drew) := Lib.hid (Tch.refl _ _).drew
        have HOc := Lib.hid (HO9.out.later (Below.refl _ _).drew)
        clear k6 k7 k8 o0
        by_cases h5 : 4 * wd < H
        · have h5' : decide (4 * wd < H) = true := by simpa using h5
          have HR : Hid (crn wd j L (a0, a1) (c0, c1) (b0, b1) = P2) := Lib.hid (by rw [HC2.out, HHH.out, if_pos h5])
          have HF10 := Lib.hid (HF9.out.later_ol (Below.refl _ _).drew)
          go_wp2_with fail
          refine bodyPost_ret (results_none rfl _ _ _) rfl ?_
          exact ⟨rfl, by rw [HR.out]; exact HF10.out⟩
        · have h5' : decide (4 * wd < H) = false := by simpa using h5
          have HTS : Hid (Inb 16384 (t0, t1)) := Lib.hid (tsmall (w := wd) w2 HTI.out (by rw [HHH.out]; exact h5))
          have HTB : Hid (Inb 1000000000000 (t0, t1)) := Lib.hid (HTS.out.mono (by omega))
          have HC5 : Hid (crn wd j L (a0, a1) (c0, c1) (b0, b1) = put P2 (mitre (c0, c1) (m0, m1) (t0, t1) (q0, q1) (decide (0 < z)))) := Lib.hid (by rw [HC2.out, HHH.out, if_neg h5])
          by_cases h6 : 0 < z
          · have h6' : decide (0 < z) = true := by simpa using h6
            have H6 := Lib.hid h6'
            go_wp2_with fail
            have HTq := Lib.hid HTc.out.drew
            have HOq := Lib.hid (HOc.out.later (Below.refl _ _).drew)
            have HK := SSX.out _ HTq.out
            go_region_held3 (fun W => W.cell? ⟨g6, 0, none⟩ = some (.int .i64 c0) ∧ W.cell? ⟨g6, 1, none⟩ = some (.int .i64 c1) ∧ W.cell? ⟨g7, 0, none⟩ = some (.int .i64 m0) ∧ W.cell? ⟨g7, 1, none⟩ = some (.int .i64 m1) ∧ W.cell? ⟨g8, 0, none⟩ = some (.int .i64 q0) ∧ W.cell? ⟨g8, 1, none⟩ = some (.int .i64 q1) ∧ W.cell? ⟨g12, 0, none⟩ = some (.int .i64 t0) ∧ W.cell? ⟨g12, 1, none⟩ = some (.int .i64 t1))
              (first | exact HK | go_keep)
              (first
                      | (go_at_call_of 35 (Value.int IntKind.i64 m0); refine (minus_any (c0, c1) (m0, m1) _ HCB.out HMB.out).mono ?_; rintro e' w' ⟨rfl, hbq⟩; have HTq := Lib.hid (HTq.out.below hbq); have HOq := Lib.hid (HOq.out.later hbq); have HK := SSX.out _ HTq.out; clear hbq)
                      | (go_at_call_of 35 (Value.int IntKind.i64 t0); refine (minus_any (c0, c1) (t0, t1) _ HCB.out HTB.out).mono ?_; rintro e' w' ⟨rfl, hbq⟩; have HTq := Lib.hid (HTq.out.below hbq); have HOq := Lib.hid (HOq.out.later hbq); have HK := SSX.out _ HTq.out; clear hbq)
                      | (go_at_call_of 35 (Value.int IntKind.i64 q0); refine (minus_any (c0, c1) (q0, q1) _ HCB.out HQB.out).mono ?_; rintro e' w' ⟨rfl, hbq⟩; have HTq := Lib.hid (HTq.out.below hbq); have HOq := Lib.hid (HOq.out.later hbq); have HK := SSX.out _ HTq.out; clear hbq)
                      | (go_at_call 33; refine (add_any HOq.out _ 4 (mitre (c0, c1) (m0, m1) (t0, t1) (q0, q1) true) _ ((Below.refl _ _).alloc (Nat.le_refl _) _) (Blk.new _ _ _) (Nat.le_refl _) (Nat.le_trans HB9.out HTq.out.size) (by rw [mitre_len]; omega) (by rw [mitre_len]; omega) (mitre_in HC.out HN1.out HTS.out HN2.out true) HLn.out HGn.out).mono ?_; rintro e' w' ⟨rfl, hout⟩; have HOUT := Lib.hid (out_step HTq.out HMc.out hout); have HK := SSX.out _ HOUT.out.choose_spec.2.1; clear hout))
            have HR : Hid (crn wd j L (a0, a1) (c0, c1) (b0, b1) = put P2 (mitre (c0, c1) (m0, m1) (t0, t1) (q0, q1) true)) := Lib.hid (by rw [HC5.out, H6.out])
            have HFIN2 := Lib.hid (out_step HW9.out HMW.out HOUT.out)
            clear HK
            go_wp2_with fail
            go_end0
            exact ⟨rfl, by rw [HR.out]; exact HFIN2.out⟩
          · have h6' : decide (0 < z) = false := by simpa using h6
            have H6 := Lib.hid h6'
            go_wp2_with fail
            have HTq := Lib.hid HTc.out.drew
            have HOq := Lib.hid (HOc.out.later (Below.refl _ _).drew)
            have HK := SSX.out _ HTq.out
            go_region_held3 (fun W => W.cell? ⟨g6, 0, none⟩ = some (.int .i64 c0) ∧ W.cell? ⟨g6, 1, none⟩ = some (.int .i64 c1) ∧ W.cell? ⟨g7, 0, none⟩ = some (.int .i64 m0) ∧ W.cell? ⟨g7, 1, none⟩ = some (.int .i64 m1) ∧ W.cell? ⟨g8, 0, none⟩ = some (.int .i64 q0) ∧ W.cell? ⟨g8, 1, none⟩ = some (.int .i64 q1) ∧ W.cell? ⟨g12, 0, none⟩ = some (.int .i64 t0) ∧ W.cell? ⟨g12, 1, none⟩ = some (.int .i64 t1))
              (first | exact HK | go_keep)
              (first
                      | (go_at_call_of 34 (Value.int IntKind.i64 m0); refine (plus_any (c0, c1) (m0, m1) _ HCB.out HMB.out).mono ?_; rintro e' w' ⟨rfl, hbq⟩; have HTq := Lib.hid (HTq.out.below hbq); have HOq := Lib.hid (HOq.out.later hbq); have HK := SSX.out _ HTq.out; clear hbq)
                      | (go_at_call_of 34 (Value.int IntKind.i64 t0); refine (plus_any (c0, c1) (t0, t1) _ HCB.out HTB.out).mono ?_; rintro e' w' ⟨rfl, hbq⟩; have HTq := Lib.hid (HTq.out.below hbq); have HOq := Lib.hid (HOq.out.later hbq); have HK := SSX.out _ HTq.out; clear hbq)
                      | (go_at_call_of 34 (Value.int IntKind.i64 q0); refine (plus_any (c0, c1) (q0, q1) _ HCB.out HQB.out).mono ?_; rintro e' w' ⟨rfl, hbq⟩; have HTq := Lib.hid (HTq.out.below hbq); have HOq := Lib.hid (HOq.out.later hbq); have HK := SSX.out _ HTq.out; clear hbq)
                      | (go_at_call 33; refine (add_any HOq.out _ 4 (mitre (c0, c1) (m0, m1) (t0, t1) (q0, q1) false) _ ((Below.refl _ _).alloc (Nat.le_refl _) _) (Blk.new _ _ _) (Nat.le_refl _) (Nat.le_trans HB9.out HTq.out.size) (by rw [mitre_len]; omega) (by rw [mitre_len]; omega) (mitre_in HC.out HN1.out HTS.out HN2.out false) HLn.out HGn.out).mono ?_; rintro e' w' ⟨rfl, hout⟩; have HOUT := Lib.hid (out_step HTq.out HMc.out hout); have HK := SSX.out _ HOUT.out.choose_spec.2.1; clear hout))
            have HR : Hid (crn wd j L (a0, a1) (c0, c1) (b0, b1) = put P2 (mitre (c0, c1) (m0, m1) (t0, t1) (q0, q1) false)) := Lib.hid (by rw [HC5.out, H6.out])
            have HFIN2 := Lib.hid (out_step HW9.out HMW.out HOUT.out)
            clear HK
            go_wp2_with fail
            go_end0
            exact ⟨rfl, by rw [HR.out]; exact HFIN2.out⟩
end Go.Proofs.YtflopcogalknhaaDoor.Str
