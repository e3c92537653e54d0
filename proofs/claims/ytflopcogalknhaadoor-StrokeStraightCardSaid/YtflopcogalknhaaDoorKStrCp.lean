/-
  Layer 21: the ends of a stroke.
-/
import Derived.Test.YtflopcogalknhaaDoorKStrDt
set_option linter.unusedVariables false
set_option linter.unusedSimpArgs false
namespace Go.Proofs.YtflopcogalknhaaDoor.Str
open Go.RowKit Go.Proofs.YtflopcogalknhaaDoor Go.Proofs.YtflopcogalknhaaDoor.NumPure

set_option maxRecDepth 100000 in
set_option maxHeartbeats 8000000 in
theorem caps_any {wd j e : Int} {g B : Nat} {L : List (List P2)} {M : List Nat} {w : World} (hO : OL wd j e B g L w M) (a s r b : P2) (w1 : 1 ≤ wd) (w2 : wd ≤ 4096) (ha : Inb 16777216 a) (hs : Inb 16777216 s) (hr : Inb 16777216 r) (hb : Inb 16777216 b) (hT : Num.Tab w) (hTB : 0 < B)
    (hBs : B ≤ w.heap.size) (hL : L.length ≤ 900000) (hG : GL L) : Calls Tryd.prog 37 #[.pointer (some ⟨g, 0, none⟩), .agg (edc wd a s), .agg (edc wd r b)] w fun e' w' => e' = .returned (.tuple #[]) ∧ Out (OL wd j e B g (cap wd e L a s r b)) M w w' := by
  have HA := Lib.hid ha
  have HB := Lib.hid hb
  have HN1 := Lib.hid (nrm_in w1 w2 ha hs).1
  have HX1 := Lib.hid (nrm_in w1 w2 ha hs).2
  have HN2 := Lib.hid (nrm_in w1 w2 hr hb).1
  have HX2 := Lib.hid (nrm_in w1 w2 hr hb).2
  obtain ⟨⟨m0, m1⟩, hm⟩ : ∃ p, nrm wd a s = p := ⟨_, rfl⟩
  obtain ⟨⟨q0, q1⟩, hq⟩ : ∃ p, nrm wd r b = p := ⟨_, rfl⟩
  obtain ⟨⟨x0, x1⟩, hx⟩ : ∃ p, ext wd a s = p := ⟨_, rfl⟩
  obtain ⟨⟨y0, y1⟩, hy⟩ : ∃ p, ext wd r b = p := ⟨_, rfl⟩
  rw [hm] at HN1
  rw [hx] at HX1
  rw [hq] at HN2
  rw [hy] at HX2
  have HEM := Lib.hid hm
  have HEQ := Lib.hid hq
  have HEX := Lib.hid hx
  have HEY := Lib.hid hy
  obtain ⟨a0, a1⟩ := a
  obtain ⟨s0, s1⟩ := s
  obtain ⟨r0, r1⟩ := r
  obtain ⟨b0, b1⟩ := b
  obtain ⟨d0, hd0⟩ : ∃ z, s0 - a0 = z := ⟨_, rfl⟩
  obtain ⟨d1, hd1⟩ : ∃ z, s1 - a1 = z := ⟨_, rfl⟩
  obtain ⟨f0, hf0⟩ : ∃ z, b0 - r0 = z := ⟨_, rfl⟩
  obtain ⟨f1, hf1⟩ : ∃ z, b1 - r1 = z := ⟨_, rfl⟩
  have e1 : edc wd (a0, a1) (s0, s1) = #[.int .i64 a0, .int .i64 a1, .int .i64 s0, .int .i64 s1, .int .i64 d0, .int .i64 d1, .int .i64 m0, .int .i64 m1, .int .i64 x0, .int .i64 x1] := by unfold edc mi; rw [hm, hx]; dsimp only; rw [hd0, hd1]
  have e2 : edc wd (r0, r1) (b0, b1) = #[.int .i64 r0, .int .i64 r1, .int .i64 b0, .int .i64 b1, .int .i64 f0, .int .i64 f1, .int .i64 q0, .int .i64 q1, .int .i64 y0, .int .i64 y1] := by unfold edc mi; rw [hq, hy]; dsimp only; rw [hf0, hf1]
  rw [e1, e2]
  have HB0 := Lib.hid (Bn.two w 65 65 #[.int .i64 a0, .int .i64 a1, .int .i64 s0, .int .i64 s1, .int .i64 d0, .int .i64 d1, .int .i64 m0, .int .i64 m1, .int .i64 x0, .int .i64 x1] #[.int .i64 r0, .int .i64 r1, .int .i64 b0, .int .i64 b1, .int .i64 f0, .int .i64 f1, .int .i64 q0, .int .i64 q1, .int .i64 y0, .int .i64 y1])
  obtain ⟨W1, hW1⟩ : ∃ W, (w.alloc (.cells #[.int .i64 a0, .int .i64 a1, .int .i64 s0, .int .i64 s1, .int .i64 d0, .int .i64 d1, .int .i64 m0, .int .i64 m1, .int .i64 x0, .int .i64 x1] 65)).alloc (.cells #[.int .i64 r0, .int .i64 r1, .int .i64 b0, .int .i64 b1, .int .i64 f0, .int .i64 f1, .int .i64 q0, .int .i64 q1, .int .i64 y0, .int .i64 y1] 65) = W := ⟨_, rfl⟩
  rw [hW1] at HB0
  obtain ⟨g4, hg4⟩ : ∃ g, w.heap.size = g := ⟨_, rfl⟩
  obtain ⟨g5, hg5⟩ : ∃ g, g4 + 1 = g := ⟨_, rfl⟩
  have HGE : Hid (w.heap.size ≤ g4 ∧ w.heap.size ≤ g5) := Lib.hid (by omega)
  have HM := Lib.hid hO.size
  have HLO := Lib.hid hO.lows
  have HO1 := Lib.hid (hO.later HB0.out.b)
  rw [hg4, hg5] at HB0
  have HNM : Hid (g4 ∉ M ∧ g5 ∉ M) := Lib.hid ⟨fun h => by have := HM.out _ h; have := HGE.out; omega, fun h => by have := HM.out _ h; have := HGE.out; omega⟩
  have HT1 := Lib.hid (tab_below hT HB0.out.b)
  have HTW : Hid (Tch M w W1) := Lib.hid (tch_of_below HB0.out.b)
  have HBS : Hid (B ≤ W1.heap.size) := Lib.hid (Nat.le_trans hBs HB0.out.b.size)
  have HTb : Hid (∀ W, Tch M W1 W → Num.Tab W) := Lib.hid fun W ht => tab_tch HT1.out ht (fun h => by have := HLO.out _ h; omega)
  have HLn : Hid (L.length ≤ 1000000) := Lib.hid (by omega)
  have HLs : Hid (L.length ≤ 900000) := Lib.hid hL
  have HGn := Lib.hid hG
  clear hO hT hBs hG ha hs hr hb hm hq hx hy hd0 hd1 hf0 hf1 e1 e2
  obtain ⟨o0, _, o2⟩ := HO1.out.cells
  by_cases h1 : e = 1
  · have h1' : (e == 1) = true := by simpa using h1
    have SSX : Hid (∀ W, Tch M W1 W → W.cell? ⟨g4, 0, none⟩ = some (.int .i64 a0) ∧ W.cell? ⟨g4, 1, none⟩ = some (.int .i64 a1)) := Lib.hid fun W ht => by
      have h := ht.blk (HB0.out.get 0 rfl) HNM.out.1
      exact ⟨h.cell 0, h.cell 1⟩
    have SS2 : Hid (∀ W, Tch M W1 W → W.cell? ⟨g5, 2, none⟩ = some (.int .i64 b0) ∧ W.cell? ⟨g5, 3, none⟩ = some (.int .i64 b1)) := Lib.hid fun W ht => by
      have h := ht.blk (HB0.out.get 1 rfl) HNM.out.2
      exact ⟨h.cell 2, h.cell 3⟩
    obtain ⟨P1, hP1⟩ : ∃ P, put L (crc wd (a0, a1)) = P := ⟨_, rfl⟩
    have HS : Hid (cap wd e L (a0, a1) (s0, s1) (r0, r1) (b0, b1) = put P1 (crc wd (b0, b1))) := Lib.hid (by unfold cap; rw [if_pos h1, hP1])
    have HP1 := Lib.hid hP1
    have HL1 : Hid (P1.length ≤ 1000000) := Lib.hid (by have := put_len L (crc wd (a0, a1)); rw [hP1] at this; have := HLs.out; omega)
    have HG1 : Hid (GL P1) := Lib.hid (by rw [← hP1]; exact HGn.out.put (by rw [crc_len]; omega) (by rw [crc_len]; omega))
    have HOc := HO1
    have HTc := Lib.hid (Tch.refl M W1)
    have HMc : Hid (∀ k ∈ M, k ∈ M ∨ W1.heap.size ≤ k) := Lib.hid fun k hk => Or.inl hk
    have HCI := HA
    clear o0 hP1 h1
    go_enter Tryd.func37, Tryd.ntmps37
    go_wp2_with fail
    clear o2 hW1 hg4 hg5
    have HTq := Lib.hid HTc.out.drew
    have HOq := Lib.hid (HOc.out.later (Below.refl _ _).drew)
    have HK := And.intro ((SSX.out _ HTq.out).1) (And.intro ((SSX.out _ HTq.out).2) (HOq.out.cells.1))
    go_region_held3 (fun W => W.cell? ⟨g4, 0, none⟩ = some (.int .i64 a0) ∧ W.cell? ⟨g4, 1, none⟩ = some (.int .i64 a1) ∧ W.cell? ⟨g, 0, none⟩ = some (.int .i64 wd))
      (first | exact HK | go_keep)
      (first
        | (go_at_call 51; refine (circle_any (a0, a1) wd _ w1 w2 HCI.out (HTb.out _ HTq.out)).mono ?_; rintro e' w' ⟨p, rfl, hp, hpg, hbq⟩; have HP := Lib.hid hp; have HPG := Lib.hid hpg; have HBQ := Lib.hid hbq; have HTq2 := Lib.hid (HTq.out.below hbq); have HOq2 := Lib.hid (HOq.out.later hbq); clear HK; have HK := (And.intro ((SSX.out _ HTq2.out).1) (And.intro ((SSX.out _ HTq2.out).2) (HOq2.out.cells.1)) : w'.cell? ⟨g4, 0, none⟩ = some (.int .i64 a0) ∧ w'.cell? ⟨g4, 1, none⟩ = some (.int .i64 a1) ∧ w'.cell? ⟨g, 0, none⟩ = some (.int .i64 wd)); clear hp hpg hbq)
        | (go_at_call 33; refine (add_any HOq.out _ _ (crc wd (a0, a1)) _ HBQ.out HP.out HPG.out (Nat.le_trans HBS.out HTq.out.size) (by rw [crc_len]; omega) (by rw [crc_len]; omega) (crc_in w1 w2 HCI.out) HLn.out HGn.out).mono ?_; rintro e' w' ⟨rfl, hout⟩; have HOUT := Lib.hid (out_step HTq.out HMc.out hout); clear HK; have HK := (And.intro ((SSX.out _ HOUT.out.choose_spec.2.1).1) (And.intro ((SSX.out _ HOUT.out.choose_spec.2.1).2) (HOUT.out.choose_spec.1.cells.1)) : w'.cell? ⟨g4, 0, none⟩ = some (.int .i64 a0) ∧ w'.cell? ⟨g4, 1, none⟩ = some (.int .i64 a1) ∧ w'.cell? ⟨g, 0, none⟩ = some (.int .i64 wd)); clear hout))
    clear HK HOq HTq HOc HTc HMc
    obtain ⟨Mc, ho2, ht2, hm2⟩ := HOUT.out
    have HOc := Lib.hid ho2
    have HTc := Lib.hid ht2
    have HMc := Lib.hid hm2
    clear ho2 ht2 hm2 HOUT
    clear HGn HLn SSX HCI
    rw [HP1.out] at HOc
    have HLn := HL1
    have HGn := HG1
    have SSX := SS2
    have HCI := HB
    go_wp2_with fail
    have HTq := Lib.hid HTc.out.drew
    have HOq := Lib.hid (HOc.out.later (Below.refl _ _).drew)
    have HK := And.intro ((SSX.out _ HTq.out).1) (And.intro ((SSX.out _ HTq.out).2) (HOq.out.cells.1))
    go_region_held3 (fun W => W.cell? ⟨g5, 2, none⟩ = some (.int .i64 b0) ∧ W.cell? ⟨g5, 3, none⟩ = some (.int .i64 b1) ∧ W.cell? ⟨g, 0, none⟩ = some (.int .i64 wd))
      (first | exact HK | go_keep)
      (first
        | (go_at_call 51; refine (circle_any (b0, b1) wd _ w1 w2 HCI.out (HTb.out _ HTq.out)).mono ?_; rintro e' w' ⟨p, rfl, hp, hpg, hbq⟩; have HP := Lib.hid hp; have HPG := Lib.hid hpg; have HBQ := Lib.hid hbq; have HTq2 := Lib.hid (HTq.out.below hbq); have HOq2 := Lib.hid (HOq.out.later hbq); clear HK; have HK := (And.intro ((SSX.out _ HTq2.out).1) (And.intro ((SSX.out _ HTq2.out).2) (HOq2.out.cells.1)) : w'.cell? ⟨g5, 2, none⟩ = some (.int .i64 b0) ∧ w'.cell? ⟨g5, 3, none⟩ = some (.int .i64 b1) ∧ w'.cell? ⟨g, 0, none⟩ = some (.int .i64 wd)); clear hp hpg hbq)
        | (go_at_call 33; refine (add_any HOq.out _ _ (crc wd (b0, b1)) _ HBQ.out HP.out HPG.out (Nat.le_trans HBS.out HTq.out.size) (by rw [crc_len]; omega) (by rw [crc_len]; omega) (crc_in w1 w2 HCI.out) HLn.out HGn.out).mono ?_; rintro e' w' ⟨rfl, hout⟩; have HOUT := Lib.hid (out_step HTq.out HMc.out hout); clear HK; have HK := (And.intro ((SSX.out _ HOUT.out.choose_spec.2.1).1) (And.intro ((SSX.out _ HOUT.out.choose_spec.2.1).2) (HOUT.out.choose_spec.1.cells.1)) : w'.cell? ⟨g5, 2, none⟩ = some (.int .i64 b0) ∧ w'.cell? ⟨g5, 3, none⟩ = some (.int .i64 b1) ∧ w'.cell? ⟨g, 0, none⟩ = some (.int .i64 wd)); clear hout))
    have HFIN := Lib.hid (out_step HTW.out (fun k hk => Or.inl hk) HOUT.out)
    clear HK
    go_wp2_with fail
    go_end0
    exact ⟨rfl, by rw [HS.out]; exact HFIN.out⟩
  have h1' : (e == 1) = false := by simpa using h1
  by_cases h2 : e = 2
  rotate_left
  · have h2' : (e == 2) = false := by simpa using h2
    have HS : Hid (cap wd e L (a0, a1) (s0, s1) (r0, r1) (b0, b1) = L) := Lib.hid (by unfold cap; rw [if_neg h1, if_neg h2])
    have HFIN : Hid (Out (OL wd j e B g L) M w W1) := Lib.hid ⟨M, HO1.out, HTW.out, fun k hk => Or.inl hk⟩
    clear h1 h2 o0
    go_enter Tryd.func37, Tryd.ntmps37
    go_wp2_with fail
    go_end0
    exact ⟨rfl, by rw [HS.out]; exact HFIN.out⟩
  have h2' : (e == 2) = true := by simpa using h2
  have hA := HA.out
  have hB := HB.out
  have hx1 := HX1.out
  have hx2 := HX2.out
  have CM := fun W => minus_any (a0, a1) (x0, x1) W (hA.mono (by omega)) (hx1.mono (by omega))
  have CP := fun W => plus_any (b0, b1) (y0, y1) W (hB.mono (by omega)) (hx2.mono (by omega))
  unfold PtC mi at CM
  unfold PtC pl at CP
  dsimp only at CM CP
  obtain ⟨t0, ht0⟩ : ∃ z, a0 - x0 = z := ⟨_, rfl⟩
  obtain ⟨t1, ht1⟩ : ∃ z, a1 - x1 = z := ⟨_, rfl⟩
  obtain ⟨v0, hv0⟩ : ∃ z, b0 + y0 = z := ⟨_, rfl⟩
  obtain ⟨v1, hv1⟩ : ∃ z, b1 + y1 = z := ⟨_, rfl⟩
  rw [ht0, ht1] at CM
  rw [hv0, hv1] at CP
  have HCM := Lib.hid CM
  have HCP := Lib.hid CP
  have hT0 : Inb 16781312 (t0, t1) := by unfold Inb at hA hx1 ⊢; dsimp only at hA hx1 ⊢; omega
  have hV0 : Inb 16781312 (v0, v1) := by unfold Inb at hB hx2 ⊢; dsimp only at hB hx2 ⊢; omega
  have HTB : Hid (Inb 1000000000000 (t0, t1)) := Lib.hid (hT0.mono (by omega))
  have HVB : Hid (Inb 1000000000000 (v0, v1)) := Lib.hid (hV0.mono (by omega))
  have HAB : Hid (Inb 1000000000000 (a0, a1)) := Lib.hid (hA.mono (by omega))
  have HBB : Hid (Inb 1000000000000 (b0, b1)) := Lib.hid (hB.mono (by omega))
  have HMB : Hid (Inb 1000000000000 (m0, m1)) := Lib.hid (HN1.out.mono (by omega))
  have HQB : Hid (Inb 1000000000000 (q0, q1)) := Lib.hid (HN2.out.mono (by omega))
  have HPA : Hid ([pl (t0, t1) (m0, m1), pl (a0, a1) (m0, m1), mi (a0, a1) (m0, m1), mi (t0, t1) (m0, m1)] = capA (a0, a1) (m0, m1) (x0, x1)) := Lib.hid (by unfold capA; rw [show mi (a0, a1) (x0, x1) = (t0, t1) by unfold mi; dsimp only; rw [ht0, ht1]])
  have HPB : Hid ([pl (b0, b1) (q0, q1), pl (v0, v1) (q0, q1), mi (v0, v1) (q0, q1), mi (b0, b1) (q0, q1)] = capB (b0, b1) (q0, q1) (y0, y1)) := Lib.hid (by unfold capB; rw [show pl (b0, b1) (y0, y1) = (v0, v1) by unfold pl; dsimp only; rw [hv0, hv1]])
  obtain ⟨P1, hP1⟩ : ∃ P, put L (capA (a0, a1) (m0, m1) (x0, x1)) = P := ⟨_, rfl⟩
  have HS : Hid (cap wd e L (a0, a1) (s0, s1) (r0, r1) (b0, b1) = put P1 (capB (b0, b1) (q0, q1) (y0, y1))) := Lib.hid (by unfold cap; rw [if_neg h1, if_pos h2, HEM.out, HEX.out, HEQ.out, HEY.out, hP1])
  have HP1 := Lib.hid hP1
  have HL1 : Hid (P1.length ≤ 1000000) := Lib.hid (by have := put_len L (capA (a0, a1) (m0, m1) (x0, x1)); rw [hP1] at this; have := HLs.out; omega)
  have HG1 : Hid (GL P1) := Lib.hid (by rw [← hP1]; exact HGn.out.put (show 3 ≤ 4 by omega) (show 4 ≤ 16 by omega))
  obtain ⟨n0, n1⟩ := two_at (HB0.out.get 0 rfl) 0 rfl rfl
  obtain ⟨n2, n3⟩ := two_at (HB0.out.get 0 rfl) 8 rfl rfl
  clear h1 h2 o0 CM CP ht0 ht1 hv0 hv1 hA hB hx1 hx2 hT0 hV0 hP1
  go_enter Tryd.func37, Tryd.ntmps37
  go_wp2_with fail
  clear o2 hW1 hg4 hg5 h1' h2' n0 n1 n2 n3
  refine (HCM.out _).mono ?_
  rintro e9 wm ⟨rfl, hbm⟩
  have hbx : Below W1.heap.size W1 (wm.alloc (.cells #[.int .i64 t0, .int .i64 t1] 30)) := hbm.alloc hbm.size _
  have HB2 := Lib.hid hbx
  have HBK : Hid (Blk (wm.alloc (.cells #[.int .i64 t0, .int .i64 t1] 30)) wm.heap.size 30 #[.int .i64 t0, .int .i64 t1]) := Lib.hid (Blk.new _ _ _)
  have HLT : Hid (W1.heap.size ≤ wm.heap.size ∧ wm.heap.size < (wm.alloc (.cells #[.int .i64 t0, .int .i64 t1] 30)).heap.size) := Lib.hid ⟨hbm.size, HBK.out.lt⟩
  clear hbm hbx HCM
  go_upto_region 7 with fail
  obtain ⟨g6, hg6⟩ : ∃ g, wm.heap.size = g := ⟨_, rfl⟩
  obtain ⟨W2, hW2⟩ : ∃ W, wm.alloc (.cells #[.int .i64 t0, .int .i64 t1] 30) = W := ⟨_, rfl⟩
  rw [hW2, hg6] at HBK HLT
  rw [hW2] at HB2
  rw [hW2, hg6]
  clear hW2 hg6
  have HO2 := Lib.hid (HO1.out.later HB2.out)
  have HN6 : Hid (g6 ∉ M) := Lib.hid fun h => by have := HM.out _ h; have := HLT.out; have := HTW.out.size; omega
  have SSX : Hid (∀ W, Tch M W2 W → W.cell? ⟨g6, 0, none⟩ = some (.int .i64 t0) ∧ W.cell? ⟨g6, 1, none⟩ = some (.int .i64 t1) ∧ W.cell? ⟨g4, 6, none⟩ = some (.int .i64 m0) ∧ W.cell? ⟨g4, 7, none⟩ = some (.int .i64 m1) ∧ W.cell? ⟨g4, 0, none⟩ = some (.int .i64 a0) ∧ W.cell? ⟨g4, 1, none⟩ = some (.int .i64 a1)) := Lib.hid fun W ht => by
    have h4 := ht.blk ((HB0.out.get 0 rfl).below HB2.out (HB0.out.get 0 rfl).lt) HNM.out.1
    have h6 := ht.blk HBK.out HN6.out
    exact ⟨h6.cell 0, h6.cell 1, h4.cell 6, h4.cell 7, h4.cell 0, h4.cell 1⟩
  have HTW2 : Hid (Tch M w W2) := Lib.hid (HTW.out.below HB2.out)
  have HBS2 : Hid (B ≤ W2.heap.size) := Lib.hid (Nat.le_trans HBS.out HB2.out.size)
  have HOc := HO2
  have HTc := Lib.hid (Tch.refl M W2)
  have HMc : Hid (∀ k ∈ M, k ∈ M ∨ W2.heap.size ≤ k) := Lib.hid fun k hk => Or.inl hk
  have HTq := Lib.hid HTc.out.drew
  have HOq := Lib.hid (HOc.out.later (Below.refl _ _).drew)
  have HK := SSX.out _ HTq.out
  go_region_held3 (fun W => W.cell? ⟨g6, 0, none⟩ = some (.int .i64 t0) ∧ W.cell? ⟨g6, 1, none⟩ = some (.int .i64 t1) ∧ W.cell? ⟨g4, 6, none⟩ = some (.int .i64 m0) ∧ W.cell? ⟨g4, 7, none⟩ = some (.int .i64 m1) ∧ W.cell? ⟨g4, 0, none⟩ = some (.int .i64 a0) ∧ W.cell? ⟨g4, 1, none⟩ = some (.int .i64 a1))
    (first | exact HK | go_keep)
    (first
      | (go_at_call_of 34 (Value.agg #[Value.int IntKind.i64 t0, Value.int IntKind.i64 t1]); refine (plus_any (t0, t1) (m0, m1) _ HTB.out HMB.out).mono ?_; rintro e' w' ⟨rfl, hbq⟩; have HTq := Lib.hid (HTq.out.below hbq); have HOq := Lib.hid (HOq.out.later hbq); have HK := SSX.out _ HTq.out; clear hbq)
      | (go_at_call_of 34 (Value.agg #[Value.int IntKind.i64 a0, Value.int IntKind.i64 a1]); refine (plus_any (a0, a1) (m0, m1) _ HAB.out HMB.out).mono ?_; rintro e' w' ⟨rfl, hbq⟩; have HTq := Lib.hid (HTq.out.below hbq); have HOq := Lib.hid (HOq.out.later hbq); have HK := SSX.out _ HTq.out; clear hbq)
      | (go_at_call_of 35 (Value.agg #[Value.int IntKind.i64 a0, Value.int IntKind.i64 a1]); refine (minus_any (a0, a1) (m0, m1) _ HAB.out HMB.out).mono ?_; rintro e' w' ⟨rfl, hbq⟩; have HTq := Lib.hid (HTq.out.below hbq); have HOq := Lib.hid (HOq.out.later hbq); have HK := SSX.out _ HTq.out; clear hbq)
      | (go_at_call_of 35 (Value.agg #[Value.int IntKind.i64 t0, Value.int IntKind.i64 t1]); refine (minus_any (t0, t1) (m0, m1) _ HTB.out HMB.out).mono ?_; rintro e' w' ⟨rfl, hbq⟩; have HTq := Lib.hid (HTq.out.below hbq); have HOq := Lib.hid (HOq.out.later hbq); have HK := SSX.out _ HTq.out; clear hbq)
      | (go_at_call 33; refine (add_any HOq.out _ 4 ([pl (t0, t1) (m0, m1), pl (a0, a1) (m0, m1), mi (a0, a1) (m0, m1), mi (t0, t1) (m0, m1)]) _ ((Below.refl _ _).alloc (Nat.le_refl _) _) (Blk.new _ _ _) (Nat.le_refl _) (Nat.le_trans HBS2.out HTq.out.size) (show 3 ≤ 4 by omega) (show 4 ≤ 16 by omega) (by rw [HPA.out]; exact capA_in HA.out HN1.out HX1.out) HLn.out HGn.out).mono ?_; rintro e' w' ⟨rfl, hout⟩; have HOUT := Lib.hid (out_step HTq.out HMc.out hout); have HK := SSX.out _ HOUT.out.choose_spec.2.1; clear hout))
  clear HK HOq HTq HOc HTc HMc
  obtain ⟨Mc, ho2, ht2, hm2⟩ := HOUT.out
  have HOc := Lib.hid ho2
  have HTc := Lib.hid ht2
  have HMc := Lib.hid hm2
  clear ho2 ht2 hm2 HOUT
  clear HGn HLn
  rw [HPA.out, HP1.out] at HOc
  have HLn := HL1
  have HGn := HG1
  have H5 := Lib.hid (HTc.out.blk ((HB0.out.get 1 rfl).below HB2.out (HB0.out.get 1 rfl).lt) HNM.out.2)
  obtain ⟨n0, n1⟩ := two_at H5.out 2 rfl rfl
  obtain ⟨n2, n3⟩ := two_at H5.out 8 rfl rfl
  have H6 := Lib.hid (HTc.out.blk HBK.out HN6.out)
  have HNc : Hid (g5 ∉ Mc ∧ g6 ∉ Mc) := Lib.hid ⟨fun h => by
    rcases HMc.out _ h with h | h
    · exact HNM.out.2 h
    · have := ((HB0.out.get 1 rfl).below HB2.out (HB0.out.get 1 rfl).lt).lt; omega, fun h => by
    rcases HMc.out _ h with h | h
    · exact HN6.out h
    · have := HLT.out; omega⟩
  go_wp2_with fail
  refine (HCP.out _).mono ?_
  clear HCP n0 n1 n2 n3
  rintro e9 wp ⟨rfl, hbp⟩
  have HBP := Lib.hid hbp
  have H6p := Lib.hid (H6.out.below hbp H6.out.lt)
  obtain ⟨z0, z1, zf⟩ := blk2 H6p.out
  clear hbp
  go_upto_region 9 with fail
  rw [two_row H6p.out]
  clear z0 z1 zf
  have HT5 : Hid (Tch [g6] wp (wp.setRow g6 #[.int .i64 v0, .int .i64 v1])) := Lib.hid (tch_setRow (Tch.refl _ _) (Or.inl (by simp)) _)
  have HBK2 : Hid (Blk (wp.setRow g6 #[.int .i64 v0, .int .i64 v1]) g6 30 #[.int .i64 v0, .int .i64 v1]) := Lib.hid (Blk.row H6p.out _)
  have HO5 : Hid (OL wd j e B g P1 (wp.setRow g6 #[.int .i64 v0, .int .i64 v1]) Mc) := Lib.hid ((HOc.out.later HBP.out).tch HT5.out (fun k hk h => by simp only [List.mem_singleton] at h; rw [h] at hk; exact HNc.out.2 hk))
  have HTW5 : Hid (Tch M w (wp.setRow g6 #[.int .i64 v0, .int .i64 v1])) := Lib.hid (((HTW2.out.trans HTc.out fun k hk => Or.inl hk).below HBP.out).trans HT5.out (fun k hk => by simp only [List.mem_singleton] at hk; rw [hk]; right; have := HLT.out; have := HTW.out.size; omega))
  have H55 : Hid (Blk (wp.setRow g6 #[.int .i64 v0, .int .i64 v1]) g5 65 _) := Lib.hid (HT5.out.blk (H5.out.below HBP.out H5.out.lt) (fun h => by simp only [List.mem_singleton] at h; have h1 := HLT.out; have h2 := (HB0.out.get 1 rfl).lt; omega))
  have HBS5 : Hid (B ≤ (wp.setRow g6 #[.int .i64 v0, .int .i64 v1]).heap.size) := Lib.hid (Nat.le_trans HBS2.out (Nat.le_trans HTc.out.size (Nat.le_trans HBP.out.size HT5.out.size)))
  obtain ⟨W5, hW5⟩ : ∃ W, wp.setRow g6 #[.int .i64 v0, .int .i64 v1] = W := ⟨_, rfl⟩
  rw [hW5] at HT5 HBK2 HO5 HTW5 H55 HBS5
  rw [hW5]
  have HMW5 : Hid (∀ k ∈ Mc, k ∈ M ∨ w.heap.size ≤ k) := Lib.hid fun k hk => by
    rcases HMc.out k hk with h | h
    · exact Or.inl h
    · exact Or.inr (Nat.le_trans HTW2.out.size h)
  clear hW5 HOc HTc HMc SSX
  have SSX : Hid (∀ W, Tch Mc W5 W → W.cell? ⟨g6, 0, none⟩ = some (.int .i64 v0) ∧ W.cell? ⟨g6, 1, none⟩ = some (.int .i64 v1) ∧ W.cell? ⟨g5, 6, none⟩ = some (.int .i64 q0) ∧ W.cell? ⟨g5, 7, none⟩ = some (.int .i64 q1) ∧ W.cell? ⟨g5, 2, none⟩ = some (.int .i64 b0) ∧ W.cell? ⟨g5, 3, none⟩ = some (.int .i64 b1)) := Lib.hid fun W ht => by
    have h5 := ht.blk H55.out HNc.out.1
    have h6 := ht.blk HBK2.out HNc.out.2
    exact ⟨h6.cell 0, h6.cell 1, h5.cell 6, h5.cell 7, h5.cell 2, h5.cell 3⟩
  have HOc := HO5
  have HTc := Lib.hid (Tch.refl Mc W5)
  have HMc : Hid (∀ k ∈ Mc, k ∈ Mc ∨ W5.heap.size ≤ k) := Lib.hid fun k hk => Or.inl hk
  have HTq := Lib.hid HTc.out.drew
  have HOq := Lib.hid (HOc.out.later (Below.refl _ _).drew)
  have HK := SSX.out _ HTq.out
  go_region_held3 (fun W => W.cell? ⟨g6, 0, none⟩ = some (.int .i64 v0) ∧ W.cell? ⟨g6, 1, none⟩ = some (.int .i64 v1) ∧ W.cell? ⟨g5, 6, none⟩ = some (.int .i64 q0) ∧ W.cell? ⟨g5, 7, none⟩ = some (.int .i64 q1) ∧ W.cell? ⟨g5, 2, none⟩ = some (.int .i64 b0) ∧ W.cell? ⟨g5, 3, none⟩ = some (.int .i64 b1))
    (first | exact HK | go_keep)
    (first
      | (go_at_call_of 34 (Value.agg #[Value.int IntKind.i64 b0, Value.int IntKind.i64 b1]); refine (plus_any (b0, b1) (q0, q1) _ HBB.out HQB.out).mono ?_; rintro e' w' ⟨rfl, hbq⟩; have HTq := Lib.hid (HTq.out.below hbq); have HOq := Lib.hid (HOq.out.later hbq); have HK := SSX.out _ HTq.out; clear hbq)
      | (go_at_call_of 34 (Value.agg #[Value.int IntKind.i64 v0, Value.int IntKind.i64 v1]); refine (plus_any (v0, v1) (q0, q1) _ HVB.out HQB.out).mono ?_; rintro e' w' ⟨rfl, hbq⟩; have HTq := Lib.hid (HTq.out.below hbq); have HOq := Lib.hid (HOq.out.later hbq); have HK := SSX.out _ HTq.out; clear hbq)
      | (go_at_call_of 35 (Value.agg #[Value.int IntKind.i64 v0, Value.int IntKind.i64 v1]); refine (minus_any (v0, v1) (q0, q1) _ HVB.out HQB.out).mono ?_; rintro e' w' ⟨rfl, hbq⟩; have HTq := Lib.hid (HTq.out.below hbq); have HOq := Lib.hid (HOq.out.later hbq); have HK := SSX.out _ HTq.out; clear hbq)
      | (go_at_call_of 35 (Value.agg #[Value.int IntKind.i64 b0, Value.int IntKind.i64 b1]); refine (minus_any (b0, b1) (q0, q1) _ HBB.out HQB.out).mono ?_; rintro e' w' ⟨rfl, hbq⟩; have HTq := Lib.hid (HTq.out.below hbq); have HOq := Lib.hid (HOq.out.later hbq); have HK := SSX.out _ HTq.out; clear hbq)
      | (go_at_call 33; refine (add_any HOq.out _ 4 ([pl (b0, b1) (q0, q1), pl (v0, v1) (q0, q1), mi (v0, v1) (q0, q1), mi (b0, b1) (q0, q1)]) _ ((Below.refl _ _).alloc (Nat.le_refl _) _) (Blk.new _ _ _) (Nat.le_refl _) (Nat.le_trans HBS5.out HTq.out.size) (show 3 ≤ 4 by omega) (show 4 ≤ 16 by omega) (by rw [HPB.out]; exact capB_in HB.out HN2.out HX2.out) HLn.out HGn.out).mono ?_; rintro e' w' ⟨rfl, hout⟩; have HOUT := Lib.hid (out_step HTq.out HMc.out hout); have HK := SSX.out _ HOUT.out.choose_spec.2.1; clear hout))
  have HFIN := Lib.hid (out_step HTW5.out HMW5.out HOUT.out)
  clear HK
  go_wp2_with fail
  go_end0
  exact ⟨rfl, by rw [HS.out, ← HPB.out]; exact HFIN.out⟩
end Go.Proofs.YtflopcogalknhaaDoor.Str
