/-
  Layer 21: a part of a line (the document's).
-/
import Derived.Test.YtflopcogalknhaaDoorKStrDd
import Derived.Test.YtflopcogalknhaaDoorKStrRc
set_option linter.unusedVariables false
set_option linter.unusedSimpArgs false
namespace Go.Proofs.YtflopcogalknhaaDoor.Str
open Go.RowKit Go.Proofs.YtflopcogalknhaaDoor Go.Proofs.YtflopcogalknhaaDoor.NumPure

/-- The part as it grows in one round. -/
def pj (D : List P2) (p q : P2) : Nat → List P2
  | 0 => D
  | 1 => addp D p
  | _ => addp (addp D p) q
theorem pj_len (D : List P2) (p q : P2) : ∀ j, (pj D p q j).length ≤ D.length + 2
  | 0 => by show D.length ≤ _; omega
  | 1 => by have := addp_len D p; show (addp D p).length ≤ _; omega
  | _ + 2 => by have := addp_len D p; have := addp_len (addp D p) q; show (addp (addp D p) q).length ≤ _; omega
theorem addp_new {D : List P2} {p : P2} (h : D.getLast? ≠ some p) : addp D p = D ++ [p] := by unfold addp; rw [if_neg h]
theorem addp_old {D : List P2} {p : P2} (h : D.getLast? = some p) : addp D p = D := by unfold addp; rw [if_pos h]
theorem wp_appG {o : Oper} {a : Act} {W : World} {K : Act → World → Prop} {Q : Exit → Act → World → Prop} (dd : Tmp) (hd : o.dst = some dd) (s x : Operand)
    (ho : o.op = .call { callee := .builtin .append, args := #[s, x], argTypes := #[36, 36] }) {w0 : World} {v : Value} {n : Nat} {xs : List Value} {gl : Nat} {c : Array Value}
    (h : R1 30 2 w0 v n xs (some (gl, c)) W) (hs : a.eval s = v) (hx : a.eval x = .slice (some ⟨gl, 0, none⟩) 1 1) (hc : c.size = 2) (hu : ∀ y ∈ c.toList, y.oneCell' = true) (hn : (n + 1) * 16 ≤ 140737488355328)
    (hK : ∀ v' w', R1 30 2 w0 v' (n + 1) (xs ++ c.toList) none w' → W.grownBy w' v.ownBlock → K (a.put (some dd) v') w') : o.wp Tryd.prog a W K Q := by
  obtain ⟨i0, hi0, hz0, hz1, hz2⟩ := info_parts infoP
  obtain ⟨v', w', hrun, h2, h3, _, h5⟩ := run_append_own_at (P := Tryd.prog) W w0.heap.size 36 o.type 30 i0 (.agg #[.int .i64 0, .int .i64 0]) 2 16 Tryd.underlying36 hi0 hz0 hz1 hz2 rfl (by decide) v n xs h.row ⟨gl, 0, none⟩ 1 1 c.toList (by rw [Array.length_toList, hc]) (World.news_of_block (h.new gl c rfl).1) hu (by unfold maxLen; omega) (by omega) h.below.size
  unfold Oper.wp execOp
  simp only [ho, resolve, invoke, builtin, Sem.run_bind, Sem.run_pure, Result.andThen_ok, List.map_toArray, List.map_cons, List.map_nil, hs, hx, hrun]
  show K (a.put o.dst v') w'
  rw [hd]
  exact hK v' w' (h.app h2 h3) h3
theorem grown_blk {w0 W w' : World} {v : Value} {n : Nat} {xs : List Value} {l : Option (Nat × Array Value)} {g : Nat} {cs : Array Value} (h : R1 30 2 w0 v n xs l W) (hg : W.grownBy w' v.ownBlock) (hb : Blk W g 3 cs) : Blk w' g 3 cs :=
  (hg.block g hb.lt (fun e => own_ne_blk h.row hb (by decide) g e.symm rfl)).trans hb
set_option maxRecDepth 100000 in
set_option maxHeartbeats 4000000 in
theorem piece_any (pb ab cp ca : Nat) (l : List P2) (a b : Nat) (w : World) (h : LnR w pb ab l) (hl : Lin l) (h2 : a < b) (h3 : b ≤ lenN l) (hn0 : 1 < l.length) :
    Calls Tryd.prog 49 #[.slice (some ⟨pb, 0, none⟩) l.length cp, .slice (some ⟨ab, 0, none⟩) l.length ca, .int .i64 (a : Int), .int .i64 (b : Int)] w (OwC (pce l a b) w) := by
  have hlen := lenN_bd hl
  have hln := hl.len
  have HL := Lib.hid h
  have HLI := Lib.hid hl
  obtain ⟨n, hn⟩ : ∃ n, l.length = n := ⟨_, rfl⟩
  have HN := Lib.hid hn
  have HF : Hid (pce l a b = pceN l a b (n - 1)) := Lib.hid (by unfold pce; rw [hn])
  have HLEN : Hid (lenN l = atN l (n - 1)) := Lib.hid (by unfold lenN; rw [hn])
  have H01 : Hid (a < b ∧ b ≤ lenN l ∧ lenN l ≤ 4398046511104 ∧ n ≤ 65537 ∧ 1 < n) := Lib.hid ⟨h2, h3, hlen, by omega, by omega⟩
  rw [hn]
  clear h hl hn h2 h3 hlen hln hn0
  go_enter Tryd.func49, Tryd.ntmps49
  go_wp2_with fail
  go_loopw [9, 10] (fun v i wr => ∃ k m : Nat, i = .int .i64 (k : Int) ∧ k + 1 ≤ n ∧ (pceN l a b k).length = m ∧ R1 30 2 w v m (pts (pceN l a b k)) none wr) (fun _ i _ => n - (intOf i).toNat)
  case atStart => exact ⟨0, 0, rfl, by have := H01.out; omega, rfl, R1.start w⟩
  case round =>
    obtain ⟨k, m, rfl, hk, hm, hr⟩ := hrel
    have HR := Lib.hid hr
    have HMM := Lib.hid hm
    have HKB := Lib.hid hk
    by_cases hlt : k + 1 < n
    · have hkl : k + 1 < l.length := by rw [HN.out]; exact hlt
      have hplb : ∀ s, atN l k ≤ s → s ≤ atN l (k + 1) → _ := fun s => plc_bd HLI.out hkl (s := s)
      have hyp := HLI.out.hyp hkl
      have hga := gp_in HLI.out.inb (show k < l.length by omega)
      have hgb := gp_in HLI.out.inb hkl
      have hat := atN_bd HLI.out (k + 1) hkl
      have hst : atN l (k + 1) = atN l k + hypN (gp l k) (gp l (k + 1)) := rfl
      have SP : Hid (∀ W, Below w.heap.size w W → W.cell? ⟨pb, k * 2, none⟩ = some (.int .i64 (gp l k).1) ∧ W.cell? ⟨pb, k * 2 + 1, none⟩ = some (.int .i64 (gp l k).2) ∧ W.cell? ⟨pb, (k + 1) * 2, none⟩ = some (.int .i64 (gp l (k + 1)).1) ∧ W.cell? ⟨pb, (k + 1) * 2 + 1, none⟩ = some (.int .i64 (gp l (k + 1)).2) ∧ W.cell? ⟨ab, k, none⟩ = some (.int .i64 (atN l k : Nat)) ∧ W.cell? ⟨ab, k + 1, none⟩ = some (.int .i64 (atN l (k + 1) : Nat))) := Lib.hid fun W hW => by
        obtain ⟨y0, y1⟩ := (HL.out.below hW).pt_ k (by omega)
        obtain ⟨y2, y3⟩ := (HL.out.below hW).pt_ (k + 1) hkl
        exact ⟨y0, y1, y2, y3, (HL.out.below hW).at_ k (by omega), (HL.out.below hW).at_ (k + 1) hkl⟩
      have HSK : Hid ((atN l (k + 1) ≤ a → k + 2 < n) ∧ (atN l (k + 1) ≤ a ∨ b ≤ atN l k → pceN l a b (k + 1) = pceN l a b k) ∧ (a < atN l (k + 1) → atN l k < b → pceN l a b (k + 1) = addp (addp (pceN l a b k) (plc l k (max a (atN l k)))) (plc l k (min b (atN l (k + 1)))))) := Lib.hid (by
        have e1 : atN l (k + 1) ≤ a → k + 2 < n := fun h1 => by
          have h4 := H01.out
          have h5 := HLEN.out
          rcases Nat.lt_or_ge (k + 2) n with h6 | h6
          · exact h6
          · exfalso
            rw [show n - 1 = k + 1 by omega] at h5
            omega
        refine ⟨e1, fun h1 => ?_, fun h1 h2 => ?_⟩
        · rw [pceN, if_pos]
          rcases h1 with h1 | h1
          · exact Or.inl ⟨h1, by rw [HN.out]; exact e1 h1⟩
          · exact Or.inr h1
        · rw [pceN, if_neg]
          rintro (h3 | h3) <;> omega)
      obtain ⟨D, hD⟩ : ∃ D, pceN l a b k = D := ⟨_, rfl⟩
      have HD := Lib.hid hD
      obtain ⟨H, hH⟩ : ∃ H, hypN (gp l k) (gp l (k + 1)) = H := ⟨_, rfl⟩
      obtain ⟨⟨a0, a1⟩, ha⟩ : ∃ p, gp l k = p := ⟨_, rfl⟩
      obtain ⟨⟨b0, b1⟩, hb⟩ : ∃ p, gp l (k + 1) = p := ⟨_, rfl⟩
      obtain ⟨u, hu⟩ : ∃ u, atN l k = u := ⟨_, rfl⟩
      obtain ⟨v, hv⟩ : ∃ u, atN l (k + 1) = u := ⟨_, rfl⟩
      rw [hD, hu, hv] at HSK
      rw [hD] at HR HMM
      rw [ha, hb, hu, hv] at SP
      rw [hu, hv] at hplb hst
      rw [hv] at hat
      rw [hH] at hst hyp
      rw [ha] at hga
      rw [hb] at hgb
      dsimp only at SP
      unfold Inb at hga hgb
      dsimp only at hga hgb
      have HPB : Hid (∀ s, u ≤ s → s ≤ v → ∃ N1 N2 q1 q2 r0 r1 : Int, (b0 - a0) * ((s : Int) - (u : Int)) = N1 ∧ (b1 - a1) * ((s : Int) - (u : Int)) = N2 ∧ dvr N1 (H : Nat) = q1 ∧ dvr N2 (H : Nat) = q2 ∧ a0 + q1 = r0 ∧ a1 + q2 = r1 ∧ plc l k s = (r0, r1) ∧ (-1152921504606846976 ≤ N1 ∧ N1 ≤ 1152921504606846976) ∧ (-1152921504606846976 ≤ N2 ∧ N2 ≤ 1152921504606846976) ∧ (-33554432 ≤ q1 ∧ q1 ≤ 33554432) ∧ (-33554432 ≤ q2 ∧ q2 ≤ 33554432)) := Lib.hid (fun s hs1 hs2 => by
        have hb9 := hplb s hs1 hs2
        rw [hH, ha, hb] at hb9
        refine ⟨_, _, _, _, _, _, rfl, rfl, rfl, rfl, rfl, rfl, ?_, hb9.1, hb9.2.1, hb9.2.2.1, hb9.2.2.2⟩
        unfold plc
        rw [hH, ha, hb, hu])
      have HNU : Hid (v = u + H ∧ 1 ≤ H ∧ H ≤ 67108864 ∧ v ≤ 4398046511104 ∧ (-16777216 ≤ a0 ∧ a0 ≤ 16777216) ∧ (-16777216 ≤ a1 ∧ a1 ≤ 16777216) ∧ (-16777216 ≤ b0 ∧ b0 ≤ 16777216) ∧ (-16777216 ≤ b1 ∧ b1 ≤ 16777216)) := Lib.hid (by
        have := H01.out
        have h9 : 67108864 * (k + 1) ≤ 67108864 * 65536 := Nat.mul_le_mul_left _ (by omega)
        refine ⟨hst, by omega, by omega, by omega, by omega, by omega, by omega, by omega⟩)
      have HI : Hid ((k : Int) < (n : Int) ∧ (0 : Int) ≤ (k : Int) ∧ (k : Int) + 1 < (n : Int) ∧ (0 : Int) ≤ (k : Int) + 1) := Lib.hid (by omega)
      have X7 : Hid (IntKind.i64.wrap ((k : Int) + 1) = (k : Int) + 1) := Lib.hid (i64w (by omega) (by have := H01.out; omega))
      have X8 : Hid (IntKind.i64.wrap ((v : Int) - (u : Int)) = (H : Int)) := Lib.hid (by rw [show (v : Int) - (u : Int) = (H : Int) by omega]; exact i64w (by omega) (by omega))
      have XA : Hid (IntKind.i64.wrap ((k : Int) + 2) = (k : Int) + 2) := Lib.hid (i64w (by omega) (by have := H01.out; omega))
      have XB : Hid (b ≤ 4398046511104 ∧ a < 4398046511104) := Lib.hid (by have := H01.out; omega)
      clear hplb hyp hga hgb hat hst hD hH ha hb hu hv hr hm hk hlt hkl
      obtain ⟨k0, k1, k2, k3⟩ := HI.out
      obtain ⟨z0, z1, z2, z3, z4, z5⟩ := SP.out _ HR.out.below
      have x7 := X7.out
      have x8 := X8.out
      go_wp2_with fail
      go_quiet (fail)
      have HBQ := Lib.hid (drew_below (n := nq) (Below.refl wr.heap.size wr))
      obtain ⟨W1, hW1⟩ : ∃ W, wr.drewN nq = W := ⟨_, rfl⟩
      rw [hW1] at HBQ
      rw [hW1]
      have HR1 := Lib.hid (HR.out.later HBQ.out)
      clear z0 z1 z2 z3 z4 z5 x8 hW1 HBQ HR
      obtain ⟨_, _, _, _, z4, z5⟩ := SP.out _ HR1.out.below
      have xa := XA.out
      by_cases c1 : v ≤ a
      · have HE := Lib.hid (HSK.out.2.1 (Or.inl c1))
        have HK2 := Lib.hid (HSK.out.1 c1)
        have f1 : (v : Int) ≤ (a : Int) := by omega
        have f2 : (k : Int) + 2 < (n : Int) := by have := HK2.out; omega
        clear c1
        go_wp2_with fail
        clear z4 z5 x7 xa k0 k1 k2 k3 f1 f2
        go_roundw
        case rel => exact ⟨k + 1, m, by have := H01.out; have := HKB.out; go_num, by have := HK2.out; omega, by rw [HE.out]; exact HMM.out, by rw [HE.out]; exact HR1.out⟩
        case measure => first | (have := HK2.out; simp [intOf]; done) | (have := HK2.out; simp [intOf]; omega)
      have f1 : ¬ (v : Int) ≤ (a : Int) := by omega
      by_cases c3 : b ≤ u
      · have HE := Lib.hid (HSK.out.2.1 (Or.inr c3))
        have f2 : (b : Int) ≤ (u : Int) := by omega
        clear c1 c3
        go_wp2_with fail
        have HK2 : Hid (k + 1 < n) := Lib.hid (by omega)
        clear z4 z5 x7 xa k0 k1 k2 k3 f1 f2
        go_roundw
        case rel => exact ⟨k + 1, m, by have := H01.out; have := HKB.out; go_num, by have := HK2.out; omega, by rw [HE.out]; exact HMM.out, by rw [HE.out]; exact HR1.out⟩
        case measure => first | (have := HK2.out; simp [intOf]; done) | (have := HK2.out; simp [intOf]; omega)
      have f2 : ¬ (b : Int) ≤ (u : Int) := by omega
      have HE : Hid (pceN l a b (k + 1) = pj D (plc l k (max a u)) (plc l k (min b v)) 2) := Lib.hid (HSK.out.2.2 (by omega) (by omega))
      have HEB : Hid (u ≤ max a u ∧ max a u ≤ v ∧ u ≤ min b v ∧ min b v ≤ v) := Lib.hid (by have := HNU.out; omega)
      clear c1 c3
      go_upto_region 7 with fail
      obtain ⟨e0, he0⟩ : ∃ e, max a u = e := ⟨_, rfl⟩
      obtain ⟨e1, he1⟩ : ∃ e, min b v = e := ⟨_, rfl⟩
      obtain ⟨P0, hP0⟩ : ∃ p, plc l k (max a u) = p := ⟨_, rfl⟩
      obtain ⟨P1, hP1⟩ : ∃ p, plc l k (min b v) = p := ⟨_, rfl⟩
      have HP01 : Hid (plc l k e0 = P0 ∧ plc l k e1 = P1) := Lib.hid ⟨by rw [← he0]; exact hP0, by rw [← he1]; exact hP1⟩
      rw [hP0, hP1] at HE
      rw [he0, he1] at HEB
      have HV0 := Lib.hid he0
      have HV1 := Lib.hid he1
      clear he0 he1 hP0 hP1 z4 z5 f1 f2
      go_upto_region 8 with fail
      obtain ⟨ge, hge⟩ : ∃ g, W1.heap.size = g := ⟨_, rfl⟩
      have hb2 : Below W1.heap.size W1 (W1.alloc (.cells #[.int .i64 (a : Int), .int .i64 (b : Int)] 3)) := (Below.refl _ _).alloc (Nat.le_refl _) _
      have hk2 := Blk.new W1 3 #[.int .i64 (a : Int), .int .i64 (b : Int)]
      obtain ⟨W2, hW2⟩ : ∃ W, W1.alloc (.cells #[.int .i64 (a : Int), .int .i64 (b : Int)] 3) = W := ⟨_, rfl⟩
      rw [hge, hW2] at hk2
      rw [hW2] at hb2
      rw [hge, hW2]
      have HGE : Hid (W1.heap.size ≤ ge) := Lib.hid (by omega)
      have HB2 := Lib.hid hb2
      have HK2 := Lib.hid hk2
      obtain ⟨y0, y1, _⟩ := blk2 hk2
      obtain ⟨_, _, _, _, z4, z5⟩ := SP.out _ (HR1.out.below.trans (hb2.mono HR1.out.below.size))
      clear hge hb2 hk2 hW2
      go_quiet (fail)
      have hbq := drew_below (n := nq) (Below.refl W2.heap.size W2)
      obtain ⟨W3, hW3⟩ : ∃ W, W2.drewN nq = W := ⟨_, rfl⟩
      rw [hW3] at hbq
      rw [hW3]
      have HB3 := Lib.hid (HB2.out.trans (hbq.mono HB2.out.size))
      have HK3 := Lib.hid (HK2.out.below hbq HK2.out.lt)
      clear y0 y1 z4 z5 hW3 hbq HK2 HB2
      go_upto_if 65 with fail
      go_cut [12] from 65 to 71 (fun s wx => s = .slice (some ⟨ge, 0, none⟩) 2 2 ∧ Below W1.heap.size W1 wx ∧ Blk wx ge 3 #[.int .i64 (e0 : Int), .int .i64 (b : Int)])
      case first =>
        obtain ⟨y0, y1, y2⟩ := blk2 HK3.out
        obtain ⟨_, _, _, _, z4, z5⟩ := SP.out _ (HR1.out.below.trans (HB3.out.mono HR1.out.below.size))
        by_cases c1 : a < u
        · have f1 : (a : Int) < (u : Int) := by omega
          have HX : Hid (e0 = u) := Lib.hid (by have := HV0.out; omega)
          clear c1
          go_wp2_with fail
          go_meet
          refine ⟨rfl, ?_, ?_⟩
          · rw [setCell_eq_setRow W3 ge 0 _ _ _ _ HK3.out]
            exact below_setRow HB3.out HGE.out _
          · rw [setCell_eq_setRow W3 ge 0 _ _ _ _ HK3.out, HX.out]
            exact Blk.row HK3.out _
        · have f1 : ¬ (a : Int) < (u : Int) := by omega
          have HX : Hid (e0 = a) := Lib.hid (by have := HV0.out; omega)
          clear c1
          go_wp2_with fail
          go_meet
          exact ⟨rfl, HB3.out, by rw [HX.out]; exact HK3.out⟩
      case rest =>
        obtain ⟨rfl, hb4, hk4⟩ := hcut
        obtain ⟨W4, rfl⟩ : ∃ W4, W4 = wc := ⟨_, rfl⟩
        have HB4 := Lib.hid hb4
        have HK4 := Lib.hid hk4
        obtain ⟨y0, y1, y2⟩ := blk2 HK4.out
        obtain ⟨_, _, _, _, z4, z5⟩ := SP.out _ (HR1.out.below.trans (HB4.out.mono HR1.out.below.size))
        clear hb4 hk4 HB3 HK3
        go_upto_region 10 with fail
        go_quiet (fail)
        have hbq := drew_below (n := nq) (Below.refl W4.heap.size W4)
        obtain ⟨W5, hW5⟩ : ∃ W, W4.drewN nq = W := ⟨_, rfl⟩
        rw [hW5] at hbq
        rw [hW5]
        have HB5 := Lib.hid (HB4.out.trans (hbq.mono HB4.out.size))
        have HK5 := Lib.hid (HK4.out.below hbq HK4.out.lt)
        clear y0 y1 y2 z4 z5 hW5 hbq HK4 HB4
        go_upto_if 80 with fail
        go_cut [12] from 80 to 87 (fun s wx => s = .slice (some ⟨ge, 0, none⟩) 2 2 ∧ Below W1.heap.size W1 wx ∧ Blk wx ge 3 #[.int .i64 (e0 : Int), .int .i64 (e1 : Int)])
        case first =>
          obtain ⟨y0, y1, y2⟩ := blk2 HK5.out
          obtain ⟨_, _, _, _, z4, z5⟩ := SP.out _ (HR1.out.below.trans (HB5.out.mono HR1.out.below.size))
          by_cases c1 : v < b
          · have f1 : (v : Int) < (b : Int) := by omega
            have HX : Hid (e1 = v) := Lib.hid (by have := HV1.out; omega)
            clear c1
            go_wp2_with fail
            go_meet
            refine ⟨rfl, ?_, ?_⟩
            · rw [setCell_eq_setRow W5 ge 1 _ _ _ _ HK5.out]
              exact below_setRow HB5.out HGE.out _
            · rw [setCell_eq_setRow W5 ge 1 _ _ _ _ HK5.out, HX.out]
              exact Blk.row HK5.out _
          · have f1 : ¬ (v : Int) < (b : Int) := by omega
            have HX : Hid (e1 = b) := Lib.hid (by have := HV1.out; omega)
            clear c1
            go_wp2_with fail
            go_meet
            exact ⟨rfl, HB5.out, by rw [HX.out]; exact HK5.out⟩
        case rest =>
          obtain ⟨rfl, hb6, hk6⟩ := hcut
          obtain ⟨W6, rfl⟩ : ∃ W6, W6 = wc := ⟨_, rfl⟩
          have HR6 := Lib.hid (HR1.out.later hb6)
          have HK6 := Lib.hid hk6
          clear hb6 hk6 HB5 HK5 HR1
          have HMB0 : Hid (D.length ≤ 2 * k) := Lib.hid (by have := pceN_len l a b k; rw [HD.out] at this; exact this)
          go_wp2_with fail
          go_loopw [9, 90] (fun x i wx => ∃ j m2 : Nat, i = .int .i64 (j : Int) ∧ j ≤ 2 ∧ (pj D P0 P1 j).length = m2 ∧ R1 30 2 w x m2 (pts (pj D P0 P1 j)) none wx ∧ Blk wx ge 3 #[.int .i64 (e0 : Int), .int .i64 (e1 : Int)]) (fun _ i _ => 2 - (intOf i).toNat)
          case atStart => exact ⟨0, m, rfl, by omega, HMM.out, HR6.out, HK6.out⟩
          case round =>
            clear HR6 HK6
            obtain ⟨j, m2, rfl, hj, hm2, hr2, hk2⟩ := hrel
            have HR4 := Lib.hid hr2
            have HK4 := Lib.hid hk2
            have HM2 := Lib.hid hm2
            have HMB : Hid (m2 ≤ 1048570) := Lib.hid (by have h1 := pj_len D P0 P1 j; have h2 := HMB0.out; have h3 := H01.out; have h4 := HKB.out; omega)
            by_cases hj2 : j < 2
            · obtain ⟨e, he, hue, hev, hpj⟩ : ∃ e : Nat, (#[Value.int .i64 (e0 : Int), .int .i64 (e1 : Int)])[j]? = some (.int .i64 (e : Int)) ∧ u ≤ e ∧ e ≤ v ∧ pj D P0 P1 (j + 1) = addp (pj D P0 P1 j) (plc l k e) := by
                rcases j with _ | _ | j
                · exact ⟨e0, rfl, HEB.out.1, HEB.out.2.1, by rw [HP01.out.1]; rfl⟩
                · exact ⟨e1, rfl, HEB.out.2.2.1, HEB.out.2.2.2, by rw [HP01.out.2]; rfl⟩
                · omega
              obtain ⟨N1, N2, q1, q2, r0, r1, hN1, hN2, hq1, hq2, hr0, hr1, hpl, hb1, hb2, hb3, hb4⟩ := HPB.out e hue hev
              have hnu := HNU.out
              obtain ⟨d, hd⟩ : ∃ d : Int, (e : Int) - (u : Int) = d := ⟨_, rfl⟩
              obtain ⟨x, hx⟩ : ∃ x : Int, b0 - a0 = x := ⟨_, rfl⟩
              obtain ⟨y, hy⟩ : ∃ x : Int, b1 - a1 = x := ⟨_, rfl⟩
              rw [hd, hx] at hN1
              rw [hd, hy] at hN2
              have HPJ := Lib.hid hpj
              have HPL := Lib.hid hpl
              have HC1 : Hid (∀ W, Calls Tryd.prog 55 #[.int .i64 N1, .int .i64 (H : Int)] W (NmC q1 W)) := Lib.hid fun W => (Ref01.div_is N1 (H : Nat) q1 hq1.symm (by omega) (by omega) (by omega) (by omega) W).mono (by rintro e w9 ⟨rfl, n, rfl⟩; exact ⟨rfl, drew_below (Below.refl _ _)⟩)
              have HC2 : Hid (∀ W, Calls Tryd.prog 55 #[.int .i64 N2, .int .i64 (H : Int)] W (NmC q2 W)) := Lib.hid fun W => (Ref01.div_is N2 (H : Nat) q2 hq2.symm (by omega) (by omega) (by omega) (by omega) W).mono (by rintro e w9 ⟨rfl, n, rfl⟩; exact ⟨rfl, drew_below (Below.refl _ _)⟩)
              have X1 : Hid (IntKind.i64.wrap (b0 - a0) = x) := Lib.hid (by rw [hx]; exact i64w (by omega) (by omega))
              have X2 : Hid (IntKind.i64.wrap (b1 - a1) = y) := Lib.hid (by rw [hy]; exact i64w (by omega) (by omega))
              have X3 : Hid (IntKind.i64.wrap (x * d) = N1) := Lib.hid (by rw [hN1]; exact i64w (by omega) (by omega))
              have X4 : Hid (IntKind.i64.wrap (y * d) = N2) := Lib.hid (by rw [hN2]; exact i64w (by omega) (by omega))
              have X5 : Hid (IntKind.i64.wrap (a0 + q1) = r0) := Lib.hid (by rw [hr0]; exact i64w (by omega) (by omega))
              have X6 : Hid (IntKind.i64.wrap (a1 + q2) = r1) := Lib.hid (by rw [hr1]; exact i64w (by omega) (by omega))
              have X9 : Hid (IntKind.i64.wrap ((e : Int) - (u : Int)) = d) := Lib.hid (by rw [hd]; exact i64w (by omega) (by omega))
              have HJ2 : Hid (j < 2) := Lib.hid hj2
              have XJ : Hid (IntKind.i64.wrap ((j : Int) + 1) = (j : Int) + 1) := Lib.hid (i64w (by omega) (by omega))
              have ye := (HK4.out.cell j).trans he
              obtain ⟨_, _, _, _, z4, _⟩ := SP.out _ HR4.out.below
              have x9 := X9.out
              have f1 : (j : Int) < 2 := by omega
              have f2 : (0 : Int) ≤ (j : Int) := by omega
              clear hj hm2 hr2 hk2 hj2 he hue hev hpj hN1 hN2 hq1 hq2 hr0 hr1 hpl hb1 hb2 hb3 hb4 hnu hd hx hy x7 xa
              go_wp2_with fail
              go_quiet (fail)
              have hbq := drew_below (n := nq) (Below.refl wr.heap.size wr)
              obtain ⟨W5, hW5⟩ : ∃ W, wr.drewN nq = W := ⟨_, rfl⟩
              rw [hW5] at hbq
              rw [hW5]
              have HR5 := Lib.hid (HR4.out.later hbq)
              have HK5 := Lib.hid (HK4.out.below hbq HK4.out.lt)
              clear ye z4 x9 f1 f2 hW5 hbq HR4 HK4
              go_upto_region 16 with fail
              go_cut [15] from 102 to 146 (fun s wx => ∃ g15, s = .pointer (some ⟨g15, 0, none⟩) ∧ Below W5.heap.size W5 wx ∧ Blk wx g15 30 #[.int .i64 r0, .int .i64 r1] ∧ W5.heap.size ≤ g15)
              case first =>
                have x7 := X7.out
                have x1 := X1.out
                have x2 := X2.out
                have x3 := X3.out
                have x4 := X4.out
                have x5 := X5.out
                have x6 := X6.out
                have HN : Hid (Bn W5 W5.drew []) := Lib.hid (Bn.nil W5).drew
                refine wp_region_held_drew (S := fun W => Below W5.heap.size W5 W) (by kernel_rfl) HN.out.b (fun hHeld => ?_)
                refine wpAnyH_take (i := 0) (oi := _) (v := .slice (some ⟨pb, 0, none⟩) n cp) rfl (by kernel_rfl) (by kernel_rfl) (by kernel_rfl) (fun _ _ _ h => h) (Or.inl ⟨by rfl, fun W1 hS => by go_simp⟩) (by assumption) ?_
                go_simp
                refine wpAnyH_take (i := 1) (oi := _) (v := .int .i64 (k : Int)) rfl (by kernel_rfl) (by kernel_rfl) (by kernel_rfl) (fun _ _ _ h => h) (Or.inl ⟨by rfl, fun W1 hS => by go_simp⟩) (by assumption) ?_
                go_simp
                refine wpAnyH_take (i := 2) (oi := _) (v := .pointer (some ⟨pb, k * 2, none⟩)) rfl (by kernel_rfl) (by kernel_rfl) (by kernel_rfl) (fun _ _ _ h => h) (Or.inl ⟨by rfl, fun W1 hS => by go_simp⟩) (by assumption) ?_
                go_simp
                refine wpAnyH_take (i := 3) (oi := _) (v := .pointer (some ⟨pb, k * 2, none⟩)) rfl (by kernel_rfl) (by kernel_rfl) (by kernel_rfl) (fun _ _ _ h => h) (Or.inl ⟨by rfl, fun W1 hS => by go_simp⟩) (by assumption) ?_
                go_simp
                refine wpAnyH_take (i := 4) (oi := _) (v := .int .i64 a0) rfl (by kernel_rfl) (by kernel_rfl) (by kernel_rfl) (fun _ _ _ h => h) (Or.inl ⟨by rfl, fun W1 hS => by (obtain ⟨y0, y1, y2, y3, _, _⟩ := SP.out _ (HR5.out.below.trans (hS.mono HR5.out.below.size)); go_simp)⟩) (by assumption) ?_
                go_simp
                refine wpAnyH_take (i := 5) (oi := _) (v := .slice (some ⟨pb, 0, none⟩) n cp) rfl (by kernel_rfl) (by kernel_rfl) (by kernel_rfl) (fun _ _ _ h => h) (Or.inl ⟨by rfl, fun W1 hS => by go_simp⟩) (by assumption) ?_
                go_simp
                refine wpAnyH_take (i := 6) (oi := _) (v := .int .i64 (k : Int)) rfl (by kernel_rfl) (by kernel_rfl) (by kernel_rfl) (fun _ _ _ h => h) (Or.inl ⟨by rfl, fun W1 hS => by go_simp⟩) (by assumption) ?_
                go_simp
                refine wpAnyH_take (i := 7) (oi := _) (v := .int .i64 ((k : Int) + 1)) rfl (by kernel_rfl) (by kernel_rfl) (by kernel_rfl) (fun _ _ _ h => h) (Or.inl ⟨by rfl, fun W1 hS => by go_simp⟩) (by assumption) ?_
                go_simp
                refine wpAnyH_take (i := 8) (oi := _) (v := .pointer (some ⟨pb, (k + 1) * 2, none⟩)) rfl (by kernel_rfl) (by kernel_rfl) (by kernel_rfl) (fun _ _ _ h => h) (Or.inl ⟨by rfl, fun W1 hS => by go_simp⟩) (by assumption) ?_
                go_simp
                refine wpAnyH_take (i := 9) (oi := _) (v := .pointer (some ⟨pb, (k + 1) * 2, none⟩)) rfl (by kernel_rfl) (by kernel_rfl) (by kernel_rfl) (fun _ _ _ h => h) (Or.inl ⟨by rfl, fun W1 hS => by go_simp⟩) (by assumption) ?_
                go_simp
                refine wpAnyH_take (i := 10) (oi := _) (v := .int .i64 b0) rfl (by kernel_rfl) (by kernel_rfl) (by kernel_rfl) (fun _ _ _ h => h) (Or.inl ⟨by rfl, fun W1 hS => by (obtain ⟨y0, y1, y2, y3, _, _⟩ := SP.out _ (HR5.out.below.trans (hS.mono HR5.out.below.size)); go_simp)⟩) (by assumption) ?_
                go_simp
                refine wpAnyH_take (i := 11) (oi := _) (v := .slice (some ⟨pb, 0, none⟩) n cp) rfl (by kernel_rfl) (by kernel_rfl) (by kernel_rfl) (fun _ _ _ h => h) (Or.inl ⟨by rfl, fun W1 hS => by go_simp⟩) (by assumption) ?_
                go_simp
                refine wpAnyH_take (i := 12) (oi := _) (v := .int .i64 (k : Int)) rfl (by kernel_rfl) (by kernel_rfl) (by kernel_rfl) (fun _ _ _ h => h) (Or.inl ⟨by rfl, fun W1 hS => by go_simp⟩) (by assumption) ?_
                go_simp
                refine wpAnyH_take (i := 13) (oi := _) (v := .pointer (some ⟨pb, k * 2, none⟩)) rfl (by kernel_rfl) (by kernel_rfl) (by kernel_rfl) (fun _ _ _ h => h) (Or.inl ⟨by rfl, fun W1 hS => by go_simp⟩) (by assumption) ?_
                go_simp
                refine wpAnyH_take (i := 14) (oi := _) (v := .pointer (some ⟨pb, k * 2, none⟩)) rfl (by kernel_rfl) (by kernel_rfl) (by kernel_rfl) (fun _ _ _ h => h) (Or.inl ⟨by rfl, fun W1 hS => by go_simp⟩) (by assumption) ?_
                go_simp
                refine wpAnyH_take (i := 15) (oi := _) (v := .int .i64 a0) rfl (by kernel_rfl) (by kernel_rfl) (by kernel_rfl) (fun _ _ _ h => h) (Or.inl ⟨by rfl, fun W1 hS => by (obtain ⟨y0, y1, y2, y3, _, _⟩ := SP.out _ (HR5.out.below.trans (hS.mono HR5.out.below.size)); go_simp)⟩) (by assumption) ?_
                go_simp
                refine wpAnyH_take (i := 16) (oi := _) (v := .int .i64 x) rfl (by kernel_rfl) (by kernel_rfl) (by kernel_rfl) (fun _ _ _ h => h) (Or.inl ⟨by rfl, fun W1 hS => by go_simp⟩) (by assumption) ?_
                go_simp
                refine wpAnyH_take (i := 17) (oi := _) (v := .int .i64 d) rfl (by kernel_rfl) (by kernel_rfl) (by kernel_rfl) (fun _ _ _ h => h) (Or.inl ⟨by rfl, fun W1 hS => by go_simp⟩) (by assumption) ?_
                go_simp
                refine wpAnyH_take (i := 18) (oi := _) (v := .int .i64 N1) rfl (by kernel_rfl) (by kernel_rfl) (by kernel_rfl) (fun _ _ _ h => h) (Or.inl ⟨by rfl, fun W1 hS => by go_simp⟩) (by assumption) ?_
                go_simp
                refine wpAnyH_take (i := 19) (oi := _) (v := .int .i64 (H : Int)) rfl (by kernel_rfl) (by kernel_rfl) (by kernel_rfl) (fun _ _ _ h => h) (Or.inl ⟨by rfl, fun W1 hS => by go_simp⟩) (by assumption) ?_
                go_simp
                refine wpAnyH_take (i := 22) (oi := _) (v := .slice (some ⟨pb, 0, none⟩) n cp) rfl (by kernel_rfl) (by kernel_rfl) (by kernel_rfl) (fun _ _ _ h => h) (Or.inl ⟨by rfl, fun W1 hS => by go_simp⟩) (by assumption) ?_
                go_simp
                refine wpAnyH_take (i := 23) (oi := _) (v := .int .i64 (k : Int)) rfl (by kernel_rfl) (by kernel_rfl) (by kernel_rfl) (fun _ _ _ h => h) (Or.inl ⟨by rfl, fun W1 hS => by go_simp⟩) (by assumption) ?_
                go_simp
                refine wpAnyH_take (i := 24) (oi := _) (v := .pointer (some ⟨pb, k * 2, none⟩)) rfl (by kernel_rfl) (by kernel_rfl) (by kernel_rfl) (fun _ _ _ h => h) (Or.inl ⟨by rfl, fun W1 hS => by go_simp⟩) (by assumption) ?_
                go_simp
                refine wpAnyH_take (i := 25) (oi := _) (v := .pointer (some ⟨pb, k * 2 + 1, none⟩)) rfl (by kernel_rfl) (by kernel_rfl) (by kernel_rfl) (fun _ _ _ h => h) (Or.inl ⟨by rfl, fun W1 hS => by go_simp⟩) (by assumption) ?_
                go_simp
                refine wpAnyH_take (i := 26) (oi := _) (v := .int .i64 a1) rfl (by kernel_rfl) (by kernel_rfl) (by kernel_rfl) (fun _ _ _ h => h) (Or.inl ⟨by rfl, fun W1 hS => by (obtain ⟨y0, y1, y2, y3, _, _⟩ := SP.out _ (HR5.out.below.trans (hS.mono HR5.out.below.size)); go_simp)⟩) (by assumption) ?_
                go_simp
                refine wpAnyH_take (i := 27) (oi := _) (v := .slice (some ⟨pb, 0, none⟩) n cp) rfl (by kernel_rfl) (by kernel_rfl) (by kernel_rfl) (fun _ _ _ h => h) (Or.inl ⟨by rfl, fun W1 hS => by go_simp⟩) (by assumption) ?_
                go_simp
                refine wpAnyH_take (i := 28) (oi := _) (v := .int .i64 (k : Int)) rfl (by kernel_rfl) (by kernel_rfl) (by kernel_rfl) (fun _ _ _ h => h) (Or.inl ⟨by rfl, fun W1 hS => by go_simp⟩) (by assumption) ?_
                go_simp
                refine wpAnyH_take (i := 29) (oi := _) (v := .int .i64 ((k : Int) + 1)) rfl (by kernel_rfl) (by kernel_rfl) (by kernel_rfl) (fun _ _ _ h => h) (Or.inl ⟨by rfl, fun W1 hS => by go_simp⟩) (by assumption) ?_
                go_simp
                refine wpAnyH_take (i := 30) (oi := _) (v := .pointer (some ⟨pb, (k + 1) * 2, none⟩)) rfl (by kernel_rfl) (by kernel_rfl) (by kernel_rfl) (fun _ _ _ h => h) (Or.inl ⟨by rfl, fun W1 hS => by go_simp⟩) (by assumption) ?_
                go_simp
                refine wpAnyH_take (i := 31) (oi := _) (v := .pointer (some ⟨pb, (k + 1) * 2 + 1, none⟩)) rfl (by kernel_rfl) (by kernel_rfl) (by kernel_rfl) (fun _ _ _ h => h) (Or.inl ⟨by rfl, fun W1 hS => by go_simp⟩) (by assumption) ?_
                go_simp
                refine wpAnyH_take (i := 32) (oi := _) (v := .int .i64 b1) rfl (by kernel_rfl) (by kernel_rfl) (by kernel_rfl) (fun _ _ _ h => h) (Or.inl ⟨by rfl, fun W1 hS => by (obtain ⟨y0, y1, y2, y3, _, _⟩ := SP.out _ (HR5.out.below.trans (hS.mono HR5.out.below.size)); go_simp)⟩) (by assumption) ?_
                go_simp
                refine wpAnyH_take (i := 33) (oi := _) (v := .slice (some ⟨pb, 0, none⟩) n cp) rfl (by kernel_rfl) (by kernel_rfl) (by kernel_rfl) (fun _ _ _ h => h) (Or.inl ⟨by rfl, fun W1 hS => by go_simp⟩) (by assumption) ?_
                go_simp
                refine wpAnyH_take (i := 34) (oi := _) (v := .int .i64 (k : Int)) rfl (by kernel_rfl) (by kernel_rfl) (by kernel_rfl) (fun _ _ _ h => h) (Or.inl ⟨by rfl, fun W1 hS => by go_simp⟩) (by assumption) ?_
                go_simp
                refine wpAnyH_take (i := 35) (oi := _) (v := .pointer (some ⟨pb, k * 2, none⟩)) rfl (by kernel_rfl) (by kernel_rfl) (by kernel_rfl) (fun _ _ _ h => h) (Or.inl ⟨by rfl, fun W1 hS => by go_simp⟩) (by assumption) ?_
                go_simp
                refine wpAnyH_take (i := 36) (oi := _) (v := .pointer (some ⟨pb, k * 2 + 1, none⟩)) rfl (by kernel_rfl) (by kernel_rfl) (by kernel_rfl) (fun _ _ _ h => h) (Or.inl ⟨by rfl, fun W1 hS => by go_simp⟩) (by assumption) ?_
                go_simp
                refine wpAnyH_take (i := 37) (oi := _) (v := .int .i64 a1) rfl (by kernel_rfl) (by kernel_rfl) (by kernel_rfl) (fun _ _ _ h => h) (Or.inl ⟨by rfl, fun W1 hS => by (obtain ⟨y0, y1, y2, y3, _, _⟩ := SP.out _ (HR5.out.below.trans (hS.mono HR5.out.below.size)); go_simp)⟩) (by assumption) ?_
                go_simp
                refine wpAnyH_take (i := 38) (oi := _) (v := .int .i64 y) rfl (by kernel_rfl) (by kernel_rfl) (by kernel_rfl) (fun _ _ _ h => h) (Or.inl ⟨by rfl, fun W1 hS => by go_simp⟩) (by assumption) ?_
                go_simp
                refine wpAnyH_take (i := 39) (oi := _) (v := .int .i64 d) rfl (by kernel_rfl) (by kernel_rfl) (by kernel_rfl) (fun _ _ _ h => h) (Or.inl ⟨by rfl, fun W1 hS => by go_simp⟩) (by assumption) ?_
                go_simp
                refine wpAnyH_take (i := 40) (oi := _) (v := .int .i64 N2) rfl (by kernel_rfl) (by kernel_rfl) (by kernel_rfl) (fun _ _ _ h => h) (Or.inl ⟨by rfl, fun W1 hS => by go_simp⟩) (by assumption) ?_
                go_simp
                refine wpAnyH_take (i := 41) (oi := _) (v := .int .i64 (H : Int)) rfl (by kernel_rfl) (by kernel_rfl) (by kernel_rfl) (fun _ _ _ h => h) (Or.inl ⟨by rfl, fun W1 hS => by go_simp⟩) (by assumption) ?_
                go_simp
                clear hHeld
                refine wpAnyH_ready (rs := [20, 45]) (by kernel_rfl) (by simp) ?_
                refine AllReadyH.cons (o := _) rfl (fun K hK => ?_) (AllReadyH.cons (o := _) rfl (fun K hK => ?_) AllReadyH.nil)
                · go_simp
                  go_at_call 55
                  refine (HC1.out _).mono ?_
                  rintro e Wn0 ⟨rfl, hbq⟩
                  go_wp2_with fail
                  have HM := Lib.hid (HN.out.below hbq)
                  clear hbq
                  refine hK.out _ _ HM.out.b (fun hHeld => ?_)
                  clear hK hHeld HN
                  have HN : Hid (Bn W5 Wn0 []) := HM
                  clear HM
                  have hHeld := HN.out.b
                  try simp only [Act.put, List.setIfInBounds_toArray, List.set_cons_zero, List.set_cons_succ]
                  refine wpAnyH_take (i := 21) (oi := _) (v := .int .i64 r0) rfl (by kernel_rfl) (by kernel_rfl) (by kernel_rfl) (fun _ _ _ h => h) (Or.inl ⟨by rfl, fun W1 hS => by go_simp⟩) (by assumption) ?_
                  go_simp
                  clear hHeld
                  refine wpAnyH_ready (rs := [42, 45]) (by kernel_rfl) (by simp) ?_
                  refine AllReadyH.cons (o := _) rfl (fun K hK => ?_) (AllReadyH.cons (o := _) rfl (fun K hK => ?_) AllReadyH.nil)
                  · go_simp
                    go_at_call 55
                    refine (HC2.out _).mono ?_
                    rintro e Wn1 ⟨rfl, hbq⟩
                    go_wp2_with fail
                    have HM := Lib.hid (HN.out.below hbq)
                    clear hbq
                    refine hK.out _ _ HM.out.b (fun hHeld => ?_)
                    clear hK hHeld HN
                    have HN : Hid (Bn W5 Wn1 []) := HM
                    clear HM
                    have hHeld := HN.out.b
                    try simp only [Act.put, List.setIfInBounds_toArray, List.set_cons_zero, List.set_cons_succ]
                    refine wpAnyH_take (i := 43) (oi := _) (v := .int .i64 r1) rfl (by kernel_rfl) (by kernel_rfl) (by kernel_rfl) (fun _ _ _ h => h) (Or.inl ⟨by rfl, fun W1 hS => by go_simp⟩) (by assumption) ?_
                    go_simp
                    refine wpAnyH_take (i := 44) (oi := _) (v := .agg #[.int .i64 r0, .int .i64 r1]) rfl (by kernel_rfl) (by kernel_rfl) (by kernel_rfl) (fun _ _ _ h => h) (Or.inl ⟨by rfl, fun W1 hS => by go_simp⟩) (by assumption) ?_
                    go_simp
                    clear hHeld
                    refine wpAnyH_ready (rs := [45]) (by kernel_rfl) (by simp) ?_
                    refine AllReadyH.cons (o := _) rfl (fun K hK => ?_) AllReadyH.nil
                    rw [if_pos (by rfl)]
                    refine wp_allocPt 15 rfl rfl ?_
                    have HM := Lib.hid (HN.out.push _ rfl 30 #[.int .i64 0, .int .i64 0])
                    have ge_g15 : W5.heap.size ≤ (Wn1).heap.size := HN.out.b.size
                    refine hK.out _ _ HM.out.b (fun hHeld => ?_)
                    clear hK hHeld HN
                    revert HM ge_g15 
                    obtain ⟨g15, hg⟩ : ∃ g, g = (Wn1).heap.size := ⟨_, rfl⟩
                    obtain ⟨Wn2, hW⟩ : ∃ W, W = (Wn1).alloc (.cells #[.int .i64 0, .int .i64 0] 30) := ⟨_, rfl⟩
                    rw [← hg, ← hW]
                    clear hg hW
                    intro HM  ge_g15
                    have HN : Hid (Bn W5 Wn2 [(g15, 30, #[.int .i64 0, .int .i64 0])]) := HM
                    clear HM
                    have hHeld := HN.out.b
                    try simp only [Act.put, List.setIfInBounds_toArray, List.set_cons_zero, List.set_cons_succ]
                    clear hHeld
                    refine wpAnyH_ready (rs := [46]) (by kernel_rfl) (by simp) ?_
                    refine AllReadyH.cons (o := _) rfl (fun K hK => ?_) AllReadyH.nil
                    rw [if_pos (by rfl)]
                    refine wp_store_row 30 _ _ rfl g15 #[.int .i64 r0, .int .i64 r1] rfl rfl 30 #[.int .i64 0, .int .i64 0] (HN.out.get 0 rfl) (infoPt (0, 0)) rfl (by simp [Value.oneCell']) ?_
                    have HM : Hid (Bn W5 (Wn2.setRow g15 #[.int .i64 r0, .int .i64 r1]) [(g15, 30, #[.int .i64 r0, .int .i64 r1])]) := Lib.hid (HN.out.row 0 rfl ge_g15 (by (intro j y hj hy; rcases j with _ | _ | _ | _ | _ | _ | j <;> first | exact absurd rfl hj | (simp only [List.getElem?_cons_zero, List.getElem?_cons_succ, Option.some.injEq] at hy; subst hy; dsimp only; omega) | (simp at hy; done))) #[.int .i64 r0, .int .i64 r1])
                    refine hK.out _ _ HM.out.b (fun hHeld => ?_)
                    clear hK hHeld HN
                    have HN := HM
                    clear HM
                    have hHeld := HN.out.b
                    try simp only [Act.put, List.setIfInBounds_toArray, List.set_cons_zero, List.set_cons_succ]
                    clear hHeld
                    refine wpAnyH_done (by kernel_rfl) ?_ _
                    go_wp2_with fail
                    go_meet
                    exact ⟨g15, rfl, HN.out.b, HN.out.get 0 rfl, ge_g15⟩
                  · rw [if_pos (by rfl)]
                    refine wp_allocPt 15 rfl rfl ?_
                    have HM := Lib.hid (HN.out.push _ rfl 30 #[.int .i64 0, .int .i64 0])
                    have ge_g15 : W5.heap.size ≤ (Wn0).heap.size := HN.out.b.size
                    refine hK.out _ _ HM.out.b (fun hHeld => ?_)
                    clear hK hHeld HN
                    revert HM ge_g15 
                    obtain ⟨g15, hg⟩ : ∃ g, g = (Wn0).heap.size := ⟨_, rfl⟩
                    obtain ⟨Wn1, hW⟩ : ∃ W, W = (Wn0).alloc (.cells #[.int .i64 0, .int .i64 0] 30) := ⟨_, rfl⟩
                    rw [← hg, ← hW]
                    clear hg hW
                    intro HM  ge_g15
                    have HN : Hid (Bn W5 Wn1 [(g15, 30, #[.int .i64 0, .int .i64 0])]) := HM
                    clear HM
                    have hHeld := HN.out.b
                    try simp only [Act.put, List.setIfInBounds_toArray, List.set_cons_zero, List.set_cons_succ]
                    clear hHeld
                    refine wpAnyH_ready (rs := [42]) (by kernel_rfl) (by simp) ?_
                    refine AllReadyH.cons (o := _) rfl (fun K hK => ?_) AllReadyH.nil
                    go_simp
                    go_at_call 55
                    refine (HC2.out _).mono ?_
                    rintro e Wn2 ⟨rfl, hbq⟩
                    go_wp2_with fail
                    have HM := Lib.hid (HN.out.below hbq)
                    clear hbq
                    refine hK.out _ _ HM.out.b (fun hHeld => ?_)
                    clear hK hHeld HN
                    have HN : Hid (Bn W5 Wn2 [(g15, 30, #[.int .i64 0, .int .i64 0])]) := HM
                    clear HM
                    have hHeld := HN.out.b
                    try simp only [Act.put, List.setIfInBounds_toArray, List.set_cons_zero, List.set_cons_succ]
                    refine wpAnyH_take (i := 43) (oi := _) (v := .int .i64 r1) rfl (by kernel_rfl) (by kernel_rfl) (by kernel_rfl) (fun _ _ _ h => h) (Or.inl ⟨by rfl, fun W1 hS => by go_simp⟩) (by assumption) ?_
                    go_simp
                    refine wpAnyH_take (i := 44) (oi := _) (v := .agg #[.int .i64 r0, .int .i64 r1]) rfl (by kernel_rfl) (by kernel_rfl) (by kernel_rfl) (fun _ _ _ h => h) (Or.inl ⟨by rfl, fun W1 hS => by go_simp⟩) (by assumption) ?_
                    go_simp
                    clear hHeld
                    refine wpAnyH_ready (rs := [46]) (by kernel_rfl) (by simp) ?_
                    refine AllReadyH.cons (o := _) rfl (fun K hK => ?_) AllReadyH.nil
                    rw [if_pos (by rfl)]
                    refine wp_store_row 30 _ _ rfl g15 #[.int .i64 r0, .int .i64 r1] rfl rfl 30 #[.int .i64 0, .int .i64 0] (HN.out.get 0 rfl) (infoPt (0, 0)) rfl (by simp [Value.oneCell']) ?_
                    have HM : Hid (Bn W5 (Wn2.setRow g15 #[.int .i64 r0, .int .i64 r1]) [(g15, 30, #[.int .i64 r0, .int .i64 r1])]) := Lib.hid (HN.out.row 0 rfl ge_g15 (by (intro j y hj hy; rcases j with _ | _ | _ | _ | _ | _ | j <;> first | exact absurd rfl hj | (simp only [List.getElem?_cons_zero, List.getElem?_cons_succ, Option.some.injEq] at hy; subst hy; dsimp only; omega) | (simp at hy; done))) #[.int .i64 r0, .int .i64 r1])
                    refine hK.out _ _ HM.out.b (fun hHeld => ?_)
                    clear hK hHeld HN
                    have HN := HM
                    clear HM
                    have hHeld := HN.out.b
                    try simp only [Act.put, List.setIfInBounds_toArray, List.set_cons_zero, List.set_cons_succ]
                    clear hHeld
                    refine wpAnyH_done (by kernel_rfl) ?_ _
                    go_wp2_with fail
                    go_meet
                    exact ⟨g15, rfl, HN.out.b, HN.out.get 0 rfl, ge_g15⟩
                · rw [if_pos (by rfl)]
                  refine wp_allocPt 15 rfl rfl ?_
                  have HM := Lib.hid (HN.out.push _ rfl 30 #[.int .i64 0, .int .i64 0])
                  have ge_g15 : W5.heap.size ≤ (W5.drew).heap.size := HN.out.b.size
                  refine hK.out _ _ HM.out.b (fun hHeld => ?_)
                  clear hK hHeld HN
                  revert HM ge_g15 
                  obtain ⟨g15, hg⟩ : ∃ g, g = (W5.drew).heap.size := ⟨_, rfl⟩
                  obtain ⟨Wn0, hW⟩ : ∃ W, W = (W5.drew).alloc (.cells #[.int .i64 0, .int .i64 0] 30) := ⟨_, rfl⟩
                  rw [← hg, ← hW]
                  clear hg hW
                  intro HM  ge_g15
                  have HN : Hid (Bn W5 Wn0 [(g15, 30, #[.int .i64 0, .int .i64 0])]) := HM
                  clear HM
                  have hHeld := HN.out.b
                  try simp only [Act.put, List.setIfInBounds_toArray, List.set_cons_zero, List.set_cons_succ]
                  clear hHeld
                  refine wpAnyH_ready (rs := [20]) (by kernel_rfl) (by simp) ?_
                  refine AllReadyH.cons (o := _) rfl (fun K hK => ?_) AllReadyH.nil
                  go_simp
                  go_at_call 55
                  refine (HC1.out _).mono ?_
                  rintro e Wn1 ⟨rfl, hbq⟩
                  go_wp2_with fail
                  have HM := Lib.hid (HN.out.below hbq)
                  clear hbq
                  refine hK.out _ _ HM.out.b (fun hHeld => ?_)
                  clear hK hHeld HN
                  have HN : Hid (Bn W5 Wn1 [(g15, 30, #[.int .i64 0, .int .i64 0])]) := HM
                  clear HM
                  have hHeld := HN.out.b
                  try simp only [Act.put, List.setIfInBounds_toArray, List.set_cons_zero, List.set_cons_succ]
                  refine wpAnyH_take (i := 21) (oi := _) (v := .int .i64 r0) rfl (by kernel_rfl) (by kernel_rfl) (by kernel_rfl) (fun _ _ _ h => h) (Or.inl ⟨by rfl, fun W1 hS => by go_simp⟩) (by assumption) ?_
                  go_simp
                  clear hHeld
                  refine wpAnyH_ready (rs := [42]) (by kernel_rfl) (by simp) ?_
                  refine AllReadyH.cons (o := _) rfl (fun K hK => ?_) AllReadyH.nil
                  go_simp
                  go_at_call 55
                  refine (HC2.out _).mono ?_
                  rintro e Wn2 ⟨rfl, hbq⟩
                  go_wp2_with fail
                  have HM := Lib.hid (HN.out.below hbq)
                  clear hbq
                  refine hK.out _ _ HM.out.b (fun hHeld => ?_)
                  clear hK hHeld HN
                  have HN : Hid (Bn W5 Wn2 [(g15, 30, #[.int .i64 0, .int .i64 0])]) := HM
                  clear HM
                  have hHeld := HN.out.b
                  try simp only [Act.put, List.setIfInBounds_toArray, List.set_cons_zero, List.set_cons_succ]
                  refine wpAnyH_take (i := 43) (oi := _) (v := .int .i64 r1) rfl (by kernel_rfl) (by kernel_rfl) (by kernel_rfl) (fun _ _ _ h => h) (Or.inl ⟨by rfl, fun W1 hS => by go_simp⟩) (by assumption) ?_
                  go_simp
                  refine wpAnyH_take (i := 44) (oi := _) (v := .agg #[.int .i64 r0, .int .i64 r1]) rfl (by kernel_rfl) (by kernel_rfl) (by kernel_rfl) (fun _ _ _ h => h) (Or.inl ⟨by rfl, fun W1 hS => by go_simp⟩) (by assumption) ?_
                  go_simp
                  clear hHeld
                  refine wpAnyH_ready (rs := [46]) (by kernel_rfl) (by simp) ?_
                  refine AllReadyH.cons (o := _) rfl (fun K hK => ?_) AllReadyH.nil
                  rw [if_pos (by rfl)]
                  refine wp_store_row 30 _ _ rfl g15 #[.int .i64 r0, .int .i64 r1] rfl rfl 30 #[.int .i64 0, .int .i64 0] (HN.out.get 0 rfl) (infoPt (0, 0)) rfl (by simp [Value.oneCell']) ?_
                  have HM : Hid (Bn W5 (Wn2.setRow g15 #[.int .i64 r0, .int .i64 r1]) [(g15, 30, #[.int .i64 r0, .int .i64 r1])]) := Lib.hid (HN.out.row 0 rfl ge_g15 (by (intro j y hj hy; rcases j with _ | _ | _ | _ | _ | _ | j <;> first | exact absurd rfl hj | (simp only [List.getElem?_cons_zero, List.getElem?_cons_succ, Option.some.injEq] at hy; subst hy; dsimp only; omega) | (simp at hy; done))) #[.int .i64 r0, .int .i64 r1])
                  refine hK.out _ _ HM.out.b (fun hHeld => ?_)
                  clear hK hHeld HN
                  have HN := HM
                  clear HM
                  have hHeld := HN.out.b
                  try simp only [Act.put, List.setIfInBounds_toArray, List.set_cons_zero, List.set_cons_succ]
                  clear hHeld
                  refine wpAnyH_done (by kernel_rfl) ?_ _
                  go_wp2_with fail
                  go_meet
                  exact ⟨g15, rfl, HN.out.b, HN.out.get 0 rfl, ge_g15⟩
              case rest =>
                obtain ⟨g15, rfl, hb6, hk6, hge⟩ := hcut
                obtain ⟨W6, rfl⟩ : ∃ W6, W6 = wc := ⟨_, rfl⟩
                have HB6 := Lib.hid hb6
                have HR6 := Lib.hid (HR5.out.later hb6)
                have HK6 := Lib.hid (HK5.out.below hb6 HK5.out.lt)
                have HG6 := Lib.hid hk6
                clear hb6 hk6 hge HR5 HK5 HC1 HC2
                obtain ⟨c0, c1, _⟩ := blk2 HG6.out
                by_cases hm0 : m2 = 0
                · subst hm0
                  obtain ⟨A', cp', rfl, _, _⟩ := own_open HR6.out.row
                  have HAD : Hid (addp (pj D P0 P1 j) (r0, r1) = pj D P0 P1 j ++ [(r0, r1)]) := Lib.hid (addp_new (by rw [List.eq_nil_of_length_eq_zero HM2.out]; exact fun h => by cases h))
                  go_wp2_with fail
                  go_quiet (fail)
                  have hbq := drew_below (n := nq) (Below.refl W6.heap.size W6)
                  obtain ⟨W7, hW7⟩ : ∃ W, W6.drewN nq = W := ⟨_, rfl⟩
                  rw [hW7] at hbq
                  rw [hW7]
                  have HR8 := Lib.hid (HR6.out.later hbq)
                  have HK8 := Lib.hid (HK6.out.below hbq HK6.out.lt)
                  obtain ⟨t0, t1, _⟩ := blk2 (HG6.out.below hbq HG6.out.lt)
                  clear c0 c1 hbq hW7 HR6 HK6
                  have HR6 := HR8
                  have HK6 := HK8
                  clear HR8 HK8
                  have xj := XJ.out
                  go_wp2_with (refine wpList_plain rfl fun K hK => wp_appG 163 rfl _ _ rfl (HR6.out.lit #[.int .i64 r0, .int .i64 r1]) rfl rfl rfl (fun y hy => by (simp only [List.mem_cons, List.not_mem_nil, or_false] at hy; rcases hy with rfl | rfl <;> rfl)) (by have := HMB.out; omega) (fun vK wk R2 hgr => hK _ _ ?_))
                  have HR7 : Hid (R1 30 2 w vK (0 + 1) (pts (pj D P0 P1 (j + 1))) none wk) := Lib.hid (by
                    rw [HPJ.out, HPL.out, HAD.out, pts_app]
                    exact R2)
                  have HK7 := Lib.hid (grown_blk (HR6.out.lit #[.int .i64 r0, .int .i64 r1]) hgr (HK6.out.alloc _))
                  have HM7 : Hid ((pj D P0 P1 (j + 1)).length = 0 + 1) := Lib.hid (by rw [HPJ.out, HPL.out, HAD.out, List.length_append, HM2.out]; rfl)
                  clear R2 hgr t0 t1
                  go_wp2_with fail
                  clear xj
                  go_roundw
                  case rel => exact ⟨j + 1, 0 + 1, by have := HJ2.out; go_num, by have := HJ2.out; omega, HM7.out, HR7.out, HK7.out⟩
                  case measure => first | (have := HJ2.out; simp [intOf]; done) | (have := HJ2.out; simp [intOf]; omega)
                · obtain ⟨kk, rfl⟩ : ∃ kk, m2 = kk + 1 := ⟨m2 - 1, by omega⟩
                  have hla := last_at HM2.out
                  have hkl : kk < (pj D P0 P1 j).length := by have := HM2.out; omega
                  obtain ⟨o, cap, rfl⟩ := own_shape HR6.out.row
                  have hp : PtR W6 (some ⟨o, 0, none⟩) (pj D P0 P1 j) := by
                    have := Reads.of_own HR6.out.row
                    unfold PtR
                    rw [HM2.out]
                    exact this
                  obtain ⟨s0, s1⟩ := pt_cells0 hp kk hkl
                  obtain ⟨q, hq⟩ : ∃ q, (pj D P0 P1 j)[kk] = q := ⟨_, rfl⟩
                  rw [hq] at s0 s1 hla
                  have g0 : ((kk : Int) + 1 == 0) = false := by simp; omega
                  have g1 : IntKind.i64.wrap (kk : Int) = (kk : Int) := i64w (by omega) (by have := HMB.out; omega)
                  have g2 : (kk : Int) < (kk : Int) + 1 := by omega
                  have g3 : (0 : Int) ≤ (kk : Int) := by omega
                  clear hp hq hkl
                  by_cases he : q = (r0, r1)
                  · subst he
                    have q0 := neq_self (r0, r1)
                    have HAD : Hid (addp (pj D P0 P1 j) (r0, r1) = pj D P0 P1 j) := Lib.hid (addp_old hla)
                    clear hla
                    dsimp only at s0 s1 q0
                    go_wp2_with fail
                    go_quiet (fail)
                    have hbq := drew_below (n := nq) (Below.refl W6.heap.size W6)
                    have HR7 : Hid (R1 30 2 w (.slice (some ⟨o, 0, none⟩) (kk + 1) cap) (kk + 1) (pts (pj D P0 P1 (j + 1))) none (W6.drewN nq)) := Lib.hid (by rw [HPJ.out, HPL.out, HAD.out]; exact HR6.out.later hbq)
                    have HK7 := Lib.hid (HK6.out.below hbq HK6.out.lt)
                    have HM7 : Hid ((pj D P0 P1 (j + 1)).length = kk + 1) := Lib.hid (by rw [HPJ.out, HPL.out, HAD.out]; exact HM2.out)
                    have xj := XJ.out
                    clear hbq c0 c1 s0 s1 q0 g0 g1 g2 g3
                    go_wp2_with fail
                    clear xj
                    go_roundw
                    case rel => exact ⟨j + 1, kk + 1, by have := HJ2.out; go_num, by have := HJ2.out; omega, HM7.out, HR7.out, HK7.out⟩
                    case measure => first | (have := HJ2.out; simp [intOf]; done) | (have := HJ2.out; simp [intOf]; omega)
                  · have q0 := neq_of he
                    have HAD : Hid (addp (pj D P0 P1 j) (r0, r1) = pj D P0 P1 j ++ [(r0, r1)]) := Lib.hid (addp_new (by
                      rw [hla]
                      intro h
                      injection h with h
                      exact he h))
                    obtain ⟨w0, w1⟩ := q
                    clear hla he
                    dsimp only at s0 s1 q0
                    go_wp2_with fail
                    go_quiet (fail)
                    clear s0 s1 q0 g0 g1 g2 g3
                    have hbq := drew_below (n := nq) (Below.refl W6.heap.size W6)
                    obtain ⟨W7, hW7⟩ : ∃ W, W6.drewN nq = W := ⟨_, rfl⟩
                    rw [hW7] at hbq
                    rw [hW7]
                    have HR8 := Lib.hid (HR6.out.later hbq)
                    have HK8 := Lib.hid (HK6.out.below hbq HK6.out.lt)
                    obtain ⟨t0, t1, _⟩ := blk2 (HG6.out.below hbq HG6.out.lt)
                    clear c0 c1 hbq hW7 HR6 HK6
                    have HR6 := HR8
                    have HK6 := HK8
                    clear HR8 HK8
                    have xj := XJ.out
                    go_wp2_with (refine wpList_plain rfl fun K hK => wp_appG 163 rfl _ _ rfl (HR6.out.lit #[.int .i64 r0, .int .i64 r1]) rfl rfl rfl (fun y hy => by (simp only [List.mem_cons, List.not_mem_nil, or_false] at hy; rcases hy with rfl | rfl <;> rfl)) (by have := HMB.out; omega) (fun vK wk R2 hgr => hK _ _ ?_))
                    have HR7 : Hid (R1 30 2 w vK ((kk + 1) + 1) (pts (pj D P0 P1 (j + 1))) none wk) := Lib.hid (by
                      rw [HPJ.out, HPL.out, HAD.out, pts_app]
                      exact R2)
                    have HK7 := Lib.hid (grown_blk (HR6.out.lit #[.int .i64 r0, .int .i64 r1]) hgr (HK6.out.alloc _))
                    have HM7 : Hid ((pj D P0 P1 (j + 1)).length = (kk + 1) + 1) := Lib.hid (by rw [HPJ.out, HPL.out, HAD.out, List.length_append, HM2.out]; rfl)
                    clear R2 hgr t0 t1
                    go_wp2_with fail
                    clear xj
                    go_roundw
                    case rel => exact ⟨j + 1, (kk + 1) + 1, by have := HJ2.out; go_num, by have := HJ2.out; omega, HM7.out, HR7.out, HK7.out⟩
                    case measure => first | (have := HJ2.out; simp [intOf]; done) | (have := HJ2.out; simp [intOf]; omega)
            · obtain rfl : j = 2 := by omega
              have f1 : ¬ ((2 : Nat) : Int) < 2 := by omega
              have HRX := Lib.hid hr2
              rw [← HE.out] at HRX
              have HMX : Hid ((pceN l a b (k + 1)).length = m2) := Lib.hid (by rw [HE.out]; exact HM2.out)
              clear hj hm2 hr2 hk2 HR4 HK4
              go_wp2_with fail
              clear x7 xa k0 k1 k2 k3 f1
              go_roundw
              case rel => exact ⟨k + 1, m2, by have := H01.out; have := HKB.out; go_num, by have := HI.out; omega, HMX.out, HRX.out⟩
              case measure => first | (have := HI.out; simp [intOf]; done) | (have := HI.out; simp [intOf]; omega)
    · obtain rfl : n = k + 1 := by omega
      have HFF : Hid (pce l a b = pceN l a b k) := Lib.hid (by rw [HF.out, Nat.add_sub_cancel])
      have f1 : ¬ ((k : Int) + 1 < ((k + 1 : Nat) : Int)) := by omega
      have x7 : IntKind.i64.wrap ((k : Int) + 1) = (k : Int) + 1 := i64w (by omega) (by have := H01.out; omega)
      have HFI : Hid (OwC (pce l a b) w (.returned u9) wr) := Lib.hid ⟨u9, rfl, by rw [HFF.out, hm]; exact hr.row, hr.below⟩
      clear hr hm hk hlt
      go_wp2_with fail
      go_ret
      exact HFI.out
end Go.Proofs.YtflopcogalknhaaDoor.Str
