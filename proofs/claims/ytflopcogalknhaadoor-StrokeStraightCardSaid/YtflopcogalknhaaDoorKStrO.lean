/-
  Layer 21: circles, both sides.
-/
import Derived.Test.YtflopcogalknhaaDoorKStrE
set_option linter.unusedVariables false
set_option linter.unusedSimpArgs false
namespace Go.Proofs.YtflopcogalknhaaDoor.Str
open Go.RowKit Go.Proofs.YtflopcogalknhaaDoor Go.Proofs.YtflopcogalknhaaDoor.NumPure

theorem Bn.row {w W : World} {L : List Ent} (h : Bn w W L) (i : Nat) {g : Nat} {t : TypeId} {cs : Array Value} (hx : L[i]? = some (g, t, cs)) (hg : w.heap.size ≤ g) (hd : ∀ (j : Nat) (x : Ent), j ≠ i → L[j]? = some x → x.1 ≠ g) (ds : Array Value) : Bn w (W.setRow g ds) (L.set i (g, t, ds)) := by
  refine ⟨below_setRow h.b hg _, fun j x hj => ?_⟩
  rw [List.getElem?_set] at hj
  by_cases e : i = j
  · subst e
    have hi : i < L.length := (List.getElem?_eq_some_iff.1 hx).1
    rw [if_pos rfl, if_pos hi] at hj
    injection hj with hj
    subst hj
    exact Blk.row (h.get i hx) _
  · rw [if_neg e] at hj
    exact Blk.rowFar (h.at_ j x hj) (hd j x (fun q => e q.symm) hj) _
theorem crcN_snoc (wd : Int) (c : P2) (j : Nat) : crcN wd c (j + 1) = crcN wd c j ++ [crcP wd c j] := by
  unfold crcN
  rw [List.range_succ, List.map_append]
  rfl
theorem crcN_len (wd : Int) (c : P2) (j : Nat) : (crcN wd c j).length = j := by simp [crcN]
/-- The circle as far as it is filled. -/
def mid (wd : Int) (c : P2) (j : Nat) : List P2 := crcN wd c j ++ List.replicate (16 - j) (0, 0)
theorem mid_len (wd : Int) (c : P2) (j : Nat) (h : j ≤ 16) : (mid wd c j).length = 16 := by simp [mid, crcN_len]; omega
theorem mid_all (wd : Int) (c : P2) : mid wd c 16 = crc wd c := by simp [mid, crc]
theorem mid_next (wd : Int) (c : P2) (j : Nat) (h : j < 16) : (mid wd c j).set j (crcP wd c j) = mid wd c (j + 1) := by
  unfold mid
  rw [crcN_snoc, List.append_assoc]
  obtain ⟨k, hk⟩ : ∃ k, 16 - j = k + 1 := ⟨15 - j, by omega⟩
  rw [hk, show 16 - (j + 1) = k by omega, List.replicate_succ, List.set_append_right _ _ (by rw [crcN_len]; exact Nat.le_refl _), crcN_len, Nat.sub_self]
  rfl
theorem pts_set (l : List P2) (j : Nat) (p : P2) : ((pts l).toArray.setIfInBounds (j * 2) (.int .i64 p.1)).setIfInBounds (j * 2 + 1) (.int .i64 p.2) = (pts (l.set j p)).toArray := by
  apply Array.toList_inj.1
  rw [Array.toList_setIfInBounds, Array.toList_setIfInBounds]
  dsimp only
  apply List.ext_getElem?
  intro i
  by_cases hi : i < l.length * 2
  · obtain ⟨q, r, hr, rfl⟩ : ∃ q r, r < 2 ∧ i = q * 2 + r := ⟨i / 2, i % 2, by omega, by omega⟩
    rw [pts_at (l.set j p) q (by rw [List.length_set]; omega) r hr, List.getElem?_set, List.getElem?_set, List.length_set, pts_len, List.getElem_set]
    by_cases hq : j = q
    · subst hq
      rw [if_pos rfl]
      rcases (show r = 0 ∨ r = 1 by omega) with rfl | rfl
      · rw [if_neg (by omega), if_pos (by omega), if_pos (by omega)]; rfl
      · rw [if_pos (by omega), if_pos (by omega)]; rfl
    · rw [if_neg hq, if_neg (by omega), if_neg (by omega), pts_at l q (by omega) r hr]
  · rw [List.getElem?_eq_none (by rw [List.length_set, List.length_set, pts_len]; omega), List.getElem?_eq_none (by rw [pts_len, List.length_set]; omega)]
theorem two_cells {w : World} {g : Nat} {t : TypeId} {cs : Array Value} (h : Blk w g t cs) (o : Nat) (a b : Value) : (w.setCell ⟨g, o, none⟩ a).setCell ⟨g, o + 1, none⟩ b = w.setRow g ((cs.setIfInBounds o a).setIfInBounds (o + 1) b) := by
  rw [setCell_eq_setRow w g o _ _ _ _ h, setCell_eq_setRow _ g (o + 1) _ _ _ _ (Blk.row h _), setRow_setRow]
theorem ptr_of_blk {w : World} {g : Nat} {l : List P2} (h : Blk w g 30 (pts l).toArray) : PtR w (some ⟨g, 0, none⟩) l :=
  ⟨pts_len l, fun _ => ⟨_, rfl, h.lt, fun i u hu => (World.news_of_block h) i u (by simpa using hu)⟩⟩
theorem make16 (w : World) : (Instr.makeSlice 36 (.int .i64 16) (.int .i64 16)).run Tryd.prog w = .ok (.slice (some ⟨w.heap.size, 0, none⟩) 16 16) (w.alloc (.cells (pts (List.replicate 16 (0, 0))).toArray 30)) := by kernel_rfl
theorem wpList_make16 {ops : Array Oper} {rest : List Oper} {o : Oper} {a : Act} {w : World} {Q : Exit → Act → World → Prop} (hg : o.guard = none) (x y : Operand) (ho : o.op = .makeSlice 36 x y) (hx : a.eval x = .int .i64 16) (hy : a.eval y = .int .i64 16)
    (h : wpList Tryd.prog ops Q rest (a.put o.dst (.slice (some ⟨w.heap.size, 0, none⟩) 16 16)) (w.alloc (.cells (pts (List.replicate 16 (0, 0))).toArray 30))) : wpList Tryd.prog ops Q (o :: rest) a w := by
  refine wpList_plain hg fun K hK => ?_
  unfold Oper.wp
  simp only [execOp, ho, hx, hy, Sem.run_bind, make16 w, Result.andThen_ok, Sem.run_pure]
  exact hK _ _ h
theorem mid_cells {w : World} {g : Nat} {wd : Int} {c : P2} {j : Nat} (h : Blk w g 30 (pts (mid wd c j)).toArray) (hj : j < 16) : w.cell? ⟨g, j * 2, none⟩ = some (.int .i64 0) ∧ w.cell? ⟨g, j * 2 + 1, none⟩ = some (.int .i64 0) ∧ ∀ o, w.frozen? ⟨g, o, none⟩ = false := by
  have hl : j < (mid wd c j).length := by rw [mid_len _ _ _ (by omega)]; exact hj
  have hm : (mid wd c j)[j] = (0, 0) := (List.getElem_eq_iff hl).2 (by
    unfold mid
    rw [List.getElem?_append_right (by rw [crcN_len]; exact Nat.le_refl _), crcN_len, Nat.sub_self, List.getElem?_replicate, if_pos (by omega)])
  refine ⟨?_, ?_, h.frozen⟩
  · rw [h.cell, List.getElem?_toArray]
    have := pts_at (mid wd c j) j hl 0 (by omega)
    rw [hm] at this
    exact this
  · rw [h.cell, List.getElem?_toArray]
    have := pts_at (mid wd c j) j hl 1 (by omega)
    rw [hm] at this
    exact this
/-- A block of a row of points, new, whole. -/
def CiC (l : List P2) (w : World) (e : Ending) (w' : World) : Prop := ∃ g, e = .returned (.slice (some ⟨g, 0, none⟩) l.length l.length) ∧ Blk w' g 30 (pts l).toArray ∧ w.heap.size ≤ g ∧ Below w.heap.size w w'
set_option maxRecDepth 100000 in
set_option maxHeartbeats 8000000 in
theorem circle_any (c : P2) (wd : Int) (w : World) (w1 : 1 ≤ wd) (w2 : wd ≤ 4096) (hc : Inb 16777216 c) (hT : Num.Tab w) : Calls Tryd.prog 51 #[.agg #[.int .i64 c.1, .int .i64 c.2], .int .i64 wd] w (CiC (crc wd c) w) := by
  have HL : Hid ((crc wd c).length = 16) := Lib.hid (crcN_len _ _ _)
  have HM0 : Hid (mid wd c 0 = List.replicate 16 (0, 0)) := Lib.hid (by simp [mid, crcN])
  have HC := Lib.hid hc
  have HT := Lib.hid hT
  have HB := Lib.hid (((Bn.nil w).push _ rfl 30 #[.int .i64 c.1, .int .i64 c.2]).push _ (size_alloc1 _ _) 30 (pts (List.replicate 16 (0, 0))).toArray)
  clear hT hc
  obtain ⟨x, hx⟩ : ∃ x, c.1 = x := ⟨_, rfl⟩
  obtain ⟨y, hy⟩ : ∃ x, c.2 = x := ⟨_, rfl⟩
  rw [hx, hy] at HB ⊢
  have HX := Lib.hid hx
  have HY := Lib.hid hy
  clear hx hy
  go_enter Tryd.func51, Tryd.ntmps51
  go_wp2_with (refine wpList_make16 rfl _ _ rfl rfl rfl ?_)
  have HB1 : Hid (Bn w ((w.alloc (.cells #[.int .i64 x, .int .i64 y] 30)).alloc (.cells (pts (List.replicate 16 (0, 0))).toArray 30)) [(w.heap.size, 30, #[.int .i64 x, .int .i64 y]), (w.heap.size + 1, 30, (pts (mid wd c 0)).toArray)]) := Lib.hid (by rw [HM0.out]; exact HB.out)
  go_loopw [12] (fun i wr => ∃ j : Nat, i = .int .i64 j ∧ j ≤ 16 ∧ Bn w wr [(w.heap.size, 30, #[.int .i64 x, .int .i64 y]), (w.heap.size + 1, 30, (pts (mid wd c j)).toArray)]) (fun i _ => 16 - (intOf i).toNat)
  case atStart => exact ⟨0, rfl, by omega, HB1.out⟩
  case round =>
    obtain ⟨j, rfl, hj, hb⟩ := hrel
    clear HB HB1
    have HB := Lib.hid hb
    clear hb
    by_cases hlt : j < 16
    · obtain ⟨s, hs⟩ : ∃ s, sinZ (4096 * (j : Int)) = s := ⟨_, rfl⟩
      obtain ⟨k, hk⟩ : ∃ s, cosZ (4096 * (j : Int)) = s := ⟨_, rfl⟩
      have hs1 := sin_in (4096 * (j : Int))
      have hk1 := cos_in (4096 * (j : Int))
      rw [hs] at hs1
      rw [hk] at hk1
      obtain ⟨⟨e0, e1⟩, e2, e3⟩ := circ_d w1 w2 hk1.1 hk1.2
      obtain ⟨⟨f0, f1⟩, f2, f3⟩ := circ_d w1 w2 hs1.1 hs1.2
      have hP : crcP wd c j = (x + dvr (wd * k) 131072, y + dvr (wd * s) 131072) := by unfold crcP; rw [hs, hk, HX.out, HY.out]
      obtain ⟨N1, hN1⟩ : ∃ z, wd * k = z := ⟨_, rfl⟩
      obtain ⟨N2, hN2⟩ : ∃ z, wd * s = z := ⟨_, rfl⟩
      rw [hN1] at e0 e1 e2 e3 hP
      rw [hN2] at f0 f1 f2 f3 hP
      obtain ⟨a, ha⟩ : ∃ a, dvr N1 131072 = a := ⟨_, rfl⟩
      obtain ⟨b, hb⟩ : ∃ a, dvr N2 131072 = a := ⟨_, rfl⟩
      rw [ha] at e2 e3 hP
      rw [hb] at f2 f3 hP
      have HC1 := Lib.hid (fun W => Num.div_is N1 131072 a ha.symm (by omega) (by omega) (by omega) (by omega) W)
      have HC2 := Lib.hid (fun W => Num.div_is N2 131072 b hb.symm (by omega) (by omega) (by omega) (by omega) W)
      have hxy : Inb 1000000000000 (x, y) := by have := HC.out; rw [← HX.out, ← HY.out]; exact this.mono (by omega)
      have HCP := Lib.hid (fun W => plus_any (x, y) (a, b) W hxy (show Inb 1000000000000 (a, b) from ⟨⟨by dsimp only; omega, by dsimp only; omega⟩, by dsimp only; omega, by dsimp only; omega⟩))
      unfold PtC pl at HCP
      dsimp only at HCP
      have HTN := Lib.hid (Num.turn_is (4096 * (j : Int)) s k hs hk wr (tab_below HT.out HB.out.b))
      have HP := Lib.hid hP
      have k1 : IntKind.i64.wrap (wd * k) = N1 := by rw [hN1]; exact i64w (by omega) (by omega)
      have k2 : IntKind.i64.wrap (wd * s) = N2 := by rw [hN2]; exact i64w (by omega) (by omega)
      have K1 := Lib.hid k1
      have K2 := Lib.hid k2
      clear hs hk hs1 hk1 hP hN1 hN2 ha hb e0 e1 e2 e3 f0 f1 f2 f3 k1 k2 hxy
      go_wp2_with fail
      refine HTN.out.mono ?_
      rintro e w' ⟨rfl, n9, rfl⟩
      clear HTN
      go_wp2_with fail
      have k1 := K1.out
      have k2 := K2.out
      obtain ⟨W1, hW1⟩ : ∃ W, wr.drewN n9 = W := ⟨_, rfl⟩
      have HB1 : Hid (Bn w W1 [(w.heap.size, 30, #[.int .i64 x, .int .i64 y]), (w.heap.size + 1, 30, (pts (mid wd c j)).toArray)]) := Lib.hid (by rw [← hW1]; exact HB.out.below (drew_below (Below.refl _ _)))
      rw [hW1]
      obtain ⟨g0, hg0⟩ : ∃ g, w.heap.size = g := ⟨_, rfl⟩
      obtain ⟨g1, hg1⟩ : ∃ g, g0 + 1 = g := ⟨_, rfl⟩
      rw [hg0, hg1] at HB1
      rw [hg0, hg1]
      have n1 : ¬ (g1 = g0) := by omega
      have HGE : Hid (w.heap.size ≤ g1) := Lib.hid (by omega)
      have HG : Hid (w.heap.size = g0 ∧ w.heap.size + 1 = g1) := Lib.hid (by omega)
      clear hW1 hg0 hg1 HB
      obtain ⟨c0, c1, _⟩ := blk2 (HB1.out.get 0 rfl)
      go_region_held3 (fun W => W.cell? ⟨g0, 0, none⟩ = some (.int .i64 x) ∧ W.cell? ⟨g0, 1, none⟩ = some (.int .i64 y))
        (first | assumption | exact ⟨(HBD.out.get 0 rfl).cell 0, (HBD.out.get 0 rfl).cell 1⟩ | go_keep)
        (first
          | (go_at_call_of 52 N1; refine (HC1.out _).mono ?_; rintro e w' ⟨rfl, rfl⟩)
          | (go_at_call_of 52 N2; refine (HC2.out _).mono ?_; rintro e w' ⟨rfl, rfl⟩)
          | (go_at_call 34; refine (HCP.out _).mono ?_; rintro e w' ⟨rfl, hbq⟩; have hbq2 : Below W1.heap.size W1 w' := (Below.refl _ _).drew.trans hbq; have HBD := Lib.hid (HB1.out.below hbq2); obtain ⟨z0, z1, zf⟩ := mid_cells (HBD.out.get 1 rfl) hlt; clear hbq hbq2))
      have e9 : ((pts (mid wd c j)).toArray.setIfInBounds (j * 2) (.int .i64 (x + a))).setIfInBounds (j * 2 + 1) (.int .i64 (y + b)) = (pts (mid wd c (j + 1))).toArray := by
        have := pts_set (mid wd c j) j (crcP wd c j)
        rw [mid_next wd c j hlt, HP.out] at this
        exact this
      rw [two_cells (HBD.out.get 1 rfl), e9]
      have HR := Lib.hid (HBD.out.row 1 rfl HGE.out (by (intro j y hj hy; rcases j with _ | _ | _ | _ | _ | _ | j <;> first | exact absurd rfl hj | (simp only [List.getElem?_cons_zero, List.getElem?_cons_succ, Option.some.injEq] at hy; subst hy; dsimp only; omega) | (simp at hy; done))) (pts (mid wd c (j + 1))).toArray)
      obtain ⟨rfl, rfl⟩ := HG.out
      clear c0 c1 z0 z1 zf e9 k1 k2 n1
      go_wp2_with fail
      go_roundw
      case rel => exact ⟨j + 1, by go_num, by omega, HR.out⟩
      case measure => simp [intOf]; omega
    · obtain rfl : j = 16 := by omega
      have HF : Hid (CiC (crc wd c) w (.returned (.slice (some ⟨w.heap.size + 1, 0, none⟩) 16 16)) wr) := Lib.hid ⟨w.heap.size + 1, by rw [HL.out], by rw [← mid_all]; exact HB.out.get 1 rfl, by omega, HB.out.b⟩
      go_wp2_with fail
      go_ret
      exact HF.out
theorem own_mono {w : World} {base base' e size n : Nat} {v : Value} {xs : List Value} (h : w.ownsRow base e size v n xs) (hb : base' ≤ base) : w.ownsRow base' e size v n xs := by
  refine ⟨h.1, ?_⟩
  rcases h.2 with h0 | ⟨g, cap, cur, e, hg, rest⟩
  · exact .inl h0
  · exact .inr ⟨g, cap, cur, e, by omega, rest⟩
theorem rTurn_is (z s c : Int) (hs : sinZ z = s) (hc : cosZ z = c) (h0 : -9223372036854775808 ≤ z) (h1 : z ≤ 9223372036854775807) (w : World) : Calls Tryd.prog 56 #[.int .i64 z] w fun e w' => e = .returned (.tuple #[.int .i64 s, .int .i64 c]) ∧ Below w.heap.size w w' := by
  subst hs hc
  exact Ref01.rTurn_any z h0 h1 w
set_option maxRecDepth 100000 in
set_option maxHeartbeats 8000000 in
theorem rcircle_any (c : P2) (wd : Int) (w : World) (w1 : 1 ≤ wd) (w2 : wd ≤ 4096) (hc : Inb 16777216 c) : Calls Tryd.prog 43 #[.agg #[.int .i64 c.1, .int .i64 c.2], .int .i64 wd] w (OwC (crc wd c) w) := by
  have HL : Hid ((crc wd c).length = 16) := Lib.hid (crcN_len _ _ _)
  have HC := Lib.hid hc
  have HB := Lib.hid ((Bn.nil w).push _ rfl 30 #[.int .i64 c.1, .int .i64 c.2])
  clear hc
  obtain ⟨x, hx⟩ : ∃ x, c.1 = x := ⟨_, rfl⟩
  obtain ⟨y, hy⟩ : ∃ x, c.2 = x := ⟨_, rfl⟩
  rw [hx, hy] at HB ⊢
  have HX := Lib.hid hx
  have HY := Lib.hid hy
  clear hx hy
  go_enter Tryd.func43, Tryd.ntmps43
  go_wp2_with fail
  obtain ⟨W0, hW0⟩ : ∃ W, w.alloc (.cells #[.int .i64 x, .int .i64 y] 30) = W := ⟨_, rfl⟩
  obtain ⟨g0, hg0⟩ : ∃ g, w.heap.size = g := ⟨_, rfl⟩
  rw [hW0, hg0] at HB
  rw [hW0, hg0]
  have HG : Hid (w.heap.size = g0) := Lib.hid hg0
  clear hW0 hg0
  have HR0 : Hid (R1 30 2 W0 (.slice none 0 0) 0 (pts (crcN wd c 0)) none W0) := Lib.hid (R1.start W0)
  have HS : Hid (w.heap.size ≤ W0.heap.size) := Lib.hid HB.out.b.size
  go_loopw [5, 6] (fun v i wr => ∃ j : Nat, i = .int .i64 j ∧ j ≤ 16 ∧ R1 30 2 W0 v j (pts (crcN wd c j)) none wr) (fun _ i _ => 16 - (intOf i).toNat)
  case atStart => exact ⟨0, rfl, by omega, HR0.out⟩
  case round =>
    obtain ⟨j, rfl, hj, hr⟩ := hrel
    clear HR0
    have HR := Lib.hid hr
    clear hr
    by_cases hlt : j < 16
    · obtain ⟨s, hs⟩ : ∃ s, sinZ (4096 * (j : Int)) = s := ⟨_, rfl⟩
      obtain ⟨k, hk⟩ : ∃ s, cosZ (4096 * (j : Int)) = s := ⟨_, rfl⟩
      have hs1 := sin_in (4096 * (j : Int))
      have hk1 := cos_in (4096 * (j : Int))
      rw [hs] at hs1
      rw [hk] at hk1
      obtain ⟨⟨e0, e1⟩, e2, e3⟩ := circ_d w1 w2 hk1.1 hk1.2
      obtain ⟨⟨f0, f1⟩, f2, f3⟩ := circ_d w1 w2 hs1.1 hs1.2
      have hP : crcP wd c j = (x + dvr (wd * k) 131072, y + dvr (wd * s) 131072) := by unfold crcP; rw [hs, hk, HX.out, HY.out]
      obtain ⟨N1, hN1⟩ : ∃ z, wd * k = z := ⟨_, rfl⟩
      obtain ⟨N2, hN2⟩ : ∃ z, wd * s = z := ⟨_, rfl⟩
      rw [hN1] at e0 e1 e2 e3 hP
      rw [hN2] at f0 f1 f2 f3 hP
      obtain ⟨a, ha⟩ : ∃ a, dvr N1 131072 = a := ⟨_, rfl⟩
      obtain ⟨b, hb⟩ : ∃ a, dvr N2 131072 = a := ⟨_, rfl⟩
      rw [ha] at e2 e3 hP
      rw [hb] at f2 f3 hP
      have HC1 := Lib.hid (fun W => Ref01.div_is N1 131072 a ha.symm (by omega) (by omega) (by omega) (by omega) W)
      have HC2 := Lib.hid (fun W => Ref01.div_is N2 131072 b hb.symm (by omega) (by omega) (by omega) (by omega) W)
      have hxy : Inb 16777216 (x, y) := by have := HC.out; rw [← HX.out, ← HY.out]; exact this
      unfold Inb at hxy
      dsimp only at hxy
      have HTN := Lib.hid (rTurn_is (4096 * (j : Int)) s k hs hk (by omega) (by omega) wr)
      obtain ⟨u, hu⟩ : ∃ u, x + a = u := ⟨_, rfl⟩
      obtain ⟨v, hv⟩ : ∃ u, y + b = u := ⟨_, rfl⟩
      rw [hu, hv] at hP
      have HP : Hid (pts (crcN wd c j) ++ (#[.int .i64 u, .int .i64 v] : Array Value).toList = pts (crcN wd c (j + 1))) := Lib.hid (by rw [crcN_snoc, pts_app, hP]; rfl)
      have K1 : Hid (IntKind.i64.wrap (wd * k) = N1) := Lib.hid (by rw [hN1]; exact i64w (by omega) (by omega))
      have K2 : Hid (IntKind.i64.wrap (wd * s) = N2) := Lib.hid (by rw [hN2]; exact i64w (by omega) (by omega))
      have K3 : Hid (IntKind.i64.wrap (x + a) = u) := Lib.hid (by rw [hu]; exact i64w (by omega) (by omega))
      have K4 : Hid (IntKind.i64.wrap (y + b) = v) := Lib.hid (by rw [hv]; exact i64w (by omega) (by omega))
      clear hs hk hs1 hk1 hP hN1 hN2 ha hb e0 e1 e2 e3 f0 f1 f2 f3 hxy hu hv
      go_wp2_with fail
      refine HTN.out.mono ?_
      rintro e w' ⟨rfl, hbt⟩
      have HR1 := Lib.hid (HR.out.later hbt)
      have HB1 := Lib.hid (HB.out.below HR1.out.below)
      clear HTN hbt HR
      go_wp2_with fail
      have k1 := K1.out
      have k2 := K2.out
      have k3 := K3.out
      have k4 := K4.out
      obtain ⟨c0, c1, _⟩ := blk2 (HB1.out.get 0 rfl)
      go_region_held3 (fun W => W.cell? ⟨g0, 0, none⟩ = some (.int .i64 x) ∧ W.cell? ⟨g0, 1, none⟩ = some (.int .i64 y))
        (first | assumption | exact ⟨(HBD.out.get 0 rfl).cell 0, (HBD.out.get 0 rfl).cell 1⟩ | go_keep)
        (first
          | (go_at_call_of 55 N1; refine (HC1.out _).mono ?_; rintro e w' ⟨rfl, n1, rfl⟩)
          | (go_at_call_of 55 N2; refine (HC2.out _).mono ?_; rintro e w' ⟨rfl, n2, rfl⟩)
          | (rw [if_pos (by rfl)]; refine wp_appP 36 rfl _ _ rfl (R1.lit (R1.later HR1.out (drew_below (Below.refl _ _))) _) rfl rfl rfl (fun y hy => by (simp only [List.mem_cons, List.not_mem_nil, or_false] at hy; rcases hy with rfl | rfl <;> rfl)) (by omega) (fun vK wk R2 => ?_); have HR2 := Lib.hid R2; have HBD := Lib.hid (HB.out.below R2.below); clear R2))
      clear c0 c1 k1 k2 k3 k4 HR1 HB1
      go_wp2_with fail
      go_roundw
      case rel => exact ⟨j + 1, by go_num, by omega, HP.out ▸ HR2.out⟩
      case measure => simp [intOf]; omega
    · obtain rfl : j = 16 := by omega
      have HF : Hid (OwC (crc wd c) w (.returned u5) wr) := Lib.hid ⟨u5, rfl, by rw [HL.out]; exact own_mono HR.out.row HS.out, HB.out.b.trans (HR.out.below.mono HS.out)⟩
      go_wp2_with fail
      go_ret
      exact HF.out
end Go.Proofs.YtflopcogalknhaaDoor.Str
