/-
  Layer 21: the edges of a stroke.
-/
import Derived.Test.YtflopcogalknhaaDoorKStr0
set_option linter.unusedVariables false
set_option linter.unusedSimpArgs false
namespace Go.Proofs.YtflopcogalknhaaDoor.Str
open Go.RowKit Go.Proofs.YtflopcogalknhaaDoor Go.Proofs.YtflopcogalknhaaDoor.NumPure

theorem one_row {w : World} {g i : Nat} {t : TypeId} {cs ds : Array Value} {v : Value} (h : Blk w g t cs) (hd : cs.setIfInBounds i v = ds) : w.setCell ⟨g, i, none⟩ v = w.setRow g ds := by
  rw [setCell_eq_setRow w g i _ _ _ _ h, hd]
theorem ten_row {w : World} {g : Nat} {t : TypeId} {a0 a1 a2 a3 a4 a5 a6 a7 a8 a9 b0 b1 b2 b3 b4 b5 b6 b7 b8 b9 : Value} (h : Blk w g t #[a0, a1, a2, a3, a4, a5, a6, a7, a8, a9]) :
    (((((((((w.setCell ⟨g, 0, none⟩ b0).setCell ⟨g, 1, none⟩ b1).setCell ⟨g, 2, none⟩ b2).setCell ⟨g, 3, none⟩ b3).setCell ⟨g, 4, none⟩ b4).setCell ⟨g, 5, none⟩ b5).setCell ⟨g, 6, none⟩ b6).setCell ⟨g, 7, none⟩ b7).setCell ⟨g, 8, none⟩ b8).setCell ⟨g, 9, none⟩ b9 = w.setRow g #[b0, b1, b2, b3, b4, b5, b6, b7, b8, b9] := by
  rw [one_row h (show _ = (#[b0, a1, a2, a3, a4, a5, a6, a7, a8, a9] : Array Value) from rfl),
    one_row (Blk.row h _) (show _ = (#[b0, b1, a2, a3, a4, a5, a6, a7, a8, a9] : Array Value) from rfl), setRow_setRow,
    one_row (Blk.row h _) (show _ = (#[b0, b1, b2, a3, a4, a5, a6, a7, a8, a9] : Array Value) from rfl), setRow_setRow,
    one_row (Blk.row h _) (show _ = (#[b0, b1, b2, b3, a4, a5, a6, a7, a8, a9] : Array Value) from rfl), setRow_setRow,
    one_row (Blk.row h _) (show _ = (#[b0, b1, b2, b3, b4, a5, a6, a7, a8, a9] : Array Value) from rfl), setRow_setRow,
    one_row (Blk.row h _) (show _ = (#[b0, b1, b2, b3, b4, b5, a6, a7, a8, a9] : Array Value) from rfl), setRow_setRow,
    one_row (Blk.row h _) (show _ = (#[b0, b1, b2, b3, b4, b5, b6, a7, a8, a9] : Array Value) from rfl), setRow_setRow,
    one_row (Blk.row h _) (show _ = (#[b0, b1, b2, b3, b4, b5, b6, b7, a8, a9] : Array Value) from rfl), setRow_setRow,
    one_row (Blk.row h _) (show _ = (#[b0, b1, b2, b3, b4, b5, b6, b7, b8, a9] : Array Value) from rfl), setRow_setRow,
    one_row (Blk.row h _) (show _ = (#[b0, b1, b2, b3, b4, b5, b6, b7, b8, b9] : Array Value) from rfl), setRow_setRow]
/-- A call that returns an edge. -/
def EdC (wd : Int) (a b : P2) (w : World) (e : Ending) (w' : World) : Prop := e = .returned (.agg (edc wd a b)) ∧ Below w.heap.size w w'
set_option maxRecDepth 100000 in
set_option maxHeartbeats 8000000 in
theorem edgeOf_any (a b : P2) (wd : Int) (w : World) (w1 : 1 ≤ wd) (w2 : wd ≤ 4096) (ha : Inb 16777216 a) (hb : Inb 16777216 b) : Calls Tryd.prog 50 #[.agg #[.int .i64 a.1, .int .i64 a.2], .agg #[.int .i64 b.1, .int .i64 b.2], .int .i64 wd] w (EdC wd a b w) := by
  obtain ⟨d0, d1, d2, d3, d4, d5⟩ := edge_nums w1 w2 ha hb
  obtain ⟨h, hh⟩ : ∃ h, hyp16 a b = h := ⟨_, rfl⟩
  obtain ⟨u, hu⟩ : ∃ u, dvr (-8 * wd * (b.2 - a.2)) h = u := ⟨_, rfl⟩
  obtain ⟨v, hv⟩ : ∃ v, dvr (8 * wd * (b.1 - a.1)) h = v := ⟨_, rfl⟩
  obtain ⟨s, hs⟩ : ∃ v, dvr (8 * wd * (b.2 - a.2)) h = v := ⟨_, rfl⟩
  have HN : Hid (nrm wd a b = (u, v)) := Lib.hid (by unfold nrm; rw [hh, hu, hv])
  have HX : Hid (ext wd a b = (v, s)) := Lib.hid (by unfold ext; rw [hh, hv, hs])
  have CM := fun W => minus_any b a W (hb.mono (by omega)) (ha.mono (by omega))
  unfold PtC mi at CM
  unfold Inb at ha hb
  have C1 := fun W => Num.hypot_any (16 * (b.1 - a.1)) (16 * (b.2 - a.2)) (by omega) (by omega) (by omega) (by omega) W
  unfold hyp16 at hh
  rw [hh] at C1
  rw [show hyp16 a b = h from hh] at d5
  obtain ⟨x, y⟩ := a
  obtain ⟨p, q⟩ := b
  dsimp only at *
  obtain ⟨m8, hm8⟩ : ∃ z, -8 * wd = z := ⟨_, rfl⟩
  obtain ⟨p8, hp8⟩ : ∃ z, 8 * wd = z := ⟨_, rfl⟩
  obtain ⟨dy, hdy⟩ : ∃ z, q - y = z := ⟨_, rfl⟩
  obtain ⟨dx, hdx⟩ : ∃ z, p - x = z := ⟨_, rfl⟩
  obtain ⟨N1, hN1⟩ : ∃ z, m8 * dy = z := ⟨_, rfl⟩
  obtain ⟨N2, hN2⟩ : ∃ z, p8 * dx = z := ⟨_, rfl⟩
  obtain ⟨N3, hN3⟩ : ∃ z, p8 * dy = z := ⟨_, rfl⟩
  have HV : Hid (edc wd (x, y) (p, q) = #[.int .i64 x, .int .i64 y, .int .i64 p, .int .i64 q, .int .i64 dx, .int .i64 dy, .int .i64 u, .int .i64 v, .int .i64 v, .int .i64 s]) := Lib.hid (by unfold edc mi; rw [HN.out, HX.out]; dsimp only; rw [hdx, hdy])
  rw [hm8, hdy, hN1] at hu d4
  rw [hp8, hdx, hN2] at hv d2
  rw [hp8, hdy, hN3] at hs d3
  rw [hdx, hdy] at CM C1
  have HCM := Lib.hid CM
  have HC1 := Lib.hid C1
  have HC2 := Lib.hid (fun W => Num.div_is N1 h u hu.symm (by omega) (by omega) (by omega) (by omega) W)
  have HC3 := Lib.hid (fun W => Num.div_is N2 h v hv.symm (by omega) (by omega) (by omega) (by omega) W)
  have HC4 := Lib.hid (fun W => Num.div_is N3 h s hs.symm (by omega) (by omega) (by omega) (by omega) W)
  have HB := Lib.hid (Bn.three w 30 30 65 #[.int .i64 x, .int .i64 y] #[.int .i64 p, .int .i64 q] edz)
  have k1 : IntKind.i64.wrap (-8 * wd) = m8 := by rw [hm8]; exact i64w (by omega) (by omega)
  have k2 : IntKind.i64.wrap (8 * wd) = p8 := by rw [hp8]; exact i64w (by omega) (by omega)
  have k5 : IntKind.i64.wrap (m8 * dy) = N1 := by rw [hN1]; exact i64w (by omega) (by omega)
  have k6 : IntKind.i64.wrap (p8 * dx) = N2 := by rw [hN2]; exact i64w (by omega) (by omega)
  have k7 : IntKind.i64.wrap (p8 * dy) = N3 := by rw [hN3]; exact i64w (by omega) (by omega)
  have K1 := Lib.hid k1
  have K2 := Lib.hid k2
  have K5 := Lib.hid k5
  have K6 := Lib.hid k6
  have K7 := Lib.hid k7
  have hdx1 : -33554432 ≤ dx ∧ dx ≤ 33554432 := by omega
  have hdy1 : -33554432 ≤ dy ∧ dy ≤ 33554432 := by omega
  obtain ⟨hx0, hx1⟩ := hdx1
  obtain ⟨hy0, hy1⟩ := hdy1
  clear CM C1 hh hu hv hs hm8 hp8 hdy hdx hN1 hN2 hN3 d0 d1 d2 d3 d4 d5 k1 k2 k5 k6 k7 ha hb
  go_enter Tryd.func50, Tryd.ntmps50
  go_wp2_with (refine wpList_allocC runE rfl rfl ?_)
  refine (HCM.out _).mono ?_
  rintro e wm ⟨rfl, hbm⟩
  have hB := (HB.out.below hbm).push _ rfl 30 #[.int .i64 dx, .int .i64 dy]
  have HB1 : Hid (Bn w _ [(w.heap.size, 30, #[.int .i64 x, .int .i64 y]), (w.heap.size + 1, 30, #[.int .i64 p, .int .i64 q]), (w.heap.size + 1 + 1, 65, edz), (wm.heap.size, 30, #[.int .i64 dx, .int .i64 dy])]) := Lib.hid hB
  have hsz := hbm.size
  clear HCM hbm hB HB
  go_upto_region 2 with fail
  go_wp2_with fail
  obtain ⟨W1, hW1⟩ : ∃ W, wm.alloc (.cells #[.int .i64 dx, .int .i64 dy] 30) = W := ⟨_, rfl⟩
  rw [hW1] at HB1
  rw [hW1]
  obtain ⟨g0, hg0⟩ : ∃ g, w.heap.size = g := ⟨_, rfl⟩
  obtain ⟨g1, hg1⟩ : ∃ g, g0 + 1 = g := ⟨_, rfl⟩
  obtain ⟨g2, hg2⟩ : ∃ g, g1 + 1 = g := ⟨_, rfl⟩
  obtain ⟨g3, hg3⟩ : ∃ g, wm.heap.size = g := ⟨_, rfl⟩
  rw [← size_alloc3, hg0, hg1, hg2, hg3] at hsz
  rw [hg0, hg1, hg2, hg3] at HB1
  rw [hg0, hg1, hg2, hg3]
  have n1 : ¬ (g2 = g0) := by omega
  have n2 : ¬ (g2 = g1) := by omega
  have n3 : ¬ (g2 = g3) := by omega
  have HGE : Hid (w.heap.size ≤ g2) := Lib.hid (by omega)
  clear hW1 hg0 hg1 hg2 hg3 hsz
  refine (HC1.out _).mono ?_
  rintro e w' ⟨rfl, rfl⟩
  clear HC1
  have k1 := K1.out
  have k2 := K2.out
  have k5 := K5.out
  have k6 := K6.out
  have k7 := K7.out
  obtain ⟨a0, a1, _⟩ := blk2 (HB1.out.get 0 rfl)
  obtain ⟨b0, b1, _⟩ := blk2 (HB1.out.get 1 rfl)
  obtain ⟨c0, c1, _⟩ := blk2 (HB1.out.get 3 rfl)
  have E := show Blk W1 g2 65 edz from HB1.out.get 2 rfl
  have z0 : W1.cell? ⟨g2, 0, none⟩ = some (.int .i64 0) := E.cell 0
  have z1 : W1.cell? ⟨g2, 1, none⟩ = some (.int .i64 0) := E.cell 1
  have z2 : W1.cell? ⟨g2, 2, none⟩ = some (.int .i64 0) := E.cell 2
  have z3 : W1.cell? ⟨g2, 3, none⟩ = some (.int .i64 0) := E.cell 3
  have z4 : W1.cell? ⟨g2, 4, none⟩ = some (.int .i64 0) := E.cell 4
  have z5 : W1.cell? ⟨g2, 5, none⟩ = some (.int .i64 0) := E.cell 5
  have z6 : W1.cell? ⟨g2, 6, none⟩ = some (.int .i64 0) := E.cell 6
  have z7 : W1.cell? ⟨g2, 7, none⟩ = some (.int .i64 0) := E.cell 7
  have z8 : W1.cell? ⟨g2, 8, none⟩ = some (.int .i64 0) := E.cell 8
  have z9 : W1.cell? ⟨g2, 9, none⟩ = some (.int .i64 0) := E.cell 9
  have zf : ∀ o, W1.frozen? ⟨g2, o, none⟩ = false := E.frozen
  clear E
  go_wp2_with fail
  go_region_held3 (fun W => W.cell? ⟨g0, 0, none⟩ = some (.int .i64 x) ∧ W.cell? ⟨g0, 1, none⟩ = some (.int .i64 y) ∧ W.cell? ⟨g1, 0, none⟩ = some (.int .i64 p) ∧ W.cell? ⟨g1, 1, none⟩ = some (.int .i64 q) ∧ W.cell? ⟨g3, 0, none⟩ = some (.int .i64 dx) ∧ W.cell? ⟨g3, 1, none⟩ = some (.int .i64 dy))
    (go_keep)
    (first
      | (go_at_call_of 52 N1; refine (HC2.out _).mono ?_; rintro e w' ⟨rfl, rfl⟩)
      | (go_at_call_of 52 N2; refine (HC3.out _).mono ?_; rintro e w' ⟨rfl, rfl⟩)
      | (go_at_call_of 52 N3; refine (HC4.out _).mono ?_; rintro e w' ⟨rfl, rfl⟩))
  go_wp2_with fail
  rw [ten_row (show Blk W1 g2 65 #[.int .i64 0, .int .i64 0, .int .i64 0, .int .i64 0, .int .i64 0, .int .i64 0, .int .i64 0, .int .i64 0, .int .i64 0, .int .i64 0] from HB1.out.get 2 rfl)]
  refine bodyPost_ret (v := .agg #[.int .i64 x, .int .i64 y, .int .i64 p, .int .i64 q, .int .i64 dx, .int .i64 dy, .int .i64 u, .int .i64 v, .int .i64 v, .int .i64 s]) (results_cell_row rfl _ _ g2 65 #[.int .i64 x, .int .i64 y, .int .i64 p, .int .i64 q, .int .i64 dx, .int .i64 dy, .int .i64 u, .int .i64 v, .int .i64 v, .int .i64 s] (0, 0) _ rfl ((Blk.row (HB1.out.get 2 rfl) _).drew) Tryd.underlying65 rfl (infoE _ rfl)) rfl ?_
  exact ⟨by rw [HV.out], (below_setRow HB1.out.b HGE.out _).drew⟩
end Go.Proofs.YtflopcogalknhaaDoor.Str
