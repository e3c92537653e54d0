/-
  Layer 36, the document's answer: an image copied.
-/
import Derived.Test.YtkdokipgakncjaaRCacW
namespace Go.Proofs.Ytkdokipgakncjaa.Cac
open Go.RowKit Go.Proofs.Ytkdokipgakncjaa Go.Proofs.Ytkdokipgakncjaa.RegG

theorem pcs_snoc (px : List P4) (j : Nat) (hj : j < px.length) (y : P4) (hy : px[j] = y) : pcs (px.take j) ++ (#[.int .i64 y.1, .int .i64 y.2.1, .int .i64 y.2.2.1, .int .i64 y.2.2.2] : Array Value).toList = pcs (px.take (j + 1)) := by
  rw [List.take_succ_eq_append_getElem hj, pcs_app, hy]
  rfl
theorem Below.three {w : World} (o1 o2 o3 : Go.Obj) : Below w.heap.size w (((w.alloc o1).alloc o2).alloc o3) := (((Below.refl _ _).alloc (Nat.le_refl _) _).alloc (by simp) _).alloc (by simp; omega) _
set_option maxHeartbeats 4000000 in
theorem rcopied_any (v : Value) (i : Img) (w : World) (h : ImgR w w.heap.size v i) (hp : i.px.length ≤ 4398046511104) : Calls Try.prog 39 #[v] w (Copied i w) := by
  obtain ⟨A, c, rfl, hr, _⟩ := h
  obtain ⟨iW, iH, px⟩ := i
  simp only at hr hp ⊢
  obtain ⟨q, hq⟩ : ∃ q, px.length = q := ⟨_, rfl⟩
  rw [hq] at hr hp ⊢
  have HQ := Lib.hid hq
  have HR := Lib.hid hr
  clear hq hr
  have B1 : Blk (((w.alloc (.cells #[.int .i64 iW, .int .i64 iH, .slice A q c] 32)).alloc (.cells #[.int .i64 0, .int .i64 0, .slice none 0 0] 32)).alloc (.cells #[.int .i64 iW, .int .i64 iH, .slice none 0 0] 32)) w.heap.size 32 #[.int .i64 iW, .int .i64 iH, .slice A q c] := ((Blk.new _ _ _).alloc _).alloc _
  have B2 : Blk (((w.alloc (.cells #[.int .i64 iW, .int .i64 iH, .slice A q c] 32)).alloc (.cells #[.int .i64 0, .int .i64 0, .slice none 0 0] 32)).alloc (.cells #[.int .i64 iW, .int .i64 iH, .slice none 0 0] 32)) (w.heap.size + 1) 32 #[.int .i64 0, .int .i64 0, .slice none 0 0] := by
    have := (Blk.new (w.alloc (.cells #[.int .i64 iW, .int .i64 iH, .slice A q c] 32)) 32 #[.int .i64 0, .int .i64 0, .slice none 0 0]).alloc (.cells #[.int .i64 iW, .int .i64 iH, .slice none 0 0] 32)
    simpa using this
  have B3 : Blk (((w.alloc (.cells #[.int .i64 iW, .int .i64 iH, .slice A q c] 32)).alloc (.cells #[.int .i64 0, .int .i64 0, .slice none 0 0] 32)).alloc (.cells #[.int .i64 iW, .int .i64 iH, .slice none 0 0] 32)) (w.heap.size + 1 + 1) 32 #[.int .i64 iW, .int .i64 iH, .slice none 0 0] := by
    have := Blk.new ((w.alloc (.cells #[.int .i64 iW, .int .i64 iH, .slice A q c] 32)).alloc (.cells #[.int .i64 0, .int .i64 0, .slice none 0 0] 32)) 32 #[.int .i64 iW, .int .i64 iH, .slice none 0 0]
    simpa using this
  have BB := Below.three (w := w) (.cells #[.int .i64 iW, .int .i64 iH, .slice A q c] 32) (.cells #[.int .i64 0, .int .i64 0, .slice none 0 0] 32) (.cells #[.int .i64 iW, .int .i64 iH, .slice none 0 0] 32)
  go_enter Try.func39, Try.ntmps39
  go_wp2_with fail
  go_loopw [4] (fun k wr => ∃ (j : Nat) (v3 : Value), k = .int .i64 j ∧ j ≤ q ∧ Blk wr w.heap.size 32 #[.int .i64 iW, .int .i64 iH, .slice A q c] ∧ Blk wr (w.heap.size + 1) 32 #[.int .i64 0, .int .i64 0, .slice none 0 0] ∧ Blk wr (w.heap.size + 1 + 1) 32 #[.int .i64 iW, .int .i64 iH, v3] ∧ wr.ownsRow w.heap.size 63 4 v3 j (pcs (px.take j)) ∧ Below w.heap.size w wr) (fun i _ => q - (intOf i).toNat)
  case atStart => exact ⟨0, .slice none 0 0, rfl, by omega, B1, B2, B3, ⟨rfl, .inl ⟨rfl, rfl⟩⟩, BB⟩
  case round =>
    clear B1 B2 B3 BB
    obtain ⟨j, v3, rfl, hj, b1, b2, b3, ho, hb⟩ := hrel
    by_cases hlt : j < q
    · have hjl : j < px.length := by have := HQ.out; omega
      obtain ⟨ad, rfl, hl1⟩ := ImgR.addr (i := ⟨iW, iH, px⟩) HR.out (by omega)
      have hn1 : w.heap.size ∉ ((w.heap.size + 1 + 1) :: bl v3) := by
        simp only [List.mem_cons, mem_bl, not_or]
        exact ⟨by omega, fun e => own_ne_blk ho b1 (by decide) _ e rfl⟩
      have hn2 : w.heap.size + 1 ∉ ((w.heap.size + 1 + 1) :: bl v3) := by
        simp only [List.mem_cons, mem_bl, not_or]
        exact ⟨by omega, fun e => own_ne_blk ho b2 (by decide) _ e rfl⟩
      have hlow : ∀ k ∈ ((w.heap.size + 1 + 1) :: bl v3), w.heap.size ≤ k := fun k hk => by
        rcases List.mem_cons.1 hk with rfl | hk
        · omega
        · exact own_low ho k (mem_bl.1 hk)
      have R0 : RW 63 4 29 5 32 ((w.heap.size + 1 + 1) :: bl v3) wr w.heap.size (w.heap.size + 1 + 1) #[.int .i64 iW, .int .i64 iH, v3] v3 j (pcs (px.take j)) none (.slice none 0 0) 0 [] none [] wr :=
        ⟨Tch.refl _ _, b3, ⟨ho, fun _ _ e => by cases e⟩, ⟨⟨rfl, .inl ⟨rfl, rfl⟩⟩, fun _ _ e => by cases e⟩, fun k hk => .inl (List.mem_cons_of_mem _ (mem_bl.2 hk)), fun k hk => by simp [Value.ownBlock] at hk, .inl (by simp), hb.size, by decide, fun p hp => by simp at hp, .inl rfl⟩
      obtain ⟨⟨y0, y1, y2, y3⟩, hy⟩ : ∃ y, px[j]'hjl = y := ⟨_, rfl⟩
      have ST : Hid (∀ W, Tch ((w.heap.size + 1 + 1) :: bl v3) wr W → W.cell? ⟨w.heap.size, 0, none⟩ = some (.int .i64 iW) ∧ W.cell? ⟨w.heap.size, 1, none⟩ = some (.int .i64 iH) ∧ W.cell? ⟨w.heap.size, 2, none⟩ = some (.slice (some ad) q c) ∧
          W.cell? (ad.add (j * 4)) = some (.int .i64 y0) ∧ W.cell? ⟨(ad.add (j * 4)).block, (ad.add (j * 4)).off + 1, none⟩ = some (.int .i64 y1) ∧ W.cell? ⟨(ad.add (j * 4)).block, (ad.add (j * 4)).off + 2, none⟩ = some (.int .i64 y2) ∧ W.cell? ⟨(ad.add (j * 4)).block, (ad.add (j * 4)).off + 3, none⟩ = some (.int .i64 y3)) := Lib.hid (fun W hW => by
        obtain ⟨z0, z1, z2, _⟩ := blk3 (hW.blk b1 hn1)
        obtain ⟨p0, p1, p2, p3⟩ := pix_cells (HR.out.below (hb.trans (hW.to_below hb.size hlow))) j hjl
        rw [hy] at p0 p1 p2 p3
        exact ⟨z0, z1, z2, p0, p1, p2, p3⟩)
      obtain ⟨x0, x1, x2, xf⟩ := blk3 b1
      have HY := Lib.hid hy
      have HB := Lib.hid hb
      have H1 := Lib.hid b1
      have H2 := Lib.hid b2
      have HN1 := Lib.hid hn1
      have HN2 := Lib.hid hn2
      have HLO := Lib.hid hlow
      clear b1 b2 b3 hy hb ho hn1 hn2 hlow
      go_wp2_with fail
      refine wp_region_G (S := S1 10 (fun W => W.cell? ⟨w.heap.size + 1 + 1, 2, none⟩ = some v3) (fun W => Tch ((w.heap.size + 1 + 1) :: bl v3) wr W)) (by kernel_rfl) ⟨fun _ => R0.box.cell 2, R0.tch.drew⟩ (fun hHeld => ?_)
      refine wpAnyG_take (i := 0) (oi := _) (v := .pointer (some ⟨w.heap.size + 1 + 1, 2, none⟩)) rfl (by kernel_rfl) (by kernel_rfl) (by kernel_rfl) (fun _ _ _ h => h) (fun _ _ => S1.un (by decide)) (by kernel_rfl) (Or.inl ⟨by rfl, fun W1 _ => by go_simp⟩) (S1.set (by decide) hHeld) (fun hHeld => ?_)
      go_simp
      refine wpAnyG_take (i := 1) (oi := _) (v := v3) rfl (by kernel_rfl) (by kernel_rfl) (by kernel_rfl) (fun _ _ _ h => h) (fun _ _ => S1.un (by decide)) (by kernel_rfl) (Or.inl ⟨by rfl, fun W1 h1 => by (obtain ⟨l, hcl, hi, hS⟩ := h1; have hC := hS.C (hcl.back 8 10 rfl (by kernel_rfl) (hcl.back 1 8 rfl (by kernel_rfl) (unlisted hi))); go_simp)⟩) (S1.set (by decide) hHeld) (fun hHeld => ?_)
      go_simp
      refine wpAnyG_take (i := 2) (oi := _) (v := .pointer (some ⟨w.heap.size, 2, none⟩)) rfl (by kernel_rfl) (by kernel_rfl) (by kernel_rfl) (fun _ _ _ h => h) (fun _ _ => S1.un (by decide)) (by kernel_rfl) (Or.inl ⟨by rfl, fun W1 _ => by go_simp⟩) (S1.set (by decide) hHeld) (fun hHeld => ?_)
      go_simp
      refine wpAnyG_take (i := 3) (oi := _) (v := .slice (some ad) q c) rfl (by kernel_rfl) (by kernel_rfl) (by kernel_rfl) (fun _ _ _ h => h) (fun _ _ => S1.un (by decide)) (by kernel_rfl) (Or.inl ⟨by rfl, fun W1 h1 => by (obtain ⟨l, hcl, hi, hS⟩ := h1; have hT := hS.T; have hST := ST.out W1 hT; obtain ⟨z0, z1, z2, p0, p1, p2, p3⟩ := hST; go_simp)⟩) (S1.set (by decide) hHeld) (fun hHeld => ?_)
      go_simp
      refine wpAnyG_take (i := 4) (oi := _) (v := .int .i64 (j : Int)) rfl (by kernel_rfl) (by kernel_rfl) (by kernel_rfl) (fun _ _ _ h => h) (fun _ _ => S1.un (by decide)) (by kernel_rfl) (Or.inl ⟨by rfl, fun W1 _ => by go_simp⟩) (S1.set (by decide) hHeld) (fun hHeld => ?_)
      go_simp
      refine wpAnyG_take (i := 5) (oi := _) (v := .pointer (some (ad.add (j * 4)))) rfl (by kernel_rfl) (by kernel_rfl) (by kernel_rfl) (fun _ _ _ h => h) (fun _ _ => S1.un (by decide)) (by kernel_rfl) (Or.inl ⟨by rfl, fun W1 _ => by go_simp⟩) (S1.set (by decide) hHeld) (fun hHeld => ?_)
      go_simp
      refine wpAnyG_take (i := 6) (oi := _) (v := .agg #[.int .i64 y0, .int .i64 y1, .int .i64 y2, .int .i64 y3]) rfl (by kernel_rfl) (by kernel_rfl) (by kernel_rfl) (fun _ _ _ h => h) (fun _ _ => S1.un (by decide)) (by kernel_rfl) (Or.inl ⟨by rfl, fun W1 h1 => by (obtain ⟨l, hcl, hi, hS⟩ := h1; have hT := hS.T; have hST := ST.out W1 hT; obtain ⟨z0, z1, z2, p0, p1, p2, p3⟩ := hST; go_simp)⟩) (S1.set (by decide) hHeld) (fun hHeld => ?_)
      go_simp
      refine wpAnyG_ready (rs := [7]) (by kernel_rfl) (by simp) ?_
      refine AllReadyG.cons (o := _) rfl (fun K hK => ?_) AllReadyG.nil
      rw [if_pos (by rfl)]
      refine wp_litP 24 rfl _ rfl _ _ _ _ R0.drew rfl (fun gl w1 R1 => ?_)
      refine hK.out _ _ (⟨fun _ => R1.box.cell 2, R1.tch⟩) (fun hHeld => ?_)
      clear hK
      try simp only [Act.put, List.setIfInBounds_toArray, List.set_cons_zero, List.set_cons_succ]
      refine wpAnyG_ready (rs := [8]) (by kernel_rfl) (by simp) ?_
      refine AllReadyG.cons (o := _) rfl (fun K hK => ?_) AllReadyG.nil
      rw [if_pos (by rfl)]
      refine wp_appP 25 rfl _ _ rfl R1 rfl rfl rfl (fun y hy => by (simp only [List.mem_cons, List.not_mem_nil, or_false] at hy; rcases hy with rfl | rfl | rfl | rfl <;> rfl)) (by omega) (fun v4 w2 R2 => ?_)
      obtain ⟨o4, cap4, rfl⟩ := own_shape R2.a.row
      refine hK.out _ _ (⟨fun _ => R2.box.cell 2, R2.tch⟩) (fun hHeld => ?_)
      clear hK
      try simp only [Act.put, List.setIfInBounds_toArray, List.set_cons_zero, List.set_cons_succ]
      refine wpAnyG_take (i := 9) (oi := _) (v := .pointer (some ⟨w.heap.size + 1 + 1, 2, none⟩)) rfl (by kernel_rfl) (by kernel_rfl) (by kernel_rfl) (fun _ _ _ h => h) (fun _ _ => S1.un (by decide)) (by kernel_rfl) (Or.inl ⟨by rfl, fun W1 _ => by go_simp⟩) (S1.set (by decide) hHeld) (fun hHeld => ?_)
      go_simp
      obtain ⟨f0, f1, f2, ff⟩ := blk3 R2.box
      refine wpAnyG_ready (rs := [10]) (by kernel_rfl) (by simp) ?_
      refine AllReadyG.cons (o := _) rfl (fun K hK => ?_) AllReadyG.nil
      rw [if_pos (by rfl)]
      go_simp
      refine hK.out _ _ (⟨fun h => Bool.noConfusion (show true = false from h), (R2.store 2 _).tch⟩) (fun hHeld => ?_)
      clear hK
      try simp only [Act.put, List.setIfInBounds_toArray, List.set_cons_zero, List.set_cons_succ]
      refine wpAnyG_done (by kernel_rfl) ?_ _
      have R3 := R2.store 2 (.slice (some ⟨o4, 0, none⟩) (j + 1) cap4)
      clear hHeld f0 f1 f2 ff R2 R1 R0
      go_wp2_with fail
      go_roundw
      case rel => exact ⟨j + 1, .slice (some ⟨o4, 0, none⟩) (j + 1) cap4, by go_num, by omega, R3.tch.blk H1.out HN1.out, R3.tch.blk H2.out HN2.out, R3.box, (pcs_snoc px j hjl (y0, y1, y2, y3) HY.out) ▸ R3.a.row, HB.out.trans (R3.tch.to_below HB.out.size HLO.out)⟩
      case measure => simp [intOf]; omega
    · obtain rfl : j = q := by omega
      obtain ⟨A4, c4, rfl, _⟩ := own_open ho
      obtain ⟨x0, x1, x2, xf⟩ := blk3 b1
      obtain ⟨y0, y1, y2, yf⟩ := blk3 b2
      obtain ⟨z0, z1, z2, zf⟩ := blk3 b3
      have hrow : wr.ownsRow w.heap.size 63 4 (.slice A4 j c4) px.length (pcs px) := by
        rw [HQ.out]
        have e : px.take j = px := by rw [← HQ.out]; exact List.take_length
        rw [e] at ho
        exact ho
      have n1 := own_ne_blk ho b2 (by decide)
      have HB := Lib.hid hb
      have HO := Lib.hid hrow
      have HN := Lib.hid n1
      clear hb ho hrow b1 b2 b3 n1
      go_wp2_with fail
      refine bodyPost_ret (v := .agg #[.int .i64 iW, .int .i64 iH, .slice A4 j c4]) (by simp [results, Try.results39, go_sem, y0, y1, y2]) rfl ?_
      have T : Tch [w.heap.size + 1] wr _ := (((Tch.refl _ wr).setCell (p := ⟨w.heap.size + 1, 0, none⟩) (.inl (by simp)) (.int .i64 iW)).setCell (p := ⟨w.heap.size + 1, 1, none⟩) (.inl (by simp)) (.int .i64 iH)).setCell (p := ⟨w.heap.size + 1, 2, none⟩) (.inl (by simp)) (.slice A4 j c4)
      exact Copied.mk rfl (T.own HO.out (fun k hk hm => HN.out k hk (by simpa using hm))) (HB.out.trans (T.to_below HB.out.size (by simp)))

end Go.Proofs.Ytkdokipgakncjaa.Cac
