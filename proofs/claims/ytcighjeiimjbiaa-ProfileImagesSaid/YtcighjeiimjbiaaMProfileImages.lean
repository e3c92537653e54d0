/-
  ProfileImages: Image is as specified, and converts pixel by pixel as Convert does.
-/
import Derived.Test.YtcighjeiimjbiaaAll8
namespace Go.Proofs.Ytcighjeiimjbiaa.ProfileImages
open Go.RowKit Go.Proofs.Ytcighjeiimjbiaa Go.Proofs.Ytcighjeiimjbiaa.Pro Go.Proofs.Ytcighjeiimjbiaa.NumPure
open Go.Proofs.Ytcighjeiimjbiaa.Mat (al ac invM invX appM info9 info3)

/-- A conversion's image, its parts named. -/
def IgD (x y z : Int) (l : List P4) (w : World) (e : Ending) (w' : World) : Prop := ∃ (A : Option Addr) (c : Nat), e = .returned (.tuple #[.agg #[.int .i64 x, .int .i64 y, .slice A l.length c], .int .i64 z]) ∧ PxR w' A l ∧ Below w.heap.size w w'
theorem d_of {a b : Pf} {x y z x' y' : Int} {px l : List P4} {w w' : World} {e : Ending} (hz : igErr a b x y px = z) (ht : (if z = 0 then (x, y, px.map (cnvV a b)) else (0, 0, [])) = (x', y', l)) (h : IgC a b x y px w e w') : IgD x' y' z l w e w' := by
  obtain ⟨x1, y1, A, n, c, l1, he, hn, hr, hb, ht1⟩ := h
  rw [hz] at he ht1
  rw [ht] at ht1
  obtain ⟨rfl, rfl, rfl⟩ := Prod.mk.injEq _ _ _ _ ▸ (by simpa using ht1 : x1 = x' ∧ y1 = y' ∧ l1 = l)
  exact ⟨A, c, by rw [he, hn], hr, hb⟩
theorem ig_zero {a b : Pf} {x y : Int} {px : List P4} (h : igErr a b x y px = 0) : cErr a b = 0 ∧ imErr x y px = 0 := by
  unfold igErr at h
  by_cases hc : cErr a b = 0
  · rw [if_pos hc] at h; exact ⟨hc, h⟩
  · rw [if_neg hc] at h; exact absurd h hc
theorem runIm (w : World) : (Instr.alloc 39 true (.tuple #[])).run Try.prog w = .ok (.pointer (some ⟨w.heap.size, 0, none⟩)) (w.alloc (.cells (ics 0 0 none 0 0) 39)) := runI w
set_option maxRecDepth 100000 in
set_option maxHeartbeats 8000000 in
theorem walk (a b : Pf) (x y : Int) (A : Option Addr) (c : Nat) (px : List P4) (w : World) (ha : PfR w a) (hq : PfR w b) (hi : PxR w A px) : Calls Try.prog 4 #[a.val, b.val, .agg #[.int .i64 x, .int .i64 y, .slice A px.length c]] w (Yes w) := by
  obtain ⟨z, hz⟩ : ∃ z, igErr a b x y px = z := ⟨_, rfl⟩
  obtain ⟨T, hT⟩ : ∃ T : Int × Int × List P4, (if z = 0 then (x, y, px.map (cnvV a b)) else (0, 0, [])) = T := ⟨_, rfl⟩
  obtain ⟨xt, yt, l⟩ := T
  have C1 := fun W h1 h2 h3 => (Image_any a b x y A c px W h1 h2 h3).mono fun _ _ h => d_of hz hT h
  have C2 := fun W h1 h2 h3 => (rImage_any a b x y A c px W h1 h2 h3).mono fun _ _ h => d_of hz hT h
  have CV := fun f W h1 h2 => Convert_any a b f W h1 h2
  have hle : l.length ≤ 65536 := by
    by_cases h0 : z = 0
    · rw [if_pos h0] at hT
      have := imErr_len (ig_zero (hz.trans h0)).2
      injection hT with _ hT
      injection hT with _ hT
      rw [← hT, List.length_map]
      exact this
    · rw [if_neg h0] at hT
      injection hT with _ hT
      injection hT with _ hT
      rw [← hT]
      exact Nat.zero_le _
  obtain ⟨n, hn⟩ : ∃ n, px.length = n := ⟨_, rfl⟩
  obtain ⟨m, hm⟩ : ∃ n, l.length = n := ⟨_, rfl⟩
  have C3 := fun A1 A2 c1 c2 W h1 h2 => same_any xt yt A1 A2 c1 c2 l W h1 h2 hle
  unfold IgD at C1 C2
  unfold PxC at CV
  unfold BolC at C3
  unfold Pf.val at C1 C2 CV ⊢
  rw [hn] at C1 C2 ⊢
  rw [hm] at C3
  have HC1 := Lib.hid C1
  have HC2 := Lib.hid C2
  have HC3 := Lib.hid C3
  have HCV := Lib.hid CV
  have HZ := Lib.hid hz
  have HT := Lib.hid hT
  have HN := Lib.hid hn
  have HM := Lib.hid hm
  rw [hm] at hle
  have HLE := Lib.hid hle
  have HB0 := Bn.three w 27 27 39 a.cells b.cells (ics x y A n c)
  obtain ⟨W, hW⟩ : ∃ W, ((w.alloc (.cells a.cells 27)).alloc (.cells b.cells 27)).alloc (.cells #[.int .i64 x, .int .i64 y, .slice A n c] 39) = W := ⟨_, rfl⟩
  unfold ics at HB0
  rw [hW] at HB0
  have HB : Hid (Bn w W [(w.heap.size, 27, a.cells), (w.heap.size + 1, 27, b.cells), (w.heap.size + 1 + 1, 39, ics x y A n c)]) := Lib.hid HB0
  have HPA := Lib.hid ha
  have HPB := Lib.hid hq
  have HPX := Lib.hid hi
  clear ha hq hi HB0 C1 C2 C3 CV hz hT hn hm hle
  go_enter Try.func4, Try.ntmps4
  go_wp2_with (first
    | (refine wpList_load_row rfl _ _ rfl w.heap.size rfl 27 a.cells (0, 0) _ (HB.out.get 0 rfl) Try.underlying27 rfl a.info ?_)
    | (refine wpList_load_row rfl _ _ rfl (w.heap.size + 1) rfl 27 b.cells (0, 0) _ (HB.out.get 1 rfl) Try.underlying27 rfl b.info ?_)
    | (refine wpList_load_row rfl _ _ rfl (w.heap.size + 1 + 1) rfl 39 (ics x y A n c) (0, 0) _ (HB.out.get 2 rfl) Try.underlying39 rfl (infoI _ _ _ _ _) ?_))
  refine (HC1.out W (HPA.out.below HB.out.b) (HPB.out.below HB.out.b) (HPX.out.below HB.out.b)).mono ?_
  clear HC1 hW
  obtain ⟨ga, hga⟩ : ∃ g, w.heap.size = g := ⟨_, rfl⟩
  obtain ⟨gb, hgb⟩ : ∃ g, ga + 1 = g := ⟨_, rfl⟩
  obtain ⟨gi, hgi⟩ : ∃ g, gb + 1 = g := ⟨_, rfl⟩
  rw [hga, hgb, hgi] at HB ⊢
  clear hga hgb hgi
  rintro e w1 ⟨A1, c1, rfl, hr, hb⟩
  rw [HM.out]
  have hB := (HB.out.below hb).push _ rfl 39 (ics xt yt A1 m c1)
  have HB1 : Hid (Bn w _ [(ga, 27, a.cells), (gb, 27, b.cells), (gi, 39, ics x y A n c), (w1.heap.size, 39, ics xt yt A1 m c1)]) := Lib.hid hB
  have hn := (Below.refl w1.heap.size _).alloc (Nat.le_refl _) (.cells (ics xt yt A1 m c1) 39)
  have HR := Lib.hid (hr.below hn)
  have hbn := hb.trans (hn.mono hb.size)
  clear hr hb hB hn HB
  go_upto_region 2 with (first
    | (refine wpList_allocC runIm rfl rfl ?_)
    | (refine wpList_store_row rfl _ _ _ rfl w1.heap.size (ics xt yt A1 m c1) rfl rfl 39 (ics 0 0 none 0 0) (heap_alloc_new _ _) (infoI _ _ _ _ _) rfl (ics_one _ _ _ _ _) ?_; rw [World.setRow_alloc_new]))
  obtain ⟨g1, hg⟩ : ∃ g, w1.heap.size = g := ⟨_, rfl⟩
  obtain ⟨Wg1, hW⟩ : ∃ W, w1.alloc (.cells (ics xt yt A1 m c1) 39) = W := ⟨_, rfl⟩
  have hW' : w1.alloc (.cells #[.int .i64 xt, .int .i64 yt, .slice A1 m c1] 39) = Wg1 := hW
  rw [hW, hg] at HB1
  rw [hW] at HR hbn
  first | rw [hW', hg] | rw [hW, hg]
  clear hW hW' hg
  clear hbn
  have HR1 := HR
  clear HR
  go_wp2_with (first
    | (refine wpList_load_row rfl _ _ rfl ga rfl 27 a.cells (0, 0) _ (HB1.out.get 0 rfl) Try.underlying27 rfl a.info ?_)
    | (refine wpList_load_row rfl _ _ rfl gb rfl 27 b.cells (0, 0) _ (HB1.out.get 1 rfl) Try.underlying27 rfl b.info ?_)
    | (refine wpList_load_row rfl _ _ rfl gi rfl 39 (ics x y A n c) (0, 0) _ (HB1.out.get 2 rfl) Try.underlying39 rfl (infoI _ _ _ _ _) ?_))
  refine (HC2.out _ (HPA.out.below HB1.out.b) (HPB.out.below HB1.out.b) (HPX.out.below HB1.out.b)).mono ?_
  clear HC2
  rintro e w2 ⟨A2, c2, rfl, hr, hb⟩
  rw [HM.out]
  have hB := (HB1.out.below hb).push _ rfl 39 (ics xt yt A2 m c2)
  have HB2 : Hid (Bn w _ [(ga, 27, a.cells), (gb, 27, b.cells), (gi, 39, ics x y A n c), (g1, 39, ics xt yt A1 m c1), (w2.heap.size, 39, ics xt yt A2 m c2)]) := Lib.hid hB
  have hn := (Below.refl w2.heap.size _).alloc (Nat.le_refl _) (.cells (ics xt yt A2 m c2) 39)
  have HR := Lib.hid (hr.below hn)
  have hbn := hb.trans (hn.mono hb.size)
  clear hr hb hB hn HB1
  go_upto_region 3 with (first
    | (refine wpList_allocC runIm rfl rfl ?_)
    | (refine wpList_store_row rfl _ _ _ rfl w2.heap.size (ics xt yt A2 m c2) rfl rfl 39 (ics 0 0 none 0 0) (heap_alloc_new _ _) (infoI _ _ _ _ _) rfl (ics_one _ _ _ _ _) ?_; rw [World.setRow_alloc_new]))
  obtain ⟨g2, hg⟩ : ∃ g, w2.heap.size = g := ⟨_, rfl⟩
  obtain ⟨Wg2, hW⟩ : ∃ W, w2.alloc (.cells (ics xt yt A2 m c2) 39) = W := ⟨_, rfl⟩
  have hW' : w2.alloc (.cells #[.int .i64 xt, .int .i64 yt, .slice A2 m c2] 39) = Wg2 := hW
  rw [hW, hg] at HB2
  rw [hW] at HR hbn
  first | rw [hW', hg] | rw [hW, hg]
  clear hW hW' hg
  have HR3 := Lib.hid (HR1.out.below hbn)
  clear hbn HR1
  go_wp2_with (first
    | (refine wpList_load_row rfl _ _ rfl g1 rfl 39 (ics xt yt A1 m c1) (0, 0) _ (HB2.out.get 3 rfl) Try.underlying39 rfl (infoI _ _ _ _ _) ?_)
    | (refine wpList_load_row rfl _ _ rfl g2 rfl 39 (ics xt yt A2 m c2) (0, 0) _ (HB2.out.get 4 rfl) Try.underlying39 rfl (infoI _ _ _ _ _) ?_))
  refine (HC3.out A1 A2 c1 c2 _ HR3.out HR.out).mono ?_
  rintro e w3 ⟨rfl, hb⟩
  have HB3 := Lib.hid (HB2.out.below hb)
  have HR4 := Lib.hid (HR3.out.below hb)
  clear HC3 hb HB2 HR3 HR
  go_wp2_with fail
  refine (awake_any _).mono ?_
  rintro e w4 ⟨rfl, hb⟩
  have HB4 := Lib.hid (HB3.out.below hb)
  have HR5 := Lib.hid (HR4.out.below hb)
  clear hb HB3 HR4
  obtain ⟨r0, r1, r2, _⟩ := blk3 (HB4.out.get 3 rfl)
  by_cases h0 : z = 0
  rotate_left
  · have h1 : (z != 0) = true := by simpa using h0
    have hT := HT.out
    rw [if_neg h0] at hT
    injection hT with e1 hT
    injection hT with e2 e3
    have hm := HM.out
    rw [← e3] at hm
    have hm : 0 = m := hm
    subst e1 e2 hm
    clear h0 e3
    go_wp2_with fail
    go_ret
    exact ⟨rfl, HB4.out.b⟩
  obtain ⟨hc0, _⟩ := ig_zero (HZ.out.trans h0)
  have hT := HT.out
  rw [if_pos h0] at hT
  injection hT with e1 hT
  injection hT with e2 e3
  subst e1 e2
  have hmn : n = m := by rw [← HM.out, ← e3, List.length_map, HN.out]
  subst hmn
  subst h0
  have HE := Lib.hid e3
  have HC0 := Lib.hid hc0
  clear hc0 e3 HT HZ
  obtain ⟨i0, i1, i2, _⟩ := blk3 (HB4.out.get 2 rfl)
  go_wp2_with fail
  clear r0 r1 r2 i0 i1 i2
  go_loopw [67] (fun i wr => ∃ j : Nat, i = .int .i64 j ∧ j ≤ n ∧ Below w4.heap.size w4 wr) (fun i _ => n - (intOf i).toNat)
  case atStart => exact ⟨0, rfl, by omega, Below.refl _ _⟩
  case round =>
    obtain ⟨j, rfl, hj, hb⟩ := hrel
    by_cases hlt : j < n
    · have hjl : j < px.length := by have := HN.out; omega
      have hjm : j < l.length := by have := HM.out; omega
      have HI := Lib.hid (HB4.out.below hb)
      have hr := HPX.out.below HI.out.b
      have hr1 := HR5.out.below hb
      have HW := Lib.hid hb
      obtain ⟨ad, rfl, _⟩ := hr.addr (by omega)
      obtain ⟨ad1, rfl, _⟩ := hr1.addr (by omega)
      have qc := fun (W1 : World) (hS : Below wr.heap.size wr W1) => px_cells (hr.below hS) j hjl
      have ql := fun (W1 : World) (hS : Below wr.heap.size wr W1) => px_cells (hr1.below hS) j hjm
      obtain ⟨f, hf⟩ : ∃ f, px[j] = f := ⟨_, rfl⟩
      obtain ⟨y', hy⟩ : ∃ y, cnvV a b f = y := ⟨_, rfl⟩
      have hlj : l[j] = y' := by
        rw [← hy, ← hf]
        simp only [← HE.out, List.getElem_map]
      rw [hf] at qc
      rw [hlj] at ql
      obtain ⟨f0, f1, f2, f3⟩ := f
      obtain ⟨y0, y1, y2, y3⟩ := y'
      have HY : Hid ((Value.tuple #[pagg (cnvV a b (f0, f1, f2, f3)), .int .i64 (cErr a b)]) = .tuple #[.agg #[.int .i64 y0, .int .i64 y1, .int .i64 y2, .int .i64 y3], .int .i64 0]) := Lib.hid (by rw [hy, HC0.out]; rfl)
      have QC := Lib.hid qc
      have QL := Lib.hid ql
      clear hf hlj hr hr1 hb hy qc ql
      go_upto_region 12 with fail
      go_cut [12, 13] (fun s t wx => ∃ gx, s = .pointer (some ⟨gx, 0, none⟩) ∧ t = .int .i64 0 ∧ Below wr.heap.size wr wx ∧ Blk wx gx 23 (pcs (y0, y1, y2, y3)))
      case first =>
        have hB0 := (Below.refl wr.heap.size wr).drew
        refine wp_region_held_drew (S := fun W => Below wr.heap.size wr W) (by kernel_rfl) hB0 (fun hHeld => ?_)
        refine wpAnyH_take (i := 0) (oi := _) (v := .agg a.cells) rfl (by kernel_rfl) (by kernel_rfl) (by kernel_rfl) (fun _ _ _ h => h) (yLoadP rfl _ rfl ga rfl a (fun _ h => (HI.out.below h).get 0 rfl)) (by assumption) ?_
        go_simp
        refine wpAnyH_take (i := 1) (oi := _) (v := .agg b.cells) rfl (by kernel_rfl) (by kernel_rfl) (by kernel_rfl) (fun _ _ _ h => h) (yLoadP rfl _ rfl gb rfl b (fun _ h => (HI.out.below h).get 1 rfl)) (by assumption) ?_
        go_simp
        refine wpAnyH_take (i := 2) (oi := _) (v := .pointer (some ⟨gi, 2, none⟩)) rfl (by kernel_rfl) (by kernel_rfl) (by kernel_rfl) (fun _ _ _ h => h) (Or.inl ⟨by rfl, fun W1 hS => by go_simp⟩) (by assumption) ?_
        go_simp
        refine wpAnyH_take (i := 3) (oi := _) (v := .slice (some ad) n c) rfl (by kernel_rfl) (by kernel_rfl) (by kernel_rfl) (fun _ _ _ h => h) (Or.inl ⟨by rfl, fun W1 hS => by (obtain ⟨z0, z1, z2, _⟩ := blk3 ((HI.out.below hS).get 2 rfl); go_simp)⟩) (by assumption) ?_
        go_simp
        refine wpAnyH_take (i := 4) (oi := _) (v := .int .i64 (j : Int)) rfl (by kernel_rfl) (by kernel_rfl) (by kernel_rfl) (fun _ _ _ h => h) (Or.inl ⟨by rfl, fun W1 hS => by go_simp⟩) (by assumption) ?_
        go_simp
        refine wpAnyH_take (i := 5) (oi := _) (v := .pointer (some (ad.add (j * 4)))) rfl (by kernel_rfl) (by kernel_rfl) (by kernel_rfl) (fun _ _ _ h => h) (Or.inl ⟨by rfl, fun W1 hS => by go_simp⟩) (by assumption) ?_
        go_simp
        refine wpAnyH_take (i := 6) (oi := _) (v := .agg #[.int .i64 f0, .int .i64 f1, .int .i64 f2, .int .i64 f3]) rfl (by kernel_rfl) (by kernel_rfl) (by kernel_rfl) (fun _ _ _ h => h) (Or.inl ⟨by rfl, fun W1 hS => by (obtain ⟨q0, q1, q2, q3⟩ := QC.out W1 hS; go_simp)⟩) (by assumption) ?_
        go_simp
        have T0 := Lib.hid hB0
        clear hHeld hB0
        refine wpAnyH_ready (rs := [7, 11]) (by kernel_rfl) (by simp) ?_
        refine AllReadyH.cons (o := _) rfl (fun K hK => ?_) (AllReadyH.cons (o := _) rfl (fun K hK => ?_) AllReadyH.nil)
        · go_simp
          go_at_call 17
          refine (HCV.out (f0, f1, f2, f3) _ (HPA.out.below (HI.out.below T0.out).b) (HPB.out.below (HI.out.below T0.out).b)).mono ?_
          rintro e v1 ⟨rfl, hb⟩
          go_wp2_with fail
          have T1 := Lib.hid (T0.out.trans (hb.mono T0.out.size))
          have HQ := Lib.hid hb
          clear hb
          refine hK.out _ _ (T1.out) (fun hHeld => ?_)
          clear hK
          try simp only [Act.put, List.setIfInBounds_toArray, List.set_cons_zero, List.set_cons_succ]
          rw [HY.out]
          refine wpAnyH_take (i := 8) (oi := _) (v := .tuple #[.agg #[.int .i64 y0, .int .i64 y1, .int .i64 y2, .int .i64 y3], .int .i64 0]) rfl (by kernel_rfl) (by kernel_rfl) (by kernel_rfl) (fun _ _ _ h => h) (Or.inl ⟨by rfl, fun W1 hS => by go_simp⟩) (by assumption) ?_
          go_simp
          refine wpAnyH_take (i := 9) (oi := _) (v := .agg #[.int .i64 y0, .int .i64 y1, .int .i64 y2, .int .i64 y3]) rfl (by kernel_rfl) (by kernel_rfl) (by kernel_rfl) (fun _ _ _ h => h) (Or.inl ⟨by rfl, fun W1 hS => by go_simp⟩) (by assumption) ?_
          go_simp
          refine wpAnyH_take (i := 10) (oi := _) (v := .int .i64 0) rfl (by kernel_rfl) (by kernel_rfl) (by kernel_rfl) (fun _ _ _ h => h) (Or.inl ⟨by rfl, fun W1 hS => by go_simp⟩) (by assumption) ?_
          go_simp
          clear hHeld HQ
          refine wpAnyH_ready (rs := [11]) (by kernel_rfl) (by simp) ?_
          refine AllReadyH.cons (o := _) rfl (fun K hK => ?_) AllReadyH.nil
          rw [if_pos (by rfl)]
          refine wp_allocX 12 rfl rfl ?_
          have T2 := Lib.hid (T1.out.alloc T1.out.size (.cells (pcs (0, 0, 0, 0)) 23))
          have HG := Lib.hid (Blk.new (v1) 23 (pcs (0, 0, 0, 0)))
          have hgx : wr.heap.size ≤ (v1).heap.size := T1.out.size
          refine hK.out _ _ T2.out (fun hHeld => ?_)
          clear hK hHeld
          revert T2 HG hgx
          obtain ⟨gx, hg⟩ : ∃ g, g = (v1).heap.size := ⟨_, rfl⟩
          obtain ⟨v2, hW⟩ : ∃ W, W = (v1).alloc (.cells (pcs (0, 0, 0, 0)) 23) := ⟨_, rfl⟩
          rw [← hg, ← hW]
          clear hg hW
          intro T2 HG hgx
          try simp only [Act.put, List.setIfInBounds_toArray, List.set_cons_zero, List.set_cons_succ]
          refine wpAnyH_ready (rs := [12]) (by kernel_rfl) (by simp) ?_
          refine AllReadyH.cons (o := _) rfl (fun K hK => ?_) AllReadyH.nil
          rw [if_pos (by rfl)]
          refine wp_store_row 23 _ _ rfl gx (pcs (y0, y1, y2, y3)) rfl rfl 23 (pcs (0, 0, 0, 0)) HG.out (infoX _) rfl (pcs_one _) ?_
          have T9 := Lib.hid (Mat.below_setRow T2.out hgx (pcs (y0, y1, y2, y3)))
          have HG9 := Lib.hid (Blk.row HG.out (pcs (y0, y1, y2, y3)))
          clear HG
          refine hK.out _ _ (T9.out) (fun hHeld => ?_)
          clear hK
          try simp only [Act.put, List.setIfInBounds_toArray]
          clear hHeld
          refine wpAnyH_ready (rs := [13]) (by kernel_rfl) (by simp) ?_
          refine AllReadyH.cons (o := _) rfl (fun K hK => ?_) AllReadyH.nil
          rw [if_pos (by rfl)]
          go_simp
          refine hK.out _ _ T9.out (fun hHeld => ?_)
          clear hK hHeld
          try simp only [Act.put, List.setIfInBounds_toArray]
          refine wpAnyH_done (by kernel_rfl) ?_ _
          go_wp2_with fail
          go_meet
          exact ⟨gx, rfl, rfl, T9.out, HG9.out⟩
        · rw [if_pos (by rfl)]
          refine wp_allocX 12 rfl rfl ?_
          have T1 := Lib.hid (T0.out.alloc T0.out.size (.cells (pcs (0, 0, 0, 0)) 23))
          have HG := Lib.hid (Blk.new (wr.drew) 23 (pcs (0, 0, 0, 0)))
          have hgx : wr.heap.size ≤ (wr.drew).heap.size := T0.out.size
          refine hK.out _ _ T1.out (fun hHeld => ?_)
          clear hK hHeld
          revert T1 HG hgx
          obtain ⟨gx, hg⟩ : ∃ g, g = (wr.drew).heap.size := ⟨_, rfl⟩
          obtain ⟨v1, hW⟩ : ∃ W, W = (wr.drew).alloc (.cells (pcs (0, 0, 0, 0)) 23) := ⟨_, rfl⟩
          rw [← hg, ← hW]
          clear hg hW
          intro T1 HG hgx
          try simp only [Act.put, List.setIfInBounds_toArray, List.set_cons_zero, List.set_cons_succ]
          refine wpAnyH_ready (rs := [7]) (by kernel_rfl) (by simp) ?_
          refine AllReadyH.cons (o := _) rfl (fun K hK => ?_) AllReadyH.nil
          go_simp
          go_at_call 17
          refine (HCV.out (f0, f1, f2, f3) _ (HPA.out.below (HI.out.below T1.out).b) (HPB.out.below (HI.out.below T1.out).b)).mono ?_
          rintro e v2 ⟨rfl, hb⟩
          go_wp2_with fail
          have T2 := Lib.hid (T1.out.trans (hb.mono T1.out.size))
          have HQ := Lib.hid hb
          clear hb
          refine hK.out _ _ (T2.out) (fun hHeld => ?_)
          clear hK
          try simp only [Act.put, List.setIfInBounds_toArray, List.set_cons_zero, List.set_cons_succ]
          rw [HY.out]
          have HG := Lib.hid (HG.out.below HQ.out HG.out.lt)
          refine wpAnyH_take (i := 8) (oi := _) (v := .tuple #[.agg #[.int .i64 y0, .int .i64 y1, .int .i64 y2, .int .i64 y3], .int .i64 0]) rfl (by kernel_rfl) (by kernel_rfl) (by kernel_rfl) (fun _ _ _ h => h) (Or.inl ⟨by rfl, fun W1 hS => by go_simp⟩) (by assumption) ?_
          go_simp
          refine wpAnyH_take (i := 9) (oi := _) (v := .agg #[.int .i64 y0, .int .i64 y1, .int .i64 y2, .int .i64 y3]) rfl (by kernel_rfl) (by kernel_rfl) (by kernel_rfl) (fun _ _ _ h => h) (Or.inl ⟨by rfl, fun W1 hS => by go_simp⟩) (by assumption) ?_
          go_simp
          refine wpAnyH_take (i := 10) (oi := _) (v := .int .i64 0) rfl (by kernel_rfl) (by kernel_rfl) (by kernel_rfl) (fun _ _ _ h => h) (Or.inl ⟨by rfl, fun W1 hS => by go_simp⟩) (by assumption) ?_
          go_simp
          clear hHeld HQ
          refine wpAnyH_ready (rs := [12]) (by kernel_rfl) (by simp) ?_
          refine AllReadyH.cons (o := _) rfl (fun K hK => ?_) AllReadyH.nil
          rw [if_pos (by rfl)]
          refine wp_store_row 23 _ _ rfl gx (pcs (y0, y1, y2, y3)) rfl rfl 23 (pcs (0, 0, 0, 0)) HG.out (infoX _) rfl (pcs_one _) ?_
          have T9 := Lib.hid (Mat.below_setRow T2.out hgx (pcs (y0, y1, y2, y3)))
          have HG9 := Lib.hid (Blk.row HG.out (pcs (y0, y1, y2, y3)))
          clear HG
          refine hK.out _ _ (T9.out) (fun hHeld => ?_)
          clear hK
          try simp only [Act.put, List.setIfInBounds_toArray]
          clear hHeld
          refine wpAnyH_ready (rs := [13]) (by kernel_rfl) (by simp) ?_
          refine AllReadyH.cons (o := _) rfl (fun K hK => ?_) AllReadyH.nil
          rw [if_pos (by rfl)]
          go_simp
          refine hK.out _ _ T9.out (fun hHeld => ?_)
          clear hK hHeld
          try simp only [Act.put, List.setIfInBounds_toArray]
          refine wpAnyH_done (by kernel_rfl) ?_ _
          go_wp2_with fail
          go_meet
          exact ⟨gx, rfl, rfl, T9.out, HG9.out⟩
      case rest =>
        obtain ⟨gx, rfl, rfl, hbx, hgx⟩ := hcut
        obtain ⟨w9, rfl⟩ : ∃ w9, w9 = wc := ⟨_, rfl⟩
        have HI9 := Lib.hid (HI.out.below hbx)
        have HG9 := Lib.hid hgx
        have QL2 := Lib.hid fun (W1 : World) (hS : Below w9.heap.size w9 W1) => QL.out W1 (hbx.trans (hS.mono hbx.size))
        have HW2 := Lib.hid (HW.out.trans (hbx.mono HW.out.size))
        clear QL hbx hgx HI QC
        have QL := QL2
        clear QL2
        go_upto_region 13 with fail
        have hB0 := (Below.refl w9.heap.size w9).drew
        refine wp_region_held_drew (S := fun W => Below w9.heap.size w9 W) (by kernel_rfl) hB0 (fun hHeld => ?_)
        refine wpAnyH_take (i := 0) (oi := _) (v := .int .i64 0) rfl (by kernel_rfl) (by kernel_rfl) (by kernel_rfl) (fun _ _ _ h => h) (Or.inl ⟨by rfl, fun W1 hS => by go_simp⟩) (by assumption) ?_
        go_simp
        refine wpAnyH_take (i := 1) (oi := _) (v := .bool false) rfl (by kernel_rfl) (by kernel_rfl) (by kernel_rfl) (fun _ _ _ h => h) (Or.inl ⟨by rfl, fun W1 hS => by go_simp⟩) (by assumption) ?_
        go_simp
        refine wpAnyH_take (i := 2) (oi := _) (v := .bool false) rfl (by kernel_rfl) (by kernel_rfl) (by kernel_rfl) (fun _ _ _ h => h) (Or.inl ⟨by rfl, fun W1 hS => by go_simp⟩) (by assumption) ?_
        go_simp
        refine wpAnyH_take (i := 3) (oi := _) (v := .pointer (some ⟨g1, 2, none⟩)) rfl (by kernel_rfl) (by kernel_rfl) (by kernel_rfl) (fun _ _ _ h => h) (Or.inl ⟨by rfl, fun W1 hS => by go_simp⟩) (by assumption) ?_
        go_simp
        refine wpAnyH_take (i := 4) (oi := _) (v := .slice (some ad1) n c1) rfl (by kernel_rfl) (by kernel_rfl) (by kernel_rfl) (fun _ _ _ h => h) (Or.inl ⟨by rfl, fun W1 hS => by (obtain ⟨z0, z1, z2, _⟩ := blk3 ((HI9.out.below hS).get 3 rfl); go_simp)⟩) (by assumption) ?_
        go_simp
        refine wpAnyH_take (i := 5) (oi := _) (v := .int .i64 (j : Int)) rfl (by kernel_rfl) (by kernel_rfl) (by kernel_rfl) (fun _ _ _ h => h) (Or.inl ⟨by rfl, fun W1 hS => by go_simp⟩) (by assumption) ?_
        go_simp
        refine wpAnyH_take (i := 6) (oi := _) (v := .pointer (some (ad1.add (j * 4)))) rfl (by kernel_rfl) (by kernel_rfl) (by kernel_rfl) (fun _ _ _ h => h) (Or.inl ⟨by rfl, fun W1 hS => by go_simp⟩) (by assumption) ?_
        go_simp
        refine wpAnyH_take (i := 7) (oi := _) (v := .agg #[.int .i64 y0, .int .i64 y1, .int .i64 y2, .int .i64 y3]) rfl (by kernel_rfl) (by kernel_rfl) (by kernel_rfl) (fun _ _ _ h => h) (Or.inl ⟨by rfl, fun W1 hS => by (obtain ⟨q0, q1, q2, q3⟩ := QL.out W1 hS; go_simp)⟩) (by assumption) ?_
        go_simp
        refine wpAnyH_take (i := 8) (oi := _) (v := .agg #[.int .i64 y0, .int .i64 y1, .int .i64 y2, .int .i64 y3]) rfl (by kernel_rfl) (by kernel_rfl) (by kernel_rfl) (fun _ _ _ h => h) (yLoadX rfl _ rfl gx rfl (y0, y1, y2, y3) (fun _ h => HG9.out.below h HG9.out.lt)) (by assumption) ?_
        go_simp
        refine wpAnyH_take (i := 9) (oi := _) (v := .bool false) rfl (by kernel_rfl) (by kernel_rfl) (by kernel_rfl) (fun _ _ _ h => h) (yBin rfl _ _ _ _ _ rfl (fun _ => by kernel_rfl) (neqX_self (y0, y1, y2, y3))) (by assumption) ?_
        go_simp
        refine wpAnyH_take (i := 10) (oi := _) (v := .bool false) rfl (by kernel_rfl) (by kernel_rfl) (by kernel_rfl) (fun _ _ _ h => h) (Or.inl ⟨by rfl, fun W1 hS => by go_simp⟩) (by assumption) ?_
        go_simp
        refine wpAnyH_done (by kernel_rfl) ?_ _
        have HE9 : Hid (∀ W1 : World, Below w9.heap.size w9 W1 → Below w4.heap.size w4 W1) := Lib.hid fun W1 h => HW2.out.trans (h.mono HW2.out.size)
        have hle : n ≤ 65536 := HLE.out
        go_wp2_with fail
        go_roundw
        case rel => exact ⟨j + 1, by go_num, by omega, HE9.out _ (by assumption)⟩
        case measure => simp [intOf]; omega
    · obtain rfl : j = n := by omega
      have HI := Lib.hid (HB4.out.below hb)
      clear hb
      go_wp2_with fail
      go_ret
      exact ⟨rfl, HI.out.b⟩

open Go.ChangeShapes Go.WideShapes Go.ChangeAt Go.Joins Go.Deep

set_option maxRecDepth 100000 in
theorem contract (H : Type) (enc : TypeId × Value → H) (W : World) (base : Nat) (args : Array Value) (ds gs : List (DataW H)) (before : List MemPlace)
    (hval : ∀ (j : Nat) t v, Try.f4.params[j]? = some t → args[j]? = some v → Value.okWide Try.prog W .any base t v)
    (hW : DataW.Whole enc Try.prog Try.f4.params.toList Rows.profileImagesSpec.vars false W args.toList ds gs before) :
    Calls Try.prog 4 args W fun e W' => ∃ v, e = .returned v ∧ Rows.profileImagesSpec.post enc Try.prog Try.f4 false true false false W args v W' := by
  have hW' := hW
  obtain ⟨p, q, hA0, hV, rfl, hfz, hnd⟩ := hW
  have hA : DataW.TrodAll enc Try.prog W 0 (fun _ => true) true Try.f4.params.toList args.toList ds p := hA0
  rw [Try.params4] at hA hval
  obtain ⟨v0, vs0, d0, ds0, p0, q0, hargs, rfl, rfl, g0, r0⟩ := trodAll_cons hA
  obtain ⟨v1, vs1, d1, ds1, p1, q1, rfl, rfl, rfl, g1, r1⟩ := trodAll_cons r0
  obtain ⟨v2, vs2, d2, ds2, p2, q2, rfl, rfl, rfl, g2, r2⟩ := trodAll_cons r1
  obtain ⟨rfl, rfl, rfl⟩ := trodAll_nil r2
  obtain rfl : args = #[v0, v1, v2] := by cases args; simp_all
  obtain ⟨rfl, rfl⟩ := trodVars_none hV
  obtain ⟨p0_, rfl, hp0⟩ := arg_prof (hval 0 27 v0 rfl rfl) g0
  obtain ⟨p1_, rfl, hp1⟩ := arg_prof (hval 1 27 v1 rfl rfl) g1
  obtain ⟨X2, Y2, A2, c2, px2, rfl, hi2⟩ := arg_img (hval 2 39 v2 rfl rfl) g2
  clear hA0
  refine (walk p0_ p1_ X2 Y2 A2 c2 px2 W hp0 hp1 hi2).mono fun e W' ⟨he, hb⟩ => ?_
  subst he
  exact ⟨_, rfl, Frame.law_post Frame.laidOut (by kernel_rfl) Try.underlying4 (by kernel_rfl) rfl rfl hW' hb⟩

set_option maxRecDepth 100000 in
theorem lifted (os : Os) (started : os.Started) (H : Type) (enc : TypeId × Value → H) :
    ReturnsInHanded {} Try.checked os 4 .any (Rows.profileImagesSpec.pre6 enc Try.prog Try.f4 Rows.profileImagesRow.domain false) (Rows.profileImagesSpec.post enc Try.prog Try.f4 false true false false) := by
  refine returnsInHanded_of_change (C := Try.checked) Frame.own started (by kernel_rfl) Try.func4
    (ChangeSpec.witness6 (enc := enc) (C := Try.checked) false ⟨#[], #[.agg #[.string ⟨#[]⟩, .slice none 0 0, .int .i64 0, .int .i64 0, .int .i64 0, .int .i64 0, .int .i64 0, .int .i64 0, .int .i64 0, .int .i64 0, .int .i64 0], .agg #[.string ⟨#[]⟩, .slice none 0 0, .int .i64 0, .int .i64 0, .int .i64 0, .int .i64 0, .int .i64 0, .int .i64 0, .int .i64 0, .int .i64 0, .int .i64 0], .agg #[.int .i64 0, .int .i64 0, .slice none 0 0]], []⟩ 8 (by kernel_rfl) (by kernel_rfl) (by kernel_rfl) (by kernel_rfl)) ?_
  intro W base args ds gs before hval hW _ _
  exact contract H enc W base args ds gs before hval hW

theorem proved : Rows.ProfileImagesSaid :=
  OpenClaim.holds_of_wide 4 Try.f4 rfl rfl rfl rfl rfl rfl rfl ⟨rfl, rfl, rfl, rfl, rfl⟩ rfl rfl rfl rfl rfl (by kernel_rfl) Try.func4 (by kernel_rfl)
    (of_decide_eq_true (by kernel_rfl)) (by unfold Func.isWrapper; first | (rw [if_pos (by decide +kernel)]; kernel_rfl) | (rw [if_neg (by decide +kernel)]; exact ⟨rfl, rfl⟩))
    (fun os started H enc _ => lifted os started H enc)


end Go.Proofs.Ytcighjeiimjbiaa.ProfileImages
