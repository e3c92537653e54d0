/-
  Layer 36, the document's answer: Put.
-/
import Derived.Test.YtkdokipgakncjaaRCacG
namespace Go.Proofs.Ytkdokipgakncjaa.Cac
open Go.RowKit Go.Proofs.Ytkdokipgakncjaa Go.Proofs.Ytkdokipgakncjaa.RegG

theorem RT.rwL {B g b e : Nat} {M : List Nat} {w0 wr : World} {L : List E3} (h : RT B g b e M w0 L wr) (q : Nat) (hq : L.length = q) :
    ∃ A cap A2 cap2, RK M w0 B g #[.int .i64 b, .int .i64 e, .slice A q cap, .slice A2 q cap2, .bool true] (.slice A q cap) q (kcs (kys L)) none (.slice A2 q cap2) q (ics L) none (PLof L) wr := by
  refine h.rw_ q hq _ ?_
  obtain ⟨⟨kv, iv, h1, _⟩, _⟩ := h
  intro p hp
  obtain ⟨p', hp', rfl⟩ := List.mem_map.1 hp
  exact h1.pix p' hp'
theorem mem_PLsnoc {L : List E3} {k : K5} {i : Img} {r : Value} {p : E3} (h : p ∈ L ++ [(k, i, r)]) : (p.2.2, p.2.1.px) ∈ ((r, i.px) :: PLof L) := by
  rcases List.mem_append.1 h with h | h
  · exact List.mem_cons_of_mem _ (mem_PLof h)
  · simp only [List.mem_singleton] at h
    subst h
    simp
def PutR (B g : Nat) (s : St) (k : K5) (i : Img) (M : List Nat) (w : World) (e : Ending) (w' : World) : Prop := e = .returned (.tuple #[]) ∧ ROut B g (s.put k i) M w w'
theorem PutR.done {B g b e : Nat} {s : St} {k : K5} {i : Img} {r : Value} {M : List Nat} {w W2 w7 : World} {L' : List E3} (h0 : s.b ≠ 0) (hb : s.b = b) (he : s.e = e) (hL : ents L' = rem s.l k)
    (h7 : RT B g b (e + ((L' ++ [(k, i, r)]).length - b)) M W2 ((L' ++ [(k, i, r)]).drop ((L' ++ [(k, i, r)]).length - b)) w7) (hT : Tch [] w W2) (hB : B ≤ w.heap.size) : PutR B g s k i M w (.returned (.tuple #[])) w7 := by
  refine ⟨rfl, ?_⟩
  have := (h7.rebase hT hB).out
  rw [ents_drop, ents_app, hL, ← ents_len (L' ++ [(k, i, r)]), ents_app, hL, ← hb, ← he] at this
  unfold St.put
  rw [if_neg h0]
  exact this

set_option maxRecDepth 100000 in
set_option maxHeartbeats 8000000 in
theorem rput_any (B g : Nat) (s : St) (k : K5) (i : Img) (v : Value) (M : List Nat) (w : World) (h : IsR w B g s M) (hv : ImgR w B v i) (hmax : s.l.length ≤ 1048575) (hnd : (keys s.l).Nodup) (hpx : i.px.length ≤ 4398046511104) (he : s.e ≤ 4398046511106) (hB : B ≤ w.heap.size) :
    Calls Try.prog 27 #[.pointer (some ⟨g, 0, none⟩), kagg k, v] w (PutR B g s k i M w) := by
  have hIs := h
  obtain ⟨A5, c5, rfl, hvr⟩ := hv
  obtain ⟨iW, iH, px⟩ := i
  obtain ⟨kv, iv, L, rfl, hL, h1⟩ := h
  obtain ⟨M, hMM⟩ : ∃ M, rfoot g kv iv = M := ⟨_, rfl⟩
  have hML := h1.size
  have hLO := h1.lows
  have hRT : ∀ W, Tch [] w W → RT B g s.b s.e M W L W := fun W hT => by rw [← hMM]; exact RT.start (h1.tch0 hT) (Nat.le_trans hB hT.size)
  have hgB := h1.low
  rw [hMM] at hIs hML hLO ⊢
  have HLO := Lib.hid hLO
  clear hLO
  have hgM : g ∈ M := by rw [← hMM]; exact mem_rfoot.2 (.inl rfl)
  have hLl : L.length = s.l.length := by rw [← ents_len, hL]
  have hmx : L.length ≤ 1048575 := by omega
  obtain ⟨k0, k1, k2, k3, k4⟩ := k
  unfold kagg
  simp only at hpx hvr ⊢
  obtain ⟨pl, hpl⟩ : ∃ pl, px.length = pl := ⟨_, rfl⟩
  rw [hpl] at hvr hpx ⊢
  have T2 : Tch [] w ((w.alloc (.cells #[.int .i64 k0, .int .i64 k1, .int .i64 k2, .int .i64 k3, .int .i64 k4] 29)).alloc (.cells #[.int .i64 iW, .int .i64 iH, .slice A5 pl c5] 32)) := ((Tch.refl _ _).alloc _).alloc _
  have K2 : Blk ((w.alloc (.cells #[.int .i64 k0, .int .i64 k1, .int .i64 k2, .int .i64 k3, .int .i64 k4] 29)).alloc (.cells #[.int .i64 iW, .int .i64 iH, .slice A5 pl c5] 32)) w.heap.size 29 #[.int .i64 k0, .int .i64 k1, .int .i64 k2, .int .i64 k3, .int .i64 k4] := (Blk.new _ _ _).alloc _
  have Z2 : Blk ((w.alloc (.cells #[.int .i64 k0, .int .i64 k1, .int .i64 k2, .int .i64 k3, .int .i64 k4] 29)).alloc (.cells #[.int .i64 iW, .int .i64 iH, .slice A5 pl c5] 32)) (w.heap.size + 1) 32 #[.int .i64 iW, .int .i64 iH, .slice A5 pl c5] := by
    have := Blk.new (w.alloc (.cells #[.int .i64 k0, .int .i64 k1, .int .i64 k2, .int .i64 k3, .int .i64 k4] 29)) 32 #[.int .i64 iW, .int .i64 iH, .slice A5 pl c5]
    simpa using this
  obtain ⟨W2, hW2⟩ : ∃ W2, ((w.alloc (.cells #[.int .i64 k0, .int .i64 k1, .int .i64 k2, .int .i64 k3, .int .i64 k4] 29)).alloc (.cells #[.int .i64 iW, .int .i64 iH, .slice A5 pl c5] 32)) = W2 := ⟨_, rfl⟩
  rw [hW2] at T2 K2 Z2
  have R2 := hRT _ T2
  have hm := R2.made
  obtain ⟨A, cap, A2, cap2, x0, x1, x2, x3, xf, hgl, _, _⟩ := R2.cells L.length rfl
  have hndL : (keys (ents L)).Nodup := by rw [hL]; exact hnd
  have hrm := rremove_rt B g s.b s.e M W2 L (k0, k1, k2, k3, k4) W2 R2 (by omega) hndL
  unfold kagg at hrm
  have hs2 : w.heap.size + 2 = W2.heap.size := by rw [← hW2]; simp
  obtain ⟨b, hbb⟩ : ∃ b, s.b = b := ⟨_, rfl⟩
  obtain ⟨e, hee⟩ : ∃ e, s.e = e := ⟨_, rfl⟩
  rw [hbb, hee] at hrm
  rw [hbb] at x0
  rw [hee] at he
  have HIS := Lib.hid hIs
  have HL := Lib.hid hL
  have HT2 := Lib.hid T2
  have HK2 := Lib.hid K2
  have HZ2 := Lib.hid Z2
  have HML := Lib.hid hML
  have HPL := Lib.hid hpl
  have HV := Lib.hid hvr
  have HSB := Lib.hid hbb
  have HSE := Lib.hid hee
  have HGB := Lib.hid hgB
  clear hIs h1 hRT R2 T2 hML hL hnd hndL hpl hvr hbb hee hMM hgB
  by_cases hb0 : b = 0
  · subst hb0
    clear hrm
    go_enter Try.func27, Try.ntmps27
    go_wp2_with fail
    refine hm.mono ?_
    rintro en w1 ⟨rfl, rfl⟩
    go_wp2_with fail
    go_end0
    refine ⟨rfl, ?_⟩
    unfold St.put
    rw [if_pos HSB.out]
    exact Out.stay (obR B g s) HIS.out HT2.out
  · have hbn : ((b : Int) == 0) = false := by simpa using (by omega : ¬ (b : Int) = 0)
    have HB0 : Hid (s.b ≠ 0) := Lib.hid (by rw [HSB.out]; exact hb0)
    obtain ⟨d0, d1, d2, d3, d4, df⟩ := blk5 K2
    clear K2 Z2
    go_enter Try.func27, Try.ntmps27
    go_wp2_with fail
    refine hm.mono ?_
    rintro en w1 ⟨rfl, rfl⟩
    clear hm
    go_wp2_with fail
    refine hrm.mono ?_
    rintro en w3 ⟨rfl, L', hL', h3⟩
    clear hrm hW2 x0 x1 x2 x3 xf hgl d0 d1 d2 d3 d4 df
    rw [HL.out] at hL'
    have hlen' : L'.length ≤ 1048575 := by
      have h1 := rem_len s.l (k0, k1, k2, k3, k4)
      rw [← ents_len, hL']
      omega
    have CK : Hid (∀ W, Tch M W2 W → Blk W w.heap.size 29 #[.int .i64 k0, .int .i64 k1, .int .i64 k2, .int .i64 k3, .int .i64 k4]) := Lib.hid (fun W hW => hW.blk HK2.out (fun hm => by have := HML.out _ hm; omega))
    have CI : Hid (∀ W, Tch M W2 W → Blk W (w.heap.size + 1) 32 #[.int .i64 iW, .int .i64 iH, .slice A5 pl c5]) := Lib.hid (fun W hW => hW.blk HZ2.out (fun hm => by have := HML.out _ hm; omega))
    have CC : Hid (∀ W, Tch M W2 W → Calls Try.prog 39 #[.agg #[.int .i64 iW, .int .i64 iH, .slice A5 pl c5]] W (Copied ⟨iW, iH, px⟩ W)) := Lib.hid (fun W hW => by
      have hTT := (HT2.out.mono (M' := M) (fun k hk => by simp at hk)).trans hW (fun k hk => .inl hk)
      refine rcopied_any _ ⟨iW, iH, px⟩ W ⟨A5, c5, by simp only [HPL.out], ?_, HV.out.2⟩ (by simp only [HPL.out]; exact hpx)
      simp only [HPL.out]
      exact (HV.out.1.below (hTT.to_below hB HLO.out)).more (Nat.le_trans hB hTT.size))
    have HL' := Lib.hid hL'
    have h3d := h3.sameM (Tch.refl [] w3).drew
    obtain ⟨q, hqn⟩ : ∃ q, L'.length = q := ⟨_, rfl⟩
    have HQ := Lib.hid hqn
    obtain ⟨A, cap, A2, cap2, R0⟩ := h3d.rwL q hqn
    rw [hqn] at hlen'
    clear h3 h3d hL' hqn
    obtain ⟨x0, x1, x2, x3, x4, xf⟩ := blk5 R0.box
    go_wp2_with fail
    clear x0 x1 x2 x3 x4 xf
    refine wp_region_G (S := S2 19 22 (fun W => W.cell? ⟨g, 2, none⟩ = some (.slice A q cap)) (fun W => W.cell? ⟨g, 3, none⟩ = some (.slice A2 q cap2)) (fun W => Tch M W2 W)) (by kernel_rfl) ⟨fun _ => R0.box.cell 2, fun _ => R0.box.cell 3, R0.tch⟩ (fun hHeld => ?_)
    refine wpAnyG_take (i := 0) (oi := _) (v := .pointer (some ⟨g, 0, none⟩)) rfl (by kernel_rfl) (by kernel_rfl) (by kernel_rfl) (fun _ _ _ h => h) (fun _ _ => S2.un (by decide) (by decide)) (by kernel_rfl) (Or.inl ⟨by rfl, fun W1 _ => by go_simp⟩) (S2.set (by decide) (by decide) hHeld) (fun hHeld => ?_)
    go_simp
    refine wpAnyG_take (i := 1) (oi := _) (v := .pointer (some ⟨g, 0, none⟩)) rfl (by kernel_rfl) (by kernel_rfl) (by kernel_rfl) (fun _ _ _ h => h) (fun _ _ => S2.un (by decide) (by decide)) (by kernel_rfl) (Or.inl ⟨by rfl, fun W1 _ => by go_simp⟩) (S2.set (by decide) (by decide) hHeld) (fun hHeld => ?_)
    go_simp
    refine wpAnyG_take (i := 2) (oi := _) (v := .pointer (some ⟨g, 0, none⟩)) rfl (by kernel_rfl) (by kernel_rfl) (by kernel_rfl) (fun _ _ _ h => h) (fun _ _ => S2.un (by decide) (by decide)) (by kernel_rfl) (Or.inl ⟨by rfl, fun W1 _ => by go_simp⟩) (S2.set (by decide) (by decide) hHeld) (fun hHeld => ?_)
    go_simp
    refine wpAnyG_take (i := 3) (oi := _) (v := .pointer (some ⟨g, 0, none⟩)) rfl (by kernel_rfl) (by kernel_rfl) (by kernel_rfl) (fun _ _ _ h => h) (fun _ _ => S2.un (by decide) (by decide)) (by kernel_rfl) (Or.inl ⟨by rfl, fun W1 _ => by go_simp⟩) (S2.set (by decide) (by decide) hHeld) (fun hHeld => ?_)
    go_simp
    refine wpAnyG_take (i := 4) (oi := _) (v := .pointer (some ⟨g, 2, none⟩)) rfl (by kernel_rfl) (by kernel_rfl) (by kernel_rfl) (fun _ _ _ h => h) (fun _ _ => S2.un (by decide) (by decide)) (by kernel_rfl) (Or.inl ⟨by rfl, fun W1 _ => by go_simp⟩) (S2.set (by decide) (by decide) hHeld) (fun hHeld => ?_)
    go_simp
    refine wpAnyG_take (i := 5) (oi := _) (v := .slice A q cap) rfl (by kernel_rfl) (by kernel_rfl) (by kernel_rfl) (fun _ _ _ h => h) (fun _ _ => S2.un (by decide) (by decide)) (by kernel_rfl) (Or.inl ⟨by rfl, fun W1 h1 => by (obtain ⟨l, hcl, hi, hS⟩ := h1; have hC := hS.C (hcl.back 5 19 rfl (by kernel_rfl) (unlisted hi)); go_simp)⟩) (S2.set (by decide) (by decide) hHeld) (fun hHeld => ?_)
    go_simp
    refine wpAnyG_take (i := 6) (oi := _) (v := .agg #[.int .i64 k0, .int .i64 k1, .int .i64 k2, .int .i64 k3, .int .i64 k4]) rfl (by kernel_rfl) (by kernel_rfl) (by kernel_rfl) (fun _ _ _ h => h) (fun _ _ => S2.un (by decide) (by decide)) (by kernel_rfl) (Or.inl ⟨by rfl, fun W1 h1 => by (obtain ⟨l, hcl, hi, hS⟩ := h1; have hT := hS.T; have z := CK.out W1 hT; obtain ⟨z0, z1, z2, z3, z4, _⟩ := blk5 z; go_simp)⟩) (S2.set (by decide) (by decide) hHeld) (fun hHeld => ?_)
    go_simp
    refine wpAnyG_take (i := 9) (oi := _) (v := .pointer (some ⟨g, 0, none⟩)) rfl (by kernel_rfl) (by kernel_rfl) (by kernel_rfl) (fun _ _ _ h => h) (fun _ _ => S2.un (by decide) (by decide)) (by kernel_rfl) (Or.inl ⟨by rfl, fun W1 _ => by go_simp⟩) (S2.set (by decide) (by decide) hHeld) (fun hHeld => ?_)
    go_simp
    refine wpAnyG_take (i := 10) (oi := _) (v := .pointer (some ⟨g, 0, none⟩)) rfl (by kernel_rfl) (by kernel_rfl) (by kernel_rfl) (fun _ _ _ h => h) (fun _ _ => S2.un (by decide) (by decide)) (by kernel_rfl) (Or.inl ⟨by rfl, fun W1 _ => by go_simp⟩) (S2.set (by decide) (by decide) hHeld) (fun hHeld => ?_)
    go_simp
    refine wpAnyG_take (i := 11) (oi := _) (v := .pointer (some ⟨g, 3, none⟩)) rfl (by kernel_rfl) (by kernel_rfl) (by kernel_rfl) (fun _ _ _ h => h) (fun _ _ => S2.un (by decide) (by decide)) (by kernel_rfl) (Or.inl ⟨by rfl, fun W1 _ => by go_simp⟩) (S2.set (by decide) (by decide) hHeld) (fun hHeld => ?_)
    go_simp
    refine wpAnyG_take (i := 12) (oi := _) (v := .slice A2 q cap2) rfl (by kernel_rfl) (by kernel_rfl) (by kernel_rfl) (fun _ _ _ h => h) (fun _ _ => S2.un (by decide) (by decide)) (by kernel_rfl) (Or.inl ⟨by rfl, fun W1 h1 => by (obtain ⟨l, hcl, hi, hS⟩ := h1; have hC := hS.D (hcl.back 12 22 rfl (by kernel_rfl) (unlisted hi)); go_simp)⟩) (S2.set (by decide) (by decide) hHeld) (fun hHeld => ?_)
    go_simp
    refine wpAnyG_take (i := 13) (oi := _) (v := .agg #[.int .i64 iW, .int .i64 iH, .slice A5 pl c5]) rfl (by kernel_rfl) (by kernel_rfl) (by kernel_rfl) (fun _ _ _ h => h) (fun _ _ => S2.un (by decide) (by decide)) (by kernel_rfl) (Or.inl ⟨by rfl, fun W1 h1 => by (obtain ⟨l, hcl, hi, hS⟩ := h1; have hT := hS.T; have z := CI.out W1 hT; obtain ⟨z0, z1, z2, _⟩ := blk3 z; go_simp)⟩) (S2.set (by decide) (by decide) hHeld) (fun hHeld => ?_)
    go_simp
    refine wpAnyG_ready (rs := [7]) (by kernel_rfl) (by simp) ?_
    refine AllReadyG.cons (o := _) rfl (fun K hK => ?_) AllReadyG.nil
    rw [if_pos (by rfl)]
    refine wp_litK 26 rfl _ rfl _ _ _ _ _ R0 rfl (fun gK wK0 R1 => ?_)
    refine hK.out _ _ (⟨fun _ => R1.box.cell 2, fun _ => R1.box.cell 3, R1.tch⟩) (fun hHeld => ?_)
    clear hK
    try simp only [Act.put, List.setIfInBounds_toArray, List.set_cons_zero, List.set_cons_succ]
    refine wpAnyG_ready (rs := [8]) (by kernel_rfl) (by simp) ?_
    refine AllReadyG.cons (o := _) rfl (fun K hK => ?_) AllReadyG.nil
    rw [if_pos (by rfl)]
    refine wp_appK 27 rfl _ _ rfl R1 rfl rfl rfl (fun y hy => by (simp only [List.mem_cons, List.not_mem_nil, or_false] at hy; rcases hy with rfl | rfl | rfl | rfl | rfl <;> rfl)) (by omega) (fun vK wk R2 => ?_)
    obtain ⟨oK, capK, rfl⟩ := own_shape R2.a.row
    refine hK.out _ _ (⟨fun _ => R2.box.cell 2, fun _ => R2.box.cell 3, R2.tch⟩) (fun hHeld => ?_)
    clear hK
    try simp only [Act.put, List.setIfInBounds_toArray, List.set_cons_zero, List.set_cons_succ]
    refine wpAnyG_ready (rs := [14]) (by kernel_rfl) (by simp) ?_
    refine AllReadyG.cons (o := _) rfl (fun K hK => ?_) AllReadyG.nil
    go_simp
    go_at_call 39
    refine (CC.out _ R2.tch).mono ?_
    rintro en wc ⟨v1, rfl, hI1, hb1⟩
    obtain ⟨r1, rfl, ho1⟩ := hI1
    simp only at ho1
    obtain ⟨A1, c1, rfl, _⟩ := own_open ho1
    rw [HPL.out] at ho1
    have ho2 : wc.ownsRow B 63 4 (.slice A1 pl c1) px.length (pcs px) := by
      rw [HPL.out]
      exact own_mono ho1 R2.size
    have R3 := (R2.later hb1).addPix ho2 (by decide)
    clear hb1
    simp only [HPL.out]
    go_wp2_with fail
    refine hK.out _ _ (⟨fun _ => R3.box.cell 2, fun _ => R3.box.cell 3, R3.tch⟩) (fun hHeld => ?_)
    clear hK
    try simp only [Act.put, List.setIfInBounds_toArray, List.set_cons_zero, List.set_cons_succ]
    refine wpAnyG_ready (rs := [15]) (by kernel_rfl) (by simp) ?_
    refine AllReadyG.cons (o := _) rfl (fun K hK => ?_) AllReadyG.nil
    rw [if_pos (by rfl)]
    refine wp_litI 34 rfl _ rfl _ _ _ R3 rfl (fun gI wI R4 => ?_)
    refine hK.out _ _ (⟨fun _ => R4.box.cell 2, fun _ => R4.box.cell 3, R4.tch⟩) (fun hHeld => ?_)
    clear hK
    try simp only [Act.put, List.setIfInBounds_toArray, List.set_cons_zero, List.set_cons_succ]
    refine wpAnyG_ready (rs := [16]) (by kernel_rfl) (by simp) ?_
    refine AllReadyG.cons (o := _) rfl (fun K hK => ?_) AllReadyG.nil
    rw [if_pos (by rfl)]
    refine wp_appI 35 rfl _ _ rfl R4 rfl rfl rfl (fun y hy => by (simp only [List.mem_cons, List.not_mem_nil, or_false] at hy; rcases hy with rfl | rfl | rfl <;> rfl)) (by omega) (fun vI wi R5 => ?_)
    obtain ⟨oI, capI, rfl⟩ := own_shape R5.b.row
    refine hK.out _ _ (⟨fun _ => R5.box.cell 2, fun _ => R5.box.cell 3, R5.tch⟩) (fun hHeld => ?_)
    clear hK
    try simp only [Act.put, List.setIfInBounds_toArray, List.set_cons_zero, List.set_cons_succ]
    refine wpAnyG_take (i := 17) (oi := _) (v := .pointer (some ⟨g, 0, none⟩)) rfl (by kernel_rfl) (by kernel_rfl) (by kernel_rfl) (fun _ _ _ h => h) (fun _ _ => S2.un (by decide) (by decide)) (by kernel_rfl) (Or.inl ⟨by rfl, fun W1 _ => by go_simp⟩) (S2.set (by decide) (by decide) hHeld) (fun hHeld => ?_)
    go_simp
    refine wpAnyG_take (i := 18) (oi := _) (v := .pointer (some ⟨g, 2, none⟩)) rfl (by kernel_rfl) (by kernel_rfl) (by kernel_rfl) (fun _ _ _ h => h) (fun _ _ => S2.un (by decide) (by decide)) (by kernel_rfl) (Or.inl ⟨by rfl, fun W1 _ => by go_simp⟩) (S2.set (by decide) (by decide) hHeld) (fun hHeld => ?_)
    go_simp
    obtain ⟨f0, f1, f2, f3, f4, ff⟩ := blk5 R5.box
    refine wpAnyG_ready (rs := [19]) (by kernel_rfl) (by simp) ?_
    refine AllReadyG.cons (o := _) rfl (fun K hK => ?_) AllReadyG.nil
    rw [if_pos (by rfl)]
    go_simp
    have R6 := R5.store 2 (.slice (some ⟨oK, 0, none⟩) (q + 1) capK)
    refine hK.out _ _ (⟨fun h => Bool.noConfusion (show true = false from h), fun _ => R6.box.cell 3, R6.tch⟩) (fun hHeld => ?_)
    clear hK
    try simp only [Act.put, List.setIfInBounds_toArray, List.set_cons_zero, List.set_cons_succ]
    refine wpAnyG_take (i := 20) (oi := _) (v := .pointer (some ⟨g, 0, none⟩)) rfl (by kernel_rfl) (by kernel_rfl) (by kernel_rfl) (fun _ _ _ h => h) (fun _ _ => S2.un (by decide) (by decide)) (by kernel_rfl) (Or.inl ⟨by rfl, fun W1 _ => by go_simp⟩) (S2.set (by decide) (by decide) hHeld) (fun hHeld => ?_)
    go_simp
    refine wpAnyG_take (i := 21) (oi := _) (v := .pointer (some ⟨g, 3, none⟩)) rfl (by kernel_rfl) (by kernel_rfl) (by kernel_rfl) (fun _ _ _ h => h) (fun _ _ => S2.un (by decide) (by decide)) (by kernel_rfl) (Or.inl ⟨by rfl, fun W1 _ => by go_simp⟩) (S2.set (by decide) (by decide) hHeld) (fun hHeld => ?_)
    go_simp
    clear f0 f1 f2 f3 f4 ff
    have g3 := R6.box.cell 3
    have gf := R6.box.frozen
    refine wpAnyG_ready (rs := [22]) (by kernel_rfl) (by simp) ?_
    refine AllReadyG.cons (o := _) rfl (fun K hK => ?_) AllReadyG.nil
    rw [if_pos (by rfl)]
    go_simp
    have R7 := R6.store 3 (.slice (some ⟨oI, 0, none⟩) (q + 1) capI)
    refine hK.out _ _ (⟨fun h => Bool.noConfusion (show true = false from h), fun h => Bool.noConfusion (show true = false from h), R7.tch⟩) (fun hHeld => ?_)
    clear hK
    try simp only [Act.put, List.setIfInBounds_toArray, List.set_cons_zero, List.set_cons_succ]
    refine wpAnyG_done (by kernel_rfl) ?_ _
    clear hHeld g3 gf
    have hRT := RW.rt (L := L' ++ [((k0, k1, k2, k3, k4), (⟨iW, iH, px⟩ : Img), .slice A1 pl c1)]) (b := b) (e := e) R7 (by simp) hgM HGB.out (by simp [HQ.out]) (kys_snoc L' (k0, k1, k2, k3, k4) ⟨iW, iH, px⟩ (.slice A1 pl c1)) (ics_snoc L' (k0, k1, k2, k3, k4) ⟨iW, iH, px⟩ (.slice A1 pl c1)) (fun p hp => mem_PLsnoc hp)
    clear R7 R6 R5 R4 R3 R2 R1 R0 ho1 ho2
    obtain ⟨w6, hw6⟩ : ∃ w6, (World.setCell (World.setCell wi ⟨g, 2, none⟩ (.slice (some ⟨oK, 0, none⟩) (q + 1) capK)) ⟨g, 3, none⟩ (.slice (some ⟨oI, 0, none⟩) (q + 1) capI)) = w6 := ⟨_, rfl⟩
    rw [hw6] at hRT ⊢
    clear hw6
    have hsh := rshrink_rt B g b e M W2 _ w6 hRT (by simp [HQ.out]; omega) he
    clear hRT
    go_wp2_with fail
    refine hsh.mono ?_
    rintro en w7 ⟨rfl, h7⟩
    have H7 := Lib.hid h7
    clear h7 hsh
    go_wp2_with fail
    go_end0
    exact PutR.done HB0.out HSB.out HSE.out HL'.out (HPL.out ▸ H7.out) HT2.out hB

end Go.Proofs.Ytkdokipgakncjaa.Cac
