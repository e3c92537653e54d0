/-
  Layer 36: Put of package cache.
-/
import Derived.Test.YtkdokipgakncjaaCacRem
import Derived.Deep.RegionHeld3
namespace Go.Proofs.Ytkdokipgakncjaa.Cac
open Go.RowKit Go.Proofs.Ytkdokipgakncjaa

def PutC (B g m : Nat) (s : St) (k : K5) (i : Img) (M : List Nat) (w : World) (e : Ending) (w' : World) : Prop :=
  e = .returned (.tuple #[]) ∧ Left B g (m + 1) (s.put k i) M w w'

set_option maxHeartbeats 1000000 in
theorem put_zero (B g m : Nat) (s : St) (k : K5) (i : Img) (v : Value) (M : List Nat) (w : World) (h : IsC w B g m s M) (h0 : s.b = 0) (hv : ImgR w w.heap.size v i) :
    Calls Try.prog 26 #[.pointer (some ⟨g, 0, none⟩), kagg k, v] w (PutC B g m s k i M w) := by
  obtain ⟨A, c, rfl, _, _⟩ := hv
  obtain ⟨b, ov, n, D, hn, rfl, hC⟩ := h
  obtain ⟨y0, y1, y2, y3, yf⟩ := blk4 hC.ord.box
  rw [h0] at y0
  have hgl := hC.ord.box.lt
  have hgl1 : g < w.heap.size + 1 := by omega
  have hm := fun (W : World) (hT : Tch [] w W) => made_yes g b _ _ _ W (hT.blk hC.ord.box (by simp))
  obtain ⟨q, hq⟩ : ∃ q, i.px.length = q := ⟨_, rfl⟩
  rw [hq]
  have HC := Lib.hid hC
  have H0 := Lib.hid h0
  clear hC h0 hq
  unfold kagg
  have T2 : Tch [] w ((w.alloc (.cells #[.int .i64 k.1, .int .i64 k.2.1, .int .i64 k.2.2.1, .int .i64 k.2.2.2.1, .int .i64 k.2.2.2.2] 29)).alloc (.cells #[.int .i64 i.W, .int .i64 i.H, .slice A q c] 32)) := ((Tch.refl _ _).alloc _).alloc _
  have hm2 := hm _ T2
  clear hm
  go_enter Try.func26, Try.ntmps26
  go_wp2_with (go_at_call 34; refine hm2.mono ?_; rintro e w' ⟨rfl, rfl⟩)
  go_end0
  refine ⟨rfl, ?_⟩
  have e : s.put k i = s := by unfold St.put; rw [if_pos H0.out]
  rw [e]
  exact ⟨_, ⟨b, ov, n, D, by omega, rfl, HC.out.tch T2 (fun k hk => by simp at hk) (fun k _ => by simp)⟩, T2.mono (fun k hk => by simp at hk), fun k hk => .inl hk⟩

theorem put_use {w W1 w2 : World} {B g b n bud e : Nat} {ov : Value} {D : DataW Value} {l : List Ent} {k : K5} {i : Img} {v : Value} (h : Cch w B g b ov n D bud l e) (hk : K5ok k) (hT : Tch [] w W1) (hI : ImgV W1 B v i)
    (hm : w2.ownsMap Try.prog 29 RI b (n + 1) (D.put (kl k) (.held v))) (hg : W1.grownBy w2 (some b)) (hmax : l.length ≤ 1048576) :
    Calls Try.prog 37 #[.pointer (some ⟨g, 0, none⟩), kagg k] w2 fun en w3 => en = .returned (.tuple #[]) ∧ ∃ ov', Cch w3 B g b ov' (n + 1) (D.put (kl k) (.held v)) bud (rem l k ++ [(k, i)]) e ∧ Tch (foot g b ov) w w3 ∧ (ov'.ownBlock = ov.ownBlock ∨ ∀ j, ov'.ownBlock = some j → w.heap.size ≤ j) := by
  have hgb := h.gb
  have T1 : Tch [b] W1 w2 := (Tch.refl _ _).grown hg (fun j hj => by simp at hj; subst hj; exact .inl (by simp))
  have T2 : Tch [b] w w2 := Tch.trans (hT.mono (M' := [b]) (fun k hk => by simp at hk)) T1 (fun k hk => .inl hk)
  have hW1 := h.tch hT (fun k hk => by simp at hk) (fun k _ => by simp)
  have hI2 : ImgV w2 B v i := hI.tch T1 (fun j hj => hW1.noPix j (by simp at hj; subst hj; simp [foot]))
  refine (use_any B g _ _ ov _ (keys l) k w2 (h.ord.tch T2 (by simp; omega) (fun j hj => by have := h.ob j hj; simpa using this)) (by rw [keys_len]; exact hmax)).mono ?_
  rintro en w3 ⟨he, ov', hO, hT3, hE⟩
  have e1 : (keys l).erase k ++ [k] = keys (rem l k ++ [(k, i)]) := by rw [keys_app, keys_rem l k h.nodup]; rfl
  rw [e1] at hO
  have hNP2 : NoPix w2 (g :: bl ov) := fun j hj => by
    have hC2ord := h.ord.tch T2 (by simp; omega) (fun j hj => by have := h.ob j hj; simpa using this)
    simp only [List.mem_cons] at hj
    rcases hj with rfl | hj
    · exact NoPix.cells hC2ord.box (by decide)
    · exact NoPix.row hC2ord.row (by decide) j hj
  have T : Tch (foot g b ov) w w3 := (T2.mono (M' := foot g b ov) (fun j hj => by simp at hj; subst hj; exact .inl (by simp [foot]))).trans hT3 (fun j hj => .inl (sub_foot j hj))
  refine ⟨he, ov', ⟨hO, hT3.map hm ?_, (h.til.tch T h.noPix).put k hk (hI2.tch hT3 hNP2), h.low, nodup_back i h.nodup⟩, T, hE.imp id (fun hh j hj => Nat.le_trans T2.size (hh j hj))⟩
  simp only [List.mem_cons, mem_bl, not_or]
  exact ⟨hgb, fun e => h.ob b e rfl⟩

theorem wp_putKey {o : Oper} {a : Act} {W : World} {K : Act → World → Prop} {Q : Exit → Act → World → Prop} (m x y : Operand) (ho : o.op = .mapUpdate 45 m x y) (b n : Nat) (D : DataW Value) (hown : W.ownsMap Try.prog 29 RI b n D) (hn : n ≤ 4398046511104) (k : K5) (hk : K5ok k) (v : Value)
    (hm : a.eval m = .map (some b)) (hx : a.eval x = kagg k) (hy : a.eval y = v) (hK : ∀ w', w'.ownsMap Try.prog 29 RI b (n + 1) (D.put (kl k) (.held v)) → W.grownBy w' (some b) → K (a.put o.dst undef) w') : Oper.wp Try.prog o a W K Q := by
  obtain ⟨w', hrun, r1, r2⟩ := hown.store keyed Try.underlying45 (by unfold maxLen; omega) (keyOf_kagg k hk) (val := v) (d := .held v) (ps := []) rfl
  unfold Oper.wp
  simp [execOp, ho, hm, hx, hy, hrun, Result.andThen]
  exact hK w' r1 r2.grown

/-- What the region of a store reads. -/
def SP (g gk gi : Nat) (c ck ci : Array Value) (W : World) : Prop := Blk W g 47 c ∧ Blk W gk 29 ck ∧ Blk W gi 32 ci
theorem SP.below {g gk gi : Nat} {c ck ci : Array Value} {W W' : World} (h : SP g gk gi c ck ci W) (hb : Below W.heap.size W W') : SP g gk gi c ck ci W' :=
  ⟨h.1.below hb h.1.lt, h.2.1.below hb h.2.1.lt, h.2.2.below hb h.2.2.lt⟩
theorem SP.map {g gk gi b n : Nat} {D : DataW Value} {c ck ci : Array Value} {W W' : World} (h : SP g gk gi c ck ci W) (hm : W.ownsMap Try.prog 29 RI b n D) (hg : W.grownBy W' (some b)) : SP g gk gi c ck ci W' :=
  ⟨h.1.grown hg (fun e => map_ne_blk hm h.1 (by injection e with e; exact e.symm)), h.2.1.grown hg (fun e => map_ne_blk hm h.2.1 (by injection e with e; exact e.symm)), h.2.2.grown hg (fun e => map_ne_blk hm h.2.2 (by injection e with e; exact e.symm))⟩

theorem put_len (l : List Ent) (k : K5) (i : Img) (h : l.length ≤ 1048575) : (rem l k ++ [(k, i)]).length ≤ 1048576 := by
  have := rem_len l k
  simp only [List.length_append, List.length_singleton]
  omega
theorem St.put_some {s : St} {k : K5} {i : Img} (h : s.b ≠ 0) : s.put k i = St.shrink { s with l := rem s.l k ++ [(k, i)] } := by unfold St.put; rw [if_neg h]
set_option maxHeartbeats 2000000 in
theorem put_some (B g m : Nat) (s : St) (k : K5) (hk : K5ok k) (i : Img) (v : Value) (M : List Nat) (w : World) (h : IsC w B g m s M) (h0 : s.b ≠ 0) (hv : ImgR w w.heap.size v i) (hmax : s.l.length ≤ 1048575) (hpx : i.px.length ≤ 4398046511104) (hm31 : m ≤ 4398046511104) (he : s.e ≤ 4398046511105) (hb : s.b ≤ 1024) (hB : B ≤ w.heap.size) :
    Calls Try.prog 26 #[.pointer (some ⟨g, 0, none⟩), kagg k, v] w (PutC B g m s k i M w) := by
  have hcp0 := fun (W : World) (hb : Below w.heap.size w W) => copied_any v i W ((hv.below hb).more hb.size) hpx
  obtain ⟨A, c, rfl, _, _⟩ := hv
  obtain ⟨b, ov, n, D, hn, rfl, hC⟩ := h
  obtain ⟨y0, y1, y2, y3, yf⟩ := blk4 hC.ord.box
  have hgl := hC.ord.box.lt
  have hgl1 : g < w.heap.size + 1 := by omega
  have hm := fun (W : World) (hT : Tch [] w W) => made_yes g b _ _ _ W (hT.blk hC.ord.box (by simp))
  have hbx := fun (W : World) (hT : Tch [] w W) => hT.blk hC.ord.box (by simp)
  have hz : ((s.b : Int) == 0) = false := by simpa using (by omega : ¬ (s.b : Int) = 0)
  obtain ⟨q, hq⟩ : ∃ q, i.px.length = q := ⟨_, rfl⟩
  have hun := fun (W1 w2 : World) (v : Value) (hT : Tch [] w W1) hI hm hg => put_use (i := i) (v := v) (w2 := w2) hC hk hT hI hm hg (by omega)
  rw [hq] at hcp0 ⊢
  have HC := Lib.hid hC
  have H0 := Lib.hid h0
  have HK := Lib.hid hk
  have HU := Lib.hid hun
  have HCP := Lib.hid hcp0
  have HQ := Lib.hid hq
  clear hC h0 hq hun hcp0 hk
  obtain ⟨k0, k1, k2, k3, k4⟩ := k
  unfold kagg at HU ⊢
  have T2 : Tch [] w ((w.alloc (.cells #[.int .i64 k0, .int .i64 k1, .int .i64 k2, .int .i64 k3, .int .i64 k4] 29)).alloc (.cells #[.int .i64 i.W, .int .i64 i.H, .slice A q c] 32)) := ((Tch.refl _ _).alloc _).alloc _
  have hm2 := hm _ T2
  have HB2 : Hid (Below w.heap.size w ((w.alloc (.cells #[.int .i64 k0, .int .i64 k1, .int .i64 k2, .int .i64 k3, .int .i64 k4] 29)).alloc (.cells #[.int .i64 i.W, .int .i64 i.H, .slice A q c] 32))) := ((Below.refl _ _).alloc (Nat.le_refl _) _).alloc (by simp) _
  clear hm
  go_enter Try.func26, Try.ntmps26
  go_wp2_with (go_at_call 34; refine hm2.mono ?_; rintro e w' ⟨rfl, rfl⟩)
  have sp : SP g w.heap.size (w.heap.size + 1) #[.int .i64 s.b, .map (some b), ov, .int .i64 s.e] #[.int .i64 k0, .int .i64 k1, .int .i64 k2, .int .i64 k3, .int .i64 k4] #[.int .i64 i.W, .int .i64 i.H, .slice A q c]
      ((w.alloc (.cells #[.int .i64 k0, .int .i64 k1, .int .i64 k2, .int .i64 k3, .int .i64 k4] 29)).alloc (.cells #[.int .i64 i.W, .int .i64 i.H, .slice A q c] 32)) :=
    ⟨hbx _ T2, (Blk.new _ _ _).alloc _, by have := Blk.new (w.alloc (.cells #[.int .i64 k0, .int .i64 k1, .int .i64 k2, .int .i64 k3, .int .i64 k4] 29)) 32 #[.int .i64 i.W, .int .i64 i.H, .slice A q c]; simpa using this⟩
  refine wp_region_held_drew (S := SP g w.heap.size (w.heap.size + 1) #[.int .i64 s.b, .map (some b), ov, .int .i64 s.e] #[.int .i64 k0, .int .i64 k1, .int .i64 k2, .int .i64 k3, .int .i64 k4] #[.int .i64 i.W, .int .i64 i.H, .slice A q c]) (by kernel_rfl) sp (fun hHeld => ?_)
  refine wpAnyH_take (i := 0) (oi := _) (v := .pointer (some ⟨g, 0, none⟩)) rfl (by kernel_rfl) (by kernel_rfl) (by kernel_rfl) (fun _ _ _ h => h) (Or.inl ⟨by rfl, fun W1 _ => by go_simp⟩) (by assumption) ?_
  go_simp
  refine wpAnyH_take (i := 1) (oi := _) (v := .pointer (some ⟨g, 0, none⟩)) rfl (by kernel_rfl) (by kernel_rfl) (by kernel_rfl) (fun _ _ _ h => h) (Or.inl ⟨by rfl, fun W1 _ => by go_simp⟩) (by assumption) ?_
  go_simp
  refine wpAnyH_take (i := 2) (oi := _) (v := .pointer (some ⟨g, 1, none⟩)) rfl (by kernel_rfl) (by kernel_rfl) (by kernel_rfl) (fun _ _ _ h => h) (Or.inl ⟨by rfl, fun W1 _ => by go_simp⟩) (by assumption) ?_
  go_simp
  refine wpAnyH_take (i := 3) (oi := _) (v := .map (some b)) rfl (by kernel_rfl) (by kernel_rfl) (by kernel_rfl) (fun _ _ _ h => h) (Or.inl ⟨by rfl, fun W1 hS => by (have z := hS.1.cell 1; go_simp)⟩) (by assumption) ?_
  go_simp
  refine wpAnyH_take (i := 4) (oi := _) (v := .agg #[.int .i64 k0, .int .i64 k1, .int .i64 k2, .int .i64 k3, .int .i64 k4]) rfl (by kernel_rfl) (by kernel_rfl) (by kernel_rfl) (fun _ _ _ h => h) (Or.inl ⟨by rfl, fun W1 hS => by (obtain ⟨z0, z1, z2, z3, z4, _⟩ := blk5 hS.2.1; go_simp)⟩) (by assumption) ?_
  go_simp
  refine wpAnyH_take (i := 5) (oi := _) (v := .agg #[.int .i64 i.W, .int .i64 i.H, .slice A q c]) rfl (by kernel_rfl) (by kernel_rfl) (by kernel_rfl) (fun _ _ _ h => h) (Or.inl ⟨by rfl, fun W1 hS => by (obtain ⟨z0, z1, z2, _⟩ := blk3 hS.2.2; go_simp)⟩) (by assumption) ?_
  go_simp
  refine wpAnyH_ready (rs := [6]) (by kernel_rfl) (by simp) ?_
  refine AllReadyH.cons (o := _) rfl (fun K hK => ?_) AllReadyH.nil
  go_simp
  go_at_call 38
  refine (HCP.out _ (HB2.out.drew)).mono ?_
  rintro e w1 ⟨v1, rfl, hI1, hb1⟩
  go_wp2_with fail
  have T3 : Tch [] w w1 := (T2.drew).below hb1
  have HI1 := Lib.hid hI1
  have HT3 := Lib.hid T3
  have hm1 := HC.out.map
  have HM1 := Lib.hid (T3.map hm1 (by simp))
  refine hK.out _ _ (hHeld.below hb1) (fun hHeld1 => ?_)
  clear hK hHeld hb1 hI1 T3 hm1
  try simp only [Act.put, List.setIfInBounds_toArray, List.set_cons_zero, List.set_cons_succ]
  refine wpAnyH_ready (rs := [7]) (by kernel_rfl) (by simp) ?_
  refine AllReadyH.cons (o := _) rfl (fun K hK => ?_) AllReadyH.nil
  rw [if_pos (by rfl)]
  refine wp_putKey (.tmp 19) (.tmp 20) (.tmp 22) rfl b n D HM1.out (by omega) (k0, k1, k2, k3, k4) HK.out v1 rfl rfl rfl (fun w2 hm2' hg2 => ?_)
  have hU2 := HU.out w1 w2 v1 HT3.out (HI1.out.mono (by simp; omega)) hm2' hg2
  have hsp2 := hHeld1.map HM1.out hg2
  refine hK.out _ _ hsp2 (fun hHeld2 => ?_)
  clear hK hHeld1
  refine wpAnyH_done (by kernel_rfl) ?_ _
  obtain ⟨x0, x1, x2, x3, x4, xf⟩ := blk5 hHeld2.2.1
  have HM2 := Lib.hid hm2'
  clear hm2' hHeld2 hsp2 hg2
  go_wp2_with (first | (go_at_call 37; refine hU2.mono ?_; rintro e w3 ⟨rfl, ov', hC3, hT4, hE⟩; have hsh := shrink_any B g b (n + 1) s.e ov' _ s.b _ w3 hC3 (put_len s.l _ i hmax) hb he; clear hC3) | (go_at_call 42; refine hsh.mono ?_; rintro e w4 hS; obtain ⟨rfl, hL⟩ := IsC.shrunk hS (Nat.succ_le_succ hn); clear hS))
  go_end0
  refine ⟨rfl, ?_⟩
  rw [St.put_some H0.out]
  exact hL.mk hT4 (foot_of hE)

end Go.Proofs.Ytkdokipgakncjaa.Cac
