/-
  Layer 36: Copy of package cache.
-/
import Derived.Test.YtkdokipgakncjaaCacDrop
namespace Go.Proofs.Ytkdokipgakncjaa.Cac
open Go.RowKit Go.Proofs.Ytkdokipgakncjaa

def CopyC (B m : Nat) (s : St) (w : World) (e : Ending) (w' : World) : Prop :=
  ∃ g M, e = .returned (.pointer (some ⟨g, 0, none⟩)) ∧ IsC w' B g m s M ∧ Below w.heap.size w w' ∧ ∀ k ∈ M, w.heap.size ≤ k

theorem yLookPlain {S : World → Prop} {ops : Array Oper} {o : Oper} {a : Act} (hw : Region.wanted o (yielded ops a.tmps) = true) (m x : Operand) (ho : o.op = .lookup 45 m x false) (b n : Nat) (D : DataW Value) (k : K5) (hk : K5ok k) (v : Value) (hv : ∀ z, D.atKey (kl k) z = .held v)
    (hm : a.eval m = .map (some b)) (hx : a.eval x = kagg k) (hS : ∀ W, S W → W.ownsMap Try.prog 29 RI b n D) : YieldsIf Try.prog ops S o v a :=
  Or.inl ⟨hw, fun W h => by
    have hr := lookPlain (hS W h) k hk hv
    unfold execOp
    simp [ho, hm, hx, hr, Result.andThen]⟩
theorem take_put {l : List Ent} (h : (keys l).Nodup) (j : Nat) (hj : j < l.length) : rem (l.take j) l[j].1 ++ [(l[j].1, l[j].2)] = l.take (j + 1) := by
  have e1 : l = l.take j ++ l[j] :: l.drop (j + 1) := by rw [← List.drop_eq_getElem_cons hj, List.take_append_drop]
  have hk : keys l = keys (l.take j) ++ l[j].1 :: keys (l.drop (j + 1)) := by
    have := congrArg keys e1
    rw [keys_app] at this
    exact this
  rw [hk, List.nodup_append] at h
  have n1 : l[j].1 ∉ keys (l.take j) := fun hm => h.2.2 _ hm _ (by simp) rfl
  rw [rem_none n1, List.take_succ_eq_append_getElem hj]

/-- In the middle of a Copy. -/
structure CR (B g b n g2 b2 : Nat) (ov : Value) (D : DataW Value) (s : St) (w : World) (j : Nat) (wr : World) : Prop where
  old : Cch wr B g b ov n D s.b s.l s.e
  box : Blk wr g2 47 #[.int .i64 s.b, .map (some b2), .slice none 0 0, .int .i64 0]
  new : ∃ D2, wr.ownsMap Try.prog 29 RI b2 j D2 ∧ Tiles wr B D2 (s.l.take j)
  below : Below w.heap.size w wr
  g2w : w.heap.size ≤ g2
  b2w : w.heap.size ≤ b2
  bB : b < w.heap.size
  gB : g < w.heap.size
/-- What a round reads. -/
def SC (g gk g2 b n : Nat) (D : DataW Value) (c ck c2 : Array Value) (W : World) : Prop := Blk W g 47 c ∧ Blk W gk 29 ck ∧ Blk W g2 47 c2 ∧ W.ownsMap Try.prog 29 RI b n D
theorem SC.below {g gk g2 b n : Nat} {D : DataW Value} {c ck c2 : Array Value} {W W' : World} (h : SC g gk g2 b n D c ck c2 W) (hb : Below W.heap.size W W') : SC g gk g2 b n D c ck c2 W' :=
  ⟨h.1.below hb h.1.lt, h.2.1.below hb h.2.1.lt, h.2.2.1.below hb h.2.2.1.lt, map_at h.2.2.2 (hb.block b h.2.2.2.lt)⟩
theorem SC.map {g gk g2 b n b2 n2 : Nat} {D D2 : DataW Value} {c ck c2 : Array Value} {W W' : World} (h : SC g gk g2 b n D c ck c2 W) (hm : W.ownsMap Try.prog 29 RI b2 n2 D2) (hne : b ≠ b2) (hg : W.grownBy W' (some b2)) : SC g gk g2 b n D c ck c2 W' :=
  ⟨h.1.grown hg (fun e => map_ne_blk hm h.1 (by injection e with e; exact e.symm)), h.2.1.grown hg (fun e => map_ne_blk hm h.2.1 (by injection e with e; exact e.symm)), h.2.2.1.grown hg (fun e => map_ne_blk hm h.2.2.1 (by injection e with e; exact e.symm)),
    map_at h.2.2.2 (hg.block b h.2.2.2.lt (fun e => hne (by injection e)))⟩
theorem clamp_same {b : Nat} (h : b ≤ 1024) : clampN (b : Int) = b := by unfold clampN; omega

theorem new_exact (z : Int) (w : World) : Calls Try.prog 9 #[.int .i64 z] w fun e w' => e = .returned (.pointer (some ⟨w.heap.size + 1, 0, none⟩)) ∧ w' = (w.alloc (.map #[] 0)).alloc (.cells #[.int .i64 (clampN z : Int), .map (some w.heap.size), .slice none 0 0, .int .i64 0] 47) := by
  have hmm := @run_makeMap Try.prog
  go_enter Try.func9, Try.ntmps9
  go_wp2_with (go_at_call 23; refine (Num.clamp_any _ _ _ _).mono ?_; rintro e w' ⟨rfl, rfl⟩)
  go_ret
  exact ⟨rfl, by rw [clp_n]⟩
theorem CR.start {B g b n : Nat} {ov : Value} {D : DataW Value} {s : St} {w : World} (h : Cch w B g b ov n D s.b s.l s.e) (hb : s.b ≤ 1024) :
    CR B g b n (w.heap.size + 1) w.heap.size ov D s w 0 ((w.alloc (.map #[] 0)).alloc (.cells #[.int .i64 (clampN s.b : Int), .map (some w.heap.size), .slice none 0 0, .int .i64 0] 47)) := by
  have T : Tch [] w ((w.alloc (.map #[] 0)).alloc (.cells #[.int .i64 (clampN s.b : Int), .map (some w.heap.size), .slice none 0 0, .int .i64 0] 47)) := ((Tch.refl _ _).alloc _).alloc _
  refine ⟨h.tch T (fun k hk => by simp at hk) (fun k _ => by simp), ?_, ⟨.map [], ?_, ?_⟩, T.to_below (Nat.le_refl _) (by simp), by omega, Nat.le_refl _, h.map.lt, h.ord.box.lt⟩
  · have := Blk.new (w.alloc (.map #[] 0)) 47 #[.int .i64 (clampN s.b : Int), .map (some w.heap.size), .slice none 0 0, .int .i64 0]
    rw [clamp_same hb] at this ⊢
    simpa using this
  · exact (World.ownsMap_made w Try.prog 29 RI).alloc _
  · exact ⟨fun k _ => by simp [keys, Maps.has], by simp, Maps.isMap_empty, by simp [keys]⟩
theorem Cch.ovq {w : World} {B g b n bud e q : Nat} {ov : Value} {D : DataW Value} {l : List Ent} (h : Cch w B g b ov n D bud l e) (hq : q = l.length) : ∃ A cap, ov = .slice A q cap := by
  have hr := h.ord.row
  rw [keys_len, ← hq] at hr
  obtain ⟨A, cap, rfl, _⟩ := own_open hr
  exact ⟨A, cap, rfl⟩
theorem CR.row {B g b n g2 b2 q j cap : Nat} {A : Option Addr} {D : DataW Value} {s : St} {w wr : World} (h : CR B g b n g2 b2 (.slice A q cap) D s w j wr) (hq : q = s.l.length) : wr.ownsRow B 29 5 (.slice A q cap) q (kcs (keys s.l)) := by
  have hr := h.old.ord.row
  rw [keys_len, ← hq] at hr
  exact hr
theorem ImgV.below' {w w' : World} {B : Nat} {v : Value} {i : Img} (h : ImgV w B v i) (hb : Below w.heap.size w w') : ImgV w' B v i := by
  obtain ⟨r, rfl, ho⟩ := h
  exact ⟨r, rfl, own_at ho fun k hk => hb.block k (own_lt ho k hk)⟩
theorem CR.later {B g b n g2 b2 j : Nat} {ov : Value} {D : DataW Value} {s : St} {w wr w1 : World} (h : CR B g b n g2 b2 ov D s w j wr) (hb : Below wr.heap.size wr w1) : CR B g b n g2 b2 ov D s w j w1 := by
  have T : Tch [] wr w1 := (Tch.refl _ _).below hb
  obtain ⟨D2, h1, h2⟩ := h.new
  exact ⟨h.old.tch T (fun k hk => by simp at hk) (fun k _ => by simp), T.blk h.box (by simp), ⟨D2, T.map h1 (by simp), h2.tch T (fun k hk => by simp at hk)⟩, h.below.trans (hb.mono h.below.size), h.g2w, h.b2w, h.bB, h.gB⟩
theorem CR.bne {B g b n g2 b2 j : Nat} {ov : Value} {D : DataW Value} {s : St} {w wr : World} (h : CR B g b n g2 b2 ov D s w j wr) : b ≠ b2 := by
  have := h.bB; have := h.b2w; omega
theorem CR.step {B g b n g2 b2 j : Nat} {ov : Value} {D D2 : DataW Value} {s : St} {w w1 w2 : World} {p : Ent} {v : Value} (h : CR B g b n g2 b2 ov D s w j w1) (hj : j < s.l.length) (hp : p = s.l[j]) (hk : K5ok p.1) (hI : ImgV w1 B v p.2)
    (hD : w1.ownsMap Try.prog 29 RI b2 j D2) (hT : Tiles w1 B D2 (s.l.take j)) (hm : w2.ownsMap Try.prog 29 RI b2 (j + 1) (D2.put (kl p.1) (.held v))) (hg : w1.grownBy w2 (some b2)) : CR B g b n g2 b2 ov D s w (j + 1) w2 := by
  have T : Tch [b2] w1 w2 := (Tch.refl _ _).grown hg (fun k hk => by simp at hk; subst hk; exact .inl (by simp))
  have hNP : NoPix w1 [b2] := fun k hk => by simp at hk; subst hk; exact NoPix.map hD
  have hb := h.b2w
  have hs := h.below.size
  refine ⟨h.old.tch T hNP (fun k hk hk2 => ?_), T.blk h.box (fun hm => ?_), ⟨_, hm, ?_⟩, h.below.trans ?_, h.g2w, h.b2w, h.bB, h.gB⟩
  · simp at hk2; subst hk2
    unfold foot at hk
    simp only [List.mem_cons, mem_bl] at hk
    rcases hk with rfl | rfl | hk
    · have := h.gB; omega
    · have := h.bB; omega
    · exact own_ne_map h.old.ord.row hD k hk rfl
  · simp at hm; exact map_ne_blk hD h.box hm.symm
  · have := (hT.put p.1 hk hI).tch T hNP
    rw [hp] at this ⊢
    rw [take_put h.old.nodup j hj] at this
    exact this
  · exact T.to_below hs (fun k hk => by simp at hk; omega)
theorem clone_q (B q cap : Nat) (A : Option Addr) (L : List K5) (w : World) (h : w.ownsRow B 29 5 (.slice A q cap) q (kcs L)) (hq : L.length = q) (hn : q ≤ 1048577) : Calls Try.prog 35 #[.slice A q cap] w fun e w' => ∃ A' c', e = .returned (.slice A' q c') ∧ w'.ownsRow w.heap.size 29 5 (.slice A' q c') q (kcs L) ∧ Below w.heap.size w w' := by
  subst hq
  refine (cloneKey_own B _ L w h hn).mono ?_
  rintro e w' ⟨v, rfl, ho, hb⟩
  obtain ⟨A', c', rfl, _⟩ := own_open ho
  exact ⟨A', c', rfl, ho, hb⟩
theorem CR.done {B g b n b2 q c' : Nat} {A' : Option Addr} {ov : Value} {D : DataW Value} {s : St} {w w3 : World} (h : CR B g b n (b2 + 1) b2 ov D s w q w3) (hq : q = s.l.length) (ho : w3.ownsRow w.heap.size 29 5 (.slice A' q c') q (kcs (keys s.l))) :
    CopyC B s.l.length s w (.returned (.pointer (some ⟨b2 + 1, 0, none⟩))) ((w3.setCell ⟨b2 + 1, 2, none⟩ (.slice A' q c')).setCell ⟨b2 + 1, 3, none⟩ (.int .i64 s.e)) := by
  obtain ⟨D2, hD, hT⟩ := h.new
  have T : Tch [b2 + 1] w3 ((w3.setCell ⟨b2 + 1, 2, none⟩ (.slice A' q c')).setCell ⟨b2 + 1, 3, none⟩ (.int .i64 s.e)) := ((Tch.refl _ _).setCell (.inl (by simp)) _).setCell (.inl (by simp)) _
  have hNP : NoPix w3 [b2 + 1] := fun k hk => by simp at hk; subst hk; exact NoPix.cells h.box (by decide)
  have hx : Blk ((w3.setCell ⟨b2 + 1, 2, none⟩ (.slice A' q c')).setCell ⟨b2 + 1, 3, none⟩ (.int .i64 s.e)) (b2 + 1) 47 #[.int .i64 s.b, .map (some b2), .slice A' q c', .int .i64 s.e] := by
    have := (h.box.set_ 2 (.slice A' q c')).set_ 3 (.int .i64 s.e)
    simpa using this
  have hg2 := h.g2w
  have hb2 := h.b2w
  have hs := h.below.size
  have hne := own_ne_blk ho h.box (by decide)
  rw [hq, List.take_length] at hT
  have hB : B ≤ w.heap.size := Nat.le_trans h.old.low (by have := h.bB; omega)
  refine ⟨b2 + 1, foot (b2 + 1) b2 (.slice A' q c'), rfl, ⟨b2, .slice A' q c', q, D2, by omega, rfl, ⟨⟨hx, ?_, by omega⟩, T.map hD (by simp), hT.tch T hNP, by omega, h.old.nodup⟩⟩, h.below.trans (T.to_below hs (fun k hk => by simp at hk; omega)), fun k hk => ?_⟩
  · rw [keys_len, ← hq]
    exact own_mono (T.own ho (fun k hk => by have := hne k hk; simpa using this)) hB
  · unfold foot at hk
    simp only [List.mem_cons, mem_bl] at hk
    rcases hk with rfl | rfl | hk
    · exact hg2
    · exact hb2
    · exact own_low ho k hk
set_option maxHeartbeats 2000000 in
theorem copy_any (B g m : Nat) (s : St) (M : List Nat) (w : World) (h : IsC w B g m s M) (hmax : s.l.length ≤ 1048576) (hb : s.b ≤ 1024) (hB : B ≤ w.heap.size) (hpx : ∀ p ∈ s.l, p.2.px.length ≤ 4398046511104) :
    Calls Try.prog 21 #[.pointer (some ⟨g, 0, none⟩)] w (CopyC B s.l.length s w) := by
  obtain ⟨b, ov, n, D, hn, rfl, hC⟩ := h
  obtain ⟨q, hql⟩ : ∃ q, q = s.l.length := ⟨_, rfl⟩
  obtain ⟨A, cap, rfl⟩ := hC.ovq hql
  obtain ⟨y0, y1, y2, y3, yf⟩ := blk4 hC.ord.box
  have hm := made_yes g b _ _ _ w hC.ord.box
  have hnew := new_exact s.b w
  have HC := Lib.hid hC
  have HQ := Lib.hid hql
  clear hC hql
  go_enter Try.func21, Try.ntmps21
  go_wp2_with (first | (go_at_call 34; refine hm.mono ?_; rintro e w' ⟨rfl, rfl⟩) | (go_at_call 9; refine hnew.mono ?_; rintro e w1 ⟨rfl, hw1⟩; have R0 := CR.start HC.out hb; rw [← hw1] at R0; clear hw1; obtain ⟨v0, v1, v2, v3, vf⟩ := blk4 R0.old.ord.box; obtain ⟨b2, hb2⟩ : ∃ b2, w.heap.size = b2 := ⟨_, rfl⟩))
  have hq20 : q ≤ 1048576 := by have := HQ.out; omega
  rw [hb2] at R0
  have HB2 := Lib.hid hb2
  clear hb2 v0 v1 v2 v3 vf
  go_loopw [5, 19] (fun _ i wr => ∃ j : Nat, i = .int .i64 j ∧ j ≤ q ∧ CR B g b n (b2 + 1) b2 (.slice A q cap) D s w j wr) (fun _ i _ => q - (intOf i).toNat)
  case atStart => exact ⟨0, rfl, by omega, R0⟩
  case round =>
    clear R0
    obtain ⟨j, rfl, hj, hR⟩ := hrel
    by_cases hlt : j < q
    · obtain ⟨o, rfl⟩ := own_some (hR.row HQ.out) (by omega)
      have hjl : j < s.l.length := by have := HQ.out; omega
      have hjk : j < (keys s.l).length := by rw [keys_len]; exact hjl
      obtain ⟨z0, z1, z2, z3, z4⟩ := key_cells (hR.row HQ.out) j hjk
      have hol : o < wr.heap.size := own_lt (hR.row HQ.out) o rfl
      obtain ⟨p, hp⟩ : ∃ p, p = s.l[j] := ⟨_, rfl⟩
      have hpk : (keys s.l)[j]'hjk = p.1 := by rw [hp]; simp [keys]
      rw [hpk] at z0 z1 z2 z3 z4
      have hko := hR.old.til.kok p.1 (by rw [← hpk]; exact List.getElem_mem hjk)
      obtain ⟨v, hv, hI⟩ := hR.old.til.at_ p (by rw [hp]; exact List.getElem_mem hjl)
      have hppx := hpx p (by rw [hp]; exact List.getElem_mem hjl)
      have hgl := hR.old.ord.box.lt
      have hg2l := hR.box.lt
      have HKO := Lib.hid hko
      have HP := Lib.hid hp
      have HR := Lib.hid hR
      have HV := Lib.hid hv
      have HI := Lib.hid hI
      obtain ⟨⟨k0, k1, k2, k3, k4⟩, im⟩ := p
      simp only at z0 z1 z2 z3 z4 hppx
      clear hpk hp hR hko hv hI
      have hcp := Lib.hid (fun (W : World) (hb : Below wr.heap.size wr W) => copied_any v im W ((HI.out.below' hb).read) hppx)
      go_wp2_with fail
      have sp : SC g wr.heap.size (b2 + 1) b n D #[.int .i64 s.b, .map (some b), .slice (some ⟨o, 0, none⟩) q cap, .int .i64 s.e] #[.int .i64 k0, .int .i64 k1, .int .i64 k2, .int .i64 k3, .int .i64 k4] #[.int .i64 s.b, .map (some b2), .slice none 0 0, .int .i64 0] (wr.alloc (.cells #[.int .i64 k0, .int .i64 k1, .int .i64 k2, .int .i64 k3, .int .i64 k4] 29)) := ⟨HR.out.old.ord.box.alloc _, Blk.new _ _ _, HR.out.box.alloc _, HR.out.old.map.alloc _⟩
      refine wp_region_held_drew (S := SC g wr.heap.size (b2 + 1) b n D #[.int .i64 s.b, .map (some b), .slice (some ⟨o, 0, none⟩) q cap, .int .i64 s.e] #[.int .i64 k0, .int .i64 k1, .int .i64 k2, .int .i64 k3, .int .i64 k4] #[.int .i64 s.b, .map (some b2), .slice none 0 0, .int .i64 0]) (by kernel_rfl) sp (fun hHeld => ?_)
      refine wpAnyH_take (i := 0) (oi := _) (v := .pointer (some ⟨b2 + 1, 0, none⟩)) rfl (by kernel_rfl) (by kernel_rfl) (by kernel_rfl) (fun _ _ _ h => h) (Or.inl ⟨by rfl, fun W1 _ => by go_simp⟩) (by assumption) ?_
      go_simp
      refine wpAnyH_take (i := 1) (oi := _) (v := .pointer (some ⟨b2 + 1, 0, none⟩)) rfl (by kernel_rfl) (by kernel_rfl) (by kernel_rfl) (fun _ _ _ h => h) (Or.inl ⟨by rfl, fun W1 _ => by go_simp⟩) (by assumption) ?_
      go_simp
      refine wpAnyH_take (i := 2) (oi := _) (v := .pointer (some ⟨b2 + 1, 1, none⟩)) rfl (by kernel_rfl) (by kernel_rfl) (by kernel_rfl) (fun _ _ _ h => h) (Or.inl ⟨by rfl, fun W1 _ => by go_simp⟩) (by assumption) ?_
      go_simp
      refine wpAnyH_take (i := 3) (oi := _) (v := .map (some b2)) rfl (by kernel_rfl) (by kernel_rfl) (by kernel_rfl) (fun _ _ _ h => h) (Or.inl ⟨by rfl, fun W1 hS => by (have z := hS.2.2.1.cell 1; go_simp)⟩) (by assumption) ?_
      go_simp
      refine wpAnyH_take (i := 4) (oi := _) (v := .agg #[.int .i64 k0, .int .i64 k1, .int .i64 k2, .int .i64 k3, .int .i64 k4]) rfl (by kernel_rfl) (by kernel_rfl) (by kernel_rfl) (fun _ _ _ h => h) (Or.inl ⟨by rfl, fun W1 hS => by (obtain ⟨z0, z1, z2, z3, z4, _⟩ := blk5 hS.2.1; go_simp)⟩) (by assumption) ?_
      go_simp
      refine wpAnyH_take (i := 5) (oi := _) (v := .pointer (some ⟨g, 0, none⟩)) rfl (by kernel_rfl) (by kernel_rfl) (by kernel_rfl) (fun _ _ _ h => h) (Or.inl ⟨by rfl, fun W1 _ => by go_simp⟩) (by assumption) ?_
      go_simp
      refine wpAnyH_take (i := 6) (oi := _) (v := .pointer (some ⟨g, 0, none⟩)) rfl (by kernel_rfl) (by kernel_rfl) (by kernel_rfl) (fun _ _ _ h => h) (Or.inl ⟨by rfl, fun W1 _ => by go_simp⟩) (by assumption) ?_
      go_simp
      refine wpAnyH_take (i := 7) (oi := _) (v := .pointer (some ⟨g, 1, none⟩)) rfl (by kernel_rfl) (by kernel_rfl) (by kernel_rfl) (fun _ _ _ h => h) (Or.inl ⟨by rfl, fun W1 _ => by go_simp⟩) (by assumption) ?_
      go_simp
      refine wpAnyH_take (i := 8) (oi := _) (v := .map (some b)) rfl (by kernel_rfl) (by kernel_rfl) (by kernel_rfl) (fun _ _ _ h => h) (Or.inl ⟨by rfl, fun W1 hS => by (have z := hS.1.cell 1; go_simp)⟩) (by assumption) ?_
      go_simp
      refine wpAnyH_take (i := 9) (oi := _) (v := .agg #[.int .i64 k0, .int .i64 k1, .int .i64 k2, .int .i64 k3, .int .i64 k4]) rfl (by kernel_rfl) (by kernel_rfl) (by kernel_rfl) (fun _ _ _ h => h) (Or.inl ⟨by rfl, fun W1 hS => by (obtain ⟨z0, z1, z2, z3, z4, _⟩ := blk5 hS.2.1; go_simp)⟩) (by assumption) ?_
      go_simp
      refine wpAnyH_take (i := 10) (oi := _) (v := v) rfl (by kernel_rfl) (by kernel_rfl) (by kernel_rfl) (fun _ _ _ h => h) (yLookPlain rfl _ _ rfl b n D (k0, k1, k2, k3, k4) HKO.out v HV.out rfl rfl (fun W h => h.2.2.2)) (by assumption) ?_
      go_simp
      refine wpAnyH_ready (rs := [11]) (by kernel_rfl) (by simp) ?_
      refine AllReadyH.cons (o := _) rfl (fun K hK => ?_) AllReadyH.nil
      go_simp
      go_at_call 38
      refine (hcp.out _ (Below.drew ((Below.refl _ _).alloc (Nat.le_refl _) _))).mono ?_
      rintro e w1 ⟨v1, rfl, hI1, hb1⟩
      go_wp2_with fail
      have hwr : Below wr.heap.size wr w1 := ((Below.drew ((Below.refl wr.heap.size wr).alloc (Nat.le_refl _) (.cells #[.int .i64 k0, .int .i64 k1, .int .i64 k2, .int .i64 k3, .int .i64 k4] 29)))).trans (hb1.mono (by simp))
      have HI1 := Lib.hid hI1
      have HWR := Lib.hid hwr
      refine hK.out _ _ (hHeld.below hb1) (fun hHeld1 => ?_)
      clear hK hHeld hb1 hI1 hwr
      try simp only [Act.put, List.setIfInBounds_toArray, List.set_cons_zero, List.set_cons_succ]
      refine wpAnyH_ready (rs := [12]) (by kernel_rfl) (by simp) ?_
      refine AllReadyH.cons (o := _) rfl (fun K hK => ?_) AllReadyH.nil
      rw [if_pos (by rfl)]
      obtain ⟨D2, hD2, hT2⟩ := (HR.out.later HWR.out).new
      refine wp_putKey (.tmp 26) (.tmp 27) (.tmp 34) rfl b2 j D2 hD2 (by omega) (k0, k1, k2, k3, k4) HKO.out v1 rfl rfl rfl (fun w2 hm2' hg2 => ?_)
      have hsp2 := hHeld1.map hD2 HR.out.bne hg2
      have hR2 := (HR.out.later HWR.out).step hjl HP.out HKO.out (HI1.out.mono (by have := HR.out.below.size; simp; omega)) hD2 hT2 hm2' hg2
      refine hK.out _ _ hsp2 (fun hHeld2 => ?_)
      clear hK hHeld1
      refine wpAnyH_done (by kernel_rfl) ?_ _
      have HR2 := Lib.hid hR2
      clear hHeld2 hsp2 hg2 hm2' hR2 hD2 hT2
      go_wp2_with fail
      go_roundw
      case rel => exact ⟨j + 1, by go_num, by omega, HR2.out⟩
      case measure => simp [intOf]; omega
    · obtain rfl : j = q := by omega
      obtain ⟨v0, v1, v2, v3, vf⟩ := blk4 hR.old.ord.box
      obtain ⟨u0, u1, u2, u3, uf⟩ := blk4 hR.box
      have hgl := hR.old.ord.box.lt
      have hg2l := hR.box.lt
      have hcl := clone_q B j cap A (keys s.l) wr (hR.row HQ.out) (by rw [keys_len]; exact HQ.out.symm) (by omega)
      have hgg : g ≠ b2 + 1 := by have := hR.gB; have := hR.b2w; omega
      have HR := Lib.hid hR
      clear hR
      go_wp2_with (go_at_call 35; refine hcl.mono ?_; rintro e w3 ⟨A', c', rfl, ho, hb3⟩; have hR3 := HR.out.later hb3; obtain ⟨v0', v1', v2', v3', vf'⟩ := blk4 hR3.old.ord.box; obtain ⟨u0', u1', u2', u3', uf'⟩ := blk4 hR3.box; have HR3 := Lib.hid hR3; have HO := Lib.hid ho; have HB3 := Lib.hid hb3; clear hR3 ho hb3)
      go_ret
      exact HR3.out.done HQ.out (own_mono HO.out (by have := HR.out.below.size; omega))

end Go.Proofs.Ytkdokipgakncjaa.Cac
