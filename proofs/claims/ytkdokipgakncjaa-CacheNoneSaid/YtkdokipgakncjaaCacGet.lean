/-
  Layer 36: Get of package cache.
-/
import Derived.Test.YtkdokipgakncjaaCacOp1
import Derived.RegionTactic
namespace Go.Proofs.Ytkdokipgakncjaa.Cac
open Go.RowKit Go.Proofs.Ytkdokipgakncjaa

def zimg : Value := .agg #[.int .i64 0, .int .i64 0, .slice none 0 0]
theorem zeroImg (w : World) : (zeroValue 32).run Try.prog w = .ok zimg w := by kernel_rfl
theorem lookRun {W : World} {b n : Nat} {D : DataW Value} (h : W.ownsMap Try.prog 29 RI b n D) (k : K5) (hk : K5ok k) {v : Value} (hv : ∀ z, D.atKey (kl k) z = .held v) :
    (Instr.lookup 45 (.map (some b)) (kagg k) true).run Try.prog W = .ok (.tuple #[v, .bool true]) W := by
  obtain ⟨v', ps, hrun, hR⟩ := h.look_ok keyed Try.underlying45 (zeroImg W) (zd := .held zimg) (zp := []) rfl (keyOf_kagg k hk)
  rw [hv] at hR
  rw [Maps.has_true_of_atKey hv] at hrun
  simp only [RI, Option.some.injEq, Prod.mk.injEq, DataW.held.injEq] at hR
  rw [hR.1] at hrun
  exact hrun
theorem lookNone {W : World} {b n : Nat} {D : DataW Value} (h : W.ownsMap Try.prog 29 RI b n D) (k : K5) (hk : K5ok k) (hh : Maps.has D (kl k) = false) :
    (Instr.lookup 45 (.map (some b)) (kagg k) true).run Try.prog W = .ok (.tuple #[zimg, .bool false]) W := by
  obtain ⟨v', ps, hrun, hR⟩ := h.look_ok keyed Try.underlying45 (zeroImg W) (zd := .held zimg) (zp := []) rfl (keyOf_kagg k hk)
  rw [Maps.atKey_of_not_has hh] at hR
  rw [hh] at hrun
  simp only [RI, Option.some.injEq, Prod.mk.injEq, DataW.held.injEq] at hR
  rw [hR.1] at hrun
  exact hrun
theorem lookPlain {W : World} {b n : Nat} {D : DataW Value} (h : W.ownsMap Try.prog 29 RI b n D) (k : K5) (hk : K5ok k) {v : Value} (hv : ∀ z, D.atKey (kl k) z = .held v) :
    (Instr.lookup 45 (.map (some b)) (kagg k) false).run Try.prog W = .ok v W := by
  obtain ⟨v', ps, hrun, hR⟩ := h.lookup keyed Try.underlying45 (zeroImg W) (zd := .held zimg) (zp := []) rfl (keyOf_kagg k hk)
  rw [hv] at hR
  simp only [RI, Option.some.injEq, Prod.mk.injEq, DataW.held.injEq] at hR
  rw [hR.1] at hrun
  exact hrun

def GotC (B g m : Nat) (s : St) (k : K5) (M : List Nat) (w : World) (e : Ending) (w' : World) : Prop :=
  ∃ v, e = .returned (.tuple #[v, .bool (look s.l k).isSome]) ∧ ImgV w' w.heap.size v ((look s.l k).getD img0) ∧ Left B g m (s.get k) M w w'

theorem GotC.none_ {B g m b n : Nat} {ov : Value} {D : DataW Value} {s : St} {k : K5} {w w' : World} (hn : n ≤ m) (hC : Cch w B g b ov n D s.b s.l s.e) (hl : look s.l k = none) (hT : Tch [] w w') :
    GotC B g m s k (foot g b ov) w (.returned (.tuple #[.agg #[.int .i64 0, .int .i64 0, .slice none 0 0], .bool false])) w' := by
  have e : s.get k = s := by unfold St.get; rw [hl]
  refine ⟨_, by rw [hl]; rfl, ?_, ?_⟩
  · rw [hl]
    exact ⟨_, rfl, ⟨rfl, .inl ⟨rfl, rfl⟩⟩⟩
  · rw [e]
    exact ⟨_, ⟨b, ov, n, D, hn, rfl, hC.tch hT (fun k hk => by simp at hk) (fun k _ => by simp)⟩, hT.mono (fun k hk => by simp at hk), fun k hk => .inl hk⟩

set_option maxHeartbeats 1000000 in
theorem get_none (B g m : Nat) (s : St) (k : K5) (hk : K5ok k) (M : List Nat) (w : World) (h : IsC w B g m s M) (hl : look s.l k = none) : Calls Try.prog 19 #[.pointer (some ⟨g, 0, none⟩), kagg k] w (GotC B g m s k M w) := by
  obtain ⟨b, ov, n, D, hn, rfl, hC⟩ := h
  obtain ⟨y0, y1, y2, y3, yf⟩ := blk4 hC.ord.box
  have hgl := hC.ord.box.lt
  have hgl1 : g < w.heap.size + 1 := by omega
  have hgl2 : g < w.heap.size + 1 + 1 := by omega
  have hh : Maps.has D (kl k) = false := by rw [hC.til.has k hk, decide_eq_false (look_none.1 hl)]
  have hm := fun (W : World) (hT : Tch [] w W) => made_yes g b _ _ _ W (hT.blk hC.ord.box (by simp))
  have hlk := fun (W : World) (hT : Tch [] w W) => lookNone (hT.map hC.map (by simp)) k hk hh
  have HC := Lib.hid hC
  have HL := Lib.hid hl
  clear hC hl hh hk
  unfold kagg zimg at hlk
  unfold kagg
  obtain ⟨k0, k1, k2, k3, k4⟩ := k
  simp only at hlk ⊢
  have T2 : Tch [] w ((w.alloc (.cells #[.int .i64 k0, .int .i64 k1, .int .i64 k2, .int .i64 k3, .int .i64 k4] 29)).alloc (.cells #[.int .i64 0, .int .i64 0, .slice none 0 0] 32)) := ((Tch.refl _ _).alloc _).alloc _
  have hm2 := hm _ T2
  have l1 := hlk _ T2.drew
  have l2 := hlk _ (T2.alloc (.cells #[.int .i64 0, .int .i64 0, .slice none 0 0] 32)).drew
  clear hm hlk
  go_enter Try.func19, Try.ntmps19
  go_wp2_with (go_at_call 34; refine hm2.mono ?_; rintro e w' ⟨rfl, rfl⟩)
  go_region
  all_goals go_wp2_with fail
  all_goals
    refine bodyPost_ret (v := .tuple #[.agg #[.int .i64 0, .int .i64 0, .slice none 0 0], .bool false]) (by simp [results, Try.results19, go_sem]) rfl ?_
    refine GotC.none_ hn HC.out HL.out ?_
    repeat first | exact Tch.refl _ _ | refine Tch.drew ?_ | refine Tch.alloc ?_ _ | refine Tch.setCell ?_ (.inr (by simp)) _

theorem Tch.below' {w w1 w' : World} {M : List Nat} (h : Tch M w w1) {B : Nat} (hB : w.heap.size ≤ B) (hb : Below B w1 w') : Tch M w w' :=
  ⟨hb.os.trans h.os, hb.tape.trans h.tape, hb.output.trans h.output, Nat.le_trans h.size hb.size, fun k hk hn => (hb.block k (by omega)).trans (h.block k hk hn)⟩
theorem St.get_some {s : St} {k : K5} {i : Img} (hl : look s.l k = some i) : s.get k = { s with l := rem s.l k ++ [(k, i)] } := by unfold St.get; rw [hl]
/-- Behind a use of a key that is there. -/
theorem Cch.used {w w' : World} {B g b n bud e : Nat} {ov : Value} {D : DataW Value} {l : List Ent} {k : K5} {i : Img} {en : Ending} (h : Cch w B g b ov n D bud l e) (hl : look l k = some i)
    (hU : Used B g (.int .i64 bud) (.map (some b)) ov (.int .i64 e) ((keys l).erase k ++ [k]) w en w') :
    en = .returned (.tuple #[]) ∧ ∃ ov', Cch w' B g b ov' n D bud (rem l k ++ [(k, i)]) e ∧ Tch (g :: bl ov) w w' ∧ (ov'.ownBlock = ov.ownBlock ∨ ∀ j, ov'.ownBlock = some j → w.heap.size ≤ j) := by
  obtain ⟨he, ov', hO, hT, hE⟩ := hU
  have e1 : (keys l).erase k ++ [k] = keys (rem l k ++ [(k, i)]) := by rw [keys_app, keys_rem l k h.nodup]; rfl
  rw [e1] at hO
  have hgb := h.gb
  have hNP : NoPix w (g :: bl ov) := fun j hj => h.noPix j (by unfold foot; simp only [List.mem_cons] at hj ⊢; rcases hj with rfl | hj; exact .inl rfl; exact .inr (.inr hj))
  refine ⟨he, ov', ⟨hO, hT.map h.map ?_, (h.til.tch hT hNP).same (mem_back h.nodup (look_mem hl)), h.low, nodup_back i h.nodup⟩, hT, hE⟩
  simp only [List.mem_cons, mem_bl, not_or]
  exact ⟨hgb, fun e => h.ob b e rfl⟩
theorem foot_of {g b : Nat} {ov ov' : Value} {w : World} (h : ov'.ownBlock = ov.ownBlock ∨ ∀ j, ov'.ownBlock = some j → w.heap.size ≤ j) : ∀ k ∈ foot g b ov', k ∈ foot g b ov ∨ w.heap.size ≤ k := fun k hk => by
  unfold foot at hk ⊢
  simp only [List.mem_cons, mem_bl] at hk ⊢
  rcases hk with rfl | rfl | hk
  · exact .inl (.inl rfl)
  · exact .inl (.inr (.inl rfl))
  · rcases h with h | h
    · rw [h] at hk; exact .inl (.inr (.inr hk))
    · exact .inr (h k hk)
theorem sub_foot {g b : Nat} {ov : Value} : ∀ k ∈ g :: bl ov, k ∈ foot g b ov := fun k hk => by
  unfold foot; simp only [List.mem_cons] at hk ⊢; rcases hk with rfl | hk; exact .inl rfl; exact .inr (.inr hk)

theorem use_got {w W : World} {B g b n bud e : Nat} {ov : Value} {D : DataW Value} {l : List Ent} {k : K5} {i : Img} {v : Value} (h : Cch w B g b ov n D bud l e) (hl : look l k = some i) (hI : ImgV w B v i) (hT : Tch [] w W) (hmax : l.length ≤ 1048576) :
    Calls Try.prog 37 #[.pointer (some ⟨g, 0, none⟩), kagg k] W fun en w1 => en = .returned (.tuple #[]) ∧ ∃ ov', Cch w1 B g b ov' n D bud (rem l k ++ [(k, i)]) e ∧ Tch (g :: bl ov) W w1 ∧ (ov'.ownBlock = ov.ownBlock ∨ ∀ j, ov'.ownBlock = some j → w.heap.size ≤ j) ∧ Tch (g :: bl ov) w w1 ∧ ImgV w1 B v i := by
  have hW := h.tch hT (fun k hk => by simp at hk) (fun k _ => by simp)
  refine (use_any B g _ _ ov _ (keys l) k W hW.ord (by rw [keys_len]; exact hmax)).mono ?_
  intro en w1 hU
  obtain ⟨rfl, ov', hC1, hT1, hE⟩ := hW.used hl hU
  have T : Tch (g :: bl ov) w w1 := (hT.mono (M' := g :: bl ov) (fun k hk => by simp at hk)).trans hT1 (fun k hk => .inl hk)
  refine ⟨rfl, ov', hC1, hT1, hE.imp id (fun h j hj => Nat.le_trans hT.size (h j hj)), T, hI.tch T (fun j hj => h.noPix j (sub_foot j hj))⟩
theorem three_blks {w w1 W3 : World} {o1 : Obj} {c2 c3 : Array Value} {t2 t3 : TypeId} {g : Nat} {ov : Value} (hT : Tch (g :: bl ov) W3 w1) (hW : W3.heap = (((w.alloc o1).alloc (.cells c2 t2)).alloc (.cells c3 t3)).heap) (hg : g < w.heap.size) (hown : ∀ k, ov.ownBlock = some k → k < w.heap.size) :
    Blk w1 (w.heap.size + 1) t2 c2 ∧ Blk w1 (w.heap.size + 1 + 1) t3 c3 := by
  have h2 : Blk ((w.alloc o1).alloc (.cells c2 t2)) (w.heap.size + 1) t2 c2 := by
    have := Blk.new (w.alloc o1) t2 c2
    simpa using this
  have h3 : Blk (((w.alloc o1).alloc (.cells c2 t2)).alloc (.cells c3 t3)) (w.heap.size + 1 + 1) t3 c3 := by
    have := Blk.new ((w.alloc o1).alloc (.cells c2 t2)) t3 c3
    simpa using this
  have h2' := h2.alloc (.cells c3 t3)
  unfold Blk at h2' h3
  rw [← hW] at h2' h3
  refine ⟨hT.blk h2' ?_, hT.blk h3 ?_⟩
  · simp only [List.mem_cons, mem_bl, not_or]
    exact ⟨by omega, fun e => by have := hown _ e; omega⟩
  · simp only [List.mem_cons, mem_bl, not_or]
    exact ⟨by omega, fun e => by have := hown _ e; omega⟩
theorem GotC.some_ {B g m b n q gR cc2 : Nat} {A2 : Option Addr} {ov ov' : Value} {D : DataW Value} {s : St} {k : K5} {IW IH : Int} {px : List P4} {w w1 w2 w' : World} {cs : Array Value} (hn : n ≤ m) (hl : look s.l k = some ⟨IW, IH, px⟩) (hq : px.length = q)
    (hC1 : Cch w1 B g b ov' n D s.b (rem s.l k ++ [(k, ⟨IW, IH, px⟩)]) s.e) (hT1 : Tch (g :: bl ov) w w1) (hE : ov'.ownBlock = ov.ownBlock ∨ ∀ j, ov'.ownBlock = some j → w.heap.size ≤ j)
    (ho : w2.ownsRow w1.heap.size 63 4 (.slice A2 px.length cc2) px.length (pcs px)) (hb : Below w1.heap.size w1 w2) (hB : Blk w2 gR 32 cs) (hgR : w.heap.size ≤ gR) (hT : Tch [gR] w2 w') :
    GotC B g m s k (foot g b ov) w (.returned (.tuple #[.agg #[.int .i64 IW, .int .i64 IH, .slice A2 q cc2], .bool true])) w' := by
  subst hq
  have hNP : NoPix w2 [gR] := fun k hk => by simp at hk; subst hk; exact NoPix.cells hB (by decide)
  have hI : ImgV w2 w1.heap.size (.agg #[.int .i64 IW, .int .i64 IH, .slice A2 px.length cc2]) ⟨IW, IH, px⟩ := ⟨_, rfl, ho⟩
  have hw := hT1.size
  have T2 : Tch [] w1 w2 := (Tch.refl _ _).below hb
  have hC2 := hC1.tch T2 (fun k hk => by simp at hk) (fun k _ => by simp)
  have hC3 := hC2.tch hT hNP (fun k hk hk2 => by
    simp at hk2
    subst hk2
    unfold foot at hk
    simp only [List.mem_cons, mem_bl] at hk
    rcases hk with rfl | rfl | hk
    · exact blk_ne hC2.ord.box hB (by decide) rfl
    · exact map_ne_blk hC2.map hB rfl
    · exact own_ne_blk hC2.ord.row hB (by decide) k hk rfl)
  refine ⟨_, by rw [hl]; rfl, by rw [hl]; exact (hI.tch hT hNP).mono hw, ?_⟩
  rw [St.get_some hl]
  refine ⟨_, ⟨b, ov', n, D, hn, rfl, hC3⟩, ?_, foot_of hE⟩
  refine ((hT1.mono (fun k hk => .inl (sub_foot k hk))).trans T2 (fun k hk => by simp at hk)).trans hT (fun k hk => .inr (by simp at hk; subst hk; exact hgR))
set_option maxHeartbeats 1000000 in
theorem get_some (B g m : Nat) (s : St) (k : K5) (hk : K5ok k) (i : Img) (M : List Nat) (w : World) (h : IsC w B g m s M) (hl : look s.l k = some i) (hmax : s.l.length ≤ 1048576) (hpx : i.px.length ≤ 4398046511104) : Calls Try.prog 19 #[.pointer (some ⟨g, 0, none⟩), kagg k] w (GotC B g m s k M w) := by
  obtain ⟨b, ov, n, D, hn, rfl, hC⟩ := h
  obtain ⟨y0, y1, y2, y3, yf⟩ := blk4 hC.ord.box
  have hgl := hC.ord.box.lt
  have hgl1 : g < w.heap.size + 1 := by omega
  have hgl2 : g < w.heap.size + 1 + 1 := by omega
  obtain ⟨v, hv, hI⟩ := hC.til.at_ (k, i) (look_mem hl)
  obtain ⟨A, c, rfl, hr, hA⟩ := hI.read
  have hm := fun (W : World) (hT : Tch [] w W) => made_yes g b _ _ _ W (hT.blk hC.ord.box (by simp))
  have hlk := fun (W : World) (hT : Tch [] w W) => lookRun (hT.map hC.map (by simp)) k hk hv
  obtain ⟨IW, IH, px⟩ := i
  obtain ⟨q, hq⟩ : ∃ q, px.length = q := ⟨_, rfl⟩
  simp only at hI hpx hr hlk hv
  rw [hq] at hI hpx hr hlk hv
  have HC := Lib.hid hC
  have HL := Lib.hid hl
  have HI := Lib.hid hI
  have HR := Lib.hid hr
  have HQ := Lib.hid hq
  have HV := Lib.hid hv
  have HA := Lib.hid hA
  have hown := own_lt hC.ord.row
  have hu := fun (W : World) (hT : Tch [] w W) => use_got hC hl hI hT hmax
  clear hC hl hk hI hr hq hv hA
  obtain ⟨k0, k1, k2, k3, k4⟩ := k
  unfold kagg at hlk ⊢
  simp only at hlk ⊢
  have T2 : Tch [] w ((w.alloc (.cells #[.int .i64 k0, .int .i64 k1, .int .i64 k2, .int .i64 k3, .int .i64 k4] 29)).alloc (.cells #[.int .i64 0, .int .i64 0, .slice none 0 0] 32)) := ((Tch.refl _ _).alloc _).alloc _
  have hm2 := hm _ T2
  have l1 := hlk _ T2.drew
  have l2 := hlk _ (T2.alloc (.cells #[.int .i64 0, .int .i64 0, .slice none 0 0] 32)).drew
  clear hm hlk
  go_enter Try.func19, Try.ntmps19
  go_wp2_with (go_at_call 34; refine hm2.mono ?_; rintro e w' ⟨rfl, rfl⟩)
  go_region
  all_goals go_wp2_with fail
  all_goals
    refine (hu _ (by repeat first | exact Tch.refl _ _ | refine Tch.drew ?_ | refine Tch.alloc ?_ _)).mono ?_
    rintro e w1 ⟨rfl, ov', hC1, hT1, hE, T1, hI1⟩
    obtain ⟨B1, B2⟩ := three_blks hT1 (o1 := .cells #[.int .i64 k0, .int .i64 k1, .int .i64 k2, .int .i64 k3, .int .i64 k4] 29) (c2 := #[.int .i64 0, .int .i64 0, .slice none 0 0]) (t2 := 32) (c3 := #[.int .i64 IW, .int .i64 IH, .slice A q c]) (t3 := 32) rfl hgl hown
    obtain ⟨x0, x1, x2, xf⟩ := blk3 B2
    obtain ⟨u0, u1, u2, uf⟩ := blk3 B1
    have hcp := copied_any _ _ w1 hI1.read (by rw [HQ.out]; exact hpx)
    have HC1 := Lib.hid hC1
    have HT1 := Lib.hid T1
    have HE := Lib.hid hE
    clear hC1 hT1 hE T1 hI1
    go_wp2_with (go_at_call 38; refine hcp.mono ?_; rintro e w2 ⟨v2, rfl, ⟨r, rfl, ho⟩, hb2⟩; obtain ⟨A2, cc2, rfl, _⟩ := own_open ho; have B1' := B1.below hb2 B1.lt; obtain ⟨s0, s1, s2, sf⟩ := blk3 B1'; have HO := Lib.hid ho; clear ho; rw [HQ.out])
    refine bodyPost_ret (v := .tuple #[.agg #[.int .i64 IW, .int .i64 IH, .slice A2 q cc2], .bool true]) (by simp [results, Try.results19, go_sem, s0, s1, s2]) rfl ?_
    refine GotC.some_ hn HL.out HQ.out HC1.out HT1.out HE.out HO.out hb2 B1' (by simp) ?_
    repeat first | exact Tch.refl _ _ | refine Tch.setCell ?_ (.inl (by simp)) _

end Go.Proofs.Ytkdokipgakncjaa.Cac
