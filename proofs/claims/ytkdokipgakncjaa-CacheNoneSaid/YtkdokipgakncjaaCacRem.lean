/-
  Layer 36: Remove of package cache.
-/
import Derived.Test.YtkdokipgakncjaaCacGet
namespace Go.Proofs.Ytkdokipgakncjaa.Cac
open Go.RowKit Go.Proofs.Ytkdokipgakncjaa

theorem get_any (B g m : Nat) (s : St) (k : K5) (hk : K5ok k) (M : List Nat) (w : World) (h : IsC w B g m s M) (hmax : s.l.length ≤ 1048576) (hpx : ∀ p ∈ s.l, p.2.px.length ≤ 4398046511104) : Calls Try.prog 19 #[.pointer (some ⟨g, 0, none⟩), kagg k] w (GotC B g m s k M w) := by
  cases hl : look s.l k with
  | none => exact get_none B g m s k hk M w h hl
  | some i => exact get_some B g m s k hk i M w h hl hmax (hpx _ (look_mem hl))

def RemovedC (B g m : Nat) (s : St) (k : K5) (M : List Nat) (w : World) (e : Ending) (w' : World) : Prop :=
  e = .returned (.bool (look s.l k).isSome) ∧ Left B g m (s.remove k) M w w'
theorem RemovedC.none_ {B g m b n : Nat} {ov : Value} {D : DataW Value} {s : St} {k : K5} {w w' : World} (hn : n ≤ m) (hC : Cch w B g b ov n D s.b s.l s.e) (hl : look s.l k = none) (hT : Tch [] w w') :
    RemovedC B g m s k (foot g b ov) w (.returned (.bool false)) w' := by
  have e : s.remove k = s := by unfold St.remove; rw [rem_none (look_none.1 hl)]
  refine ⟨by rw [hl]; rfl, ?_⟩
  rw [e]
  exact ⟨_, ⟨b, ov, n, D, hn, rfl, hC.tch hT (fun k hk => by simp at hk) (fun k _ => by simp)⟩, hT.mono (fun k hk => by simp at hk), fun k hk => .inl hk⟩

set_option maxHeartbeats 1000000 in
theorem remove_none (B g m : Nat) (s : St) (k : K5) (hk : K5ok k) (M : List Nat) (w : World) (h : IsC w B g m s M) (hl : look s.l k = none) : Calls Try.prog 30 #[.pointer (some ⟨g, 0, none⟩), kagg k] w (RemovedC B g m s k M w) := by
  obtain ⟨b, ov, n, D, hn, rfl, hC⟩ := h
  obtain ⟨y0, y1, y2, y3, yf⟩ := blk4 hC.ord.box
  have hgl := hC.ord.box.lt
  have hgl1 : g < w.heap.size + 1 := by omega
  have hgl2 : g < w.heap.size + 1 + 1 := by omega
  have hh : Maps.has D (kl k) = false := by rw [hC.til.has k hk, decide_eq_false (look_none.1 hl)]
  have hm := fun (W : World) (hT : Tch [] w W) => made_yes g b _ _ _ W (hT.blk hC.ord.box (by simp))
  have hlk := fun (W : World) (hT : Tch [] w W) => lookNone (hT.map hC.map (by simp)) k hk hh
  have HC := Lib.hid hC
  have HL := Lib.hid hl
  clear hC hl hh hk
  unfold kagg zimg at hlk
  unfold kagg
  obtain ⟨k0, k1, k2, k3, k4⟩ := k
  simp only at hlk ⊢
  have T1 : Tch [] w (w.alloc (.cells #[.int .i64 k0, .int .i64 k1, .int .i64 k2, .int .i64 k3, .int .i64 k4] 29)) := (Tch.refl _ _).alloc _
  have hm2 := hm _ T1
  have l1 := hlk _ T1.drew
  have l2 := hlk _ (T1.alloc (.cells #[.int .i64 0, .int .i64 0, .slice none 0 0] 32)).drew
  clear hm hlk
  go_enter Try.func30, Try.ntmps30
  go_wp2_with (go_at_call 34; refine hm2.mono ?_; rintro e w' ⟨rfl, rfl⟩)
  go_region
  all_goals go_wp2_with fail
  all_goals
    go_ret
    refine RemovedC.none_ hn HC.out HL.out ?_
    repeat first | exact Tch.refl _ _ | refine Tch.drew ?_ | refine Tch.alloc ?_ _ | refine Tch.setCell ?_ (.inr (by simp)) _

/-- Behind the removal of a key. -/
theorem Cch.removed {w W w1 w2 : World} {B g b n bud e : Nat} {ov : Value} {D : DataW Value} {l : List Ent} {k : K5} {en : Ending} (h : Cch w B g b ov n D bud l e) (hk : K5ok k) (hT : Tch [] w W)
    (hm : w1.ownsMap Try.prog 29 RI b n (D.del (kl k))) (hg : W.grownBy w1 (some b)) (hU : Unl B g (.int .i64 bud) (.map (some b)) ov (.int .i64 e) ((keys l).erase k) w1 en w2) :
    en = .returned (.tuple #[]) ∧ ∃ ov', Cch w2 B g b ov' n (D.del (kl k)) bud (rem l k) e ∧ Tch (foot g b ov) w w2 ∧ ov'.ownBlock = ov.ownBlock := by
  obtain ⟨he, ov', hO, hT2, hE⟩ := hU
  rw [← keys_rem l k h.nodup] at hO
  have hgb := h.gb
  have T1 : Tch (foot g b ov) w w1 := Tch.grown (hT.mono (fun k hk => by simp at hk)) hg (fun j hj => by simp at hj; subst hj; exact .inl (by simp [foot]))
  have T : Tch (foot g b ov) w w2 := T1.trans hT2 (fun j hj => .inl (sub_foot j hj))
  refine ⟨he, ov', ⟨hO, hT2.map hm ?_, (h.til.rem k hk).tch T h.noPix, h.low, nodup_rem k h.nodup⟩, T, hE⟩
  simp only [List.mem_cons, mem_bl, not_or]
  exact ⟨hgb, fun e => h.ob b e rfl⟩
theorem del_unlist {w W w1 : World} {B g b n bud e : Nat} {ov : Value} {D : DataW Value} {l : List Ent} {k : K5} (h : Cch w B g b ov n D bud l e) (hk : K5ok k) (hT : Tch [] w W)
    (hm : w1.ownsMap Try.prog 29 RI b n (D.del (kl k))) (hg : W.grownBy w1 (some b)) (hmax : l.length ≤ 1048576) :
    Calls Try.prog 44 #[.pointer (some ⟨g, 0, none⟩), kagg k] w1 fun en w2 => en = .returned (.tuple #[]) ∧ ∃ ov', Cch w2 B g b ov' n (D.del (kl k)) bud (rem l k) e ∧ Tch (foot g b ov) w w2 ∧ ov'.ownBlock = ov.ownBlock := by
  have T1 : Tch [b] w w1 := Tch.grown (hT.mono (fun k hk => by simp at hk)) hg (fun j hj => by simp at hj; subst hj; exact .inl (by simp))
  have hgb := h.gb
  refine (unlist_any B g _ _ ov _ (keys l) k w1 (h.ord.tch T1 (by simp; omega) (fun j hj => by have := h.ob j hj; simpa using this)) (by rw [keys_len]; omega)).mono ?_
  intro en w2 hU
  exact h.removed hk hT hm hg hU

theorem RemovedC.some_ {B g m b n : Nat} {ov ov' : Value} {D : DataW Value} {s : St} {k : K5} {i : Img} {w w' : World} (hn : n ≤ m) (hl : look s.l k = some i) (hC : Cch w' B g b ov' n D s.b (rem s.l k) s.e) (hT : Tch (foot g b ov) w w') (hE : ov'.ownBlock = ov.ownBlock) :
    RemovedC B g m s k (foot g b ov) w (.returned (.bool true)) w' :=
  ⟨by rw [hl]; rfl, _, ⟨b, ov', n, D, hn, rfl, hC⟩, hT, fun k hk => .inl (foot_eq hE k hk)⟩
set_option maxHeartbeats 1000000 in
theorem remove_some (B g m : Nat) (s : St) (k : K5) (hk : K5ok k) (i : Img) (M : List Nat) (w : World) (h : IsC w B g m s M) (hl : look s.l k = some i) (hmax : s.l.length ≤ 1048576) : Calls Try.prog 30 #[.pointer (some ⟨g, 0, none⟩), kagg k] w (RemovedC B g m s k M w) := by
  obtain ⟨b, ov, n, D, hn, rfl, hC⟩ := h
  obtain ⟨y0, y1, y2, y3, yf⟩ := blk4 hC.ord.box
  have hgl := hC.ord.box.lt
  have hgl1 : g < w.heap.size + 1 := by omega
  have hgl2 : g < w.heap.size + 1 + 1 := by omega
  obtain ⟨v, hv, hI⟩ := hC.til.at_ (k, i) (look_mem hl)
  obtain ⟨A, c, rfl, hr, hA⟩ := hI.read
  have hm := fun (W : World) (hT : Tch [] w W) => made_yes g b _ _ _ W (hT.blk hC.ord.box (by simp))
  have hlk := fun (W : World) (hT : Tch [] w W) => lookRun (hT.map hC.map (by simp)) k hk hv
  obtain ⟨IW, IH, px⟩ := i
  obtain ⟨q, hq⟩ : ∃ q, px.length = q := ⟨_, rfl⟩
  simp only at hlk
  rw [hq] at hlk
  have HC := Lib.hid hC
  have HL := Lib.hid hl
  have HK := Lib.hid hk
  have hun := fun (W w1 : World) (hT : Tch [] w W) hm hg => del_unlist (w1 := w1) hC hk hT hm hg hmax
  have hbl : b < w.heap.size := hC.map.lt
  have hmp := fun (W : World) (hT : Tch [] w W) => hT.map hC.map (by simp)
  clear hC hl hI hr hq hv hA hk
  obtain ⟨k0, k1, k2, k3, k4⟩ := k
  unfold kagg at hlk hun ⊢
  simp only at hlk hun ⊢
  have T1 : Tch [] w (w.alloc (.cells #[.int .i64 k0, .int .i64 k1, .int .i64 k2, .int .i64 k3, .int .i64 k4] 29)) := (Tch.refl _ _).alloc _
  have hm2 := hm _ T1
  have l1 := hlk _ T1.drew
  have l2 := hlk _ (T1.alloc (.cells #[.int .i64 0, .int .i64 0, .slice none 0 0] 32)).drew
  clear hm hlk
  have HUN := Lib.hid hun
  have HMP := Lib.hid hmp
  clear hun hmp
  go_enter Try.func30, Try.ntmps30
  go_wp2_with (go_at_call 34; refine hm2.mono ?_; rintro e w' ⟨rfl, rfl⟩)
  go_region
  all_goals go_wp2_with fail
  all_goals go_region_law (refine step_delKey rfl (.tmp 24) (.tmp 25) rfl b n D (HMP.out _ (by repeat first | exact Tch.refl _ _ | refine Tch.drew ?_ | refine Tch.alloc ?_ _)) (k0, k1, k2, k3, k4) HK.out rfl rfl (fun w1 hm1 ht1 => ?_))
  all_goals
    have B0 : Blk w1 w.heap.size 29 #[.int .i64 k0, .int .i64 k1, .int .i64 k2, .int .i64 k3, .int .i64 k4] := by
      refine Blk.grown ?_ ht1.grown (by simp; omega)
      exact (Blk.new w 29 _).alloc _
    obtain ⟨x0, x1, x2, x3, x4, xf⟩ := blk5 B0
    have hu := HUN.out _ w1 (by repeat first | exact Tch.refl _ _ | refine Tch.drew ?_ | refine Tch.alloc ?_ _) hm1 ht1.grown
    have HM1 := Lib.hid hm1
    clear hm1 ht1
    go_wp2_with (go_at_call 44; refine hu.mono ?_; rintro e w2 ⟨rfl, ov', hC2, hT2, hE⟩)
    go_ret
    exact RemovedC.some_ hn HL.out hC2 hT2 hE

theorem remove_any (B g m : Nat) (s : St) (k : K5) (hk : K5ok k) (M : List Nat) (w : World) (h : IsC w B g m s M) (hmax : s.l.length ≤ 1048576) : Calls Try.prog 30 #[.pointer (some ⟨g, 0, none⟩), kagg k] w (RemovedC B g m s k M w) := by
  cases hl : look s.l k with
  | none => exact remove_none B g m s k hk M w h hl
  | some i => exact remove_some B g m s k hk i M w h hl hmax

end Go.Proofs.Ytkdokipgakncjaa.Cac
