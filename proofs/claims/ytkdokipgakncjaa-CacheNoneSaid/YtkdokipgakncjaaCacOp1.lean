/-
  Layer 36: New, Evicted, Keys, Resize of package cache.
-/
import Derived.Test.YtkdokipgakncjaaCacShr
import Derived.Test.YtkdokipgakncjaaNumFl
namespace Go.Proofs.Ytkdokipgakncjaa.Cac
open Go.RowKit Go.Proofs.Ytkdokipgakncjaa

theorem clp_n (n : Int) : NumPure.clp n 0 1024 = (clampN n : Int) := by unfold NumPure.clp clampN; omega
theorem IsC.more {w : World} {B g m m' : Nat} {s : St} {M : List Nat} (h : IsC w B g m s M) (hm : m ≤ m') : IsC w B g m' s M := by
  obtain ⟨b, ov, n, D, hn, hM, hC⟩ := h
  exact ⟨b, ov, n, D, by omega, hM, hC⟩
theorem IsC.tch {w w' : World} {B g m : Nat} {s : St} {M M' : List Nat} (h : IsC w B g m s M) (ht : Tch M' w w') (hM : NoPix w M') (hd : ∀ k ∈ M, k ∉ M') : IsC w' B g m s M := by
  obtain ⟨b, ov, n, D, hn, rfl, hC⟩ := h
  exact ⟨b, ov, n, D, hn, rfl, hC.tch ht hM hd⟩
theorem IsC.noPix {w : World} {B g m : Nat} {s : St} {M : List Nat} (h : IsC w B g m s M) : NoPix w M := by
  obtain ⟨b, ov, n, D, hn, rfl, hC⟩ := h
  exact hC.noPix
theorem IsC.size {w : World} {B g m : Nat} {s : St} {M : List Nat} (h : IsC w B g m s M) : ∀ k ∈ M, k < w.heap.size := by
  obtain ⟨b, ov, n, D, hn, rfl, hC⟩ := h
  exact hC.size
theorem IsC.lows {w : World} {B g m : Nat} {s : St} {M : List Nat} (h : IsC w B g m s M) : ∀ k ∈ M, B ≤ k := by
  obtain ⟨b, ov, n, D, hn, rfl, hC⟩ := h
  exact hC.lows

def MadeC (B : Nat) (n : Int) (w : World) (e : Ending) (w' : World) : Prop :=
  ∃ g M, e = .returned (.pointer (some ⟨g, 0, none⟩)) ∧ IsC w' B g 0 (St.new n) M ∧ Below w.heap.size w w' ∧ ∀ k ∈ M, w.heap.size ≤ k
theorem MadeC.mk (B : Nat) (n : Int) (w : World) (hB : B ≤ w.heap.size) (z : Int) (hz : z = (clampN n : Int)) :
    MadeC B n w (.returned (.pointer (some ⟨w.heap.size + 1, 0, none⟩))) ((w.alloc (.map #[] 0)).alloc (.cells #[.int .i64 z, .map (some w.heap.size), .slice none 0 0, .int .i64 0] 47)) := by
  subst hz
  have hb := ((Below.refl w.heap.size w).alloc (Nat.le_refl _) (.map #[] 0)).alloc (by simp) (.cells #[.int .i64 (clampN n : Int), .map (some w.heap.size), .slice none 0 0, .int .i64 0] 47)
  refine ⟨w.heap.size + 1, [w.heap.size + 1, w.heap.size], rfl, ⟨w.heap.size, .slice none 0 0, 0, .map [], Nat.le_refl _, rfl, ⟨⟨?_, ⟨rfl, .inl ⟨rfl, rfl⟩⟩, by omega⟩, ?_, ⟨fun k _ => ?_, by simp [St.new], Maps.isMap_empty, by simp [St.new, keys]⟩, hB, by simp [St.new, keys]⟩⟩, hb, by simp⟩
  · have := Blk.new (w.alloc (.map #[] 0)) 47 #[.int .i64 (clampN n : Int), .map (some w.heap.size), .slice none 0 0, .int .i64 0]
    simpa [St.new] using this
  · exact (World.ownsMap_made w Try.prog 29 RI).alloc _
  · simp [St.new, keys, Maps.has]
theorem new_any (B : Nat) (n : Int) (w : World) (hB : B ≤ w.heap.size) : Calls Try.prog 9 #[.int .i64 n] w (MadeC B n w) := by
  have hmm := @run_makeMap Try.prog
  go_enter Try.func9, Try.ntmps9
  go_wp2_with (go_at_call 23; refine (Num.clamp_any _ _ _ _).mono ?_; rintro e w' ⟨rfl, rfl⟩)
  go_ret
  exact MadeC.mk B n w hB _ (clp_n n)

theorem evicted_any (B g m : Nat) (s : St) (M : List Nat) (w : World) (h : IsC w B g m s M) : Calls Try.prog 15 #[.pointer (some ⟨g, 0, none⟩)] w fun e w' => e = .returned (.int .i64 s.e) ∧ w = w' := by
  obtain ⟨b, ov, n, D, hn, rfl, hC⟩ := h
  obtain ⟨y0, y1, y2, y3, yf⟩ := blk4 hC.ord.box
  have hm := made_yes g b _ _ _ w hC.ord.box
  clear hC
  go_enter Try.func15, Try.ntmps15
  go_wp2_with (go_at_call 34; refine hm.mono ?_; rintro e w' ⟨rfl, rfl⟩)
  go_ret
  exact ⟨rfl, rfl⟩

def KeysOut (L : List K5) (w : World) (e : Ending) (w' : World) : Prop := ∃ v, e = .returned v ∧ w'.ownsRow w.heap.size 29 5 v L.length (kcs L) ∧ Below w.heap.size w w'
theorem cloneKey_own (B : Nat) (v : Value) (L : List K5) (w : World) (h : w.ownsRow B 29 5 v L.length (kcs L)) (hn : L.length ≤ 1048577) : Calls Try.prog 35 #[v] w (KeysOut L w) := by
  rcases h.2 with ⟨rfl, h0⟩ | ⟨o, cap, cur, rfl, _⟩
  · obtain rfl := List.eq_nil_of_length_eq_zero h0
    refine (cloneKey_nil w).mono ?_
    rintro e w' ⟨rfl, rfl⟩
    exact ⟨_, rfl, ⟨rfl, .inl ⟨rfl, rfl⟩⟩, Below.refl _ _⟩
  · refine (cloneKey_any ⟨o, 0, none⟩ L.length cap (kcs L) w (Reads.of_own h) hn (kcs_one L)).mono ?_
    rintro e w' ⟨v, rfl, ho, hb, _⟩
    exact ⟨v, rfl, ho, hb⟩
theorem keys_any (B g m : Nat) (s : St) (M : List Nat) (w : World) (h : IsC w B g m s M) (hs : s.l.length ≤ 1048576) : Calls Try.prog 13 #[.pointer (some ⟨g, 0, none⟩)] w (KeysOut (keys s.l) w) := by
  obtain ⟨b, ov, n, D, hn, rfl, hC⟩ := h
  obtain ⟨y0, y1, y2, y3, yf⟩ := blk4 hC.ord.box
  have hm := made_yes g b _ _ _ w hC.ord.box
  have hc := cloneKey_own B ov (keys s.l) w hC.ord.row (by rw [keys_len]; omega)
  obtain ⟨A, cap, rfl, _⟩ := own_open hC.ord.row
  obtain ⟨q, hq⟩ : ∃ q, (keys s.l).length = q := ⟨_, rfl⟩
  rw [hq] at y2 hc
  clear hC hs hq
  go_enter Try.func13, Try.ntmps13
  go_wp2_with (first | (go_at_call 34; refine hm.mono ?_; rintro e w' ⟨rfl, rfl⟩) | (go_at_call 35; refine hc.mono ?_; rintro e w' ⟨v, rfl, ho, hb⟩))
  go_ret
  exact ⟨v, rfl, ho, hb⟩

def ResizedC (B g m : Nat) (s : St) (z : Int) (M : List Nat) (w : World) (e : Ending) (w' : World) : Prop :=
  e = .returned (.int .i64 (({ s with b := clampN z } : St).over : Int)) ∧ Left B g m (s.resize z) M w w'
/-- Behind a call of shrink. -/
theorem IsC.shrunk {B g b n bud e m : Nat} {ov : Value} {l : List Ent} {w w' : World} {en : Ending} (h : Shrunk B g b n bud ov l e w en w') (hn : n ≤ m) :
    en = .returned (.int .i64 ((l.length - bud : Nat) : Int)) ∧ Left B g m (St.shrink ⟨bud, l, e⟩) (foot g b ov) w w' := by
  obtain ⟨rfl, ov', D', hC, hT, hE⟩ := h
  exact ⟨rfl, foot g b ov', ⟨b, ov', n, D', hn, rfl, hC⟩, hT, fun k hk => .inl (foot_eq hE k hk)⟩
theorem Left.mk {B g m : Nat} {s : St} {M M0 : List Nat} {w w0 w' : World} (h : Left B g m s M w w') (hT : Tch M0 w0 w) (hM : ∀ k ∈ M, k ∈ M0 ∨ w0.heap.size ≤ k) : Left B g m s M0 w0 w' := by
  obtain ⟨M', h1, h2, h3⟩ := h
  refine ⟨M', h1, hT.trans h2 hM, fun k hk => ?_⟩
  have hs := hT.size
  rcases h3 k hk with h4 | h4
  · exact hM k h4
  · exact .inr (by omega)
/-- The budget, set. -/
theorem Cch.budget {w : World} {B g b n bud e : Nat} {ov : Value} {D : DataW Value} {l : List Ent} (h : Cch w B g b ov n D bud l e) (z : Int) (v : Nat) (hz : z = v) :
    Cch (w.setCell ⟨g, 0, none⟩ (.int .i64 z)) B g b ov n D v l e ∧ Tch (foot g b ov) w (w.setCell ⟨g, 0, none⟩ (.int .i64 z)) := by
  subst hz
  have T : Tch (foot g b ov) w (w.setCell ⟨g, 0, none⟩ (.int .i64 v)) := (Tch.refl _ _).setCell (.inl (by simp [foot])) _
  have T1 : Tch [g] w (w.setCell ⟨g, 0, none⟩ (.int .i64 v)) := (Tch.refl _ _).setCell (.inl (by simp)) _
  have hgb := h.gb
  refine ⟨⟨⟨?_, T1.own h.ord.row (fun k hk => by have := h.og k hk; simpa using this), h.ord.low⟩, T1.map h.map (by simpa using hgb), h.til.tch T h.noPix, h.low, h.nodup⟩, T⟩
  have := h.ord.box.set_ 0 (.int .i64 v)
  simpa using this
theorem resize_any (B g m : Nat) (s : St) (z : Int) (M : List Nat) (w : World) (h : IsC w B g m s M) (hl : s.l.length ≤ 1048576) (he : s.e ≤ 4398046511105) :
    Calls Try.prog 32 #[.pointer (some ⟨g, 0, none⟩), .int .i64 z] w (ResizedC B g m s z M w) := by
  obtain ⟨b, ov, n, D, hn, rfl, hC⟩ := h
  obtain ⟨y0, y1, y2, y3, yf⟩ := blk4 hC.ord.box
  have hm := made_yes g b _ _ _ w hC.ord.box
  have hb := hC.budget _ (clampN z) (clp_n z)
  have hs := shrink_any B g b n s.e ov D (clampN z) s.l _ hb.1 hl (clampN_le z) he
  have HB := Lib.hid hb.2
  clear hC hb
  go_enter Try.func32, Try.ntmps32
  go_wp2_with (first | (go_at_call 34; refine hm.mono ?_; rintro e w' ⟨rfl, rfl⟩) | (go_at_call 23; refine (Num.clamp_any _ _ _ _).mono ?_; rintro e w' ⟨rfl, rfl⟩) | (go_at_call 42; refine hs.mono ?_; rintro e w' hS; obtain ⟨rfl, hL⟩ := IsC.shrunk hS hn; clear hS))
  go_ret
  exact ⟨rfl, hL.mk HB.out (fun k hk => .inl hk)⟩

end Go.Proofs.Ytkdokipgakncjaa.Cac
