/-
  Layer 36: the inner functions of package cache.
-/
import Derived.Test.YtkdokipgakncjaaCacMem
import Derived.Lib.Hide
namespace Go.Proofs.Ytkdokipgakncjaa.Cac
open Go.RowKit Go.Proofs.Ytkdokipgakncjaa

theorem made_yes (g b : Nat) (c0 c2 c3 : Value) (w : World) (h : Blk w g 47 #[c0, .map (some b), c2, c3]) : Calls Try.prog 34 #[.pointer (some ⟨g, 0, none⟩)] w fun e w' => e = .returned (.bool true) ∧ w = w' := by
  have d1 := h.cell 1
  have hm := fun W : World => run_neq_map_nil (P := Try.prog) W 45 29 32 (some b) Try.underlying45
  go_enter Try.func34, Try.ntmps34
  go_wp2
  go_ret
  exact ⟨rfl, rfl⟩
theorem made_zero (g : Nat) (c0 c2 c3 : Value) (w : World) (h : Blk w g 47 #[c0, .map none, c2, c3]) : Calls Try.prog 34 #[.pointer (some ⟨g, 0, none⟩)] w fun e w' => e = .returned (.bool false) ∧ w = w' := by
  have d1 := h.cell 1
  have hm := fun W : World => run_neq_map_nil (P := Try.prog) W 45 29 32 none Try.underlying45
  go_enter Try.func34, Try.ntmps34
  go_wp2
  go_ret
  exact ⟨rfl, rfl⟩
theorem made_nil (w : World) : Calls Try.prog 34 #[.pointer none] w fun e w' => e = .returned (.bool false) ∧ w = w' := by
  go_enter Try.func34, Try.ntmps34
  go_wp2
  go_ret
  exact ⟨rfl, rfl⟩

theorem clonePix_all (A : Option Addr) (n c : Nat) (xs : List Value) (w : World) (h : Reads w w.heap.size 4 A n xs) (hA : A = none → c = 0) (hn : n ≤ 4398046511104) (h1 : ∀ u ∈ xs, u.oneCell' = true) :
    Calls Try.prog 45 #[.slice A n c] w fun e w' => ∃ A' c', e = .returned (.slice A' n c') ∧ w'.ownsRow w.heap.size 63 4 (.slice A' n c') n xs ∧ Below w.heap.size w w' := by
  rcases A with _ | ad
  · obtain rfl := hA rfl
    obtain rfl : n = 0 := by
      rcases Nat.eq_zero_or_pos n with h0 | h0
      · exact h0
      · obtain ⟨ad, e, _⟩ := h.2 h0; cases e
    obtain rfl : xs = [] := List.eq_nil_of_length_eq_zero (by simpa using h.1)
    refine (clonePix_nil w).mono ?_
    rintro e w' ⟨rfl, rfl⟩
    exact ⟨_, _, rfl, ⟨rfl, .inl ⟨rfl, rfl⟩⟩, Below.refl _ _⟩
  · refine (clonePix_any ad n c xs w h hn h1).mono ?_
    rintro e w' ⟨v, rfl, ho, hb, _⟩
    obtain ⟨A', c', rfl, _⟩ := own_open ho
    exact ⟨A', c', rfl, ho, hb⟩
def Copied (i : Img) (w : World) (e : Ending) (w' : World) : Prop := ∃ v, e = .returned v ∧ ImgV w' w.heap.size v i ∧ Below w.heap.size w w'
theorem Copied.mk {IW IH : Int} {px : List P4} {r : Value} {w w' : World} {e : Ending} (he : e = .returned (.agg #[.int .i64 IW, .int .i64 IH, r])) (ho : w'.ownsRow w.heap.size 63 4 r px.length (pcs px)) (hb : Below w.heap.size w w') : Copied ⟨IW, IH, px⟩ w e w' :=
  ⟨_, he, ⟨r, rfl, ho⟩, hb⟩
theorem own_mono {w : World} {base base' e size n : Nat} {v : Value} {xs : List Value} (h : w.ownsRow base e size v n xs) (hb : base' ≤ base) : w.ownsRow base' e size v n xs := by
  obtain ⟨hl, ho⟩ := h
  refine ⟨hl, ?_⟩
  rcases ho with h0 | ⟨g, cap, cur, e, hg, rest⟩
  · exact .inl h0
  · exact .inr ⟨g, cap, cur, e, by omega, rest⟩
theorem blk3 {w : World} {g : Nat} {t : TypeId} {a b c : Value} (h : Blk w g t #[a, b, c]) : w.cell? ⟨g, 0, none⟩ = some a ∧ w.cell? ⟨g, 1, none⟩ = some b ∧ w.cell? ⟨g, 2, none⟩ = some c ∧ ∀ o, w.frozen? ⟨g, o, none⟩ = false :=
  ⟨h.cell 0, h.cell 1, h.cell 2, h.frozen⟩
theorem blk4 {w : World} {g : Nat} {t : TypeId} {a b c d : Value} (h : Blk w g t #[a, b, c, d]) : w.cell? ⟨g, 0, none⟩ = some a ∧ w.cell? ⟨g, 1, none⟩ = some b ∧ w.cell? ⟨g, 2, none⟩ = some c ∧ w.cell? ⟨g, 3, none⟩ = some d ∧ ∀ o, w.frozen? ⟨g, o, none⟩ = false :=
  ⟨h.cell 0, h.cell 1, h.cell 2, h.cell 3, h.frozen⟩
theorem blk5 {w : World} {g : Nat} {t : TypeId} {a b c d e : Value} (h : Blk w g t #[a, b, c, d, e]) : w.cell? ⟨g, 0, none⟩ = some a ∧ w.cell? ⟨g, 1, none⟩ = some b ∧ w.cell? ⟨g, 2, none⟩ = some c ∧ w.cell? ⟨g, 3, none⟩ = some d ∧ w.cell? ⟨g, 4, none⟩ = some e ∧ ∀ o, w.frozen? ⟨g, o, none⟩ = false :=
  ⟨h.cell 0, h.cell 1, h.cell 2, h.cell 3, h.cell 4, h.frozen⟩
/-- Two blocks that were laid one behind the other, behind more. -/
theorem two_blks {w w1 : World} {t t' : TypeId} {cs cs' : Array Value} (hb : Below ((w.alloc (.cells cs t)).alloc (.cells cs' t')).heap.size ((w.alloc (.cells cs t)).alloc (.cells cs' t')) w1) :
    Blk w1 w.heap.size t cs ∧ Blk w1 (w.heap.size + 1) t' cs' ∧ w.heap.size + 1 < w1.heap.size ∧ Below w.heap.size w w1 := by
  have h1 : Blk (w.alloc (.cells cs t)) w.heap.size t cs := Blk.new w t cs
  have h2 : Blk ((w.alloc (.cells cs t)).alloc (.cells cs' t')) (w.heap.size + 1) t' cs' := by
    have := Blk.new (w.alloc (.cells cs t)) t' cs'
    simpa using this
  have hs := hb.size
  simp at hs
  exact ⟨(h1.alloc _).below hb (by simp; omega), h2.below hb (by simp), by omega, (((Below.refl _ _).alloc (Nat.le_refl _) _).alloc (by simp) _).trans (hb.mono (by simp; omega))⟩
theorem Copied.done {IW IH : Int} {px : List P4} {A' : Option Addr} {n c' : Nat} {xs : List Value} {w w' w2 : World} {C0 C1 : Array Value} {o1 o2 : Obj} (HN : Hid (px.length = n)) (HX : Hid (pcs px = xs))
    (B0 : Blk w' w.heap.size 32 C0) (B1 : Blk w' (w.heap.size + 1) 32 C1) (ho : w'.ownsRow ((w.alloc o1).alloc o2).heap.size 63 4 (.slice A' n c') n xs) (hbw : Below w.heap.size w w')
    (T : Tch [w.heap.size, w.heap.size + 1] w' w2) : Copied ⟨IW, IH, px⟩ w (.returned (.agg #[.int .i64 IW, .int .i64 IH, .slice A' n c'])) w2 := by
  refine Copied.mk rfl ?_ (hbw.trans (T.to_below hbw.size (by simp)))
  rw [HN.out, HX.out]
  refine own_mono (T.own ho fun k hk => ?_) (by simp; omega)
  have n0 := own_ne_blk ho B0 (by decide) k hk
  have n1 := own_ne_blk ho B1 (by decide) k hk
  simp [n0, n1]
theorem copied_any (v : Value) (i : Img) (w : World) (h : ImgR w w.heap.size v i) (hn : i.px.length ≤ 4398046511104) : Calls Try.prog 38 #[v] w (Copied i w) := by
  obtain ⟨A, c, rfl, hr, hA⟩ := h
  obtain ⟨IW, IH, px⟩ := i
  simp only at hr hn ⊢
  have h1 := pcs_one px
  obtain ⟨n, hpn⟩ : ∃ n, px.length = n := ⟨_, rfl⟩
  obtain ⟨xs, hxs⟩ : ∃ xs, pcs px = xs := ⟨_, rfl⟩
  rw [hpn, hxs] at hr
  rw [hxs] at h1
  rw [hpn] at hn ⊢
  have HN := Lib.hid hpn
  have HX := Lib.hid hxs
  have hc := fun (W : World) (hb : Below w.heap.size w W) => clonePix_all A n c xs W ((hr.below hb).more hb.size) hA hn h1
  have b2 : Below w.heap.size w ((w.alloc (.cells #[.int .i64 IW, .int .i64 IH, .slice A n c] 32)).alloc (.cells #[.int .i64 0, .int .i64 0, .slice none 0 0] 32)) := ((Below.refl _ _).alloc (Nat.le_refl _) _).alloc (by simp) _
  have hc2 := hc _ b2
  clear hc hpn hxs hr hA h1
  go_enter Try.func38, Try.ntmps38
  go_wp2_with (go_at_call 45; refine hc2.mono ?_; rintro e w' ⟨A', c', rfl, ho, hb⟩; obtain ⟨B0, B1, hz, hbw⟩ := two_blks hb; obtain ⟨x0, x1, x2, xf⟩ := blk3 B0; obtain ⟨y0, y1, y2, yf⟩ := blk3 B1)
  refine bodyPost_ret (v := .agg #[.int .i64 IW, .int .i64 IH, .slice A' n c']) (by simp [results, Try.results38, go_sem, y0, y1, y2]) rfl ?_
  exact Copied.done HN HX B0 B1 ho hbw (((((Tch.refl _ w').setCell (.inl (by simp)) _).setCell (.inl (by simp)) _).setCell (.inl (by simp)) _).setCell (.inl (by simp)) _)
end Go.Proofs.Ytkdokipgakncjaa.Cac
