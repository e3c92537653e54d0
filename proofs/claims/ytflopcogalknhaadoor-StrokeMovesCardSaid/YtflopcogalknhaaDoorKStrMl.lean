/-
  Layer 21's laws: a list of polygons that the call itself makes.
-/
import Derived.Test.YtflopcogalknhaaDoorKStrMv
set_option linter.unusedVariables false
set_option linter.unusedSimpArgs false
namespace Go.Proofs.YtflopcogalknhaaDoor.Str
open Go.RowKit Go.Proofs.YtflopcogalknhaaDoor Go.Proofs.YtflopcogalknhaaDoor.NumPure

theorem ptr_keep {w w' : World} {A : Option Addr} {l : List P2} (h : PtR w A l) (hs : w.heap.size ≤ w'.heap.size) (he : ∀ ad, A = some ad → w'.heap[ad.block]? = w.heap[ad.block]?) : PtR w' A l :=
  ⟨h.1, fun hn => by
    obtain ⟨ad, e, hb, hc⟩ := h.2 hn
    exact ⟨ad, e, by omega, fun j u hu => (World.cell?_of_block (by rw [block_of_add]; exact he ad e)).trans (hc j u hu)⟩⟩
/-- A row of polygons, each in a block of points or empty. -/
structure MvL (B : Nat) (L : List (List P2)) (v : Value) (ra : Nat → Option Addr) (rc : Nat → Nat) (W : World) : Prop where
  row : W.ownsRow B 36 1 v L.length (slcs ra rc L)
  pol : ∀ i, i < L.length → PtR W (ra i) (L.getD i []) ∧ ∀ ad, ra i = some ad → ∃ cs, Blk W ad.block 30 cs
section
variable {B : Nat} {L : List (List P2)} {v : Value} {ra : Nat → Option Addr} {rc : Nat → Nat} {W W' : World}
theorem MvL.start (B : Nat) (ra : Nat → Option Addr) (rc : Nat → Nat) (W : World) : MvL B [] (.slice none 0 0) ra rc W := ⟨⟨by simp [slcs], .inl ⟨rfl, rfl⟩⟩, fun i hi => absurd hi (Nat.not_lt_zero i)⟩
theorem MvL.below (h : MvL B L v ra rc W) (hb : Below W.heap.size W W') : MvL B L v ra rc W' :=
  ⟨own_below h.row hb, fun i hi => ⟨(h.pol i hi).1.below hb, fun ad e => by
    obtain ⟨cs, h2⟩ := (h.pol i hi).2 ad e
    exact ⟨cs, h2.below hb h2.lt⟩⟩⟩
theorem MvL.push (h : MvL B L v ra rc W) {A : Option Addr} {c : Nat} {l : List P2} {v' : Value} {w7 : World} (hp : PtR W A l) (hpb : ∀ ad, A = some ad → ∃ cs, Blk W ad.block 30 cs)
    (ho : w7.ownsRow B 36 1 v' (L.length + 1) (slcs ra rc L ++ [.slice A l.length c])) (hg : (W.alloc (.cells #[.slice A l.length c] 36)).grownBy w7 v.ownBlock) :
    MvL B (L ++ [l]) v' (fun i => if i < L.length then ra i else A) (fun i => if i < L.length then rc i else c) w7 := by
  have hb := (Below.refl W.heap.size W).alloc (Nat.le_refl _) (.cells #[.slice A l.length c] 36)
  have hsz : W.heap.size ≤ w7.heap.size := Nat.le_trans hb.size hg.size
  have hk : ∀ k cs, Blk W k 30 cs → w7.heap[k]? = W.heap[k]? := fun k cs hc => by
    have := hc.lt
    rw [hg.block k (Nat.lt_of_lt_of_le this hb.size) (fun e => own_ne_blk h.row hc (by decide) k e.symm rfl), hb.block k this]
  refine ⟨?_, fun i hi => ?_⟩
  · rw [List.length_append, List.length_singleton, slcs_snoc ra rc L A c l]
    exact ho
  · rw [List.length_append, List.length_singleton] at hi
    by_cases hlt : i < L.length
    · obtain ⟨h1, h2⟩ := h.pol i hlt
      rw [if_pos hlt, List.getD_eq_getElem?_getD, List.getElem?_append_left hlt, ← List.getD_eq_getElem?_getD]
      refine ⟨ptr_keep h1 hsz fun ad e => ?_, fun ad e => ?_⟩
      · obtain ⟨cs, h3⟩ := h2 ad e
        exact hk _ _ h3
      · obtain ⟨cs, h3⟩ := h2 ad e
        exact ⟨cs, (hk _ _ h3).trans h3⟩
    · obtain rfl : i = L.length := by omega
      rw [if_neg hlt]
      simp only [List.getD_eq_getElem?_getD, List.getElem?_append_right (Nat.le_refl _), Nat.sub_self, List.getElem?_cons_zero, Option.getD_some]
      refine ⟨ptr_keep hp hsz fun ad e => ?_, fun ad e => ?_⟩
      · obtain ⟨cs, h3⟩ := hpb ad e
        exact hk _ _ h3
      · obtain ⟨cs, h3⟩ := hpb ad e
        exact ⟨cs, (hk _ _ h3).trans h3⟩
theorem MvL.read (h : MvL B L v ra rc W) : ∃ A c, v = .slice A L.length c ∧ PolR W A L := by
  obtain ⟨A, cap, rfl, _, hr⟩ := own_open h.row
  exact ⟨A, cap, rfl, ra, rc, hr, fun i hi => (h.pol i hi).1⟩
end
theorem own_blk {W : World} {B n : Nat} {v : Value} {l : List P2} (h : W.ownsRow B 30 2 v n (pts l)) (hn : n = l.length) : ∃ A c, v = .slice A n c ∧ PtR W A l ∧ ∀ ad, A = some ad → ∃ cs, Blk W ad.block 30 cs := by
  subst hn
  rcases h.2 with ⟨h0, hz⟩ | ⟨g, cap, cur, rfl, _, hg, _⟩
  · refine ⟨none, 0, ?_, ?_, fun ad e => by cases e⟩
    · rw [h0, hz]
    · exact ⟨by rw [pts_len], fun hn => absurd hn (by omega)⟩
  · exact ⟨_, cap, rfl, Reads.of_own h, fun ad e => by injection e with e; rw [← e]; exact ⟨cur, hg⟩⟩
end Go.Proofs.YtflopcogalknhaaDoor.Str
