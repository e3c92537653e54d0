/-
  Layer 36: rows of one's own whose end is cleared.
-/
import Derived.Test.YtkdokipgakncjaaWords
import Derived.Laws.IdiomCopy
import Derived.Laws.AppendOwn
namespace Go.Proofs.Ytkdokipgakncjaa.Cac
open Go.RowKit Go.Proofs.Ytkdokipgakncjaa

theorem heap_setCell_at (w : World) (g o : Nat) (v : Value) (cur : Array Value) (e : TypeId) (fz : Nat × Nat) (h : w.heap[g]? = some (.cells cur e fz)) : (w.setCell ⟨g, o, none⟩ v).heap[g]? = some (.cells (cur.setIfInBounds o v) e fz) := by
  simp only [World.setCell]
  rw [Array.getElem?_modify]
  simp [h]
theorem heap_setCells_at (g : Nat) (e : TypeId) (fz : Nat × Nat) : ∀ (vs : List Value) (o : Nat) (w : World) (cur : Array Value), w.heap[g]? = some (.cells cur e fz) →
    ∃ cur', (w.setCells g o vs).heap[g]? = some (.cells cur' e fz) ∧ cur'.size = cur.size ∧ ∀ n, n ≤ o → cur'.toList.take n = cur.toList.take n
  | [], o, w, cur, h => ⟨cur, h, rfl, fun _ _ => rfl⟩
  | v :: r, o, w, cur, h => by
    obtain ⟨cur', h1, h2, h3⟩ := heap_setCells_at g e fz r (o + 1) (w.setCell ⟨g, o, none⟩ v) _ (heap_setCell_at w g o v cur e fz h)
    refine ⟨cur', h1, by rw [h2, Array.size_setIfInBounds], fun n hn => ?_⟩
    rw [h3 n (by omega), Array.toList_setIfInBounds, List.take_set_of_le hn]
/-- The front of a row of one's own. -/
theorem own_front {w : World} {base e size n cap i : Nat} {A : Option Addr} {xs : List Value} (h : w.ownsRow base e size (.slice A n cap) n xs) (hA : A ≠ none) (hi : i ≤ n) : w.ownsRow base e size (.slice A i cap) i (xs.take (i * size)) := by
  obtain ⟨hl, h0 | ⟨g, cap', cur, hv, hb, hh, hn, hm, hs, hx⟩⟩ := h
  · exact absurd (by have := h0.1; injection this) hA
  · injection hv with hA2 _ hc
    subst hA2 hc
    have hmul : i * size ≤ n * size := Nat.mul_le_mul_right _ hi
    refine ⟨by rw [List.length_take, hl]; omega, .inr ⟨g, cap, cur, rfl, hb, hh, by omega, hm, hs, ?_⟩⟩
    rw [← hx, List.take_take, Nat.min_eq_left hmul]
/-- Cells behind a row of one's own are laid anew: the row stands. -/
theorem own_tail {w : World} {base e size n cap o : Nat} {g : Nat} {xs vs : List Value} (h : w.ownsRow base e size (.slice (some ⟨g, 0, none⟩) n cap) n xs) (ho : n * size ≤ o) :
    (w.setCells g o vs).ownsRow base e size (.slice (some ⟨g, 0, none⟩) n cap) n xs := by
  obtain ⟨hl, h0 | ⟨g', cap', cur, hv, hb, hh, hn, hm, hs, hx⟩⟩ := h
  · exact absurd h0.1 (by simp)
  · injection hv with hA2 _ hc
    injection hA2 with hA3
    injection hA3 with hg
    subst hg hc
    obtain ⟨cur', h1, h2, h3⟩ := heap_setCells_at g e (0, 0) vs o w cur hh
    exact ⟨hl, .inr ⟨g, cap, cur', rfl, hb, h1, hn, hm, by rw [h2, hs], by rw [h3 _ ho, hx]⟩⟩

end Go.Proofs.Ytkdokipgakncjaa.Cac
