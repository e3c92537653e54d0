/-
  Layer 21's laws: the chapter's examples, plain.
-/
import Derived.Test.YtflopcogalknhaaDoorKStrDh
set_option linter.unusedVariables false
set_option linter.unusedSimpArgs false
namespace Go.Proofs.YtflopcogalknhaaDoor.Str
open Go.RowKit Go.Proofs.YtflopcogalknhaaDoor Go.Proofs.YtflopcogalknhaaDoor.NumPure

theorem ex_a : outF 3 0 2 [[(5, 5), (5, 5)]] [true] = (0, [[(3, 3), (7, 3), (7, 7), (3, 7)]]) := by decide +kernel
theorem ex_b : outF 3 0 0 [[(5, 5), (5, 5)]] [true] = (0, []) := by decide +kernel
theorem ex_c : outF 20 2 0 [[(0, 0), (100, 0)]] [true] = (0, [[(0, -10), (100, -10), (100, 10), (0, 10)]]) := by decide +kernel
theorem ex_d : dasF [[(0, 0), (10, 0)]] [true] [3, 2] 1 = (0, [[(0, 0), (2, 0)], [(4, 0), (7, 0)], [(9, 0), (10, 0)]]) := by decide +kernel
theorem ex_i : dasF [[(0, 0), (10, 0)]] [true] [] 1 = (1, []) := by decide +kernel
theorem ex_j : outF 20 2 0 [[(0, 0), (100, 0)]] [] = (15, []) := by decide +kernel
/-- Some of the polygons of a list. -/
theorem PolR.sub {w : World} {ad : Addr} {ls : List (List P2)} (h : PolR w (some ad) ls) (i n : Nat) (hn : i + n ≤ ls.length) (h0 : 0 < n) : PolR w (some (ad.add i)) ((ls.drop i).take n) := by
  obtain ⟨ra, rc, h1, h2⟩ := h
  have hl : ((ls.drop i).take n).length = n := by rw [List.length_take, List.length_drop]; omega
  obtain ⟨a, e, hb, hc⟩ := h1.2 (by omega)
  injection e with e
  subst e
  have hg : ∀ j, j < n → ((ls.drop i).take n).getD j [] = ls.getD (i + j) [] := fun j hj => by
    rw [List.getD_eq_getElem?_getD, List.getElem?_take_of_lt hj, List.getElem?_drop, List.getD_eq_getElem?_getD]
  refine ⟨fun j => ra (i + j), fun j => rc (i + j), ⟨by simp [slcs], fun _ => ⟨_, rfl, by rw [block_of_add]; exact hb, fun j u hu => ?_⟩⟩, fun j hj => ?_⟩
  · have hj : j < n := by
      have := (List.getElem?_eq_some_iff.1 hu).1
      simp only [slcs, List.length_map, List.length_range] at this
      omega
    rw [add_of_add]
    apply hc (i + j) u
    unfold slcs at hu ⊢
    rw [List.getElem?_map, List.getElem?_range (by omega)] at hu ⊢
    rw [← hu]
    simp only [Option.map_some]
    rw [hg j hj]
  · rw [hl] at hj
    rw [hg j hj]
    exact h2 (i + j) (by omega)
theorem bor_blk {w : World} {g : Nat} (h : Blk w g 4 #[.bool true]) : BoR w (some ⟨g, 0, none⟩) [true] :=
  ⟨rfl, fun _ => ⟨_, rfl, h.lt, fun i u hu => World.news_of_block h i u hu⟩⟩
end Go.Proofs.YtflopcogalknhaaDoor.Str
