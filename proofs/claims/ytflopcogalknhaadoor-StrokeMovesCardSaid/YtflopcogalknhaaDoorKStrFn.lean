/-
  Layer 21, plain: what dashes hold.
-/
import Derived.Test.YtflopcogalknhaaDoorKStrMv
import Derived.Test.YtflopcogalknhaaDoorKStrDh
set_option linter.unusedVariables false
set_option linter.unusedSimpArgs false
namespace Go.Proofs.YtflopcogalknhaaDoor.Str
open Go.RowKit Go.Proofs.YtflopcogalknhaaDoor Go.Proofs.YtflopcogalknhaaDoor.NumPure

theorem dasF_good (ls : List (List P2)) (ob : List Bool) (p : List Int) (o : Int) : (∀ l ∈ (dasF ls ob p o).2, AllB 50331648 l) ∧ ptsN (dasF ls ob p o).2 ≤ 4096 ∧ (dasF ls ob p o).2.length ≤ 4096 := by
  have z : ∀ n : Int, (∀ l ∈ (n, ([] : List (List P2))).2, AllB 50331648 l) ∧ ptsN (n, ([] : List (List P2))).2 ≤ 4096 ∧ (n, ([] : List (List P2))).2.length ≤ 4096 := fun n => ⟨fun l hl => by simp at hl, by simp [ptsN], by simp⟩
  unfold dasF
  split
  · exact z _
  · split
    · exact z _
    · next h2 =>
      split
      · exact z _
      · obtain ⟨hn, hin⟩ := cov_zero (Decidable.not_not.1 h2)
        split
        · exact z _
        · next L hL =>
          have h3 := runD_pts hL
          have h4 := runD_len hL
          exact ⟨runD_all hin hn hL, h3, by dsimp only; omega⟩
theorem dasF_err {ls : List (List P2)} {ob : List Bool} {p : List Int} {o : Int} (h : (dasF ls ob p o).1 ≠ 0) : (dasF ls ob p o).2 = [] := by
  revert h
  unfold dasF
  split
  · exact fun _ => rfl
  · split
    · exact fun _ => rfl
    · split
      · exact fun _ => rfl
      · split
        · exact fun _ => rfl
        · exact fun h => absurd rfl h
end Go.Proofs.YtflopcogalknhaaDoor.Str
