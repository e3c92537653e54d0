/-
  What every law over package num has in common: the table of sines as the row lists it, and a world that holds it.
-/
import Derived.Test.YtdchcnggjamifaaDoorCards
import Derived.Test.YtdchcnggjamifaaDoorTie
import Derived.Test.YtdchcnggjamifaaDoorFrame
import Derived.Test.YtdchcnggjamifaaDoorNumEx
import Derived.Deep.DeepHandedRow
import Derived.Lib.LaidTab
namespace Go.Proofs.YtdchcnggjamifaaDoor.Num
open Go.ChangeShapes Go.WideShapes Go.ChangeAt Go.RowKit Go.Proofs.YtdchcnggjamifaaDoor.NumPure

def laidL : List (String × DataW Unit) := [("imageeditor/num.sines", Rows.laid_imageeditor_num_sines)]
theorem gTab : Tryd.prog.globalNamed "imageeditor/num.sines" = some 2 := by kernel_rfl
theorem gTabType : (Tryd.prog.globals[2]?).map (·.type) = some 44 := by kernel_rfl
theorem cellsA : Tryd.prog.cellsOf 44 = 65 := by kernel_rfl
theorem cellsI : Tryd.prog.cellsOf 3 = 1 := by kernel_rfl

theorem tab_of_laid {W : World} (h : laidMetH Tryd.prog [("imageeditor/num.sines", Rows.laid_imageeditor_num_sines)] W) : Tab W := by
  have ht : Lib.TabIs Tryd.prog W "imageeditor/num.sines" .i64 sinL := Lib.tabIs_of_head (rest := []) gTab gTabType Tryd.underlying44 Tryd.underlying3 cellsI cellsA h
  intro i hi
  exact ht.cell gTab i hi

/-- A world for the witness: the settled one, the table holding what its initialiser lays. -/
noncomputable def laidWorld (os : Os) : World :=
  { World.holding Tryd.prog os ⟨#[], #[], []⟩ with heap := (World.holding Tryd.prog os ⟨#[], #[], []⟩).heap.modify 2 fun
      | .cells _ t frozen => .cells (sinL.map (Value.int .i64)).toArray t frozen
      | o => o }

theorem bdrew {W : World} (n : Nat) : Below W.heap.size W (W.drewN n) := by
  have h : Below W.heap.size W W := Below.refl _ _
  exact ⟨h.os, h.tape, h.output, h.size, h.block⟩

end Go.Proofs.YtdchcnggjamifaaDoor.Num
