/-
  Layer 21: the outline of polygons (program).
-/
import Derived.Test.YtflopcogalknhaaDoorKStrPg
set_option linter.unusedVariables false
set_option linter.unusedSimpArgs false
namespace Go.Proofs.YtflopcogalknhaaDoor.Str
open Go.RowKit Go.Proofs.YtflopcogalknhaaDoor Go.Proofs.YtflopcogalknhaaDoor.NumPure

/-- The outline after some polygons; nothing where it has too many points. -/
def runL (wd j e : Int) (ls : List (List P2)) (ob : List Bool) : Nat → Option (List (List P2))
  | 0 => some []
  | i + 1 => match runL wd j e ls ob i with
    | none => none
    | some L => if 4096 < ptsN (one wd j e (ob.getD i false) L (red (ls.getD i []) (ob.getD i false))) then none else some (one wd j e (ob.getD i false) L (red (ls.getD i []) (ob.getD i false)))
def outF (wd j e : Int) (ls : List (List P2)) (ob : List Bool) : Int × List (List P2) :=
  if chkE wd j e ≠ 0 then (chkE wd j e, [])
  else if covE ls ≠ 0 then (covE ls, [])
  else if ob.length ≠ ls.length then (15, [])
  else match runL wd j e ls ob ls.length with
    | none => (3, [])
    | some L => (0, L)
theorem runL_none {wd j e : Int} {ls : List (List P2)} {ob : List Bool} {i : Nat} (h : runL wd j e ls ob i = none) : ∀ d, runL wd j e ls ob (i + d) = none
  | 0 => h
  | d + 1 => by
    rw [← Nat.add_assoc, runL, runL_none h d]
theorem runL_step {wd j e : Int} {ls : List (List P2)} {ob : List Bool} {i : Nat} {L : List (List P2)} (h : runL wd j e ls ob i = some L) :
    runL wd j e ls ob (i + 1) = if 4096 < ptsN (one wd j e (ob.getD i false) L (red (ls.getD i []) (ob.getD i false))) then none else some (one wd j e (ob.getD i false) L (red (ls.getD i []) (ob.getD i false))) := by
  rw [runL, h]
theorem runL_pts {wd j e : Int} {ls : List (List P2)} {ob : List Bool} : ∀ {i : Nat} {L : List (List P2)}, runL wd j e ls ob i = some L → ptsN L ≤ 4096 ∧ GL L
  | 0, L, h => by
    rw [runL] at h
    injection h with h
    subst h
    exact ⟨by simp [ptsN], GL.nil⟩
  | i + 1, L, h => by
    rw [runL] at h
    split at h
    · cases h
    · rename_i L0 h0
      obtain ⟨_, h2⟩ := runL_pts h0
      split at h
      · cases h
      · injection h with h
        subst h
        exact ⟨by omega, (one_bd _ _ _ _ _ _).2 h2⟩
theorem chk_ok {wd j e : Int} (h : chkE wd j e = 0) : 1 ≤ wd ∧ wd ≤ 4096 := by
  unfold chkE at h
  split at h
  · cases h
  · omega
/-- Booleans that are read. -/
abbrev BoR (w : World) (A : Option Addr) (ob : List Bool) : Prop := Reads w w.heap.size 1 A ob.length (ob.map Value.bool)
theorem BoR.below {w w' : World} {A : Option Addr} {l : List Bool} (h : BoR w A l) (hb : Below w.heap.size w w') : BoR w' A l := (Reads.below h hb).more hb.size
theorem BoR.addr {w : World} {A : Option Addr} {l : List Bool} (h : BoR w A l) (h0 : 0 < l.length) : ∃ ad, A = some ad ∧ ad.block < w.heap.size := by
  obtain ⟨ad, e, hb, _⟩ := h.2 h0
  exact ⟨ad, e, hb⟩
theorem BoR.cell {w : World} {ad : Addr} {l : List Bool} (h : BoR w (some ad) l) (i : Nat) (hi : i < l.length) : w.cell? (ad.add i) = some (.bool (l.getD i false)) := by
  obtain ⟨a, e, _, hc⟩ := h.2 (by omega)
  injection e with e
  subst e
  exact hc i _ (by rw [List.getElem?_map, List.getD_eq_getElem?_getD, List.getElem?_eq_getElem hi]; rfl)
/-- A call that returns polygons and an error. -/
def OuC (F : Int × List (List P2)) (w : World) (e : Ending) (w' : World) : Prop := ∃ A c, e = .returned (.tuple #[.slice A F.2.length c, .int .i64 F.1]) ∧ PolR w' A F.2 ∧ Below w.heap.size w w'
theorem OL.start (wd j e : Int) (B : Nat) (w : World) (hB : B ≤ w.heap.size) : OL wd j e B w.heap.size [] (w.alloc (.cells #[.int .i64 wd, .int .i64 j, .int .i64 e, .slice none 0 0, .int .i64 0] 47)) [w.heap.size] :=
  ⟨.slice none 0 0, fun _ => 0, fun _ => 0, rfl, RLv.start B _, Blk.new _ _ _, hB⟩
theorem OL.pol {wd j e : Int} {B g : Nat} {L : List (List P2)} {W : World} {M : List Nat} (h : OL wd j e B g L W M) : ∃ A c, W.cell? ⟨g, 3, none⟩ = some (.slice A L.length c) ∧ W.cell? ⟨g, 4, none⟩ = some (.int .i64 (ptsN L : Nat)) ∧ PolR W A L := by
  obtain ⟨v, rb, rc, rfl, h⟩ := h
  obtain ⟨A, c, rfl, hp⟩ := h.r.pol_read
  exact ⟨A, c, h.box.cell 3, h.box.cell 4, hp⟩
end Go.Proofs.YtflopcogalknhaaDoor.Str
