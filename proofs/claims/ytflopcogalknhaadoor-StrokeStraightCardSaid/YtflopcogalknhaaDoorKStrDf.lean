/-
  Layer 21: dashes that are collected (program).
-/
import Derived.Test.YtflopcogalknhaaDoorKStrDe
set_option linter.unusedVariables false
set_option linter.unusedSimpArgs false
namespace Go.Proofs.YtflopcogalknhaaDoor.Str
open Go.RowKit Go.Proofs.YtflopcogalknhaaDoor Go.Proofs.YtflopcogalknhaaDoor.NumPure

/-- The program's dasher. -/
structure DLv (pv : Value) (o : Nat) (B g : Nat) (L : List (List P2)) (v : Value) (rb rc : Nat → Nat) (W : World) : Prop where
  r : RLv B L v rb rc W
  box : Blk W g 55 #[pv, .int .i64 (o : Int), v, .int .i64 (ptsN L : Nat)]
  low : B ≤ g
def DL (pv : Value) (o : Nat) (B g : Nat) (L : List (List P2)) : Str.Obj := fun W M => ∃ v rb rc, M = g :: fp L v rb ∧ DLv pv o B g L v rb rc W
section
variable {pv : Value} {o B g : Nat} {L : List (List P2)} {v : Value} {rb rc : Nat → Nat} {W W' w0 : World} {M : List Nat}
theorem DLv.below (h : DLv pv o B g L v rb rc W) (hb : Below W.heap.size W W') : DLv pv o B g L v rb rc W' := ⟨h.r.below hb, h.box.below hb h.box.lt, h.low⟩
theorem DL.later (h : DL pv o B g L W M) (hb : Below W.heap.size W W') : DL pv o B g L W' M := by
  obtain ⟨v, rb, rc, rfl, h⟩ := h
  exact ⟨v, rb, rc, rfl, h.below hb⟩
theorem DL.size (h : DL pv o B g L W M) : ∀ k ∈ M, k < W.heap.size := by
  obtain ⟨v, rb, rc, rfl, h⟩ := h
  intro k hk
  rcases List.mem_cons.1 hk with rfl | hk
  · exact h.box.lt
  · exact h.r.fsize k hk
theorem DL.lows (h : DL pv o B g L W M) : ∀ k ∈ M, B ≤ k := by
  obtain ⟨v, rb, rc, rfl, h⟩ := h
  intro k hk
  rcases List.mem_cons.1 hk with rfl | hk
  · exact h.low
  · exact h.r.flow k hk
theorem DL.cells (h : DL pv o B g L W M) : W.cell? ⟨g, 0, none⟩ = some pv ∧ W.cell? ⟨g, 1, none⟩ = some (.int .i64 (o : Int)) ∧ W.cell? ⟨g, 3, none⟩ = some (.int .i64 (ptsN L : Nat)) := by
  obtain ⟨v, rb, rc, rfl, h⟩ := h
  exact ⟨h.box.cell 0, h.box.cell 1, h.box.cell 3⟩
theorem RLv.pol_readc (h : RLv B L v rb rc W) : ∃ A cap, v = .slice A L.length cap ∧ PolR W A L ∧ L.length ≤ cap := by
  obtain ⟨A, cap, rfl, hc, hr⟩ := own_open h.row
  exact ⟨A, cap, rfl, ⟨fun i => some ⟨rb i, 0, none⟩, rc, hr, fun i hi => (h.pol i hi).1⟩, hc⟩
theorem DL.pol (h : DL pv o B g L W M) : ∃ A c, W.cell? ⟨g, 2, none⟩ = some (.slice A L.length c) ∧ PolR W A L ∧ L.length ≤ c := by
  obtain ⟨v, rb, rc, rfl, h⟩ := h
  obtain ⟨A, c, rfl, hp, hc⟩ := h.r.pol_readc
  exact ⟨A, c, h.box.cell 2, hp, hc⟩
theorem DL.start (pv : Value) (o B : Nat) (w : World) (hB : B ≤ w.heap.size) : DL pv o B w.heap.size [] (w.alloc (.cells #[pv, .int .i64 (o : Int), .slice none 0 0, .int .i64 0] 55)) [w.heap.size] :=
  ⟨.slice none 0 0, fun _ => 0, fun _ => 0, rfl, RLv.start B _, Blk.new _ _ _, hB⟩
theorem dl_push {p c : Nat} {l : List P2} {v' : Value} {w7 : World} (h : DLv pv o B g L v rb rc W) (hpr : PtR W (some ⟨p, 0, none⟩) l) {cs0 : Array Value} (hp : Blk W p 30 cs0) (hBp : B ≤ p)
    (ho : w7.ownsRow B 36 1 v' (L.length + 1) (slcs (fun i => some ⟨rb i, 0, none⟩) rc L ++ [.slice (some ⟨p, 0, none⟩) l.length c])) (hg : (W.alloc (.cells #[.slice (some ⟨p, 0, none⟩) l.length c] 36)).grownBy w7 v.ownBlock) :
    DLv pv o B g (L ++ [l]) v' (fun i => if i < L.length then rb i else p) (fun i => if i < L.length then rc i else c) ((w7.setCell ⟨g, 2, none⟩ v').setCell ⟨g, 3, none⟩ (.int .i64 (ptsN (L ++ [l]) : Nat))) := by
  have h1 := h.r.push rfl ⟨rfl, rfl⟩ hpr hp hBp ho hg
  have hbx : Blk w7 g 55 #[pv, .int .i64 (o : Int), v, .int .i64 (ptsN L : Nat)] := ((h.box.alloc _).grown hg fun e2 => own_ne_blk h.r.row h.box (by decide) g e2.symm rfl)
  refine ⟨h1.keep (by simp [World.setCell]) (fun k hk => ?_) (fun k cs hc _ => ?_), ?_, ?_⟩
  · have hne := own_ne_blk h1.row hbx (by decide) k hk
    rw [Below.heap_setCell _ _ _ _ hne, Below.heap_setCell _ _ _ _ hne]
  · have hne : k ≠ g := blk_ne hc hbx (by decide)
    rw [Below.heap_setCell _ _ _ _ hne, Below.heap_setCell _ _ _ _ hne]
  · exact (hbx.set_ 2 v').set_ 3 _
  · exact h.low
end
/-- A pattern that is read. -/
abbrev NaR (w : World) (pa : Addr) (p : List Nat) : Prop := InR w (some pa) (p.map Int.ofNat)
theorem NaR.cell {w : World} {pa : Addr} {p : List Nat} (h : NaR w pa p) (i : Nat) (hi : i < p.length) : w.cell? (pa.add i) = some (.int .i64 (p.getD i 0 : Nat)) := by
  have := InR.cell h i (by rw [List.length_map]; exact hi)
  rw [this]
  simp only [List.getD_eq_getElem?_getD, List.getElem?_map, List.getElem?_eq_getElem hi, Option.map_some, Option.getD_some]
  rfl
theorem NaR.tch {w w' : World} {pa : Addr} {p : List Nat} {M : List Nat} (h : NaR w pa p) (ht : Tch M w w') (hA : pa.block ∉ M) : NaR w' pa p := reads_tch h ht fun ad e => by
  injection e with e
  rw [← e]; exact hA
/-- What a dasher's line answers. -/
def dE (D : List (List P2)) : Int := if 4096 < ptsN D then 3 else 0
theorem addD_pts (L : List (List P2)) (d : List P2) : ptsN (addD L d) = if 1 < d.length then ptsN L + d.length else ptsN L := by
  unfold addD
  split
  · rw [ptsN_snoc]
  · rfl
theorem pce_len {l : List P2} (hl : Lin l) (a b : Nat) : (pce l a b).length ≤ 131074 := by
  have h1 := pceN_len l a b (l.length - 1)
  have h2 := hl.len
  unfold pce
  omega
end Go.Proofs.YtflopcogalknhaaDoor.Str
