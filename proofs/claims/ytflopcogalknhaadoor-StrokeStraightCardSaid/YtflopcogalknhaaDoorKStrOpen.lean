/-
  Layer 21's laws: arguments that came in.
-/
import Derived.Test.YtflopcogalknhaaDoorKStrDa
import Derived.Test.YtflopcogalknhaaDoorKStrOu
import Derived.Test.YtflopcogalknhaaDoorKBase
import Derived.Deep.Slices
import Derived.Deep.Fields
import Derived.Deep.Grids
import Derived.Deep.Matrix
import Derived.ChangeSame
import Derived.ChangeSlices
import Derived.SizedLaws
set_option linter.unusedVariables false
set_option linter.unusedSimpArgs false
namespace Go.Proofs.YtflopcogalknhaaDoor.Str
open Go.RowKit Go.Proofs.YtflopcogalknhaaDoor Go.Proofs.YtflopcogalknhaaDoor.NumPure
open Go.ChangeShapes Go.WideShapes Go.Deep

theorem cells1 : Tryd.prog.cellsOf 3 = 1 := by kernel_rfl
theorem cellsPt : Tryd.prog.cellsOf 30 = 2 := by kernel_rfl
theorem cellsPts : Tryd.prog.cellsOf 36 = 1 := by kernel_rfl
theorem cellsBool : Tryd.prog.cellsOf 4 = 1 := by kernel_rfl
theorem bytesPt : Tryd.prog.bytesOf 30 = 16 := by kernel_rfl
theorem bytesPts : Tryd.prog.bytesOf 36 = 24 := by kernel_rfl
theorem bytesInt : Tryd.prog.bytesOf 3 = 8 := by kernel_rfl
theorem bytesBool : Tryd.prog.bytesOf 4 = 1 := by kernel_rfl
def in64 (z : Int) : Prop := -9223372036854775808 ≤ z ∧ z ≤ 9223372036854775807
theorem bounds64 {n : Int} (h : (Lit.int .i64 n).wf = true) : in64 n := by
  simp only [Lit.wf, Bool.and_eq_true, decide_eq_true_eq] at h
  have e1 : IntKind.i64.min = -9223372036854775808 := by rfl
  have e2 : IntKind.i64.max = 9223372036854775807 := by rfl
  rw [e1, e2] at h
  exact h
/-- All that is read through a datum is within the reach. -/
def Small {H : Type} (t : TypeId) (d : DataW H) : Prop := ∀ n ∈ d.weights Tryd.prog t, n ≤ reachBytes
theorem Small.elem {H : Type} {t e : TypeId} {l r : List (DataW H)} (hu : Tryd.prog.underlying t = some (.slice e)) (h : Small t (.slice l r)) {d : DataW H} (hd : d ∈ l) : Small e d := fun n hn => h n (by
  have key : ∀ l : List (DataW H), d ∈ l → n ∈ DataW.weightsAll Tryd.prog e l := fun l => by
    induction l with
    | nil => intro h; cases h
    | cons a l ih =>
      intro h
      simp only [DataW.weightsAll, List.mem_append]
      rcases List.mem_cons.1 h with rfl | h
      · exact .inl hn
      · exact .inr (ih h)
  simp only [DataW.weights, hu, List.mem_cons, List.mem_append]
  exact .inr (.inl (key l hd)))
theorem Small.len {H : Type} {t e : TypeId} {l r : List (DataW H)} (hu : Tryd.prog.underlying t = some (.slice e)) (h : Small t (.slice l r)) : (l.length + r.length) * Tryd.prog.bytesOf e ≤ reachBytes := h _ (by simp [DataW.weights, hu])
theorem pts_get (f : Nat → P2) : ∀ (n j : Nat) (u : Value), (pts ((List.range n).map f))[j]? = some u → j / 2 < n ∧ (pt (f (j / 2)))[j % 2]? = some u := fun n j u h => by
  have hl := (List.getElem?_eq_some_iff.1 h).1
  rw [pts_len, List.length_map, List.length_range] at hl
  have hj : j / 2 < n := by omega
  refine ⟨hj, ?_⟩
  have := pts_at ((List.range n).map f) (j / 2) (by simpa using hj) (j % 2) (by omega)
  rw [show j / 2 * 2 + j % 2 = j by omega, h] at this
  simpa using this.symm
section
variable {H : Type} {enc : TypeId × Value → H} {W : World} {base : Nat} {sp : Nat → Bool} {held : Bool}
set_option maxRecDepth 100000 in
theorem open_pt {fuel : Nat} {cs : List Value} {x : DataW H × List MemPlace} (h : DataW.trod enc Tryd.prog W base sp held fuel 30 cs = some x) : ∃ k : P2, cs = pt k ∧ in64 k.1 ∧ in64 k.2 := by
  obtain ⟨ys, n, _, _, hlen, hyl, hf⟩ := DataW.trod_struct Tryd.underlying30 h
  rw [cellsPt] at hlen
  match cs, hlen with
  | [c0, c1], _ =>
    have hyl5 : ys.length = 2 := hyl
    match ys, hyl5 with
    | [y0, y1], _ =>
      obtain ⟨k0, e0, _, w0⟩ := DataW.trod_int (cs := [c0]) Tryd.underlying3 (by simpa [cells1] using hf 0 _ rfl)
      obtain ⟨k1, e1, _, w1⟩ := DataW.trod_int (cs := [c1]) Tryd.underlying3 (by simpa [cells1] using hf 1 _ rfl)
      simp only [List.cons.injEq, and_true] at e0 e1
      subst e0 e1
      exact ⟨(k0, k1), rfl, bounds64 w0, bounds64 w1⟩
/-- A list of points as an argument. -/
structure PtA (W : World) (A : Option Addr) (l : List P2) : Prop where
  r : PtR W A l
  n : l.length * 16 ≤ 140737488351232
  b : ∀ p ∈ l, in64 p.1 ∧ in64 p.2
set_option maxRecDepth 100000 in
theorem open_pts {fuel : Nat} {cs : List Value} {x : DataW H × List MemPlace} (h : DataW.trod enc Tryd.prog W base (fun _ => true) held fuel 36 cs = some x) (hs : Small 36 x.1) :
    ∃ (A : Option Addr) (c : Nat) (l : List P2), cs = [.slice A l.length c] ∧ PtA W A l := by
  rcases open_slice Tryd.underlying36 h with ⟨rfl, rfl⟩ | ⟨a, len, cap, m, n, D, Pl, rfl, hb, hl, hm, hmm, rfl, hi⟩
  · exact ⟨none, 0, [], rfl, Reads.none_, by simp, fun _ h => by simp at h⟩
  · have hmm2 : m = cap := by simpa using hmm
    subst hmm2
    have hex : ∀ i, ∃ k : P2, (i < len → ∀ j u, (pt k)[j]? = some u → W.cell? ((a.add (i * 2)).add j) = some u) ∧ in64 k.1 ∧ in64 k.2 := fun i => by
      by_cases hlt : i < len
      · obtain ⟨cs', hc, ht⟩ := hi i (by omega)
        obtain ⟨k, rfl, hk1, hk2⟩ := open_pt ht
        rw [cellsPt] at hc
        obtain ⟨_, _, hat⟩ := World.cells?_some hc
        exact ⟨k, fun _ j u hu => (hat j (by have := (List.getElem?_eq_some_iff.1 hu).1; exact this)).trans hu, hk1, hk2⟩
      · exact ⟨(0, 0), fun h => absurd h hlt, by unfold in64; omega, by unfold in64; omega⟩
    have hsl := hs.len Tryd.underlying36
    rw [bytesPt] at hsl
    simp only [List.length_map, List.length_range] at hsl
    have hreach : reachBytes = 140737488351232 := rfl
    refine ⟨some a, m, (List.range len).map fun i => Classical.choose (hex i), by simp, ⟨by rw [pts_len], fun h0 => ⟨a, rfl, ?_, fun j u hu => ?_⟩⟩, by simp; omega, fun p hp => ?_⟩
    · simp only [List.length_map, List.length_range] at h0
      have := (Classical.choose_spec (hex 0)).1 h0 0 _ rfl
      exact World.block_lt_of_cell? W ((a.add (0 * 2)).add 0) this
    · obtain ⟨h1, h2⟩ := pts_get _ _ _ _ hu
      have := (Classical.choose_spec (hex (j / 2))).1 h1 (j % 2) u h2
      rw [add_of_add, show j / 2 * 2 + j % 2 = j by omega] at this
      exact this
    · obtain ⟨i, _, rfl⟩ := List.mem_map.1 hp
      exact (Classical.choose_spec (hex i)).2
/-- A list of polygons as an argument. -/
structure PlA (W : World) (A : Option Addr) (ls : List (List P2)) : Prop where
  r : PolR W A ls
  n : ls.length * 24 ≤ 140737488351232
  e : ∀ l ∈ ls, l.length * 16 ≤ 140737488351232
  b : ∀ l ∈ ls, ∀ p ∈ l, in64 p.1 ∧ in64 p.2
set_option maxRecDepth 100000 in
theorem open_pls {fuel : Nat} {cs : List Value} {x : DataW H × List MemPlace} (h : DataW.trod enc Tryd.prog W base (fun _ => true) held fuel 22 cs = some x) (hs : Small 22 x.1) :
    ∃ (A : Option Addr) (c : Nat) (ls : List (List P2)), cs = [.slice A ls.length c] ∧ PlA W A ls := by
  rcases open_slice1 Tryd.underlying22 cellsPts h with ⟨rfl, rfl⟩ | ⟨a, len, cap, m, n, V, D, Pl, rfl, hb, hl, hm, hmm, rfl, hi⟩
  · exact ⟨none, 0, [], rfl, PolR.nil W, by simp, fun _ h => by simp at h, fun _ h => by simp at h⟩
  · have hmm2 : m = cap := by simpa using hmm
    subst hmm2
    have hex : ∀ i, ∃ k : Option Addr × Nat × List P2, i < len → V i = .slice k.1 k.2.2.length k.2.1 ∧ PtA W k.1 k.2.2 := fun i => by
      by_cases hlt : i < len
      · obtain ⟨hc, ht⟩ := hi i (by omega)
        obtain ⟨A, c, l, e, hl⟩ := open_pts ht (hs.elem Tryd.underlying22 (List.mem_map.2 ⟨i, List.mem_range.2 hlt, rfl⟩))
        injection e with e
        exact ⟨(A, c, l), fun _ => ⟨e, hl⟩⟩
      · exact ⟨(none, 0, []), fun h => absurd h hlt⟩
    have hsl := hs.len Tryd.underlying22
    rw [bytesPts] at hsl
    simp only [List.length_map, List.length_range] at hsl
    have hreach : reachBytes = 140737488351232 := rfl
    have hg : ∀ i, i < len → ((List.range len).map fun i => (Classical.choose (hex i)).2.2).getD i [] = (Classical.choose (hex i)).2.2 := fun i hi => by
      rw [List.getD_eq_getElem?_getD, List.getElem?_map, List.getElem?_range hi]
      rfl
    refine ⟨some a, m, (List.range len).map fun i => (Classical.choose (hex i)).2.2, by simp, ⟨fun i => (Classical.choose (hex i)).1, fun i => (Classical.choose (hex i)).2.1, ⟨by simp [slcs], fun h0 => ⟨a, rfl, ?_, fun j u hu => ?_⟩⟩, fun i hi => ?_⟩, by simp; omega, fun l hl => ?_, fun l hl => ?_⟩
    · simp only [List.length_map, List.length_range] at h0
      exact World.block_lt_of_cell? W (a.add 0) (hi 0 (by omega)).1
    · unfold slcs at hu
      rw [List.getElem?_map, List.length_map, List.length_range] at hu
      by_cases hj : j < len
      · rw [List.getElem?_range hj] at hu
        simp only [Option.map_some, Option.some.injEq] at hu
        rw [← hu, hg j hj]
        exact (hi j (by omega)).1.trans (congrArg some ((Classical.choose_spec (hex j)) hj).1)
      · rw [List.getElem?_eq_none (by simpa using hj)] at hu
        cases hu
    · simp only [List.length_map, List.length_range] at hi
      rw [hg i hi]
      exact ((Classical.choose_spec (hex i)) hi).2.r
    · obtain ⟨i, hi, rfl⟩ := List.mem_map.1 hl
      exact ((Classical.choose_spec (hex i)) (List.mem_range.1 hi)).2.n
    · obtain ⟨i, hi, rfl⟩ := List.mem_map.1 hl
      exact ((Classical.choose_spec (hex i)) (List.mem_range.1 hi)).2.b
variable {r : Reach} {b0 : Nat} {v : Value} {d : DataW H} {p : List MemPlace}
set_option maxRecDepth 100000 in
theorem arg_pls (hv : Value.okWide Tryd.prog W r b0 22 v) (h : DataW.Trod enc Tryd.prog W 0 (fun _ => true) held 22 v d p) (hs : Small 22 d) : ∃ (A : Option Addr) (c : Nat) (ls : List (List P2)), v = .slice A ls.length c ∧ PlA W A ls := by
  obtain ⟨a0, l0, c0, rfl⟩ := okWide_slice Tryd.underlying22 hv
  obtain ⟨fuel, hf⟩ := h
  obtain ⟨A, c, k, e, hq⟩ := open_pls hf hs
  exact ⟨A, c, k, by simpa [Value.cells] using e, hq⟩
set_option maxRecDepth 100000 in
theorem arg_bools (hv : Value.okWide Tryd.prog W r b0 23 v) (h : DataW.Trod enc Tryd.prog W 0 (fun _ => true) held 23 v d p) (hs : Small 23 d) : ∃ (A : Option Addr) (c : Nat) (ob : List Bool), v = .slice A ob.length c ∧ BoR W A ob ∧ ob.length ≤ 140737488351232 := by
  obtain ⟨a0, l0, c0, rfl⟩ := okWide_slice Tryd.underlying23 hv
  obtain ⟨fuel, hf⟩ := h
  rcases open_bools Tryd.underlying23 Tryd.underlying4 cellsBool hf with ⟨e, _⟩ | ⟨a, len, cap, B, e, hb, hl, hm, hx, hc⟩
  · exact ⟨none, 0, [], by simpa [Value.cells] using e, Reads.none_, by simp⟩
  · refine ⟨some a, cap, (List.range len).map B, by simpa [Value.cells] using e, ⟨by simp, fun h0 => ⟨a, rfl, ?_, fun j u hu => ?_⟩⟩, ?_⟩
    · simp only [List.length_map, List.length_range] at h0
      exact World.block_lt_of_cell? W (a.add 0) (hc 0 (by omega))
    · rw [List.map_map, List.getElem?_map] at hu
      by_cases hj : j < len
      · rw [List.getElem?_range hj] at hu
        simp only [Option.map_some, Option.some.injEq] at hu
        rw [← hu]
        exact hc j (by omega)
      · rw [List.getElem?_eq_none (by simpa using hj)] at hu
        cases hu
    · have hd : d = boolRow (some a) len cap B := congrArg Prod.fst hx
      rw [hd] at hs
      have hsl := Small.len (l := (List.range len).map fun i => .lit (.bool (B i))) Tryd.underlying23 hs
      rw [bytesBool] at hsl
      simp only [List.length_map, List.length_range] at hsl ⊢
      have hreach : reachBytes = 140737488351232 := rfl
      omega
set_option maxRecDepth 100000 in
theorem arg_ints (hv : Value.okWide Tryd.prog W r b0 33 v) (h : DataW.Trod enc Tryd.prog W 0 (fun _ => true) held 33 v d p) (hs : Small 33 d) : ∃ (A : Option Addr) (c : Nat) (zs : List Int), v = .slice A zs.length c ∧ InR W A zs ∧ zs.length ≤ 140737488351232 ∧ ∀ z ∈ zs, in64 z := by
  obtain ⟨a0, l0, c0, rfl⟩ := okWide_slice Tryd.underlying33 hv
  obtain ⟨fuel, hf⟩ := h
  rcases open_ints Tryd.underlying33 Tryd.underlying3 cells1 hf with ⟨e, _⟩ | ⟨a, len, cap, zs, e, hb, hl, hm, hz, hx, hc, hw⟩
  · exact ⟨none, 0, [], by simpa [Value.cells] using e, Reads.none_, by simp, fun _ h => by simp at h⟩
  · simp only [if_true] at hz
    have hlen : (zs.take len).length = len := by rw [List.length_take]; omega
    refine ⟨some a, cap, zs.take len, by rw [hlen]; simpa [Value.cells] using e, ⟨by simp, fun h0 => ⟨a, rfl, ?_, fun j u hu => ?_⟩⟩, ?_, fun z hz2 => bounds64 (hw z (List.mem_of_mem_take hz2))⟩
    · rw [hlen] at h0
      exact World.block_lt_of_cell? W (a.add 0) (hc 0 (by omega))
    · have hj := (List.getElem?_eq_some_iff.1 hu).1
      rw [List.length_map, hlen] at hj
      rw [List.getElem?_map, List.getElem?_take_of_lt hj, List.getElem?_eq_getElem (by omega)] at hu
      simp only [Option.map_some, Option.some.injEq] at hu
      rw [hc j (by omega), List.getD_eq_getElem?_getD, List.getElem?_eq_getElem (by omega), ← hu]
      rfl
    · have hd : d = .slice (lits .i64 (zs.take len)) (lits .i64 (zs.drop len)) := congrArg Prod.fst hx
      rw [hd] at hs
      have hsl := Small.len Tryd.underlying33 hs
      rw [bytesInt] at hsl
      simp only [lits, List.length_map] at hsl
      have hreach : reachBytes = 140737488351232 := rfl
      rw [hlen] at hsl ⊢
      omega
theorem agg_of {t : TypeId} {fs : Array Field} (hu : Tryd.prog.underlying t = some (.struct fs)) (hv : Value.okWide Tryd.prog W r b0 t v) : ∃ cs, v = .agg cs := by
  unfold Value.okWide at hv
  rw [hu] at hv
  obtain ⟨cs, rfl, _⟩ := hv
  exact ⟨cs, rfl⟩
set_option maxRecDepth 100000 in
theorem arg_pt (hv : Value.okWide Tryd.prog W r b0 30 v) (h : DataW.Trod enc Tryd.prog W 0 (fun _ => true) held 30 v d p) : ∃ x : P2, v = .agg #[.int .i64 x.1, .int .i64 x.2] ∧ in64 x.1 ∧ in64 x.2 := by
  obtain ⟨cs, rfl⟩ := agg_of Tryd.underlying30 hv
  obtain ⟨fuel, hf⟩ := h
  obtain ⟨q, e, h1, h2⟩ := open_pt hf
  refine ⟨q, ?_, h1, h2⟩
  have e : cs.toList = pt q := e
  have e2 : cs = (pt q).toArray := by rw [← e]
  rw [e2]
  rfl
end
end Go.Proofs.YtflopcogalknhaaDoor.Str
