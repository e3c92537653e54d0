/-
  Layer 44's laws: a tale that came in.
-/
import Derived.Test.YtelacdaehmfcaaaJouWr
import Derived.Deep.Slices
import Derived.Deep.Fields
import Derived.ChangeSame
namespace Go.Proofs.Ytelacdaehmfcaaa.JouL
open Go.RowKit Go.Proofs.Ytelacdaehmfcaaa Go.Proofs.Ytelacdaehmfcaaa.WirePure Go.Proofs.Ytelacdaehmfcaaa.DigPure Go.Proofs.Ytelacdaehmfcaaa.JouPure Go.Proofs.Ytelacdaehmfcaaa.JouC
open Go.ChangeShapes Go.WideShapes Go.ChangeAt Go.Joins Go.Deep

section
variable {H : Type} {enc : TypeId × Value → H} {P : Program} {w : World} {base : Nat} {spare : Nat → Bool} {held : Bool}
theorem open_slice_fields {t e : TypeId} {fs : Array Field} {fuel : Nat} {cs : List Value} {x : DataW H × List MemPlace} (ht : P.underlying t = some (.slice e)) (he : P.underlying e = some (.struct fs))
    (hone : oneCellFields P fs = true) (hC : P.cellsOf e = fs.size) (h : DataW.trod enc P w base spare held fuel t cs = some x) :
    (cs = [.slice none 0 0] ∧ x = (.nil, [])) ∨
    ∃ (a : Addr) (len cap m : Nat) (D : Nat → DataW H) (Pl : Nat → List MemPlace), cs = [.slice (some a) len cap] ∧ base ≤ a.block ∧ len ≤ cap ∧ cap ≤ maxLen ∧ m = (if spare a.block then cap else len) ∧
      x = (.slice ((List.range len).map D) ((List.range (m - len)).map fun j => D (len + j)), MemPlace.row a (m * fs.size) ++ (List.range m).flatMap Pl) ∧
      ∀ i, i < m → ∃ (ys : List (DataW H × List MemPlace)) (n : Nat), D i = .agg (ys.map (·.1)) ∧ Pl i = ys.flatMap (·.2) ∧ ys.length = fs.size ∧
        ∀ (j : Nat) (f : Field), fs[j]? = some f → ∃ (v : Value) (y : DataW H × List MemPlace), w.cell? (a.add (i * fs.size + j)) = some v ∧ ys[j]? = some y ∧ DataW.trod enc P w base spare held n f.type [v] = some y := by
  rcases open_slice ht h with h0 | ⟨a, len, cap, m, n, D, Pl, hcs, hb, hl, hm, hmm, hx, hi⟩
  · exact .inl h0
  · refine .inr ⟨a, len, cap, m, D, Pl, hcs, hb, hl, hm, hmm, by rw [hC] at hx; exact hx, fun i him => ?_⟩
    obtain ⟨cs', hc, ht'⟩ := hi i him
    rw [hC] at hc
    obtain ⟨ys, n', hn', hy, hlen, hyl, hf⟩ := DataW.trod_struct he ht'
    obtain ⟨_, hcl, hat⟩ := World.cells?_some hc
    simp only [Prod.mk.injEq] at hy
    refine ⟨ys, n', hy.1, hy.2, hyl, fun j f hj => ?_⟩
    obtain ⟨ho, hk⟩ := hone_of hone j f hj
    have hjl : j < fs.size := (Array.getElem?_eq_some_iff.1 hj).1
    have hcell := hat j hjl
    have hv : cs'[j]? = some (cs'[j]'(by omega)) := List.getElem?_eq_getElem (by omega)
    have h1 := hf j f hj
    rw [ho, hk] at h1
    have hone' : (cs'.drop j).take 1 = [cs'[j]'(by omega)] := by
      rw [List.drop_eq_getElem_cons (by omega)]
      rfl
    rw [hone'] at h1
    have hys : ys[j]? = some (ys[j]'(by omega)) := List.getElem?_eq_getElem (by omega)
    refine ⟨_, _, ?_, hys, h1.trans hys⟩
    rw [← Go.Deep.add_add, hcell, hv]
end

theorem bulk_pos {H : Type} (d : DataW H) : 1 ≤ Rows.uptoBulk d := by
  cases d with
  | lit l => cases l <;> simp [Rows.uptoBulk]
  | _ => simp [Rows.uptoBulk]
theorem bulk_mem {H : Type} (l : List (DataW H)) : l.length ≤ Rows.uptoBulkAll l ∧ ∀ d ∈ l, Rows.uptoBulk d ≤ Rows.uptoBulkAll l := by
  induction l with
  | nil => simp
  | cons a l ih =>
    have := bulk_pos a
    simp only [Rows.uptoBulkAll, List.length_cons, List.mem_cons]
    refine ⟨by omega, fun d hd => ?_⟩
    rcases hd with rfl | hd
    · omega
    · have := ih.2 d hd; omega
theorem cellsTale : Try.prog.cellsOf 38 = 2 := by kernel_rfl
/-- A tale by value, opened. -/
theorem openTale {H : Type} {enc : TypeId × Value → H} {W : World} {r : Reach} {b0 : Nat} {v : Value} {d : DataW H} {p : List MemPlace} (hv : Value.okWide Try.prog W r b0 38 v) (h : DataW.Trod enc Try.prog W 0 (fun _ => true) true 38 v d p) (hk : Rows.uptoBulk d ≤ 1048576) :
    ∃ (g : Int) (A : Option Addr) (n c : Nat) (f : Nat → Int × Int × ByteArray), v = .agg #[.int .i64 g, .slice A n c] ∧ -9223372036854775808 ≤ g ∧ g ≤ 9223372036854775807 ∧ RDs W W.heap.size A n f ∧ inOk n f ∧ n ≤ c := by
  obtain ⟨c0, c1, y0, y1, m, rfl, rfl, rfl, hy0, hy1⟩ := open_agg2 Try.underlying38 (by kernel_rfl) cellsTale hv h
  obtain ⟨g, e0, rfl, w0⟩ := DataW.trod_int Try.underlying3 hy0
  simp only [List.cons.injEq, and_true] at e0
  subst e0
  have b0 := bounds_i64 w0
  rcases open_slice_fields Try.underlying32 Try.underlying23 (by kernel_rfl) cellsRec hy1 with ⟨e1, rfl⟩ | ⟨a, len, cap, mm, D, Pl, e1, hb, hl, hcap, hmm, rfl, hi⟩
  · simp only [List.cons.injEq, and_true] at e1
    subst e1
    exact ⟨g, none, 0, 0, fun _ => (0, 0, ⟨#[]⟩), rfl, b0.1, b0.2, fun h => absurd h (by decide), ⟨by decide, fun i h => absurd h (by omega)⟩, Nat.le_refl _⟩
  · simp only [List.cons.injEq, and_true] at e1
    subst e1
    have hmm2 : mm = cap := by simpa using hmm
    subst hmm2
    have hkk : len + Rows.uptoBulkAll ((List.range len).map D) ≤ 1048576 + len := by
      simp only [Rows.uptoBulk, Rows.uptoBulkAll] at hk
      omega
    have hbm := bulk_mem ((List.range len).map D)
    rw [List.length_map, List.length_range] at hbm
    have hex : ∀ i, ∃ z : Int × Int × ByteArray, i < len → (W.cell? (a.add (i * 3)) = some (.int .i64 z.1) ∧ W.cell? ((a.add (i * 3)).add 1) = some (.int .i64 z.2.1) ∧ W.cell? ((a.add (i * 3)).add 2) = some (.string z.2.2)) ∧ z.1 ≤ 9223372036854775807 ∧ z.2.2.size ≤ 1048576 := fun i => by
      by_cases hlt : i < len
      · obtain ⟨ys, n, hD, _, hys, hf⟩ := hi i (by omega)
        obtain ⟨v0, x0, hc0, hx0, ht0⟩ := hf 0 _ rfl
        obtain ⟨v1, x1, hc1, hx1, ht1⟩ := hf 1 _ rfl
        obtain ⟨v2, x2, hc2, hx2, ht2⟩ := hf 2 _ rfl
        obtain ⟨k, e0, rfl, w0⟩ := DataW.trod_int Try.underlying3 ht0
        obtain ⟨q, e1, rfl, w1⟩ := DataW.trod_int Try.underlying3 ht1
        obtain ⟨s, e2, rfl, w2⟩ := DataW.trod_string Try.underlying9 ht2
        simp only [List.cons.injEq, and_true] at e0 e1 e2
        subst e0 e1 e2
        have bk := bounds_i64 w0
        have hm := hbm.2 (D i) (List.mem_map.2 ⟨i, List.mem_range.2 hlt, rfl⟩)
        have hs := (bulk_mem (ys.map (·.1))).2 (.lit (.string s.data.toList)) (List.mem_map.2 ⟨_, List.mem_of_getElem? hx2, rfl⟩)
        rw [hD] at hm
        simp only [Rows.uptoBulk, cond_len] at hm hs
        exact ⟨(k, q, s), fun _ => ⟨⟨hc0, by rw [add_of_add]; exact hc1, by rw [add_of_add]; exact hc2⟩, bk.2, by simp only; omega⟩⟩
      · exact ⟨(0, 0, ⟨#[]⟩), fun h => absurd h hlt⟩
    refine ⟨g, some a, len, _, fun i => Classical.choose (hex i), rfl, b0.1, b0.2, fun h0 => ⟨a, rfl, ?_, fun i hi => (Classical.choose_spec (hex i) hi).1⟩, ⟨by omega, fun i hi => (Classical.choose_spec (hex i) hi).2⟩, hl⟩
    exact World.block_lt_of_cell? W (a.add (0 * 3)) (Classical.choose_spec (hex 0) h0).1.1

end Go.Proofs.Ytelacdaehmfcaaa.JouL
