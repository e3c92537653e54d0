/-
  A slice of structs of two integers that came in: it reads as a list of pairs.
-/
import Derived.Test.YtmnlijeflcedcaaFrame
import Derived.Deep.SlicePairs
namespace Go.Proofs.Ytmnlijeflcedcaa
open Go.ChangeShapes Go.WideShapes Go.ChangeAt Go.RowKit Go.Deep

def pairCells (ps : List (Int × Int)) : List Value := ps.flatMap fun p => [.int .i64 p.1, .int .i64 p.2]
theorem pairCells_length (ps : List (Int × Int)) : (pairCells ps).length = ps.length * 2 := by
  induction ps with
  | nil => rfl
  | cons p ps ih =>
    simp only [pairCells, List.flatMap_cons, List.length_append, List.length_cons, List.length_nil] at ih ⊢
    omega
theorem pairCells_at (ps : List (Int × Int)) : ∀ k (h : k < ps.length), (pairCells ps)[2 * k]? = some (.int .i64 ps[k].1) ∧ (pairCells ps)[2 * k + 1]? = some (.int .i64 ps[k].2) := by
  induction ps with
  | nil => intro k h; simp at h
  | cons p ps ih =>
    intro k h
    cases k with
    | zero => simp [pairCells]
    | succ k =>
      have := ih k (by simpa using h)
      simp only [pairCells, List.flatMap_cons, List.getElem_cons_succ] at this ⊢
      rw [show 2 * (k + 1) = 2 * k + 1 + 1 by omega]
      simpa using this

theorem pair_next (ad : Addr) (k : Nat) : (⟨(ad.add (k * 2)).block, (ad.add (k * 2)).off + 1, none⟩ : Addr) = ad.add (2 * k + 1) := by
  unfold Addr.add
  by_cases h0 : k * 2 = 0
  · have : k = 0 := by omega
    subst this
    simp
  · simp [h0]
    omega

/-- The two cells of an element, at the addresses that the walk reckons. -/
theorem Reads.pair {w : World} {B : Nat} {A : Option Addr} {ps : List (Int × Int)} (h : Reads w B 2 A ps.length (pairCells ps)) {k : Nat} (hk : k < ps.length) :
    ∃ ad, A = some ad ∧ ad.block < B ∧ w.cell? (ad.add (k * 2)) = some (.int .i64 ps[k].1) ∧ w.cell? ⟨(ad.add (k * 2)).block, (ad.add (k * 2)).off + 1, none⟩ = some (.int .i64 ps[k].2) := by
  obtain ⟨ad, e, hb, hc⟩ := h.2 (by omega)
  obtain ⟨h1, h2⟩ := pairCells_at ps k hk
  refine ⟨ad, e, hb, ?_, ?_⟩
  · rw [Nat.mul_comm k 2]
    exact hc _ _ h1
  · rw [pair_next]
    exact hc _ _ h2

theorem bulk_all_ge {H : Type} (l : List (DataW H)) : l.length ≤ Rows.uptoBulkAll l := by
  induction l with
  | nil => simp
  | cons d l ih =>
    have : 1 ≤ Rows.uptoBulk d := by
      unfold Rows.uptoBulk
      split <;> omega
    simp only [Rows.uptoBulkAll, List.length_cons]
    omega

theorem reads_pairs {H : Type} {enc : TypeId × Value → H} {P : Program} {w : World} {t e : TypeId} {f0 f1 : Field} {fuel : Nat} {v : Value} {x : DataW H × List MemPlace} (ht : P.underlying t = some (.slice e)) (he : P.underlying e = some (.struct #[f0, f1]))
    (ce : P.cellsOf e = 2) (o0 : f0.offset = 0) (o1 : f1.offset = 1) (c0 : P.cellsOf f0.type = 1) (c1 : P.cellsOf f1.type = 1) (k0 : P.underlying f0.type = some (.int .i64)) (k1 : P.underlying f1.type = some (.int .i64))
    (h : DataW.trod enc P w 0 (fun _ => true) true fuel t [v] = some x) :
    ∃ (A : Option Addr) (cap : Nat) (ps : List (Int × Int)), v = .slice A ps.length cap ∧ ps.length ≤ cap ∧ Reads w w.heap.size 2 A ps.length (pairCells ps) ∧ (∀ p ∈ ps, (-9223372036854775808 ≤ p.1 ∧ p.1 ≤ 9223372036854775807) ∧ -9223372036854775808 ≤ p.2 ∧ p.2 ≤ 9223372036854775807) ∧ ps.length ≤ Rows.uptoBulk x.1 := by
  rcases open_slice_pairs ht he ce o0 o1 c0 c1 h with ⟨hcs, hx⟩ | ⟨a, len, cap, m, n, V0, V1, D0, D1, P0, P1, hcs, _, hl, hm, hmm, hx, hcell⟩
  · cases hcs
    exact ⟨none, 0, [], rfl, Nat.le_refl _, Reads.none_, by simp, by simp⟩
  · cases hcs
    simp only [if_true] at hmm
    subst hmm
    have hz : ∀ i, i < m → V0 i = .int .i64 (intOf (V0 i)) ∧ V1 i = .int .i64 (intOf (V1 i)) ∧ (-9223372036854775808 ≤ intOf (V0 i) ∧ intOf (V0 i) ≤ 9223372036854775807) ∧ -9223372036854775808 ≤ intOf (V1 i) ∧ intOf (V1 i) ≤ 9223372036854775807 := by
      intro i hi
      obtain ⟨_, _, t0, t1⟩ := hcell i hi
      obtain ⟨z0, e0, _, w0⟩ := DataW.trod_int k0 t0
      obtain ⟨z1, e1, _, w1⟩ := DataW.trod_int k1 t1
      simp only [List.cons.injEq, and_true] at e0 e1
      rw [e0, e1]
      exact ⟨rfl, rfl, bounds_i64 w0, bounds_i64 w1⟩
    have hlen : ((List.range len).map fun i => (intOf (V0 i), intOf (V1 i))).length = len := by simp
    refine ⟨some a, m, (List.range len).map fun i => (intOf (V0 i), intOf (V1 i)), by rw [hlen], by rw [hlen]; exact hl, ⟨pairCells_length _, fun hn => ⟨a, rfl, ?_, fun j u hu => ?_⟩⟩, ?_, ?_⟩
    · rw [hlen] at hn
      have h0 := (hcell 0 (by omega)).1
      have := World.block_lt_of_cell? w _ h0
      rwa [block_of_add] at this
    · have hj : j < (pairCells ((List.range len).map fun i => (intOf (V0 i), intOf (V1 i)))).length := (List.getElem?_eq_some_iff.1 hu).1
      rw [pairCells_length, hlen] at hj
      have hp := pairCells_at ((List.range len).map fun i => (intOf (V0 i), intOf (V1 i))) (j / 2) (by rw [hlen]; omega)
      have hc := hcell (j / 2) (by omega)
      have hv := hz (j / 2) (by omega)
      rcases Nat.mod_two_eq_zero_or_one j with hm2 | hm2
      · have ej : 2 * (j / 2) = j := by omega
        rw [ej] at hp
        have := hp.1.symm.trans hu
        have ej2 : j / 2 * 2 = j := by omega
        rw [ej2, hv.1] at hc
        rw [hc.1]
        simpa using this
      · have ej : 2 * (j / 2) + 1 = j := by omega
        rw [ej] at hp
        have := hp.2.symm.trans hu
        have ej2 : j / 2 * 2 + 1 = j := by omega
        rw [ej2, hv.2.1] at hc
        rw [hc.2.1]
        simpa using this
    · intro p hp
      simp only [List.mem_map, List.mem_range] at hp
      obtain ⟨i, hi, rfl⟩ := hp
      exact (hz i (by omega)).2.2
    · rw [hx, hlen]
      simp only [Rows.uptoBulk]
      have := bulk_all_ge ((List.range len).map fun i => DataW.agg [D0 i, D1 i])
      simp at this
      omega

end Go.Proofs.Ytmnlijeflcedcaa
