/-
  Layer 36's laws: calls that came in.
-/
import Derived.Test.YtkdokipgakncjaaCacOne
import Derived.Deep.Slices
import Derived.Deep.Fields
import Derived.ChangeSame
import Derived.SizedLaws
namespace Go.Proofs.Ytkdokipgakncjaa.Cac
open Go.RowKit Go.Proofs.Ytkdokipgakncjaa
open Go.ChangeShapes Go.WideShapes Go.Deep

theorem add_of_add (a : Addr) (i j : Nat) : (a.add i).add j = a.add (i + j) := by
  unfold Addr.add
  by_cases hi : i = 0 <;> by_cases hj : j = 0 <;> simp [hi, hj, Nat.add_assoc]
theorem cells1 : Try.prog.cellsOf 3 = 1 := by kernel_rfl
theorem cellsKey : Try.prog.cellsOf 29 = 5 := by kernel_rfl
theorem cellsPix : Try.prog.cellsOf 63 = 4 := by kernel_rfl
theorem cellsImg : Try.prog.cellsOf 32 = 3 := by kernel_rfl
theorem cellsCall : Try.prog.cellsOf 34 = 10 := by kernel_rfl
theorem cellsPS : Try.prog.cellsOf 30 = 1 := by kernel_rfl
theorem bytesPix : Try.prog.bytesOf 63 = 32 := by kernel_rfl
theorem bytesCall : Try.prog.bytesOf 34 = 96 := by kernel_rfl
theorem bounds64 {n : Int} (h : (Lit.int .i64 n).wf = true) : in64 n := by
  simp only [Lit.wf, Bool.and_eq_true, decide_eq_true_eq] at h
  have e1 : IntKind.i64.min = -9223372036854775808 := by rfl
  have e2 : IntKind.i64.max = 9223372036854775807 := by rfl
  rw [e1, e2] at h
  exact h
/-- All that is read through a datum is within the reach. -/
def Small {H : Type} (t : TypeId) (d : DataW H) : Prop := ∀ n ∈ d.weights Try.prog t, n ≤ reachBytes
theorem Small.elem {H : Type} {t e : TypeId} {l r : List (DataW H)} (hu : Try.prog.underlying t = some (.slice e)) (h : Small t (.slice l r)) {d : DataW H} (hd : d ∈ l) : Small e d := fun n hn => h n (by
  have key : ∀ l : List (DataW H), d ∈ l → n ∈ DataW.weightsAll Try.prog e l := fun l => by
    induction l with
    | nil => intro h; cases h
    | cons a l ih =>
      intro h
      simp only [DataW.weightsAll, List.mem_append]
      rcases List.mem_cons.1 h with rfl | h
      · exact .inl hn
      · exact .inr (ih h)
  simp only [DataW.weights, hu, List.mem_cons, List.mem_append]
  exact .inr (.inl (key l hd)))
theorem Small.len {H : Type} {t e : TypeId} {l r : List (DataW H)} (hu : Try.prog.underlying t = some (.slice e)) (h : Small t (.slice l r)) : (l.length + r.length) * Try.prog.bytesOf e ≤ reachBytes := h _ (by simp [DataW.weights, hu])
theorem Small.part {H : Type} {t : TypeId} {fs : Array Field} {ps : List (DataW H)} (hu : Try.prog.underlying t = some (.struct fs)) (h : Small t (.agg ps)) {j : Nat} {f : Field} {d : DataW H} (hf : fs[j]? = some f) (hd : ps[j]? = some d) : Small f.type d := fun n hn => h n (by
  simp only [DataW.weights, hu]
  exact DataW.weights_mem_each (j := j) (t := f.type) (by simp [hf]) hd n hn)

section
variable {H : Type} {enc : TypeId × Value → H} {W : World} {base : Nat} {sp : Nat → Bool} {held : Bool}
theorem open_key {fuel : Nat} {cs : List Value} {x : DataW H × List MemPlace} (h : DataW.trod enc Try.prog W base sp held fuel 29 cs = some x) : ∃ k : K5, cs = kc k ∧ K5ok k := by
  obtain ⟨ys, n, _, _, hlen, hyl, hf⟩ := DataW.trod_struct Try.underlying29 h
  rw [cellsKey] at hlen
  match cs, hlen with
  | [c0, c1, c2, c3, c4], _ =>
    have hyl5 : ys.length = 5 := hyl
    match ys, hyl5 with
    | [y0, y1, y2, y3, y4], _ =>
      obtain ⟨k0, e0, _, w0⟩ := DataW.trod_int (cs := [c0]) Try.underlying3 (by simpa [cells1] using hf 0 _ rfl)
      obtain ⟨k1, e1, _, w1⟩ := DataW.trod_int (cs := [c1]) Try.underlying3 (by simpa [cells1] using hf 1 _ rfl)
      obtain ⟨k2, e2, _, w2⟩ := DataW.trod_int (cs := [c2]) Try.underlying3 (by simpa [cells1] using hf 2 _ rfl)
      obtain ⟨k3, e3, _, w3⟩ := DataW.trod_int (cs := [c3]) Try.underlying3 (by simpa [cells1] using hf 3 _ rfl)
      obtain ⟨k4, e4, _, w4⟩ := DataW.trod_int (cs := [c4]) Try.underlying3 (by simpa [cells1] using hf 4 _ rfl)
      simp only [List.cons.injEq, and_true] at e0 e1 e2 e3 e4
      subst e0 e1 e2 e3 e4
      exact ⟨(k0, k1, k2, k3, k4), rfl, bounds64 w0, bounds64 w1, bounds64 w2, bounds64 w3, bounds64 w4⟩
theorem open_pix {fuel : Nat} {cs : List Value} {x : DataW H × List MemPlace} (h : DataW.trod enc Try.prog W base sp held fuel 63 cs = some x) : ∃ k : P4, cs = pc k := by
  obtain ⟨ys, n, _, _, hlen, hyl, hf⟩ := DataW.trod_struct Try.underlying63 h
  rw [cellsPix] at hlen
  match cs, hlen with
  | [c0, c1, c2, c3], _ =>
    have hyl5 : ys.length = 4 := hyl
    match ys, hyl5 with
    | [y0, y1, y2, y3], _ =>
      obtain ⟨k0, e0, _, w0⟩ := DataW.trod_int (cs := [c0]) Try.underlying3 (by simpa [cells1] using hf 0 _ rfl)
      obtain ⟨k1, e1, _, w1⟩ := DataW.trod_int (cs := [c1]) Try.underlying3 (by simpa [cells1] using hf 1 _ rfl)
      obtain ⟨k2, e2, _, w2⟩ := DataW.trod_int (cs := [c2]) Try.underlying3 (by simpa [cells1] using hf 2 _ rfl)
      obtain ⟨k3, e3, _, w3⟩ := DataW.trod_int (cs := [c3]) Try.underlying3 (by simpa [cells1] using hf 3 _ rfl)
      simp only [List.cons.injEq, and_true] at e0 e1 e2 e3
      subst e0 e1 e2 e3
      exact ⟨(k0, k1, k2, k3), rfl⟩
theorem pcs_get (f : Nat → P4) : ∀ (n j : Nat) (u : Value), (pcs ((List.range n).map f))[j]? = some u → j / 4 < n ∧ (pc (f (j / 4)))[j % 4]? = some u := fun n j u h => by
  have hl := (List.getElem?_eq_some_iff.1 h).1
  rw [pcs_len, List.length_map, List.length_range] at hl
  have hj : j / 4 < n := by omega
  refine ⟨hj, ?_⟩
  have := pcs_at ((List.range n).map f) (j / 4) (by simpa using hj) (j % 4) (by omega)
  rw [show j / 4 * 4 + j % 4 = j by omega, h] at this
  simpa using this.symm
theorem open_pixels {fuel : Nat} {cs : List Value} {x : DataW H × List MemPlace} (h : DataW.trod enc Try.prog W base (fun _ => true) held fuel 30 cs = some x) (hs : Small 30 x.1) :
    ∃ (A : Option Addr) (c : Nat) (px : List P4), cs = [.slice A px.length c] ∧ Reads W W.heap.size 4 A px.length (pcs px) ∧ (A = none → c = 0) ∧ px.length ≤ 4398046511104 := by
  rcases open_slice Try.underlying30 h with ⟨rfl, rfl⟩ | ⟨a, len, cap, m, n, D, Pl, rfl, hb, hl, hm, hmm, rfl, hi⟩
  · exact ⟨none, 0, [], rfl, Reads.none_, fun _ => rfl, by simp⟩
  · have hmm2 : m = cap := by simpa using hmm
    subst hmm2
    have hex : ∀ i, ∃ k : P4, i < len → ∀ j u, (pc k)[j]? = some u → W.cell? ((a.add (i * 4)).add j) = some u := fun i => by
      by_cases hlt : i < len
      · obtain ⟨cs', hc, ht⟩ := hi i (by omega)
        obtain ⟨k, rfl⟩ := open_pix ht
        rw [cellsPix] at hc
        obtain ⟨_, _, hat⟩ := World.cells?_some hc
        exact ⟨k, fun _ j u hu => (hat j (by have := (List.getElem?_eq_some_iff.1 hu).1; rw [pc_len] at this; exact this)).trans hu⟩
      · exact ⟨(0, 0, 0, 0), fun h => absurd h hlt⟩
    have hsl := hs.len Try.underlying30
    rw [bytesPix] at hsl
    simp only [List.length_map, List.length_range] at hsl
    have hreach : reachBytes = 140737488351232 := rfl
    refine ⟨some a, m, (List.range len).map fun i => Classical.choose (hex i), by simp, ⟨by rw [pcs_len], fun h0 => ⟨a, rfl, ?_, fun j u hu => ?_⟩⟩, (fun e => by cases e), by simp; omega⟩
    · simp only [List.length_map, List.length_range] at h0
      have := Classical.choose_spec (hex 0) h0 0 _ rfl
      exact World.block_lt_of_cell? W ((a.add (0 * 4)).add 0) this
    · obtain ⟨h1, h2⟩ := pcs_get _ _ _ _ hu
      have := Classical.choose_spec (hex (j / 4)) h1 (j % 4) u h2
      rw [add_of_add, show j / 4 * 4 + j % 4 = j by omega] at this
      exact this
theorem open_img {fuel : Nat} {cs : List Value} {x : DataW H × List MemPlace} (h : DataW.trod enc Try.prog W base (fun _ => true) held fuel 32 cs = some x) (hs : Small 32 x.1) :
    ∃ (i : Img) (r : Value), cs = [.int .i64 i.W, .int .i64 i.H, r] ∧ ImgR W W.heap.size (.agg #[.int .i64 i.W, .int .i64 i.H, r]) i ∧ i.px.length ≤ 4398046511104 := by
  obtain ⟨ys, n, _, hx, hlen, hyl, hf⟩ := DataW.trod_struct Try.underlying32 h
  rw [cellsImg] at hlen
  match cs, hlen with
  | [c0, c1, c2], _ =>
    have hyl5 : ys.length = 3 := hyl
    match ys, hyl5 with
    | [y0, y1, y2], _ =>
      obtain ⟨k0, e0, _, w0⟩ := DataW.trod_int (cs := [c0]) Try.underlying3 (by simpa [cells1] using hf 0 _ rfl)
      obtain ⟨k1, e1, _, w1⟩ := DataW.trod_int (cs := [c1]) Try.underlying3 (by simpa [cells1] using hf 1 _ rfl)
      subst hx
      have hs2 : Small 30 y2.1 := hs.part Try.underlying32 (j := 2) rfl rfl
      obtain ⟨A, c, px, e2, hr, hA, hl⟩ := open_pixels (cs := [c2]) (by simpa [cellsPS] using hf 2 _ rfl) hs2
      simp only [List.cons.injEq, and_true] at e0 e1 e2
      subst e0 e1 e2
      exact ⟨⟨k0, k1, px⟩, _, rfl, ⟨A, c, rfl, hr, hA⟩, hl⟩
/-- The ten cells of a call. -/
def xcs (x : CallV) (r : Value) : List Value := [.int .i64 x.kind, .int .i64 x.n, .int .i64 x.k.1, .int .i64 x.k.2.1, .int .i64 x.k.2.2.1, .int .i64 x.k.2.2.2.1, .int .i64 x.k.2.2.2.2, .int .i64 x.i.W, .int .i64 x.i.H, r]
theorem open_call {fuel : Nat} {cs : List Value} {x : DataW H × List MemPlace} (h : DataW.trod enc Try.prog W base (fun _ => true) held fuel 34 cs = some x) (hs : Small 34 x.1) :
    ∃ (c : CallV) (r : Value), cs = xcs c r ∧ CallR W W.heap.size r c ∧ in64 c.kind ∧ in64 c.n := by
  obtain ⟨ys, n, _, hx, hlen, hyl, hf⟩ := DataW.trod_struct Try.underlying34 h
  rw [cellsCall] at hlen
  match cs, hlen with
  | [c0, c1, c2, c3, c4, c5, c6, c7, c8, c9], _ =>
    have hyl5 : ys.length = 4 := hyl
    match ys, hyl5 with
    | [y0, y1, y2, y3], _ =>
      obtain ⟨k0, e0, _, w0⟩ := DataW.trod_int (cs := [c0]) Try.underlying3 (by simpa [cells1] using hf 0 _ rfl)
      obtain ⟨k1, e1, _, w1⟩ := DataW.trod_int (cs := [c1]) Try.underlying3 (by simpa [cells1] using hf 1 _ rfl)
      obtain ⟨k, e2, hk⟩ := open_key (cs := [c2, c3, c4, c5, c6]) (by simpa [cellsKey] using hf 2 _ rfl)
      subst hx
      have hs2 : Small 32 y3.1 := hs.part Try.underlying34 (j := 3) rfl rfl
      obtain ⟨i, r, e3, hI, hl⟩ := open_img (cs := [c7, c8, c9]) (by simpa [cellsImg] using hf 3 _ rfl) hs2
      simp only [kc, List.cons.injEq, and_true] at e0 e1 e2 e3
      obtain ⟨rfl, rfl, rfl, rfl, rfl⟩ := e2
      obtain ⟨rfl, rfl, rfl⟩ := e3
      subst e0 e1
      exact ⟨⟨k0, k1, k, i⟩, c9, rfl, ⟨hI, hk, hl⟩, bounds64 w0, bounds64 w1⟩
/-- Calls that came in. -/
def Calls_ (w : World) (B : Nat) (A : Option Addr) (n : Nat) (f : Nat → CallV × Value) : Prop :=
  0 < n → ∃ ad, A = some ad ∧ ad.block < B ∧ ∀ i, i < n → (∀ j u, (xcs (f i).1 (f i).2)[j]? = some u → w.cell? ((ad.add (i * 10)).add j) = some u) ∧ CallR w B (f i).2 (f i).1 ∧ in64 (f i).1.kind ∧ in64 (f i).1.n
theorem open_calls {r : Reach} {b0 : Nat} {v : Value} {d : DataW H} {p : List MemPlace} (hv : Value.okWide Try.prog W r b0 22 v) (h : DataW.Trod enc Try.prog W 0 (fun _ => true) held 22 v d p) (hs : Small 22 d) :
    ∃ (A : Option Addr) (n c : Nat) (f : Nat → CallV × Value), v = .slice A n c ∧ Calls_ W W.heap.size A n f ∧ n ≤ 1759218604441 := by
  obtain ⟨a0, len0, cap0, rfl⟩ := okWide_slice Try.underlying22 hv
  obtain ⟨fuel, hf⟩ := h
  rcases open_slice Try.underlying22 hf with ⟨e, he⟩ | ⟨a, len, cap, m, n, D, Pl, e, hb, hl, hm, hmm, he, hi⟩
  · have : Value.slice a0 len0 cap0 = .slice none 0 0 := by simpa [Value.cells] using e
    exact ⟨none, 0, 0, fun _ => (⟨0, 0, (0, 0, 0, 0, 0), img0⟩, .int .i64 0), this, fun h => absurd h (by omega), by omega⟩
  · have hv2 : Value.slice a0 len0 cap0 = .slice (some a) len cap := by simpa [Value.cells] using e
    injection hv2 with ha hl0 hc0
    subst ha hl0 hc0
    have hmm2 : m = cap0 := by simpa using hmm
    subst hmm2
    simp only [Prod.mk.injEq] at he
    obtain ⟨rfl, _⟩ := he
    have hex : ∀ i, ∃ z : CallV × Value, i < len0 → (∀ j u, (xcs z.1 z.2)[j]? = some u → W.cell? ((a.add (i * 10)).add j) = some u) ∧ CallR W W.heap.size z.2 z.1 ∧ in64 z.1.kind ∧ in64 z.1.n := fun i => by
      by_cases hlt : i < len0
      · obtain ⟨cs', hc, ht⟩ := hi i (by omega)
        obtain ⟨c, r, rfl, h1, h2, h3⟩ := open_call ht (hs.elem Try.underlying22 (List.mem_map.2 ⟨i, List.mem_range.2 hlt, rfl⟩))
        rw [cellsCall] at hc
        obtain ⟨_, _, hat⟩ := World.cells?_some hc
        exact ⟨(c, r), fun _ => ⟨fun j u hu => (hat j ((List.getElem?_eq_some_iff.1 hu).1)).trans hu, h1, h2, h3⟩⟩
      · exact ⟨(⟨0, 0, (0, 0, 0, 0, 0), img0⟩, .int .i64 0), fun h => absurd h hlt⟩
    have hsl := hs.len Try.underlying22
    rw [bytesCall] at hsl
    simp only [List.length_map, List.length_range] at hsl
    have hreach : reachBytes = 140737488351232 := rfl
    refine ⟨some a, len0, m, fun i => Classical.choose (hex i), rfl, fun h0 => ⟨a, rfl, ?_, fun i hi => Classical.choose_spec (hex i) hi⟩, by omega⟩
    have := (Classical.choose_spec (hex 0) h0).1 0 _ rfl
    exact World.block_lt_of_cell? W ((a.add (0 * 10)).add 0) this
end

end Go.Proofs.Ytkdokipgakncjaa.Cac
