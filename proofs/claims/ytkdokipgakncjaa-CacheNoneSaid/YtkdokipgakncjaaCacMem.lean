/-
  Layer 36: what a call leaves of memory; keys of a map.
-/
import Derived.Test.YtkdokipgakncjaaCacMod
import Derived.Test.YtkdokipgakncjaaCacDel
import Derived.Maps.OwnSet
import Derived.DeepKeys4
import Derived.Laws.StructEq
namespace Go.Proofs.Ytkdokipgakncjaa.Cac
open Go.RowKit Go.Proofs.Ytkdokipgakncjaa

/-- w' is w but for new blocks and the blocks on the list. -/
structure Tch (M : List Nat) (w w' : World) : Prop where
  os : w'.os = w.os
  tape : w'.tape = w.tape
  output : w'.output = w.output
  size : w.heap.size ≤ w'.heap.size
  block : ∀ k, k < w.heap.size → k ∉ M → w'.heap[k]? = w.heap[k]?
section
variable {w w' w1 : World} {M M' : List Nat}
theorem Tch.refl (M : List Nat) (w : World) : Tch M w w := ⟨rfl, rfl, rfl, Nat.le_refl _, fun _ _ _ => rfl⟩
theorem Tch.trans (h : Tch M w w1) (h' : Tch M' w1 w') (hm : ∀ k ∈ M', k ∈ M ∨ w.heap.size ≤ k) : Tch M w w' :=
  ⟨h'.os.trans h.os, h'.tape.trans h.tape, h'.output.trans h.output, Nat.le_trans h.size h'.size, fun k hk hn =>
    (h'.block k (Nat.lt_of_lt_of_le hk h.size) (fun e => by rcases hm k e with h1 | h1; exact hn h1; omega)).trans (h.block k hk hn)⟩
theorem Tch.mono (h : Tch M w w') (hm : ∀ k ∈ M, k ∈ M' ∨ w.heap.size ≤ k) : Tch M' w w' :=
  ⟨h.os, h.tape, h.output, h.size, fun k hk hn => h.block k hk (fun e => by rcases hm k e with h1 | h1; exact hn h1; omega)⟩
theorem Tch.drew (h : Tch M w w') : Tch M w w'.drew := ⟨h.os, h.tape, h.output, h.size, h.block⟩
theorem Tch.alloc (h : Tch M w w') (o : Obj) : Tch M w (w'.alloc o) :=
  ⟨h.os, h.tape, h.output, Nat.le_trans h.size (by simp), fun k hk hn => (Below.heap_alloc w' o k (Nat.lt_of_lt_of_le hk h.size)).trans (h.block k hk hn)⟩
theorem Tch.setCell (h : Tch M w w') {p : Addr} (hp : p.block ∈ M ∨ w.heap.size ≤ p.block) (u : Value) : Tch M w (w'.setCell p u) :=
  ⟨h.os, h.tape, h.output, by simpa [World.setCell] using h.size, fun k hk hn => (Below.heap_setCell w' p u k (fun e => by subst e; rcases hp with h1 | h1; exact hn h1; omega)).trans (h.block k hk hn)⟩
theorem Tch.grown {row : Option Nat} (h : Tch M w w1) (hg : w1.grownBy w' row) (hr : ∀ k, row = some k → k ∈ M ∨ w.heap.size ≤ k) : Tch M w w' :=
  ⟨hg.os.trans h.os, hg.tape.trans h.tape, hg.output.trans h.output, Nat.le_trans h.size hg.size, fun k hk hn =>
    (hg.block k (Nat.lt_of_lt_of_le hk h.size) (fun e => by rcases hr k e.symm with h1 | h1; exact hn h1; omega)).trans (h.block k hk hn)⟩
theorem Tch.below (h : Tch M w w1) (hb : Below w1.heap.size w1 w') : Tch M w w' :=
  ⟨hb.os.trans h.os, hb.tape.trans h.tape, hb.output.trans h.output, Nat.le_trans h.size hb.size, fun k hk hn => (hb.block k (Nat.lt_of_lt_of_le hk h.size)).trans (h.block k hk hn)⟩
theorem Tch.to_below {B : Nat} (h : Tch M w w') (hB : B ≤ w.heap.size) (hm : ∀ k ∈ M, B ≤ k) : Below B w w' :=
  ⟨h.os, h.tape, h.output, h.size, fun k hk => h.block k (by omega) (fun e => by have := hm k e; omega)⟩
theorem Tch.blk {g : Nat} {t : TypeId} {cs : Array Value} (h : Tch M w w') (hb : Blk w g t cs) (hg : g ∉ M) : Blk w' g t cs := (h.block g hb.lt hg).trans hb
theorem own_at {base e size n : Nat} {v : Value} {xs : List Value} (h : w.ownsRow base e size v n xs) (hk : ∀ k, v.ownBlock = some k → w'.heap[k]? = w.heap[k]?) : w'.ownsRow base e size v n xs := by
  refine ⟨h.1, ?_⟩
  rcases h.2 with h0 | ⟨g, cap, cur, rfl, hb, hh, r⟩
  · exact .inl h0
  · exact .inr ⟨g, cap, cur, rfl, hb, (hk g (by simp [Value.ownBlock])).trans hh, r⟩
theorem own_lt {base e size n : Nat} {v : Value} {xs : List Value} (h : w.ownsRow base e size v n xs) : ∀ k, v.ownBlock = some k → k < w.heap.size := fun k hk => by
  rcases h.2 with ⟨rfl, rfl⟩ | ⟨g, cap, cur, rfl, _, hh, _⟩
  · simp [Value.ownBlock] at hk
  · obtain rfl : g = k := by simpa [Value.ownBlock] using hk
    exact (Array.getElem?_eq_some_iff.1 hh).1
theorem own_low {base e size n : Nat} {v : Value} {xs : List Value} (h : w.ownsRow base e size v n xs) : ∀ k, v.ownBlock = some k → base ≤ k := fun k hk => by
  rcases h.2 with ⟨rfl, rfl⟩ | ⟨g, cap, cur, rfl, hb, hh, _⟩
  · simp [Value.ownBlock] at hk
  · obtain rfl : g = k := by simpa [Value.ownBlock] using hk
    exact hb
theorem Tch.own {base e size n : Nat} {v : Value} {xs : List Value} (h : Tch M w w') (ho : w.ownsRow base e size v n xs) (hk : ∀ k, v.ownBlock = some k → k ∉ M) : w'.ownsRow base e size v n xs :=
  own_at ho fun k e => h.block k (own_lt ho k e) (hk k e)
theorem map_at {H : Type} {P : Program} {k : TypeId} {R : Value → Option (DataW H × List MemPlace)} {b n : Nat} {D : DataW H} (h : w.ownsMap P k R b n D) (hb : w'.heap[b]? = w.heap[b]?) : w'.ownsMap P k R b n D := by
  obtain ⟨es, clock, h0, r⟩ := h
  exact ⟨es, clock, hb.trans h0, r⟩
theorem Tch.map {H : Type} {P : Program} {k : TypeId} {R : Value → Option (DataW H × List MemPlace)} {b n : Nat} {D : DataW H} (h : Tch M w w') (ho : w.ownsMap P k R b n D) (hb : b ∉ M) : w'.ownsMap P k R b n D :=
  map_at ho (h.block b ho.lt hb)
theorem blk_ne {g g' : Nat} {t t' : TypeId} {cs cs' : Array Value} (h : Blk w g t cs) (h' : Blk w g' t' cs') (hne : t ≠ t') : g ≠ g' := by
  rintro rfl; unfold Blk at h h'; rw [h] at h'; injection h' with h'; injection h' with _ ht; exact hne ht
theorem own_ne_blk {base g : Nat} {e t : TypeId} {size n : Nat} {v : Value} {xs : List Value} {cs : Array Value} (h : w.ownsRow base e size v n xs) (hg : Blk w g t cs) (hne : e ≠ t) : ∀ k, v.ownBlock = some k → k ≠ g := by
  rcases h.2 with ⟨rfl, _⟩ | ⟨g', cap, cur, rfl, _, hh, _⟩
  · intro k hk; simp [Value.ownBlock] at hk
  · intro k hk; have : g' = k := by simpa [Value.ownBlock] using hk
    subst this; exact blk_ne (t := e) hh hg hne
theorem own_ne_own {b1 b2 e1 e2 s1 s2 n1 n2 : Nat} {v1 v2 : Value} {x1 x2 : List Value} (h1 : w.ownsRow b1 e1 s1 v1 n1 x1) (h2 : w.ownsRow b2 e2 s2 v2 n2 x2) (hne : e1 ≠ e2) : ∀ k, v1.ownBlock = some k → ∀ j, v2.ownBlock = some j → k ≠ j := by
  rcases h2.2 with ⟨rfl, rfl⟩ | ⟨g, cap, cur, rfl, _, hh, _⟩
  · intro k _ j hj; simp [Value.ownBlock] at hj
  · intro k hk j hj; have : g = j := by simpa [Value.ownBlock] using hj
    subst this; exact own_ne_blk h1 (g := g) (t := e2) (cs := cur) hh hne k hk
theorem map_ne_blk {H : Type} {P : Program} {k : TypeId} {R : Value → Option (DataW H × List MemPlace)} {b n g : Nat} {D : DataW H} {t : TypeId} {cs : Array Value} (h : w.ownsMap P k R b n D) (hg : Blk w g t cs) : b ≠ g := by
  obtain ⟨es, clock, h0, _⟩ := h
  rintro rfl; unfold Blk at hg; rw [h0] at hg; injection hg with hg; cases hg
theorem own_ne_map {H : Type} {P : Program} {kt : TypeId} {R : Value → Option (DataW H × List MemPlace)} {b n : Nat} {D : DataW H} {base e size m : Nat} {v : Value} {xs : List Value} (h : w.ownsRow base e size v m xs) (hm : w.ownsMap P kt R b n D) : ∀ k, v.ownBlock = some k → k ≠ b := by
  rcases h.2 with ⟨rfl, _⟩ | ⟨g', cap, cur, rfl, _, hh, _⟩
  · intro k hk; simp [Value.ownBlock] at hk
  · intro k hk; have e1 : g' = k := by simpa [Value.ownBlock] using hk
    subst e1; exact fun he => map_ne_blk hm (g := g') (t := e) (cs := cur) hh he.symm
end
/-- The block of a row, as a list. -/
def bl (v : Value) : List Nat := v.ownBlock.toList
theorem mem_bl {v : Value} {k : Nat} : k ∈ bl v ↔ v.ownBlock = some k := by simp [bl]
/-- A row, opened: its slice, and how its cells read. -/
theorem own_open {w : World} {base e size n : Nat} {v : Value} {xs : List Value} (h : w.ownsRow base e size v n xs) : ∃ A cap, v = .slice A n cap ∧ n ≤ cap ∧ Reads w w.heap.size size A n xs := by
  rcases h.2 with ⟨rfl, rfl⟩ | ⟨g, cap, cur, rfl, hb, hh, hn, _⟩
  · exact ⟨none, 0, rfl, Nat.le_refl _, Reads.of_own h⟩
  · exact ⟨_, cap, rfl, hn, Reads.of_own h⟩

/-! keys -/
def kagg (k : K5) : Value := .agg #[.int .i64 k.1, .int .i64 k.2.1, .int .i64 k.2.2.1, .int .i64 k.2.2.2.1, .int .i64 k.2.2.2.2]
def pagg (k : P4) : Value := .agg #[.int .i64 k.1, .int .i64 k.2.1, .int .i64 k.2.2.1, .int .i64 k.2.2.2]
def in64 (n : Int) : Prop := -9223372036854775808 ≤ n ∧ n ≤ 9223372036854775807
def K5ok (k : K5) : Prop := in64 k.1 ∧ in64 k.2.1 ∧ in64 k.2.2.1 ∧ in64 k.2.2.2.1 ∧ in64 k.2.2.2.2
def kl (k : K5) : Lit := .string (keyBytes [.int .i64 k.1, .int .i64 k.2.1, .int .i64 k.2.2.1, .int .i64 k.2.2.2.1, .int .i64 k.2.2.2.2])
theorem keyed : Go.Maps.Keyed Try.prog 29 := Go.Maps.Keyed.of_law (deep_law_laid (m := 2) (by kernel_rfl) (by decide) (by rw [show Try.prog.types.size = 84 from by kernel_rfl]; decide) (by kernel_rfl) (by kernel_rfl))
theorem wf64 {n : Int} (h : in64 n) : (Lit.int .i64 n).wf = true := WalkArith.wf_i64 h
theorem keyLits_int (d : Nat) (n : Int) (h : (Lit.int .i64 n).wf = true) : Try.prog.keyLits (d + 1) 3 [.int .i64 n] = some [.int .i64 n] := by
  simp only [Program.keyLits, Try.underlying3]
  simp only [h, and_self, if_true]
theorem keyLits_key (d : Nat) (k : K5) (h : K5ok k) : Try.prog.keyLits (d + 2) 29 (kc k) = some [.int .i64 k.1, .int .i64 k.2.1, .int .i64 k.2.2.1, .int .i64 k.2.2.2.1, .int .i64 k.2.2.2.2] := by
  obtain ⟨k0, k1, k2, k3, k4⟩ := k
  obtain ⟨h0, h1, h2, h3, h4⟩ := h
  have l0 := keyLits_int d k0 (wf64 h0)
  have l1 := keyLits_int d k1 (wf64 h1)
  have l2 := keyLits_int d k2 (wf64 h2)
  have l3 := keyLits_int d k3 (wf64 h3)
  have l4 := keyLits_int d k4 (wf64 h4)
  clear h0 h1 h2 h3 h4
  have c1 : Try.prog.cellsOf 3 = 1 := by kernel_rfl
  have c5 : Try.prog.cellsOf 29 = 5 := by kernel_rfl
  unfold Program.keyLits
  rw [Try.underlying29]
  simp [l0, l1, l2, l3, l4, c1, c5, kc]
theorem keyOf_kagg (k : K5) (h : K5ok k) : keyOf Try.prog 29 (kagg k) = some (kl k) := by
  have e1 : Try.prog.types.size = 84 := by kernel_rfl
  have e2 : Try.prog.keyType 29 = true := by kernel_rfl
  have c5 : Try.prog.cellsOf 29 = 5 := by kernel_rfl
  have e3 : (kagg k).formed Try.prog 29 = true := by simp [kagg, Value.formed, Try.underlying29, c5]
  have e4 : (kagg k).cells.toList = kc k := rfl
  unfold keyOf
  rw [Try.underlying29]
  simp only [e2, e3, e1, e4, Bool.and_self, if_true]
  rw [keyLits_key (84 - 1) k h]
  rfl
theorem kagg_inj {a b : K5} (h : kagg a = kagg b) : a = b := by
  apply kc_inj
  unfold kagg at h
  injection h with h
  exact congrArg Array.toList h
theorem kl_inj {a b : K5} (ha : K5ok a) (hb : K5ok b) (h : kl a = kl b) : a = b := kagg_inj (keyed.inj (keyOf_kagg a ha) (h ▸ keyOf_kagg b hb))
theorem eqInKey (a b : K5) (w : World) : (Op.equalIn 10000 29 (kagg a) (kagg b)).run Try.prog w = .ok (decide (a = b)) w := by
  obtain ⟨a0, a1, a2, a3, a4⟩ := a
  obtain ⟨b0, b1, b2, b3, b4⟩ := b
  have hp : Try.prog.stoodInHeld 29 = false := by kernel_rfl
  have hf : (Try.prog.fieldsOf 29).toList.map (fun f => (f.name, f.type, f.offset)) = [("Node", 3, 0), ("Stamp", 3, 1), ("Level", 3, 2), ("X", 3, 3), ("Y", 3, 4)] := by kernel_rfl
  obtain ⟨f0, l0, hl, g0, hf⟩ := List.map_eq_cons_iff.1 hf
  obtain ⟨f1, l1, rfl, g1, hf⟩ := List.map_eq_cons_iff.1 hf
  obtain ⟨f2, l2, rfl, g2, hf⟩ := List.map_eq_cons_iff.1 hf
  obtain ⟨f3, l3, rfl, g3, hf⟩ := List.map_eq_cons_iff.1 hf
  obtain ⟨f4, l4, rfl, g4, hf⟩ := List.map_eq_cons_iff.1 hf
  obtain rfl := List.map_eq_nil_iff.1 hf
  simp only [Prod.mk.injEq] at g0 g1 g2 g3 g4
  unfold kagg
  rw [run_equalIn_struct w 9999 29 _ _ (by kernel_rfl) hp, hl]
  simp only [Op.eqFields, g0, g1, g2, g3, g4]
  have e := fun (x y : Int) (W : World) => run_equalIn_int (P := Try.prog) W 9998 3 .i64 .i64 x y Try.underlying3
  have u := fun (W : World) => run_underlying (w := W) Try.underlying3
  by_cases x0 : a0 = b0
  rotate_left
  · simp [part, isAgg, e, u, x0]
  by_cases x1 : a1 = b1
  rotate_left
  · simp [part, isAgg, e, u, x0, x1]
  by_cases x2 : a2 = b2
  rotate_left
  · simp [part, isAgg, e, u, x0, x1, x2]
  by_cases x3 : a3 = b3
  rotate_left
  · simp [part, isAgg, e, u, x0, x1, x2, x3]
  by_cases x4 : a4 = b4
  rotate_left
  · simp [part, isAgg, e, u, x0, x1, x2, x3, x4]
  simp [part, isAgg, e, u, x0, x1, x2, x3, x4]
theorem eqInPix (a b : P4) (w : World) : (Op.equalIn 10000 63 (pagg a) (pagg b)).run Try.prog w = .ok (decide (a = b)) w := by
  obtain ⟨a0, a1, a2, a3⟩ := a
  obtain ⟨b0, b1, b2, b3⟩ := b
  have hp : Try.prog.stoodInHeld 63 = false := by kernel_rfl
  have hf : (Try.prog.fieldsOf 63).toList.map (fun f => (f.name, f.type, f.offset)) = [("R", 3, 0), ("G", 3, 1), ("B", 3, 2), ("A", 3, 3)] := by kernel_rfl
  obtain ⟨f0, l0, hl, g0, hf⟩ := List.map_eq_cons_iff.1 hf
  obtain ⟨f1, l1, rfl, g1, hf⟩ := List.map_eq_cons_iff.1 hf
  obtain ⟨f2, l2, rfl, g2, hf⟩ := List.map_eq_cons_iff.1 hf
  obtain ⟨f3, l3, rfl, g3, hf⟩ := List.map_eq_cons_iff.1 hf
  obtain rfl := List.map_eq_nil_iff.1 hf
  simp only [Prod.mk.injEq] at g0 g1 g2 g3
  unfold pagg
  rw [run_equalIn_struct w 9999 63 _ _ (by kernel_rfl) hp, hl]
  simp only [Op.eqFields, g0, g1, g2, g3]
  have e := fun (x y : Int) (W : World) => run_equalIn_int (P := Try.prog) W 9998 3 .i64 .i64 x y Try.underlying3
  have u := fun (W : World) => run_underlying (w := W) Try.underlying3
  by_cases x0 : a0 = b0
  rotate_left
  · simp [part, isAgg, e, u, x0]
  by_cases x1 : a1 = b1
  rotate_left
  · simp [part, isAgg, e, u, x0, x1]
  by_cases x2 : a2 = b2
  rotate_left
  · simp [part, isAgg, e, u, x0, x1, x2]
  by_cases x3 : a3 = b3
  rotate_left
  · simp [part, isAgg, e, u, x0, x1, x2, x3]
  simp [part, isAgg, e, u, x0, x1, x2, x3]
theorem eqlKey (a b : K5) (w : World) : (binOp .eql 29 (kagg a) (kagg b)).run Try.prog w = .ok (.bool (decide (a = b))) w := by
  rw [show kagg a = .agg _ from rfl, show kagg b = .agg _ from rfl, run_eql_struct]
  have h := eqInKey a b w
  unfold kagg at h
  rw [h]; rfl
theorem neqKey (a b : K5) (w : World) : (binOp .neq 29 (kagg a) (kagg b)).run Try.prog w = .ok (.bool (!decide (a = b))) w := by
  rw [show kagg a = .agg _ from rfl, show kagg b = .agg _ from rfl, run_neq_struct]
  have h := eqInKey a b w
  unfold kagg at h
  rw [h]; rfl
theorem neqPix (a b : P4) (w : World) : (binOp .neq 63 (pagg a) (pagg b)).run Try.prog w = .ok (.bool (!decide (a = b))) w := by
  rw [show pagg a = .agg _ from rfl, show pagg b = .agg _ from rfl, run_neq_struct]
  have h := eqInPix a b w
  unfold pagg at h
  rw [h]; rfl

/-- An image in memory: its pixels lie in a row of one's own. -/
def ImgV (w : World) (base : Nat) (v : Value) (i : Img) : Prop := ∃ r, v = .agg #[.int .i64 i.W, .int .i64 i.H, r] ∧ w.ownsRow base 63 4 r i.px.length (pcs i.px)
/-- An image that is read. -/
def ImgR (w : World) (B : Nat) (v : Value) (i : Img) : Prop := ∃ A c, v = .agg #[.int .i64 i.W, .int .i64 i.H, .slice A i.px.length c] ∧ Reads w B 4 A i.px.length (pcs i.px) ∧ (A = none → c = 0)
theorem ImgV.read {w : World} {base : Nat} {v : Value} {i : Img} (h : ImgV w base v i) : ImgR w w.heap.size v i := by
  obtain ⟨r, rfl, ho⟩ := h
  rcases ho.2 with ⟨rfl, hn⟩ | ⟨g, cap, cur, rfl, _⟩
  · rw [hn] at ho
    exact ⟨none, 0, by rw [hn], by rw [hn]; exact Reads.of_own ho, fun _ => rfl⟩
  · exact ⟨_, cap, rfl, Reads.of_own ho, fun e => by cases e⟩
theorem ImgR.below {w w' : World} {B : Nat} {v : Value} {i : Img} (h : ImgR w B v i) (hb : Below B w w') : ImgR w' B v i := by
  obtain ⟨A, c, rfl, hr, hc⟩ := h
  exact ⟨A, c, rfl, hr.below hb, hc⟩
theorem ImgR.more {w : World} {B B' : Nat} {v : Value} {i : Img} (h : ImgR w B v i) (hb : B ≤ B') : ImgR w B' v i := by
  obtain ⟨A, c, rfl, hr, hc⟩ := h
  exact ⟨A, c, rfl, hr.more hb, hc⟩
theorem ImgV.mono {w : World} {base base' : Nat} {v : Value} {i : Img} (h : ImgV w base v i) (hb : base' ≤ base) : ImgV w base' v i := by
  obtain ⟨r, rfl, hl, ho⟩ := h
  refine ⟨r, rfl, hl, ?_⟩
  rcases ho with h0 | ⟨g, cap, cur, e, hg, rest⟩
  · exact .inl h0
  · exact .inr ⟨g, cap, cur, e, by omega, rest⟩
theorem ImgV.tch {w w' : World} {M : List Nat} {base : Nat} {v : Value} {i : Img} (h : ImgV w base v i) (ht : Tch M w w') (hM : ∀ k ∈ M, ∀ cur fz, w.heap[k]? ≠ some (.cells cur 63 fz)) : ImgV w' base v i := by
  obtain ⟨r, rfl, ho⟩ := h
  refine ⟨r, rfl, ht.own ho fun k hk hm => ?_⟩
  rcases ho.2 with ⟨e, _⟩ | ⟨g, cap, cur, e, _, hh, _⟩
  · rw [e] at hk; simp [Value.ownBlock] at hk
  · rw [e] at hk
    obtain rfl : g = k := by simpa [Value.ownBlock] using hk
    exact hM g hm cur (0, 0) hh

end Go.Proofs.Ytkdokipgakncjaa.Cac
