/-
  Layer 44's laws: what writing a journal makes.
-/
import Derived.Test.YtelacdaehmfcaaaJouSame
namespace Go.Proofs.Ytelacdaehmfcaaa.JouL
open Go.RowKit Go.Proofs.Ytelacdaehmfcaaa Go.Proofs.Ytelacdaehmfcaaa.WirePure Go.Proofs.Ytelacdaehmfcaaa.DigPure Go.Proofs.Ytelacdaehmfcaaa.JouPure Go.Proofs.Ytelacdaehmfcaaa.JouC

theorem own_lt {w : World} {base e size n : Nat} {v : Value} {xs : List Value} (h : w.ownsRow base e size v n xs) : ∀ k, v.ownBlock = some k → k < w.heap.size := fun k hk => by
  rcases h.2 with ⟨rfl, rfl⟩ | ⟨g, cap, cur, rfl, _, hh, _⟩
  · simp [Value.ownBlock] at hk
  · obtain rfl : g = k := by simpa [Value.ownBlock] using hk
    exact (Array.getElem?_eq_some_iff.1 hh).1
theorem blk_ne {w : World} {g g' : Nat} {t t' : TypeId} {cs cs' : Array Value} (h : Blk w g t cs) (h' : Blk w g' t' cs') (hne : t ≠ t') : g ≠ g' := by
  rintro rfl; unfold Blk at h h'; rw [h] at h'; injection h' with h'; injection h' with _ ht; exact hne ht
theorem own_blk_ne {w : World} {base g : Nat} {e t : TypeId} {size n : Nat} {v : Value} {xs : List Value} {cs : Array Value} (h : w.ownsRow base e size v n xs) (hg : Blk w g t cs) (hne : e ≠ t) : v.ownBlock ≠ some g := by
  rcases h.2 with ⟨rfl, _⟩ | ⟨g', cap, cur, rfl, _, hh, _⟩
  · simp [Value.ownBlock]
  · intro he; have : g' = g := by simpa [Value.ownBlock] using he
    subst this; exact blk_ne (t := e) hh hg hne rfl
theorem own_own_ne {w : World} {b1 b2 e1 e2 s1 s2 n1 n2 : Nat} {v1 v2 : Value} {x1 x2 : List Value} (h1 : w.ownsRow b1 e1 s1 v1 n1 x1) (h2 : w.ownsRow b2 e2 s2 v2 n2 x2) (hne : e1 ≠ e2) : v1.ownBlock = none ∨ v1.ownBlock ≠ v2.ownBlock := by
  rcases h2.2 with ⟨rfl, rfl⟩ | ⟨g, cap, cur, rfl, _, hh, _⟩
  · exact Classical.em _
  · exact .inr (own_blk_ne h1 (g := g) (t := e2) (cs := cur) hh hne)

/-- What 'write' has made so far: the offsets in one row, the records in another; a new offset and a new record that wait in blocks of their own. -/
structure Wr (B B0 gR : Nat) (w : World) (c0 cR : Array Value) (vE : Value) (nE : Nat) (xs : List Value) (oE : Option (Nat × Value)) (vL : Value) (nL : Nat) (ys : List Value) (oL : Option (Nat × Array Value)) (b : Bool) (W : World) : Prop where
  below : Below B w W
  box : Blk W B0 38 c0
  rowE : W.ownsRow B 3 1 vE nE xs
  rowL : W.ownsRow B 23 3 vL nL ys
  newE : ∀ g x, oE = some (g, x) → Blk W g 3 #[x] ∧ vE.ownBlock ≠ some g
  newL : ∀ g cs, oL = some (g, cs) → Blk W g 23 cs ∧ vL.ownBlock ≠ some g
  recd : Blk W gR 23 cR
  other : b = false → vL.ownBlock ≠ some gR
  low : B ≤ B0
section
variable {B B0 gR : Nat} {w W w' : World} {c0 cR : Array Value} {vE : Value} {nE : Nat} {xs : List Value} {oE : Option (Nat × Value)} {vL : Value} {nL : Nat} {ys : List Value} {oL : Option (Nat × Array Value)} {b : Bool}
theorem Wr.size (h : Wr B B0 gR w c0 cR vE nE xs oE vL nL ys oL b W) : B ≤ W.heap.size := by have := h.box.lt; have := h.low; omega
theorem Wr.drew (h : Wr B B0 gR w c0 cR vE nE xs oE vL nL ys oL b W) : Wr B B0 gR w c0 cR vE nE xs oE vL nL ys oL b W.drew :=
  ⟨h.below.drew, h.box, h.rowE, h.rowL, h.newE, h.newL, h.recd, h.other, h.low⟩
theorem Wr.more (h : Wr B B0 gR w c0 cR vE nE xs oE vL nL ys oL b W) (hb : Below W.heap.size W w') : Wr B B0 gR w c0 cR vE nE xs oE vL nL ys oL b w' :=
  ⟨h.below.trans (hb.mono h.size), h.box.below hb h.box.lt, h.rowE.kept (grown_below hb) (Classical.em _), h.rowL.kept (grown_below hb) (Classical.em _),
    fun g x e => ⟨(h.newE g x e).1.below hb (h.newE g x e).1.lt, (h.newE g x e).2⟩, fun g cs e => ⟨(h.newL g cs e).1.below hb (h.newL g cs e).1.lt, (h.newL g cs e).2⟩, h.recd.below hb h.recd.lt, h.other, h.low⟩
theorem Wr.buildE (h : Wr B B0 gR w c0 cR vE nE xs none vL nL ys oL b W) (x : Value) : Wr B B0 gR w c0 cR vE nE xs (some (W.heap.size, x)) vL nL ys oL b (W.alloc (.cells #[x] 3)) := by
  have h1 := h.more ((Below.refl W.heap.size W).alloc (Nat.le_refl _) (.cells #[x] 3))
  refine ⟨h1.below, h1.box, h1.rowE, h1.rowL, fun g y e => ?_, h1.newL, h1.recd, h1.other, h1.low⟩
  simp only [Option.some.injEq, Prod.mk.injEq] at e
  obtain ⟨rfl, rfl⟩ := e
  exact ⟨Blk.new _ _ _, fun e => by have := own_lt h.rowE _ e; omega⟩
theorem Wr.buildL (h : Wr B B0 gR w c0 cR vE nE xs oE vL nL ys none b W) (cs : Array Value) : Wr B B0 gR w c0 cR vE nE xs oE vL nL ys (some (W.heap.size, cs)) b (W.alloc (.cells cs 23)) := by
  have h1 := h.more ((Below.refl W.heap.size W).alloc (Nat.le_refl _) (.cells cs 23))
  refine ⟨h1.below, h1.box, h1.rowE, h1.rowL, h1.newE, fun g y e => ?_, h1.recd, h1.other, h1.low⟩
  simp only [Option.some.injEq, Prod.mk.injEq] at e
  obtain ⟨rfl, rfl⟩ := e
  exact ⟨Blk.new _ _ _, fun e => by have := own_lt h.rowL _ e; omega⟩
theorem Wr.appE {v' : Value} {n' : Nat} {xs' : List Value} (h : Wr B B0 gR w c0 cR vE nE xs oE vL nL ys oL b W) (ho : w'.ownsRow B 3 1 v' n' xs') (hg : W.grownBy w' vE.ownBlock) : Wr B B0 gR w c0 cR v' n' xs' none vL nL ys oL b w' :=
  ⟨h.below.grown hg h.size (own_base h.rowE), h.box.grown hg (fun e => own_blk_ne h.rowE h.box (by decide) e.symm), ho, h.rowL.kept hg (own_own_ne h.rowL h.rowE (by decide)), fun _ _ e => by (cases e),
    fun g cs e => ⟨(h.newL g cs e).1.grown hg (fun e2 => own_blk_ne h.rowE (h.newL g cs e).1 (by decide) e2.symm), (h.newL g cs e).2⟩, h.recd.grown hg (fun e => own_blk_ne h.rowE h.recd (by decide) e.symm), h.other, h.low⟩
theorem Wr.appL {v' : Value} {n' : Nat} {ys' : List Value} (h : Wr B B0 gR w c0 cR vE nE xs oE vL nL ys oL false W) (ho : w'.ownsRow B 23 3 v' n' ys') (hg : W.grownBy w' vL.ownBlock) : Wr B B0 gR w c0 cR vE nE xs oE v' n' ys' none true w' :=
  ⟨h.below.grown hg h.size (own_base h.rowL), h.box.grown hg (fun e => own_blk_ne h.rowL h.box (by decide) e.symm), h.rowE.kept hg (own_own_ne h.rowE h.rowL (by decide)), ho,
    fun g x e => ⟨(h.newE g x e).1.grown hg (fun e2 => own_blk_ne h.rowL (h.newE g x e).1 (by decide) e2.symm), (h.newE g x e).2⟩, fun _ _ e => by (cases e), h.recd.grown hg (fun e => h.other rfl e.symm), fun e => by (cases e), h.low⟩
end

theorem infoInt : (Try.prog.info? 3).map (fun i => (i.zero, i.size, i.bytes)) = some (some (.int .i64 0), 1, 8) := by kernel_rfl
theorem wp_appE {o : Oper} {a : Act} {W : World} {K : Act → World → Prop} {Q : Exit → Act → World → Prop} (dd : Tmp) (hd : o.dst = some dd) (s x : Operand)
    (ho : o.op = .call { callee := .builtin .append, args := #[s, x], argTypes := #[39, 39] }) {B B0 gR : Nat} {w : World} {c0 cR : Array Value} {vE : Value} {nE : Nat} {xs : List Value} {g : Nat} {u : Value} {vL : Value} {nL : Nat} {ys : List Value} {oL : Option (Nat × Array Value)} {b : Bool}
    (h : Wr B B0 gR w c0 cR vE nE xs (some (g, u)) vL nL ys oL b W) (hs : a.eval s = vE) (hx : a.eval x = .slice (some ⟨g, 0, none⟩) 1 1) (hu : u.oneCell' = true) (hn : nE ≤ 1048577)
    (hK : ∀ v' w', Wr B B0 gR w c0 cR v' (nE + 1) (xs ++ [u]) none vL nL ys oL b w' → K (a.put (some dd) v') w') : o.wp Try.prog a W K Q := by
  obtain ⟨i0, hi0, hz0, hz1, hz2⟩ := info_parts infoInt
  refine wp_append_own W s x 39 ho B 3 i0 (.int .i64 0) 1 8 Try.underlying39 hi0 hz0 hz1 hz2 rfl (by decide) vE nE xs hs h.rowE ⟨g, 0, none⟩ 1 1 [u] hx rfl (World.news_of_block (h.newE g u rfl).1) (fun y hy => by simp at hy; subst hy; exact hu) (by unfold maxLen; omega) (by omega) h.size ?_
  intro v' w' ho' hg _
  rw [hd]
  exact hK v' w' (h.appE ho' hg)
theorem wp_appL {o : Oper} {a : Act} {W : World} {K : Act → World → Prop} {Q : Exit → Act → World → Prop} (dd : Tmp) (hd : o.dst = some dd) (s x : Operand)
    (ho : o.op = .call { callee := .builtin .append, args := #[s, x], argTypes := #[32, 32] }) {B B0 gR : Nat} {w : World} {c0 cR : Array Value} {vE : Value} {nE : Nat} {xs : List Value} {oE : Option (Nat × Value)} {g : Nat} {cs : Array Value} {vL : Value} {nL : Nat} {ys : List Value}
    (h : Wr B B0 gR w c0 cR vE nE xs oE vL nL ys (some (g, cs)) false W) (hs : a.eval s = vL) (hx : a.eval x = .slice (some ⟨g, 0, none⟩) 1 1) (hc : cs.size = 3) (hu : ∀ y ∈ cs.toList, y.oneCell' = true) (hn : nL ≤ 1048577)
    (hK : ∀ v' w', Wr B B0 gR w c0 cR vE nE xs oE v' (nL + 1) (ys ++ cs.toList) none true w' → K (a.put (some dd) v') w') : o.wp Try.prog a W K Q := by
  obtain ⟨i0, hi0, hz0, hz1, hz2⟩ := info_parts infoRec
  refine wp_append_own W s x 32 ho B 23 i0 (.agg rc0) 3 32 Try.underlying32 hi0 hz0 hz1 hz2 rfl (by decide) vL nL ys hs h.rowL ⟨g, 0, none⟩ 1 1 cs.toList hx (by rw [Array.length_toList, hc]) (World.news_of_block (h.newL g cs rfl).1) hu (by unfold maxLen; omega) (by omega) h.size ?_
  intro v' w' ho' hg _
  rw [hd]
  exact hK v' w' (h.appL ho' hg)

/-- The offsets behind the header and behind each record. -/
def ens (g : Nat) (rs : List (Nat × List UInt8)) : List Value := (List.range (rs.length + 1)).map fun i => .int .i64 ((jou g (rs.take i)).length : Nat)
theorem ens_len (g : Nat) (rs : List (Nat × List UInt8)) : (ens g rs).length = rs.length + 1 := by simp [ens]
theorem ens_at (g : Nat) (rs : List (Nat × List UInt8)) (i : Nat) (h : i ≤ rs.length) : (ens g rs)[i]? = some (.int .i64 ((jou g (rs.take i)).length : Nat)) := by
  unfold ens
  rw [List.getElem?_map, List.getElem?_range (by omega)]
  rfl
theorem ens_snoc (g : Nat) (rs : List (Nat × List UInt8)) (r : Nat × List UInt8) : ens g (rs ++ [r]) = ens g rs ++ [.int .i64 ((jou g (rs ++ [r])).length : Nat)] := by
  unfold ens
  rw [List.length_append, List.length_cons, List.length_nil, List.range_succ, List.map_append, List.map_cons, List.map_nil]
  congr 1
  · apply List.map_congr_left
    intro i hi
    have : i < rs.length + 1 := by simpa using hi
    rw [List.take_append_of_le_length (by omega)]
  · rw [List.take_of_length_le (by simp)]
theorem jou_size (g : Nat) (hg : g ≤ 1073741824) (rs : List (Nat × List UInt8)) (h : okL 1 rs) : (jou g rs).length ≤ 1048600 * (rs.length + 1) := by
  have hf : ∀ (p : List UInt8), p.length ≤ 1048576 → (frame p).length ≤ 1048590 := fun p hp => by
    have := Lib.uvarint_length64 (x := p.length) (by omega)
    rw [frame_len]
    omega
  have key : ∀ (l : List (Nat × List UInt8)) (q : Nat), okL q l → (recs q l).length ≤ 1048590 * l.length := fun l => by
    induction l with
    | nil => intro q _; simp [recs]
    | cons r l ih =>
      intro q hok
      have h1 := ih (q + 1) hok.2
      have h2 := hf _ hok.1.2.2
      simp only [recs, List.length_append, List.length_cons]
      omega
  have h1 := key rs 1 h
  have hl := Lib.uvarint_length64 (x := g) (by omega)
  have h2 := hf (Lib.uvarint g) (by omega)
  unfold jou
  simp only [List.length_append, magic_len]
  omega

/-- Records that came in. -/
def RDs (w : World) (B : Nat) (A : Option Addr) (n : Nat) (f : Nat → Int × Int × ByteArray) : Prop :=
  0 < n → ∃ ad, A = some ad ∧ ad.block < B ∧ ∀ i, i < n → w.cell? (ad.add (i * 3)) = some (.int .i64 (f i).1) ∧ w.cell? ((ad.add (i * 3)).add 1) = some (.int .i64 (f i).2.1) ∧ w.cell? ((ad.add (i * 3)).add 2) = some (.string (f i).2.2)
theorem RDs.below {w W : World} {B : Nat} {A : Option Addr} {n : Nat} {f : Nat → Int × Int × ByteArray} (h : RDs w B A n f) (hb : Below B w W) : RDs W B A n f := fun h0 => by
  obtain ⟨ad, rfl, hl, hc⟩ := h h0
  refine ⟨ad, rfl, hl, fun i hi => ?_⟩
  obtain ⟨h1, h2, h3⟩ := hc i hi
  exact ⟨(hb.cell (by rw [block_of_add]; exact hl)).trans h1, (hb.cell (by rw [block_of_add, block_of_add]; exact hl)).trans h2, (hb.cell (by rw [block_of_add, block_of_add]; exact hl)).trans h3⟩
def inOk (n : Nat) (f : Nat → Int × Int × ByteArray) : Prop := n ≤ 1048576 ∧ ∀ i, i < n → (f i).1 ≤ 9223372036854775807 ∧ (f i).2.2.size ≤ 1048576
theorem wpList_load_at {ops : Array Oper} {rest : List Oper} {o : Oper} {a : Act} {w : World} {Q : Exit → Act → World → Prop} (hg : o.guard = none) (x : Operand) (ho : o.op = .load 23 x) (ad : Addr) (hx : a.eval x = .pointer (some ad)) (v0 v1 v2 : Value)
    (h0 : w.cell? ad = some v0) (h1 : w.cell? (ad.add 1) = some v1) (h2 : w.cell? (ad.add 2) = some v2) (h : wpList Try.prog ops Q rest (a.put o.dst (.agg #[v0, v1, v2])) w) : wpList Try.prog ops Q (o :: rest) a w := by
  refine wpList_plain hg fun K hK => ?_
  have hr := run_loadVar_at (P := Try.prog) w ad 23 [v0, v1, v2] _ (fun j v hv => by
      match j, hv with
      | 0, hv => simp at hv; subst hv; simpa [Addr.add] using h0
      | 1, hv => simp at hv; subst hv; exact h1
      | 2, hv => simp at hv; subst hv; exact h2) Try.underlying23 rfl (by kernel_rfl)
  unfold Oper.wp execOp
  simp only [ho, hx, Instr.loadAt, Instr.sureAddr, Sem.run_bind, Sem.run_pure, Result.andThen_ok, hr]
  exact hK _ _ h

/-- What 'write' returns. -/
def WP (g : Int) (n : Nat) (w : World) (e : Ending) (w' : World) : Prop :=
  (e = .returned (.tuple #[.string ⟨#[]⟩, .slice none 0 0, .slice none 0 0]) ∧ Below w.heap.size w w') ∨
  ∃ (gn : Nat) (rs : List (Nat × List UInt8)) (vE vL : Value), g = gn ∧ 1 ≤ gn ∧ gn ≤ 1073741824 ∧ okL 1 rs ∧ rs.length = n ∧ e = .returned (.tuple #[.string ⟨(jou gn rs).toArray⟩, vE, vL]) ∧
    w'.ownsRow w.heap.size 3 1 vE (rs.length + 1) (ens gn rs) ∧ w'.ownsRow w.heap.size 23 3 vL rs.length (rcs 1 rs) ∧ Below w.heap.size w w'

end Go.Proofs.Ytelacdaehmfcaaa.JouL
