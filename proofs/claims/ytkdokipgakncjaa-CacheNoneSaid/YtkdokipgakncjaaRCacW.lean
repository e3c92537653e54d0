/-
  Layer 36: rows that are appended to, while others are.
-/
import Derived.Test.YtkdokipgakncjaaRCacA
import Derived.OwnWalk
namespace Go.Proofs.Ytkdokipgakncjaa.Cac
open Go.RowKit Go.Proofs.Ytkdokipgakncjaa Go.Proofs.Ytkdokipgakncjaa.RegG

/-- A row of one's own, and a literal that waits to be appended to it. -/
structure R1 (t sz base : Nat) (v : Value) (n : Nat) (xs : List Value) (l : Option (Nat × Array Value)) (W : World) : Prop where
  row : W.ownsRow base t sz v n xs
  new : ∀ g cs, l = some (g, cs) → Blk W g t cs ∧ v.ownBlock ≠ some g
section
variable {t sz base : Nat} {v : Value} {n : Nat} {xs : List Value} {l : Option (Nat × Array Value)} {W w' : World}
theorem R1.tch0 (h : R1 t sz base v n xs l W) (ht : Tch [] W w') : R1 t sz base v n xs l w' :=
  ⟨ht.own h.row (by simp), fun g cs e => ⟨ht.blk (h.new g cs e).1 (by simp), (h.new g cs e).2⟩⟩
theorem R1.lit (h : R1 t sz base v n xs none W) (cs : Array Value) : R1 t sz base v n xs (some (W.heap.size, cs)) (W.alloc (.cells cs t)) :=
  ⟨(h.tch0 ((Tch.refl _ _).alloc _)).row, fun g y e => by
    simp only [Option.some.injEq, Prod.mk.injEq] at e
    obtain ⟨rfl, rfl⟩ := e
    exact ⟨Blk.new _ _ _, fun e => by have := own_lt h.row _ e; omega⟩⟩
/-- Another row has grown. -/
theorem R1.other (h : R1 t sz base v n xs l W) {t' s' b' n' : Nat} {v' : Value} {x' : List Value} (h' : W.ownsRow b' t' s' v' n' x') (hne : t ≠ t') (hg : W.grownBy w' v'.ownBlock) : R1 t sz base v n xs l w' :=
  ⟨own_at h.row fun k hk => hg.block k (own_lt h.row k hk) (fun e => own_ne_own h.row h' hne k hk k e.symm rfl),
    fun g cs e => ⟨(h.new g cs e).1.grown hg (fun e2 => own_ne_blk h' (h.new g cs e).1 (fun e3 => hne e3.symm) g e2.symm rfl), (h.new g cs e).2⟩⟩
theorem R1.cell (h : R1 t sz base v n xs l W) {g : Nat} {t' : TypeId} {cs : Array Value} (hb : Blk W g t' cs) (hne : t ≠ t') (i : Nat) (u : Value) : R1 t sz base v n xs l (W.setCell ⟨g, i, none⟩ u) :=
  ⟨own_at h.row fun k hk => Below.heap_setCell _ _ _ _ (own_ne_blk h.row hb hne k hk),
    fun g' cs' e => ⟨(Below.heap_setCell W ⟨g, i, none⟩ u g' (blk_ne (h.new g' cs' e).1 hb hne)).trans (h.new g' cs' e).1, (h.new g' cs' e).2⟩⟩
end
structure RW (t4 s4 t5 s5 tb : Nat) (M : List Nat) (w0 : World) (B g : Nat) (cs : Array Value) (v4 : Value) (n4 : Nat) (x4 : List Value) (l4 : Option (Nat × Array Value)) (v5 : Value) (n5 : Nat) (x5 : List Value) (l5 : Option (Nat × Array Value)) (PL : List (Value × List P4)) (W : World) : Prop where
  tch : Tch M w0 W
  box : Blk W g tb cs
  a : R1 t4 s4 B v4 n4 x4 l4 W
  b : R1 t5 s5 B v5 n5 x5 l5 W
  ma : ∀ j, v4.ownBlock = some j → j ∈ M ∨ w0.heap.size ≤ j
  mb : ∀ j, v5.ownBlock = some j → j ∈ M ∨ w0.heap.size ≤ j
  mg : g ∈ M ∨ w0.heap.size ≤ g
  low : B ≤ w0.heap.size
  ne : t4 ≠ t5 ∧ t4 ≠ tb ∧ t5 ≠ tb
  px : ∀ p ∈ PL, W.ownsRow B 63 4 p.1 p.2.length (pcs p.2)
  np : PL = [] ∨ 63 ≠ t4 ∧ 63 ≠ t5 ∧ 63 ≠ tb
section
variable {t4 s4 t5 s5 tb : Nat} {M : List Nat} {w0 : World} {B g : Nat} {cs : Array Value} {v4 : Value} {n4 : Nat} {x4 : List Value} {l4 : Option (Nat × Array Value)} {v5 : Value} {n5 : Nat} {x5 : List Value} {l5 : Option (Nat × Array Value)} {PL : List (Value × List P4)} {W w' : World}
theorem RW.size (h : RW t4 s4 t5 s5 tb M w0 B g cs v4 n4 x4 l4 v5 n5 x5 l5 PL W) : B ≤ W.heap.size := Nat.le_trans h.low h.tch.size
theorem RW.tch0 (h : RW t4 s4 t5 s5 tb M w0 B g cs v4 n4 x4 l4 v5 n5 x5 l5 PL W) (ht : Tch [] W w') : RW t4 s4 t5 s5 tb M w0 B g cs v4 n4 x4 l4 v5 n5 x5 l5 PL w' :=
  ⟨h.tch.trans ht (fun k hk => by simp at hk), ht.blk h.box (by simp), h.a.tch0 ht, h.b.tch0 ht, h.ma, h.mb, h.mg, h.low, h.ne, fun p hp => ht.own (h.px p hp) (by simp), h.np⟩
theorem RW.later (h : RW t4 s4 t5 s5 tb M w0 B g cs v4 n4 x4 l4 v5 n5 x5 l5 PL W) (hb : Below W.heap.size W w') : RW t4 s4 t5 s5 tb M w0 B g cs v4 n4 x4 l4 v5 n5 x5 l5 PL w' := h.tch0 ((Tch.refl _ _).below hb)
theorem RW.drew (h : RW t4 s4 t5 s5 tb M w0 B g cs v4 n4 x4 l4 v5 n5 x5 l5 PL W) : RW t4 s4 t5 s5 tb M w0 B g cs v4 n4 x4 l4 v5 n5 x5 l5 PL W.drew := h.tch0 (Tch.refl _ _).drew
theorem RW.alloc (h : RW t4 s4 t5 s5 tb M w0 B g cs v4 n4 x4 l4 v5 n5 x5 l5 PL W) (o : Go.Obj) : RW t4 s4 t5 s5 tb M w0 B g cs v4 n4 x4 l4 v5 n5 x5 l5 PL (W.alloc o) := h.tch0 ((Tch.refl _ _).alloc o)
theorem RW.lit4 (h : RW t4 s4 t5 s5 tb M w0 B g cs v4 n4 x4 none v5 n5 x5 l5 PL W) (c : Array Value) : RW t4 s4 t5 s5 tb M w0 B g cs v4 n4 x4 (some (W.heap.size, c)) v5 n5 x5 l5 PL (W.alloc (.cells c t4)) :=
  ⟨h.tch.alloc _, h.box.alloc _, h.a.lit c, h.b.tch0 ((Tch.refl _ _).alloc _), h.ma, h.mb, h.mg, h.low, h.ne, fun p hp => ((Tch.refl [] W).alloc _).own (h.px p hp) (by simp), h.np⟩
theorem RW.lit5 (h : RW t4 s4 t5 s5 tb M w0 B g cs v4 n4 x4 l4 v5 n5 x5 none PL W) (c : Array Value) : RW t4 s4 t5 s5 tb M w0 B g cs v4 n4 x4 l4 v5 n5 x5 (some (W.heap.size, c)) PL (W.alloc (.cells c t5)) :=
  ⟨h.tch.alloc _, h.box.alloc _, h.a.tch0 ((Tch.refl _ _).alloc _), h.b.lit c, h.ma, h.mb, h.mg, h.low, h.ne, fun p hp => ((Tch.refl [] W).alloc _).own (h.px p hp) (by simp), h.np⟩
theorem RW.app4 {v' : Value} {n' : Nat} {x' : List Value} (h : RW t4 s4 t5 s5 tb M w0 B g cs v4 n4 x4 l4 v5 n5 x5 l5 PL W) (ho : w'.ownsRow B t4 s4 v' n' x') (hg : W.grownBy w' v4.ownBlock) (hb : v'.ownBlock = v4.ownBlock ∨ v'.ownBlock = some W.heap.size) :
    RW t4 s4 t5 s5 tb M w0 B g cs v' n' x' none v5 n5 x5 l5 PL w' := by
  have hs := h.tch.size
  refine ⟨h.tch.grown hg (fun k e => h.ma k e), h.box.grown hg (fun e => own_ne_blk h.a.row h.box h.ne.2.1 g e.symm rfl), ⟨ho, fun _ _ e => by cases e⟩, h.b.other h.a.row (fun e => h.ne.1 e.symm) hg, fun j hj => ?_, h.mb, h.mg, h.low, h.ne, fun p hp => ?_, h.np⟩
  rotate_left
  · rcases h.np with e | e
    · rw [e] at hp; simp at hp
    · exact own_at (h.px p hp) fun k hk => hg.block k (own_lt (h.px p hp) k hk) (fun e2 => own_ne_own (h.px p hp) h.a.row e.1 k hk k e2.symm rfl)
  rcases hb with e | e
  · exact h.ma j (by rw [← e]; exact hj)
  · rw [e] at hj; injection hj with hj; omega
theorem RW.app5 {v' : Value} {n' : Nat} {x' : List Value} (h : RW t4 s4 t5 s5 tb M w0 B g cs v4 n4 x4 l4 v5 n5 x5 l5 PL W) (ho : w'.ownsRow B t5 s5 v' n' x') (hg : W.grownBy w' v5.ownBlock) (hb : v'.ownBlock = v5.ownBlock ∨ v'.ownBlock = some W.heap.size) :
    RW t4 s4 t5 s5 tb M w0 B g cs v4 n4 x4 l4 v' n' x' none PL w' := by
  have hs := h.tch.size
  refine ⟨h.tch.grown hg (fun k e => h.mb k e), h.box.grown hg (fun e => own_ne_blk h.b.row h.box h.ne.2.2 g e.symm rfl), h.a.other h.b.row h.ne.1 hg, ⟨ho, fun _ _ e => by cases e⟩, h.ma, fun j hj => ?_, h.mg, h.low, h.ne, fun p hp => ?_, h.np⟩
  rotate_left
  · rcases h.np with e | e
    · rw [e] at hp; simp at hp
    · exact own_at (h.px p hp) fun k hk => hg.block k (own_lt (h.px p hp) k hk) (fun e2 => own_ne_own (h.px p hp) h.b.row e.2.1 k hk k e2.symm rfl)
  rcases hb with e | e
  · exact h.mb j (by rw [← e]; exact hj)
  · rw [e] at hj; injection hj with hj; omega
theorem RW.store (h : RW t4 s4 t5 s5 tb M w0 B g cs v4 n4 x4 l4 v5 n5 x5 l5 PL W) (i : Nat) (u : Value) : RW t4 s4 t5 s5 tb M w0 B g (cs.setIfInBounds i u) v4 n4 x4 l4 v5 n5 x5 l5 PL (W.setCell ⟨g, i, none⟩ u) :=
  ⟨h.tch.setCell h.mg u, h.box.set_ i u, h.a.cell h.box h.ne.2.1 i u, h.b.cell h.box h.ne.2.2 i u, h.ma, h.mb, h.mg, h.low, h.ne, fun p hp => by
    rcases h.np with e | e
    · rw [e] at hp; simp at hp
    · exact own_at (h.px p hp) fun k hk => Below.heap_setCell _ _ _ _ (own_ne_blk (h.px p hp) h.box e.2.2 k hk), h.np⟩
theorem RW.addPix (h : RW t4 s4 t5 s5 tb M w0 B g cs v4 n4 x4 l4 v5 n5 x5 l5 PL W) {r : Value} {px : List P4} (hr : W.ownsRow B 63 4 r px.length (pcs px)) (hn : 63 ≠ t4 ∧ 63 ≠ t5 ∧ 63 ≠ tb) : RW t4 s4 t5 s5 tb M w0 B g cs v4 n4 x4 l4 v5 n5 x5 l5 ((r, px) :: PL) W :=
  ⟨h.tch, h.box, h.a, h.b, h.ma, h.mb, h.mg, h.low, h.ne, fun p hp => by
    rcases List.mem_cons.1 hp with rfl | hp
    · exact hr
    · exact h.px p hp, .inr hn⟩
end
def zImgC : Array Value := #[.int .i64 0, .int .i64 0, .slice none 0 0]
theorem infoImg : (Try.prog.info? 32).map (fun i => (i.zero, i.size, i.bytes)) = some (some (.agg zImgC), 3, 40) := by kernel_rfl
theorem wp_litK {o : Oper} {a : Act} {W : World} {K : Act → World → Prop} {Q : Exit → Act → World → Prop} (dd : Tmp) (hd : o.dst = some dd) (x : Operand)
    (ho : o.op = .buildSlice 36 1 #[(0, x)]) {t5 s5 tb : Nat} {M : List Nat} {w0 : World} {B g : Nat} {cs : Array Value} {v4 : Value} {n4 : Nat} {x4 : List Value} {v5 : Value} {n5 : Nat} {x5 : List Value} {l5 : Option (Nat × Array Value)} {PL : List (Value × List P4)} (y0 y1 y2 y3 y4 : Value) (h : RW 29 5 t5 s5 tb M w0 B g cs v4 n4 x4 none v5 n5 x5 l5 PL W) (hx : a.eval x = .agg #[y0, y1, y2, y3, y4])
    (hK : ∀ gl w', RW 29 5 t5 s5 tb M w0 B g cs v4 n4 x4 (some (gl, #[y0, y1, y2, y3, y4])) v5 n5 x5 l5 PL w' → K (a.put (some dd) (.slice (some ⟨gl, 0, none⟩) 1 1)) w') : o.wp Try.prog a W K Q := by
  obtain ⟨i0, hi0, hz0, hz1, hz2⟩ := info_parts infoKey
  refine wp_buildSlice 36 29 1 _ ho #[y0, y1, y2, y3, y4] i0 (.agg zeroKey) Try.underlying36 hi0 hz0 (by rw [hz1]; decide) (by rw [hz1]; decide) ?_ ?_
  · rw [hz1]; simp only [List.map_toArray, List.map_cons, List.map_nil, hx]; kernel_rfl
  · rw [hd]; exact hK _ _ (h.lit4 _)
theorem wp_appK {o : Oper} {a : Act} {W : World} {K : Act → World → Prop} {Q : Exit → Act → World → Prop} (dd : Tmp) (hd : o.dst = some dd) (s x : Operand)
    (ho : o.op = .call { callee := .builtin .append, args := #[s, x], argTypes := #[36, 36] }) {t5 s5 tb : Nat} {M : List Nat} {w0 : World} {B g : Nat} {cs : Array Value} {v4 : Value} {n4 : Nat} {x4 : List Value} {v5 : Value} {n5 : Nat} {x5 : List Value} {l5 : Option (Nat × Array Value)} {PL : List (Value × List P4)} {gl : Nat} {c : Array Value}
    (h : RW 29 5 t5 s5 tb M w0 B g cs v4 n4 x4 (some (gl, c)) v5 n5 x5 l5 PL W) (hs : a.eval s = v4) (hx : a.eval x = .slice (some ⟨gl, 0, none⟩) 1 1) (hc : c.size = 5) (hu : ∀ y ∈ c.toList, y.oneCell' = true) (hn : (n4 + 1) * 40 ≤ 140737488355328)
    (hK : ∀ v' w', RW 29 5 t5 s5 tb M w0 B g cs v' (n4 + 1) (x4 ++ c.toList) none v5 n5 x5 l5 PL w' → K (a.put (some dd) v') w') : o.wp Try.prog a W K Q := by
  obtain ⟨i0, hi0, hz0, hz1, hz2⟩ := info_parts infoKey
  obtain ⟨v', w', hrun, h2, h3, _, h5⟩ := run_append_own_at (P := Try.prog) W B 36 o.type 29 i0 (.agg zeroKey) 5 40 Try.underlying36 hi0 hz0 hz1 hz2 rfl (by decide) v4 n4 x4 h.a.row ⟨gl, 0, none⟩ 1 1 c.toList (by rw [Array.length_toList, hc]) (World.news_of_block (h.a.new gl c rfl).1) hu (by unfold maxLen; omega) (by omega) h.size
  unfold Oper.wp execOp
  simp only [ho, resolve, invoke, builtin, Sem.run_bind, Sem.run_pure, Result.andThen_ok, List.map_toArray, List.map_cons, List.map_nil, hs, hx, hrun]
  show K (a.put o.dst v') w'
  rw [hd]
  exact hK v' w' (h.app4 h2 h3 h5)
theorem wp_litI {o : Oper} {a : Act} {W : World} {K : Act → World → Prop} {Q : Exit → Act → World → Prop} (dd : Tmp) (hd : o.dst = some dd) (x : Operand)
    (ho : o.op = .buildSlice 48 1 #[(0, x)]) {t4 s4 tb : Nat} {M : List Nat} {w0 : World} {B g : Nat} {cs : Array Value} {v4 : Value} {n4 : Nat} {x4 : List Value} {l4 : Option (Nat × Array Value)} {v5 : Value} {n5 : Nat} {x5 : List Value} {PL : List (Value × List P4)} (y0 y1 y2 : Value) (h : RW t4 s4 32 3 tb M w0 B g cs v4 n4 x4 l4 v5 n5 x5 none PL W) (hx : a.eval x = .agg #[y0, y1, y2])
    (hK : ∀ gl w', RW t4 s4 32 3 tb M w0 B g cs v4 n4 x4 l4 v5 n5 x5 (some (gl, #[y0, y1, y2])) PL w' → K (a.put (some dd) (.slice (some ⟨gl, 0, none⟩) 1 1)) w') : o.wp Try.prog a W K Q := by
  obtain ⟨i0, hi0, hz0, hz1, hz2⟩ := info_parts infoImg
  refine wp_buildSlice 48 32 1 _ ho #[y0, y1, y2] i0 (.agg zImgC) Try.underlying48 hi0 hz0 (by rw [hz1]; decide) (by rw [hz1]; decide) ?_ ?_
  · rw [hz1]; simp only [List.map_toArray, List.map_cons, List.map_nil, hx]; kernel_rfl
  · rw [hd]; exact hK _ _ (h.lit5 _)
theorem wp_appI {o : Oper} {a : Act} {W : World} {K : Act → World → Prop} {Q : Exit → Act → World → Prop} (dd : Tmp) (hd : o.dst = some dd) (s x : Operand)
    (ho : o.op = .call { callee := .builtin .append, args := #[s, x], argTypes := #[48, 48] }) {t4 s4 tb : Nat} {M : List Nat} {w0 : World} {B g : Nat} {cs : Array Value} {v4 : Value} {n4 : Nat} {x4 : List Value} {l4 : Option (Nat × Array Value)} {v5 : Value} {n5 : Nat} {x5 : List Value} {PL : List (Value × List P4)} {gl : Nat} {c : Array Value}
    (h : RW t4 s4 32 3 tb M w0 B g cs v4 n4 x4 l4 v5 n5 x5 (some (gl, c)) PL W) (hs : a.eval s = v5) (hx : a.eval x = .slice (some ⟨gl, 0, none⟩) 1 1) (hc : c.size = 3) (hu : ∀ y ∈ c.toList, y.oneCell' = true) (hn : (n5 + 1) * 40 ≤ 140737488355328)
    (hK : ∀ v' w', RW t4 s4 32 3 tb M w0 B g cs v4 n4 x4 l4 v' (n5 + 1) (x5 ++ c.toList) none PL w' → K (a.put (some dd) v') w') : o.wp Try.prog a W K Q := by
  obtain ⟨i0, hi0, hz0, hz1, hz2⟩ := info_parts infoImg
  obtain ⟨v', w', hrun, h2, h3, _, h5⟩ := run_append_own_at (P := Try.prog) W B 48 o.type 32 i0 (.agg zImgC) 3 40 Try.underlying48 hi0 hz0 hz1 hz2 rfl (by decide) v5 n5 x5 h.b.row ⟨gl, 0, none⟩ 1 1 c.toList (by rw [Array.length_toList, hc]) (World.news_of_block (h.b.new gl c rfl).1) hu (by unfold maxLen; omega) (by omega) h.size
  unfold Oper.wp execOp
  simp only [ho, resolve, invoke, builtin, Sem.run_bind, Sem.run_pure, Result.andThen_ok, List.map_toArray, List.map_cons, List.map_nil, hs, hx, hrun]
  show K (a.put o.dst v') w'
  rw [hd]
  exact hK v' w' (h.app5 h2 h3 h5)
theorem wp_litP {o : Oper} {a : Act} {W : World} {K : Act → World → Prop} {Q : Exit → Act → World → Prop} (dd : Tmp) (hd : o.dst = some dd) (x : Operand)
    (ho : o.op = .buildSlice 30 1 #[(0, x)]) {t5 s5 tb : Nat} {M : List Nat} {w0 : World} {B g : Nat} {cs : Array Value} {v4 : Value} {n4 : Nat} {x4 : List Value} {v5 : Value} {n5 : Nat} {x5 : List Value} {l5 : Option (Nat × Array Value)} {PL : List (Value × List P4)} (y0 y1 y2 y3 : Value) (h : RW 63 4 t5 s5 tb M w0 B g cs v4 n4 x4 none v5 n5 x5 l5 PL W) (hx : a.eval x = .agg #[y0, y1, y2, y3])
    (hK : ∀ gl w', RW 63 4 t5 s5 tb M w0 B g cs v4 n4 x4 (some (gl, #[y0, y1, y2, y3])) v5 n5 x5 l5 PL w' → K (a.put (some dd) (.slice (some ⟨gl, 0, none⟩) 1 1)) w') : o.wp Try.prog a W K Q := by
  obtain ⟨i0, hi0, hz0, hz1, hz2⟩ := info_parts infoPix
  refine wp_buildSlice 30 63 1 _ ho #[y0, y1, y2, y3] i0 (.agg zeroPix) Try.underlying30 hi0 hz0 (by rw [hz1]; decide) (by rw [hz1]; decide) ?_ ?_
  · rw [hz1]; simp only [List.map_toArray, List.map_cons, List.map_nil, hx]; kernel_rfl
  · rw [hd]; exact hK _ _ (h.lit4 _)
theorem wp_appP {o : Oper} {a : Act} {W : World} {K : Act → World → Prop} {Q : Exit → Act → World → Prop} (dd : Tmp) (hd : o.dst = some dd) (s x : Operand)
    (ho : o.op = .call { callee := .builtin .append, args := #[s, x], argTypes := #[30, 30] }) {t5 s5 tb : Nat} {M : List Nat} {w0 : World} {B g : Nat} {cs : Array Value} {v4 : Value} {n4 : Nat} {x4 : List Value} {v5 : Value} {n5 : Nat} {x5 : List Value} {l5 : Option (Nat × Array Value)} {PL : List (Value × List P4)} {gl : Nat} {c : Array Value}
    (h : RW 63 4 t5 s5 tb M w0 B g cs v4 n4 x4 (some (gl, c)) v5 n5 x5 l5 PL W) (hs : a.eval s = v4) (hx : a.eval x = .slice (some ⟨gl, 0, none⟩) 1 1) (hc : c.size = 4) (hu : ∀ y ∈ c.toList, y.oneCell' = true) (hn : (n4 + 1) * 32 ≤ 140737488355328)
    (hK : ∀ v' w', RW 63 4 t5 s5 tb M w0 B g cs v' (n4 + 1) (x4 ++ c.toList) none v5 n5 x5 l5 PL w' → K (a.put (some dd) v') w') : o.wp Try.prog a W K Q := by
  obtain ⟨i0, hi0, hz0, hz1, hz2⟩ := info_parts infoPix
  obtain ⟨v', w', hrun, h2, h3, _, h5⟩ := run_append_own_at (P := Try.prog) W B 30 o.type 63 i0 (.agg zeroPix) 4 32 Try.underlying30 hi0 hz0 hz1 hz2 rfl (by decide) v4 n4 x4 h.a.row ⟨gl, 0, none⟩ 1 1 c.toList (by rw [Array.length_toList, hc]) (World.news_of_block (h.a.new gl c rfl).1) hu (by unfold maxLen; omega) (by omega) h.size
  unfold Oper.wp execOp
  simp only [ho, resolve, invoke, builtin, Sem.run_bind, Sem.run_pure, Result.andThen_ok, List.map_toArray, List.map_cons, List.map_nil, hs, hx, hrun]
  show K (a.put o.dst v') w'
  rw [hd]
  exact hK v' w' (h.app4 h2 h3 h5)

end Go.Proofs.Ytkdokipgakncjaa.Cac
