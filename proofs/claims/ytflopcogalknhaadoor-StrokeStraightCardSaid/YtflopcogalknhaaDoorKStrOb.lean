/-
  Layer 21: lists of polygons that grow: the program's outline, the document's list.
-/
import Derived.Test.YtflopcogalknhaaDoorKStrQ
set_option linter.unusedVariables false
set_option linter.unusedSimpArgs false
namespace Go.Proofs.YtflopcogalknhaaDoor.Str
open Go.RowKit Go.Proofs.YtflopcogalknhaaDoor Go.Proofs.YtflopcogalknhaaDoor.NumPure

/-- An object: a state of memory and the blocks that are its own. -/
abbrev Obj := World → List Nat → Prop
/-- What a call leaves of an object. -/
def Out (P : Str.Obj) (M : List Nat) (w w' : World) : Prop := ∃ M', P w' M' ∧ Tch M w w' ∧ ∀ k ∈ M', k ∈ M ∨ w.heap.size ≤ k
theorem Out.trans {P P' : Str.Obj} {M : List Nat} {w w1 w' : World} (h : Out P M w w1) (h' : ∀ M', P w1 M' → Out P' M' w1 w') : Out P' M w w' := by
  obtain ⟨M', h1, h2, h3⟩ := h
  obtain ⟨M'', k1, k2, k3⟩ := h' M' h1
  refine ⟨M'', k1, h2.trans k2 h3, fun k hk => ?_⟩
  rcases k3 k hk with h4 | h4
  · exact h3 k h4
  · exact .inr (Nat.le_trans h2.size h4)
theorem tch_of_below {w w' : World} {M : List Nat} (hb : Below w.heap.size w w') : Tch M w w' := (Tch.refl M w).below hb
def GL (L : List (List P2)) : Prop := ∀ l ∈ L, 3 ≤ l.length ∧ l.length ≤ 16
theorem GL.nil : GL [] := fun _ h => by simp at h
theorem GL.snoc {L : List (List P2)} {l : List P2} (h : GL L) (h3 : 3 ≤ l.length) (h16 : l.length ≤ 16) : GL (L ++ [l]) := fun x hx => by
  rcases List.mem_append.1 hx with hx | hx
  · exact h x hx
  · simp only [List.mem_singleton] at hx
    rw [hx]; exact ⟨h3, h16⟩
theorem GL.put {L : List (List P2)} {l : List P2} (h : GL L) (h3 : 3 ≤ l.length) (h16 : l.length ≤ 16) : GL (put L l) := by
  unfold Str.put
  split
  · exact h
  · split
    · exact h.snoc (by rw [List.length_reverse]; exact h3) (by rw [List.length_reverse]; exact h16)
    · exact h.snoc h3 h16
theorem put_len (L : List (List P2)) (l : List P2) : (put L l).length ≤ L.length + 1 := by
  unfold put
  split
  · omega
  · split <;> simp
theorem GL.pts {L : List (List P2)} (h : GL L) : ptsN L ≤ 16 * L.length ∧ 3 * L.length ≤ ptsN L := by
  induction L with
  | nil => simp [ptsN]
  | cons a r ih =>
    have e : ptsN (a :: r) = a.length + ptsN r := by simp [ptsN]
    have h1 := h a (by simp)
    have h2 := ih fun l hl => h l (by simp [hl])
    rw [e, List.length_cons]
    omega
theorem ptsN_snoc (L : List (List P2)) (l : List P2) : ptsN (L ++ [l]) = ptsN L + l.length := by rw [ptsN_app]; simp [ptsN]
theorem ptr_same {w w' : World} {g : Nat} {l : List P2} (h : PtR w (some ⟨g, 0, none⟩) l) (hs : w.heap.size ≤ w'.heap.size) (he : w'.heap[g]? = w.heap[g]?) : PtR w' (some ⟨g, 0, none⟩) l :=
  ⟨h.1, fun hn => by
    obtain ⟨ad, e, hb, hc⟩ := h.2 hn
    injection e with e
    subst e
    exact ⟨_, rfl, by omega, fun j u hu => (World.cell?_of_block (by rw [block_of_add]; exact he)).trans (hc j u hu)⟩⟩
theorem slcs_snoc (ra : Nat → Option Addr) (rc : Nat → Nat) (L : List (List P2)) (A : Option Addr) (c : Nat) (l : List P2) : slcs (fun i => if i < L.length then ra i else A) (fun i => if i < L.length then rc i else c) (L ++ [l]) = slcs ra rc L ++ [.slice A l.length c] := by
  unfold slcs
  rw [List.length_append, List.length_singleton, List.range_succ, List.map_append]
  congr 1
  · apply List.map_congr_left
    intro i hi
    rw [List.mem_range] at hi
    dsimp only
    rw [if_pos hi, if_pos hi, List.getD_eq_getElem?_getD, List.getD_eq_getElem?_getD, List.getElem?_append_left hi]
  · simp
theorem slcs_one (ra : Nat → Option Addr) (rc : Nat → Nat) (L : List (List P2)) : ∀ u ∈ slcs ra rc L, u.oneCell' = true := by
  intro u hu
  unfold slcs at hu
  obtain ⟨i, _, rfl⟩ := List.mem_map.1 hu
  rfl
/-- A list of polygons in a row of one's own. -/
structure RLv (B : Nat) (L : List (List P2)) (v : Value) (rb rc : Nat → Nat) (W : World) : Prop where
  row : W.ownsRow B 36 1 v L.length (slcs (fun i => some ⟨rb i, 0, none⟩) rc L)
  pol : ∀ i, i < L.length → PtR W (some ⟨rb i, 0, none⟩) (L.getD i []) ∧ ∃ cs, Blk W (rb i) 30 cs
  lowp : ∀ i, i < L.length → B ≤ rb i
section
variable {B : Nat} {L : List (List P2)} {v : Value} {rb rc : Nat → Nat} {W W' w0 : World}
theorem RLv.start (B : Nat) (W : World) : RLv B [] (.slice none 0 0) (fun _ => 0) (fun _ => 0) W := ⟨⟨by simp [slcs], .inl ⟨rfl, rfl⟩⟩, fun i hi => absurd hi (Nat.not_lt_zero i), fun i hi => absurd hi (Nat.not_lt_zero i)⟩
/-- It stands where its blocks are left alone. -/
theorem RLv.keep (h : RLv B L v rb rc W) (hs : W.heap.size ≤ W'.heap.size) (hr : ∀ k, v.ownBlock = some k → W'.heap[k]? = W.heap[k]?) (hp : ∀ k cs, Blk W k 30 cs → (∃ i, i < L.length ∧ rb i = k) → W'.heap[k]? = W.heap[k]?) : RLv B L v rb rc W' :=
  ⟨own_at h.row hr, fun i hi => by
    obtain ⟨h1, cs, h2⟩ := h.pol i hi
    have e := hp (rb i) cs h2 ⟨i, hi, rfl⟩
    exact ⟨ptr_same h1 hs e, cs, e.trans h2⟩, h.lowp⟩
theorem RLv.below (h : RLv B L v rb rc W) (hb : Below W.heap.size W W') : RLv B L v rb rc W' :=
  h.keep hb.size (fun k hk => hb.block k (own_lt h.row k hk)) (fun k _ hc _ => hb.block k hc.lt)
/-- A new block has been written. -/
theorem RLv.new (h : RLv B L v rb rc w0) (hb : Below w0.heap.size w0 W') : RLv B L v rb rc W' := h.below hb
theorem RLv.ne_row (h : RLv B L v rb rc W) {k : Nat} {cs : Array Value} (hk : Blk W k 30 cs) : v.ownBlock ≠ some k := fun e => own_ne_blk h.row hk (by decide) k e rfl
theorem RLv.push (h : RLv B L v rb rc W) {p c : Nat} {l : List P2} {v' : Value} {w7 : World} {gl : Nat} {y : Value} (hy : y = .slice (some ⟨p, 0, none⟩) l.length c) (hl : W' = W.alloc (.cells #[y] 36) ∧ gl = W.heap.size) (hp : PtR W (some ⟨p, 0, none⟩) l) {cs0 : Array Value} (hpb : Blk W p 30 cs0) (hBp : B ≤ p)
    (ho : w7.ownsRow B 36 1 v' (L.length + 1) (slcs (fun i => some ⟨rb i, 0, none⟩) rc L ++ [y])) (hg : W'.grownBy w7 v.ownBlock) :
    RLv B (L ++ [l]) v' (fun i => if i < L.length then rb i else p) (fun i => if i < L.length then rc i else c) w7 := by
  obtain ⟨rfl, rfl⟩ := hl
  subst hy
  have hb := (Below.refl W.heap.size W).alloc (Nat.le_refl _) (.cells #[.slice (some ⟨p, 0, none⟩) l.length c] 36)
  have hsz : W.heap.size ≤ w7.heap.size := Nat.le_trans hb.size hg.size
  have hk : ∀ k cs, Blk W k 30 cs → w7.heap[k]? = W.heap[k]? := fun k cs hc => by
    have := hc.lt
    rw [hg.block k (Nat.lt_of_lt_of_le this hb.size) (fun e => h.ne_row hc e.symm), hb.block k this]
  refine ⟨?_, fun i hi => ?_, fun i hi => ?_⟩
  · rw [List.length_append, List.length_singleton]
    have e := slcs_snoc (fun i => some ⟨rb i, 0, none⟩) rc L (some ⟨p, 0, none⟩) c l
    rw [← e] at ho
    have e2 : (fun i => some (⟨if i < L.length then rb i else p, 0, none⟩ : Addr)) = fun i => if i < L.length then some (⟨rb i, 0, none⟩ : Addr) else some ⟨p, 0, none⟩ := by
      funext i
      split <;> rfl
    rw [e2]
    exact ho
  · rw [List.length_append, List.length_singleton] at hi
    by_cases hlt : i < L.length
    · obtain ⟨h1, cs, h2⟩ := h.pol i hlt
      have e := hk (rb i) cs h2
      rw [if_pos hlt, List.getD_eq_getElem?_getD, List.getElem?_append_left hlt, ← List.getD_eq_getElem?_getD]
      exact ⟨ptr_same h1 hsz e, cs, e.trans h2⟩
    · obtain rfl : i = L.length := by omega
      have e := hk p _ hpb
      rw [if_neg hlt]
      simp only [List.getD_eq_getElem?_getD, List.getElem?_append_right (Nat.le_refl _), Nat.sub_self, List.getElem?_cons_zero, Option.getD_some]
      exact ⟨ptr_same hp hsz e, _, e.trans hpb⟩
  · split
    · exact h.lowp i (by assumption)
    · exact hBp
theorem RLv.pol_read (h : RLv B L v rb rc W) : ∃ A cap, v = .slice A L.length cap ∧ PolR W A L := by
  obtain ⟨A, cap, rfl, _, hr⟩ := own_open h.row
  exact ⟨A, cap, rfl, fun i => some ⟨rb i, 0, none⟩, rc, hr, fun i hi => (h.pol i hi).1⟩
end
theorem infoS : (Tryd.prog.info? 36).map (fun i => (i.zero, i.size, i.bytes)) = some (some (.slice none 0 0), 1, 24) := by kernel_rfl
theorem wpList_appL {ops : Array Oper} {rest : List Oper} {o : Oper} {a : Act} {w : World} {Q : Exit → Act → World → Prop} (hgd : o.guard = none) (s x : Operand) (ho : o.op = .call { callee := .builtin .append, args := #[s, x], argTypes := #[22, 22] })
    {B n gl : Nat} {v y : Value} {xs : List Value} (hown : w.ownsRow B 36 1 v n xs) (hs : a.eval s = v) (hx : a.eval x = .slice (some ⟨gl, 0, none⟩) 1 1) (hy : Blk w gl 36 #[y]) (hy1 : y.oneCell' = true) (hn : (n + 1) * 24 ≤ 140737488355328) (hB : B ≤ w.heap.size)
    (h : ∀ v' w', w'.ownsRow B 36 1 v' (n + 1) (xs ++ [y]) → w.grownBy w' v.ownBlock → (v'.ownBlock = v.ownBlock ∨ v'.ownBlock = some w.heap.size) → wpList Tryd.prog ops Q rest (a.put o.dst v') w') : wpList Tryd.prog ops Q (o :: rest) a w := by
  obtain ⟨i0, hi0, hz0, hz1, hz2⟩ := info_parts infoS
  obtain ⟨v', w', hrun, h2, h3, _, h5⟩ := run_append_own_at (P := Tryd.prog) w B 22 o.type 36 i0 (.slice none 0 0) 1 24 Tryd.underlying22 hi0 hz0 hz1 hz2 rfl (by decide) v n xs hown ⟨gl, 0, none⟩ 1 1 [y] rfl (World.news_of_block hy) (fun u hu => by simp only [List.mem_singleton] at hu; rw [hu]; exact hy1) (by unfold maxLen; omega) (by omega) hB
  refine wpList_plain hgd fun K hK => ?_
  unfold Oper.wp execOp
  simp only [ho, resolve, invoke, builtin, Sem.run_bind, Sem.run_pure, Result.andThen_ok, List.map_toArray, List.map_cons, List.map_nil, hs, hx, hrun]
  exact hK _ _ (h v' w' h2 h3 h5)
/-- The blocks of a list of polygons. -/
def fp (L : List (List P2)) (v : Value) (rb : Nat → Nat) : List Nat := bl v ++ (List.range L.length).map rb
theorem mem_fp {L : List (List P2)} {v : Value} {rb : Nat → Nat} {k : Nat} : k ∈ fp L v rb ↔ v.ownBlock = some k ∨ ∃ i, i < L.length ∧ rb i = k := by
  unfold fp
  rw [List.mem_append, mem_bl, List.mem_map]
  simp only [List.mem_range]
theorem fp_push {L : List (List P2)} {l : List P2} {v' : Value} {rb : Nat → Nat} {p n : Nat} {N : List Nat} (ho : ∀ k, v'.ownBlock = some k → k ∈ N ∨ n ≤ k) (hr : ∀ i, i < L.length → rb i ∈ N) (hp : n ≤ p) : ∀ k ∈ fp (L ++ [l]) v' (fun i => if i < L.length then rb i else p), k ∈ N ∨ n ≤ k := fun k hk => by
  rcases mem_fp.1 hk with h | ⟨i, hi, h⟩
  · exact ho k h
  · by_cases hlt : i < L.length
    · rw [if_pos hlt] at h
      rw [← h]
      exact Or.inl (hr i hlt)
    · rw [if_neg hlt] at h
      omega
/-- The document's list as an object. -/
def RL (B : Nat) (L : List (List P2)) (v : Value) : Str.Obj := fun W M => ∃ rb rc, M = fp L v rb ∧ RLv B L v rb rc W
/-- The program's outline. -/
structure OLv (wd j e : Int) (B g : Nat) (L : List (List P2)) (v : Value) (rb rc : Nat → Nat) (W : World) : Prop where
  r : RLv B L v rb rc W
  box : Blk W g 47 #[.int .i64 wd, .int .i64 j, .int .i64 e, v, .int .i64 (ptsN L : Nat)]
  low : B ≤ g
def OL (wd j e : Int) (B g : Nat) (L : List (List P2)) : Str.Obj := fun W M => ∃ v rb rc, M = g :: fp L v rb ∧ OLv wd j e B g L v rb rc W
section
variable {wd j e : Int} {B g : Nat} {L : List (List P2)} {v : Value} {rb rc : Nat → Nat} {W W' w0 : World} {M : List Nat}
theorem OLv.below (h : OLv wd j e B g L v rb rc W) (hb : Below W.heap.size W W') : OLv wd j e B g L v rb rc W' := ⟨h.r.below hb, h.box.below hb h.box.lt, h.low⟩
theorem OL.later (h : OL wd j e B g L W M) (hb : Below W.heap.size W W') : OL wd j e B g L W' M := by
  obtain ⟨v, rb, rc, rfl, h⟩ := h
  exact ⟨v, rb, rc, rfl, h.below hb⟩
theorem RL.later {v : Value} (h : RL B L v W M) (hb : Below W.heap.size W W') : RL B L v W' M := by
  obtain ⟨rb, rc, rfl, h⟩ := h
  exact ⟨rb, rc, rfl, h.below hb⟩
theorem RLv.fsize (h : RLv B L v rb rc W) : ∀ k ∈ fp L v rb, k < W.heap.size := fun k hk => by
  rcases mem_fp.1 hk with h1 | ⟨i, hi, rfl⟩
  · exact own_lt h.row k h1
  · obtain ⟨_, cs, h2⟩ := h.pol i hi
    exact h2.lt
theorem RLv.flow (h : RLv B L v rb rc W) : ∀ k ∈ fp L v rb, B ≤ k := fun k hk => by
  rcases mem_fp.1 hk with h1 | ⟨i, hi, rfl⟩
  · exact own_low h.row k h1
  · exact h.lowp i hi
theorem RLv.tch {N : List Nat} (h : RLv B L v rb rc W) (ht : Tch N W W') (hd : ∀ k ∈ fp L v rb, k ∉ N) : RLv B L v rb rc W' :=
  h.keep ht.size (fun k hk => ht.block k (own_lt h.row k hk) (hd k (mem_fp.2 (Or.inl hk)))) (fun k cs hc hi => ht.block k hc.lt (hd k (mem_fp.2 (Or.inr hi))))
theorem OL.tch {N : List Nat} (h : OL wd j e B g L W M) (ht : Tch N W W') (hd : ∀ k ∈ M, k ∉ N) : OL wd j e B g L W' M := by
  obtain ⟨v, rb, rc, rfl, h⟩ := h
  exact ⟨v, rb, rc, rfl, h.r.tch ht (fun k hk => hd k (List.mem_cons_of_mem _ hk)), ht.blk h.box (hd g (by simp)), h.low⟩
theorem RL.tch {v : Value} {N : List Nat} (h : RL B L v W M) (ht : Tch N W W') (hd : ∀ k ∈ M, k ∉ N) : RL B L v W' M := by
  obtain ⟨rb, rc, rfl, h⟩ := h
  exact ⟨rb, rc, rfl, h.tch ht hd⟩
theorem Out.later_ol (h : Out (OL wd j e B g L) M w0 W) (hb : Below W.heap.size W W') : Out (OL wd j e B g L) M w0 W' := by
  obtain ⟨M', h1, h2, h3⟩ := h
  exact ⟨M', h1.later hb, h2.below hb, h3⟩
theorem Out.later_rl {v : Value} (h : Out (RL B L v) M w0 W) (hb : Below W.heap.size W W') : Out (RL B L v) M w0 W' := by
  obtain ⟨M', h1, h2, h3⟩ := h
  exact ⟨M', h1.later hb, h2.below hb, h3⟩
theorem OL.size (h : OL wd j e B g L W M) : ∀ k ∈ M, k < W.heap.size := by
  obtain ⟨v, rb, rc, rfl, h⟩ := h
  intro k hk
  rcases List.mem_cons.1 hk with rfl | hk
  · exact h.box.lt
  · exact h.r.fsize k hk
theorem OL.lows (h : OL wd j e B g L W M) : ∀ k ∈ M, B ≤ k := by
  obtain ⟨v, rb, rc, rfl, h⟩ := h
  intro k hk
  rcases List.mem_cons.1 hk with rfl | hk
  · exact h.low
  · exact h.r.flow k hk
theorem RL.lows {v : Value} (h : RL B L v W M) : ∀ k ∈ M, B ≤ k := by
  obtain ⟨rb, rc, rfl, h⟩ := h
  exact h.flow
theorem OL.cells (h : OL wd j e B g L W M) : W.cell? ⟨g, 0, none⟩ = some (.int .i64 wd) ∧ W.cell? ⟨g, 1, none⟩ = some (.int .i64 j) ∧ W.cell? ⟨g, 2, none⟩ = some (.int .i64 e) := by
  obtain ⟨v, rb, rc, rfl, h⟩ := h
  exact ⟨h.box.cell 0, h.box.cell 1, h.box.cell 2⟩
theorem out_step {P' : Str.Obj} {M' : List Nat} {W1 Wp w' : World} (ht : Tch M W1 Wp) (hM : ∀ k ∈ M', k ∈ M ∨ W1.heap.size ≤ k) (h : Out P' M' Wp w') : Out P' M W1 w' := by
  obtain ⟨M'', h1, h2, h3⟩ := h
  refine ⟨M'', h1, ht.trans h2 hM, fun k hk => ?_⟩
  rcases h3 k hk with h4 | h4
  · exact hM k h4
  · exact Or.inr (Nat.le_trans ht.size h4)
theorem RL.size {v : Value} (h : RL B L v W M) : ∀ k ∈ M, k < W.heap.size := by
  obtain ⟨rb, rc, rfl, h⟩ := h
  exact h.fsize
end
end Go.Proofs.YtflopcogalknhaaDoor.Str
