/-
  Texts of this claim, joined (5 of 8): ProM, ProN, ProO, ProP, ProQ, ProR, ProS, ProT, ProU, ProV.
-/
import Derived.Test.YtcighjeiimjbiaaAll4

/- ProM: Layer 9, both sides: named blocks; Linear. -/
namespace Go.Proofs.Ytcighjeiimjbiaa.Pro
open Go.RowKit Go.Proofs.Ytcighjeiimjbiaa Go.Proofs.Ytcighjeiimjbiaa.NumPure
open Go.Proofs.Ytcighjeiimjbiaa.Mat (al ac invM invX appM info9 info3)

/-- Blocks with their numbers, types and cells, in a world that has grown out of w. -/
abbrev Ent := Nat × TypeId × Array Value
structure Bn (w W : World) (L : List Ent) : Prop where
  b : Below w.heap.size w W
  at_ : ∀ (i : Nat) (x : Ent), L[i]? = some x → Blk W x.1 x.2.1 x.2.2
theorem Bn.get {w W : World} {L : List Ent} (h : Bn w W L) (i : Nat) {g : Nat} {t : TypeId} {cs : Array Value} (hx : L[i]? = some (g, t, cs)) : Blk W g t cs := h.at_ i _ hx
theorem Bn.drew {w W : World} {L : List Ent} (h : Bn w W L) : Bn w W.drew L := ⟨h.b.drew, fun i x hx => (h.at_ i x hx).drew⟩
theorem Bn.below {w W W' : World} {L : List Ent} (h : Bn w W L) (hb : Below W.heap.size W W') : Bn w W' L := ⟨h.b.trans (hb.mono h.b.size), fun i x hx => (h.at_ i x hx).below hb (h.at_ i x hx).lt⟩
theorem Bn.nil (w : World) : Bn w w [] := ⟨Below.refl _ _, fun i x hx => by simp at hx⟩
theorem Bn.push {w W : World} {L : List Ent} (h : Bn w W L) (n : Nat) (hn : n = W.heap.size) (t : TypeId) (cs : Array Value) : Bn w (W.alloc (.cells cs t)) (L ++ [(n, t, cs)]) := by
  subst hn
  refine ⟨h.b.alloc h.b.size _, fun i x hx => ?_⟩
  rcases Nat.lt_trichotomy i L.length with hi | hi | hi
  · rw [List.getElem?_append_left hi] at hx
    exact (h.at_ i x hx).alloc _
  · rw [List.getElem?_append_right (by omega), hi, Nat.sub_self] at hx
    injection hx with hx
    subst hx
    exact Blk.new _ _ _
  · rw [List.getElem?_eq_none (by simp; omega)] at hx
    cases hx
theorem Blk.row {W : World} {g : Nat} {t : TypeId} {cs : Array Value} (h : Blk W g t cs) (ds : Array Value) : Blk (W.setRow g ds) g t ds := setRow_heap _ _ _ _ _ _ h
theorem Blk.rowFar {W : World} {g k : Nat} {t : TypeId} {cs : Array Value} (h : Blk W g t cs) (hk : g ≠ k) (ds : Array Value) : Blk (W.setRow k ds) g t cs := (setRow_other _ _ _ _ hk).trans h
theorem Bn.row {w W : World} {L : List Ent} (h : Bn w W L) (i : Nat) {g : Nat} {t : TypeId} {cs : Array Value} (hx : L[i]? = some (g, t, cs)) (hg : w.heap.size ≤ g) (hd : ∀ (j : Nat) (x : Ent), j ≠ i → L[j]? = some x → x.1 ≠ g) (ds : Array Value) : Bn w (W.setRow g ds) (L.set i (g, t, ds)) := by
  refine ⟨Mat.below_setRow h.b hg _, fun j x hj => ?_⟩
  rw [List.getElem?_set] at hj
  by_cases e : i = j
  · subst e
    have hi : i < L.length := (List.getElem?_eq_some_iff.1 hx).1
    rw [if_pos rfl, if_pos hi] at hj
    injection hj with hj
    subst hj
    exact Blk.row (h.get i hx) _
  · rw [if_neg e] at hj
    exact Blk.rowFar (h.at_ j x hj) (hd j x (fun q => e q.symm) hj) _
theorem size_alloc1 (w : World) (o : Obj) : w.heap.size + 1 = (w.alloc o).heap.size := (Array.size_push _).symm
theorem size_alloc2 (w : World) (o o' : Obj) : w.heap.size + 1 + 1 = ((w.alloc o).alloc o').heap.size := by rw [← size_alloc1, ← size_alloc1]
theorem size_alloc3 (w : World) (o o' o'' : Obj) : w.heap.size + 1 + 1 + 1 = (((w.alloc o).alloc o').alloc o'').heap.size := by rw [← size_alloc1, ← size_alloc1, ← size_alloc1]
theorem Bn.three (w : World) (t1 t2 t3 : TypeId) (c1 c2 c3 : Array Value) : Bn w (((w.alloc (.cells c1 t1)).alloc (.cells c2 t2)).alloc (.cells c3 t3)) [(w.heap.size, t1, c1), (w.heap.size + 1, t2, c2), (w.heap.size + 1 + 1, t3, c3)] :=
  (((Bn.nil w).push _ rfl t1 c1).push _ (size_alloc1 _ _) t2 c2).push _ (size_alloc2 _ _ _) t3 c3
theorem Bn.four (w : World) (t1 t2 t3 t4 : TypeId) (c1 c2 c3 c4 : Array Value) : Bn w ((((w.alloc (.cells c1 t1)).alloc (.cells c2 t2)).alloc (.cells c3 t3)).alloc (.cells c4 t4)) [(w.heap.size, t1, c1), (w.heap.size + 1, t2, c2), (w.heap.size + 1 + 1, t3, c3), (w.heap.size + 1 + 1 + 1, t4, c4)] :=
  (Bn.three w t1 t2 t3 c1 c2 c3).push _ (size_alloc3 _ _ _ _) t4 c4

theorem four_row {w : World} {g : Nat} {t : TypeId} {a b c d a' b' c' d' : Value} (h : Blk w g t #[a, b, c, d]) : (((w.setCell ⟨g, 0, none⟩ a').setCell ⟨g, 1, none⟩ b').setCell ⟨g, 2, none⟩ c').setCell ⟨g, 3, none⟩ d' = w.setRow g #[a', b', c', d'] := by
  rw [setCell_eq_setRow w g 0 _ _ _ _ h, setCell_eq_setRow _ g 1 _ _ _ _ (Blk.row h _), setRow_setRow, setCell_eq_setRow _ g 2 _ _ _ _ (Blk.row h _), setRow_setRow, setCell_eq_setRow _ g 3 _ _ _ _ (Blk.row h _), setRow_setRow]
  rfl
def pcs (p : P4) : Array Value := #[.int .i64 p.1, .int .i64 p.2.1, .int .i64 p.2.2.1, .int .i64 p.2.2.2]
theorem pagg_pcs (p : P4) : pagg p = .agg (pcs p) := rfl
theorem infoX (p : P4) : (Try.prog.info? 23).map (·.size) = some (pcs p).size := by kernel_rfl
theorem pcs_one (p : P4) : (pcs p).all (·.oneCell') = true := by simp [pcs, Value.oneCell']
def l3 (a b c : Int) : Nat → Int := fun j => if j = 0 then a else if j = 1 then b else c
theorem l3_agg (a b c : Int) : (#[.int .i64 a, .int .i64 b, .int .i64 c] : Array Value) = ac 3 (l3 a b c) := rfl
def lin0 (p : Pf) (x : P4) : Nat → Int := appM p.m (l3 (kAt p.k (unt x.1)) (kAt p.k (unt x.2.1)) (kAt p.k (unt x.2.2.1)))
def linV (p : Pf) (x : P4) : Nat → Int := if pErr p = 0 then lin0 p x else fun _ => 0
def LinC (f : Nat → Int) (w : World) (e : Ending) (w' : World) : Prop := e = .returned (.agg (ac 3 f)) ∧ Below w.heap.size w w'

set_option maxRecDepth 100000 in
set_option maxHeartbeats 8000000 in
theorem linear_any (p : Pf) (x : P4) (w : World) (h : PfR w p) : Calls Try.prog 35 #[p.val, pagg x] w (LinC (lin0 p x) w) := by
  obtain ⟨x0, x1, x2, x3⟩ := x
  have H0 := Bn.three w 27 23 34 p.cells (pcs (x0, x1, x2, x3)) (ac 3 fun _ => 0)
  obtain ⟨W, hW⟩ : ∃ W, ((w.alloc (.cells p.cells 27)).alloc (.cells (pcs (x0, x1, x2, x3)) 23)).alloc (.cells (ac 3 fun _ => 0) 34) = W := ⟨_, rfl⟩
  rw [hW] at H0
  have HB := Lib.hid H0
  have HR := Lib.hid h
  clear h H0
  unfold Pf.val
  rw [pagg_pcs]
  go_enter Try.func35, Try.ntmps35
  obtain ⟨c0, c1, c2, c3, cf⟩ := blk4 (HB.out.get 1 rfl)
  go_wp2_with (refine Mat.wpList_alloc3 rfl rfl ?_)
  clear c0 c1 c2 c3 cf
  refine (xLimit_any (x0, x1, x2, x3) W).mono ?_
  rintro e w1 ⟨rfl, hb⟩
  have H1 := HB.out.below hb
  have H2 := H1.row 1 rfl (by omega) (by (intro j y hj hy; rcases j with _ | _ | _ | _ | _ | _ | j <;> first | exact absurd rfl hj | (simp only [List.getElem?_cons_zero, List.getElem?_cons_succ, Option.some.injEq] at hy; subst hy; dsimp only; omega) | (simp at hy; done))) (pcs (limP (x0, x1, x2, x3)))
  have HB1 := Lib.hid H1
  have HB2 := Lib.hid H2
  clear HB hb H1 H2
  obtain ⟨c0, c1, c2, c3, cf⟩ := blk4 (HB1.out.get 1 rfl)
  unfold pagg limP
  go_wp2_with fail
  rw [four_row (HB1.out.get 1 rfl)]
  clear c0 c1 c2 c3 cf
  obtain ⟨W2, hW2⟩ : ∃ W2, w1.setRow (w.heap.size + 1) #[.int .i64 (unt x0), .int .i64 (unt x1), .int .i64 (unt x2), .int .i64 (unt x3)] = W2 := ⟨_, rfl⟩
  have HB2 : Hid (Bn w W2 [(w.heap.size, 27, p.cells), (w.heap.size + 1, 23, pcs (unt x0, unt x1, unt x2, unt x3)), (w.heap.size + 1 + 1, 34, ac 3 fun _ => 0)]) := Lib.hid (by rw [← hW2]; exact HB2.out)
  rw [hW2]

  clear HB1 hW2
  refine wp_region_held_drew (S := fun W => ∃ f, Bn w W [(w.heap.size, 27, p.cells), (w.heap.size + 1, 23, pcs (unt x0, unt x1, unt x2, unt x3)), (w.heap.size + 1 + 1, 34, ac 3 f)]) (by kernel_rfl) ⟨_, HB2.out.drew⟩ (fun hHeld => ?_)
  refine wpAnyH_take (i := 0) (oi := _) (v := .pointer (some ⟨w.heap.size, 2, none⟩)) rfl (by kernel_rfl) (by kernel_rfl) (by kernel_rfl) (fun _ _ _ h => h) (Or.inl ⟨by rfl, fun W1 hS => by go_simp⟩) (by assumption) ?_
  go_simp
  refine wpAnyH_take (i := 1) (oi := _) (v := .agg (ac 9 p.m)) rfl (by kernel_rfl) (by kernel_rfl) (by kernel_rfl) (fun _ _ _ h => h) (yieldsIf_load_mid (by rfl) 25 _ rfl w.heap.size 2 rfl (al 9 p.m) _ (fun W hS => (blkP (hS.choose_spec.get 0 rfl)).2.2) Try.underlying25 rfl info9l) (by assumption) ?_
  go_simp
  refine wpAnyH_take (i := 2) (oi := _) (v := .pointer (some ⟨w.heap.size, 1, none⟩)) rfl (by kernel_rfl) (by kernel_rfl) (by kernel_rfl) (fun _ _ _ h => h) (Or.inl ⟨by rfl, fun W1 hS => by go_simp⟩) (by assumption) ?_
  go_simp
  refine wpAnyH_take (i := 3) (oi := _) (v := .slice p.A p.k.length p.c) rfl (by kernel_rfl) (by kernel_rfl) (by kernel_rfl) (fun _ _ _ h => h) (Or.inl ⟨by rfl, fun W1 hS => by (obtain ⟨f, hS⟩ := hS; obtain ⟨z0, z1, _⟩ := blkP (hS.get 0 rfl); go_simp)⟩) (by assumption) ?_
  go_simp
  refine wpAnyH_take (i := 4) (oi := _) (v := .pointer (some ⟨w.heap.size + 1, 0, none⟩)) rfl (by kernel_rfl) (by kernel_rfl) (by kernel_rfl) (fun _ _ _ h => h) (Or.inl ⟨by rfl, fun W1 hS => by go_simp⟩) (by assumption) ?_
  go_simp
  refine wpAnyH_take (i := 5) (oi := _) (v := .int .i64 (unt x0)) rfl (by kernel_rfl) (by kernel_rfl) (by kernel_rfl) (fun _ _ _ h => h) (Or.inl ⟨by rfl, fun W1 hS => by (obtain ⟨f, hS⟩ := hS; obtain ⟨z0, z1, z2, z3, _⟩ := blk4 (hS.get 1 rfl); go_simp)⟩) (by assumption) ?_
  go_simp
  refine wpAnyH_take (i := 7) (oi := _) (v := .pointer (some ⟨w.heap.size, 1, none⟩)) rfl (by kernel_rfl) (by kernel_rfl) (by kernel_rfl) (fun _ _ _ h => h) (Or.inl ⟨by rfl, fun W1 hS => by go_simp⟩) (by assumption) ?_
  go_simp
  refine wpAnyH_take (i := 8) (oi := _) (v := .slice p.A p.k.length p.c) rfl (by kernel_rfl) (by kernel_rfl) (by kernel_rfl) (fun _ _ _ h => h) (Or.inl ⟨by rfl, fun W1 hS => by (obtain ⟨f, hS⟩ := hS; obtain ⟨z0, z1, _⟩ := blkP (hS.get 0 rfl); go_simp)⟩) (by assumption) ?_
  go_simp
  refine wpAnyH_take (i := 9) (oi := _) (v := .pointer (some ⟨w.heap.size + 1, 1, none⟩)) rfl (by kernel_rfl) (by kernel_rfl) (by kernel_rfl) (fun _ _ _ h => h) (Or.inl ⟨by rfl, fun W1 hS => by go_simp⟩) (by assumption) ?_
  go_simp
  refine wpAnyH_take (i := 10) (oi := _) (v := .int .i64 (unt x1)) rfl (by kernel_rfl) (by kernel_rfl) (by kernel_rfl) (fun _ _ _ h => h) (Or.inl ⟨by rfl, fun W1 hS => by (obtain ⟨f, hS⟩ := hS; obtain ⟨z0, z1, z2, z3, _⟩ := blk4 (hS.get 1 rfl); go_simp)⟩) (by assumption) ?_
  go_simp
  refine wpAnyH_take (i := 12) (oi := _) (v := .pointer (some ⟨w.heap.size, 1, none⟩)) rfl (by kernel_rfl) (by kernel_rfl) (by kernel_rfl) (fun _ _ _ h => h) (Or.inl ⟨by rfl, fun W1 hS => by go_simp⟩) (by assumption) ?_
  go_simp
  refine wpAnyH_take (i := 13) (oi := _) (v := .slice p.A p.k.length p.c) rfl (by kernel_rfl) (by kernel_rfl) (by kernel_rfl) (fun _ _ _ h => h) (Or.inl ⟨by rfl, fun W1 hS => by (obtain ⟨f, hS⟩ := hS; obtain ⟨z0, z1, _⟩ := blkP (hS.get 0 rfl); go_simp)⟩) (by assumption) ?_
  go_simp
  refine wpAnyH_take (i := 14) (oi := _) (v := .pointer (some ⟨w.heap.size + 1, 2, none⟩)) rfl (by kernel_rfl) (by kernel_rfl) (by kernel_rfl) (fun _ _ _ h => h) (Or.inl ⟨by rfl, fun W1 hS => by go_simp⟩) (by assumption) ?_
  go_simp
  refine wpAnyH_take (i := 15) (oi := _) (v := .int .i64 (unt x2)) rfl (by kernel_rfl) (by kernel_rfl) (by kernel_rfl) (fun _ _ _ h => h) (Or.inl ⟨by rfl, fun W1 hS => by (obtain ⟨f, hS⟩ := hS; obtain ⟨z0, z1, z2, z3, _⟩ := blk4 (hS.get 1 rfl); go_simp)⟩) (by assumption) ?_
  go_simp
  obtain ⟨f9, hHeld⟩ := hHeld
  refine wpAnyH_ready (rs := [6]) (by kernel_rfl) (by simp) ?_
  refine AllReadyH.cons (o := _) rfl (fun K hK => ?_) AllReadyH.nil
  go_simp
  go_at_call 67
  refine (cat_any p.A p.k p.c (unt x0) _ (HR.out.below hHeld.b).kn).mono ?_
  rintro e w2 ⟨rfl, hb⟩
  go_wp2_with fail
  have HL := Lib.hid (hHeld.below hb)
  clear hHeld hb
  refine hK.out _ _ (⟨_, HL.out⟩) (fun hHeld => ?_)
  clear hK
  try simp only [Act.put, List.setIfInBounds_toArray, List.set_cons_zero, List.set_cons_succ]
  clear HL
  obtain ⟨f9, hHeld⟩ := hHeld
  refine wpAnyH_ready (rs := [11]) (by kernel_rfl) (by simp) ?_
  refine AllReadyH.cons (o := _) rfl (fun K hK => ?_) AllReadyH.nil
  go_simp
  go_at_call 67
  refine (cat_any p.A p.k p.c (unt x1) _ (HR.out.below hHeld.b).kn).mono ?_
  rintro e w3 ⟨rfl, hb⟩
  go_wp2_with fail
  have HL := Lib.hid (hHeld.below hb)
  clear hHeld hb
  refine hK.out _ _ (⟨_, HL.out⟩) (fun hHeld => ?_)
  clear hK
  try simp only [Act.put, List.setIfInBounds_toArray, List.set_cons_zero, List.set_cons_succ]
  clear HL
  obtain ⟨f9, hHeld⟩ := hHeld
  refine wpAnyH_ready (rs := [16]) (by kernel_rfl) (by simp) ?_
  refine AllReadyH.cons (o := _) rfl (fun K hK => ?_) AllReadyH.nil
  go_simp
  go_at_call 67
  refine (cat_any p.A p.k p.c (unt x2) _ (HR.out.below hHeld.b).kn).mono ?_
  rintro e w4 ⟨rfl, hb⟩
  go_wp2_with fail
  have HL := Lib.hid (hHeld.below hb)
  clear hHeld hb
  refine hK.out _ _ (⟨_, HL.out⟩) (fun hHeld => ?_)
  clear hK
  try simp only [Act.put, List.setIfInBounds_toArray, List.set_cons_zero, List.set_cons_succ]
  clear HL
  refine wpAnyH_take (i := 17) (oi := _) (v := .agg #[.int .i64 (kAt p.k (unt x0)), .int .i64 (kAt p.k (unt x1)), .int .i64 (kAt p.k (unt x2))]) rfl (by kernel_rfl) (by kernel_rfl) (by kernel_rfl) (fun _ _ _ h => h) (Or.inl ⟨by rfl, fun W1 hS => by go_simp⟩) (by assumption) ?_
  go_simp
  obtain ⟨f9, hHeld⟩ := hHeld
  refine wpAnyH_ready (rs := [18]) (by kernel_rfl) (by simp) ?_
  refine AllReadyH.cons (o := _) rfl (fun K hK => ?_) AllReadyH.nil
  go_simp
  go_at_call 66
  refine (Mat.apply_any p.m (l3 (kAt p.k (unt x0)) (kAt p.k (unt x1)) (kAt p.k (unt x2))) _).mono ?_
  rintro e w5 ⟨rfl, hb⟩
  go_wp2_with fail
  have HL := Lib.hid (hHeld.below hb)
  clear hHeld hb
  refine hK.out _ _ (⟨_, HL.out⟩) (fun hHeld => ?_)
  clear hK
  try simp only [Act.put, List.setIfInBounds_toArray, List.set_cons_zero, List.set_cons_succ]
  clear HL
  obtain ⟨f9, hHeld⟩ := hHeld
  refine wpAnyH_ready (rs := [19]) (by kernel_rfl) (by simp) ?_
  refine AllReadyH.cons (o := _) rfl (fun K hK => ?_) AllReadyH.nil
  have HL := Lib.hid hHeld
  rw [if_pos (by rfl)]
  refine wp_store_row 34 _ _ rfl (w.heap.size + 1 + 1) (ac 3 (appM p.m (l3 (kAt p.k (unt x0)) (kAt p.k (unt x1)) (kAt p.k (unt x2))))) rfl rfl 34 (ac 3 f9) (HL.out.get 2 rfl) info3 Mat.ac_same (Mat.ac_one 3 _) ?_
  have H9 := HL.out.row 2 rfl (by omega) (by (intro j y hj hy; rcases j with _ | _ | _ | _ | _ | _ | j <;> first | exact absurd rfl hj | (simp only [List.getElem?_cons_zero, List.getElem?_cons_succ, Option.some.injEq] at hy; subst hy; dsimp only; omega) | (simp at hy; done))) (ac 3 (appM p.m (l3 (kAt p.k (unt x0)) (kAt p.k (unt x1)) (kAt p.k (unt x2)))))
  obtain ⟨W9, hW9⟩ : ∃ W9, w5.setRow (w.heap.size + 1 + 1) (ac 3 (appM p.m (l3 (kAt p.k (unt x0)) (kAt p.k (unt x1)) (kAt p.k (unt x2))))) = W9 := ⟨_, rfl⟩
  rw [hW9] at H9 ⊢
  have HL9 := Lib.hid H9
  refine hK.out _ _ ⟨_, H9⟩ (fun hHeld => ?_)
  clear hK HL hHeld hW9 HB2 H9
  try simp only [Act.put, List.setIfInBounds_toArray]
  refine wpAnyH_done (by kernel_rfl) ?_ _
  go_wp2_with fail
  refine bodyPost_ret (v := .agg (ac 3 (lin0 p (x0, x1, x2, x3)))) (results_cell_row rfl _ _ (w.heap.size + 1 + 1) 34 (ac 3 (lin0 p (x0, x1, x2, x3))) (0, 0) _ rfl (HL9.out.get 2 rfl) Try.underlying34 rfl info3) rfl ?_
  exact ⟨rfl, HL9.out.b⟩

theorem LinC.mk {f g : Nat → Int} {w w' : World} (h : g = f) (hb : Below w.heap.size w w') : LinC f w (.returned (.agg (ac 3 g))) w' := ⟨by rw [h], hb⟩
theorem linV_ok {p : Pf} {x : P4} (h : pErr p = 0) : lin0 p x = linV p x := by unfold linV; rw [if_pos h]
theorem linV_no {p : Pf} {x : P4} (h : pErr p ≠ 0) : (fun _ => 0) = linV p x := by unfold linV; rw [if_neg h]
set_option maxRecDepth 100000 in
set_option maxHeartbeats 8000000 in
theorem Linear_any (p : Pf) (x : P4) (w : World) (h : PfR w p) : Calls Try.prog 13 #[p.val, pagg x] w (LinC (linV p x) w) := by
  obtain ⟨x0, x1, x2, x3⟩ := x
  have H0 := Bn.three w 27 23 34 p.cells (pcs (x0, x1, x2, x3)) (ac 3 fun _ => 0)
  have HBC := Lib.hid H0
  obtain ⟨W, hW⟩ : ∃ W, ((w.alloc (.cells p.cells 27)).alloc (.cells (pcs (x0, x1, x2, x3)) 23)).alloc (.cells (ac 3 fun _ => 0) 34) = W := ⟨_, rfl⟩
  rw [hW] at H0
  have HB := Lib.hid H0
  have HR := Lib.hid h
  have C1 := Check_any p W (h.below H0.b)
  obtain ⟨z, hz⟩ : ∃ z, pErr p = z := ⟨_, rfl⟩
  unfold ChkC at C1
  rw [hz] at C1
  have HZ := Lib.hid hz
  clear h H0 hz
  unfold Pf.val at C1 ⊢
  rw [pagg_pcs]
  go_enter Try.func13, Try.ntmps13
  go_wp2_with (first
    | (refine Mat.wpList_alloc3 rfl rfl ?_)
    | (refine wpList_load_row rfl _ _ rfl w.heap.size rfl 27 p.cells (0, 0) _ (HBC.out.get 0 rfl) Try.underlying27 rfl p.info ?_))
  refine C1.mono ?_
  rintro e w1 ⟨rfl, hb⟩
  have HB1 := Lib.hid (HB.out.below hb)
  clear C1 hb HB HBC hW
  by_cases h0 : z = 0
  · subst h0
    have C2 := linear_any p (x0, x1, x2, x3) w1 (HR.out.below HB1.out.b)
    rw [pagg_pcs] at C2
    unfold Pf.val at C2
    have HC2 := Lib.hid C2
    clear C2
    obtain ⟨c0, c1, c2, c3, cf⟩ := blk4 (HB1.out.get 1 rfl)
    go_wp2_with (first
      | (refine wpList_load_row rfl _ _ rfl w.heap.size rfl 27 p.cells (0, 0) _ (HB1.out.get 0 rfl) Try.underlying27 rfl p.info ?_)
      | (go_at_call 35; refine HC2.out.mono ?_; rintro e w2 ⟨rfl, hb⟩; have HB3 := Lib.hid (HB1.out.below hb); clear hb HC2 HB1 c0 c1 c2 c3 cf)
      | (refine wpList_store_row rfl _ _ _ rfl (w.heap.size + 1 + 1) (ac 3 (lin0 p (x0, x1, x2, x3))) rfl rfl 34 (ac 3 fun _ => 0) (HB3.out.get 2 rfl) info3 Mat.ac_same (Mat.ac_one 3 _) ?_))
    have HB2 := Lib.hid (HB3.out.row 2 rfl (by omega) (by (intro j y hj hy; rcases j with _ | _ | _ | _ | _ | _ | j <;> first | exact absurd rfl hj | (simp only [List.getElem?_cons_zero, List.getElem?_cons_succ, Option.some.injEq] at hy; subst hy; dsimp only; omega) | (simp at hy; done))) (ac 3 (lin0 p (x0, x1, x2, x3))))
    refine bodyPost_ret (v := .agg (ac 3 (lin0 p (x0, x1, x2, x3)))) (results_cell_row rfl _ _ (w.heap.size + 1 + 1) 34 (ac 3 (lin0 p (x0, x1, x2, x3))) (0, 0) _ rfl (HB2.out.get 2 rfl) Try.underlying34 rfl info3) rfl ?_
    exact LinC.mk (linV_ok HZ.out) HB2.out.b
  · have h1 : (z != 0) = true := by simpa using h0
    go_wp2_with (refine wpList_store_row rfl _ _ _ rfl (w.heap.size + 1 + 1) (ac 3 fun _ => 0) rfl rfl 34 (ac 3 fun _ => 0) (HB1.out.get 2 rfl) info3 Mat.ac_same (Mat.ac_one 3 _) ?_)
    have HB2 := Lib.hid (HB1.out.row 2 rfl (by omega) (by (intro j y hj hy; rcases j with _ | _ | _ | _ | _ | _ | j <;> first | exact absurd rfl hj | (simp only [List.getElem?_cons_zero, List.getElem?_cons_succ, Option.some.injEq] at hy; subst hy; dsimp only; omega) | (simp at hy; done))) (ac 3 fun _ => 0))
    refine bodyPost_ret (v := .agg (ac 3 fun _ => 0)) (results_cell_row rfl _ _ (w.heap.size + 1 + 1) 34 (ac 3 fun _ => 0) (0, 0) _ rfl (HB2.out.get 2 rfl) Try.underlying34 rfl info3) rfl ?_
    exact LinC.mk (linV_no (by rw [HZ.out]; exact h0)) HB2.out.b

set_option maxRecDepth 100000 in
set_option maxHeartbeats 8000000 in
theorem rLinear_any (p : Pf) (x : P4) (w : World) (h : PfR w p) : Calls Try.prog 27 #[p.val, pagg x] w (LinC (linV p x) w) := by
  obtain ⟨x0, x1, x2, x3⟩ := x
  have H0 := Bn.three w 27 23 34 p.cells (pcs (x0, x1, x2, x3)) (ac 3 fun _ => 0)
  have HBC := Lib.hid H0
  obtain ⟨W, hW⟩ : ∃ W, ((w.alloc (.cells p.cells 27)).alloc (.cells (pcs (x0, x1, x2, x3)) 23)).alloc (.cells (ac 3 fun _ => 0) 34) = W := ⟨_, rfl⟩
  rw [hW] at H0
  have HB := Lib.hid H0
  have HR := Lib.hid h
  have C1 := rCheck_any p W (h.below H0.b)
  obtain ⟨z, hz⟩ : ∃ z, pErr p = z := ⟨_, rfl⟩
  unfold ChkC at C1
  rw [hz] at C1
  have HZ := Lib.hid hz
  clear h H0 hz
  unfold Pf.val at C1 ⊢
  rw [pagg_pcs]
  go_enter Try.func27, Try.ntmps27
  go_wp2_with (first
    | (refine Mat.wpList_alloc3 rfl rfl ?_)
    | (refine wpList_load_row rfl _ _ rfl w.heap.size rfl 27 p.cells (0, 0) _ (HBC.out.get 0 rfl) Try.underlying27 rfl p.info ?_))
  refine C1.mono ?_
  rintro e w1 ⟨rfl, hb⟩
  have HB1 := Lib.hid (HB.out.below hb)
  clear C1 hb HB HBC hW
  by_cases h0 : z = 0
  · subst h0
    have HB := HB1
    clear HB1
    obtain ⟨c0, c1, c2, c3, cf⟩ := blk4 (HB.out.get 1 rfl)
    go_wp2_with fail
    clear c0 c1 c2 c3 cf
    refine (rxLimit_any (x0, x1, x2, x3) w1).mono ?_
    rintro e w1 ⟨rfl, hb⟩
    have H1 := HB.out.below hb
    have H2 := H1.row 1 rfl (by omega) (by (intro j y hj hy; rcases j with _ | _ | _ | _ | _ | _ | j <;> first | exact absurd rfl hj | (simp only [List.getElem?_cons_zero, List.getElem?_cons_succ, Option.some.injEq] at hy; subst hy; dsimp only; omega) | (simp at hy; done))) (pcs (limP (x0, x1, x2, x3)))
    have HB1 := Lib.hid H1
    have HB2 := Lib.hid H2
    clear HB hb H1 H2
    obtain ⟨c0, c1, c2, c3, cf⟩ := blk4 (HB1.out.get 1 rfl)
    unfold pagg limP
    go_wp2_with fail
    rw [four_row (HB1.out.get 1 rfl)]
    clear c0 c1 c2 c3 cf
    obtain ⟨W2, hW2⟩ : ∃ W2, w1.setRow (w.heap.size + 1) #[.int .i64 (unt x0), .int .i64 (unt x1), .int .i64 (unt x2), .int .i64 (unt x3)] = W2 := ⟨_, rfl⟩
    have HB2 : Hid (Bn w W2 [(w.heap.size, 27, p.cells), (w.heap.size + 1, 23, pcs (unt x0, unt x1, unt x2, unt x3)), (w.heap.size + 1 + 1, 34, ac 3 fun _ => 0)]) := Lib.hid (by rw [← hW2]; exact HB2.out)
    rw [hW2]

    clear HB1 hW2
    refine wp_region_held_drew (S := fun W => ∃ f, Bn w W [(w.heap.size, 27, p.cells), (w.heap.size + 1, 23, pcs (unt x0, unt x1, unt x2, unt x3)), (w.heap.size + 1 + 1, 34, ac 3 f)]) (by kernel_rfl) ⟨_, HB2.out.drew⟩ (fun hHeld => ?_)
    refine wpAnyH_take (i := 0) (oi := _) (v := .pointer (some ⟨w.heap.size, 2, none⟩)) rfl (by kernel_rfl) (by kernel_rfl) (by kernel_rfl) (fun _ _ _ h => h) (Or.inl ⟨by rfl, fun W1 hS => by go_simp⟩) (by assumption) ?_
    go_simp
    refine wpAnyH_take (i := 1) (oi := _) (v := .agg (ac 9 p.m)) rfl (by kernel_rfl) (by kernel_rfl) (by kernel_rfl) (fun _ _ _ h => h) (yieldsIf_load_mid (by rfl) 25 _ rfl w.heap.size 2 rfl (al 9 p.m) _ (fun W hS => (blkP (hS.choose_spec.get 0 rfl)).2.2) Try.underlying25 rfl info9l) (by assumption) ?_
    go_simp
    refine wpAnyH_take (i := 2) (oi := _) (v := .pointer (some ⟨w.heap.size, 1, none⟩)) rfl (by kernel_rfl) (by kernel_rfl) (by kernel_rfl) (fun _ _ _ h => h) (Or.inl ⟨by rfl, fun W1 hS => by go_simp⟩) (by assumption) ?_
    go_simp
    refine wpAnyH_take (i := 3) (oi := _) (v := .slice p.A p.k.length p.c) rfl (by kernel_rfl) (by kernel_rfl) (by kernel_rfl) (fun _ _ _ h => h) (Or.inl ⟨by rfl, fun W1 hS => by (obtain ⟨f, hS⟩ := hS; obtain ⟨z0, z1, _⟩ := blkP (hS.get 0 rfl); go_simp)⟩) (by assumption) ?_
    go_simp
    refine wpAnyH_take (i := 4) (oi := _) (v := .pointer (some ⟨w.heap.size + 1, 0, none⟩)) rfl (by kernel_rfl) (by kernel_rfl) (by kernel_rfl) (fun _ _ _ h => h) (Or.inl ⟨by rfl, fun W1 hS => by go_simp⟩) (by assumption) ?_
    go_simp
    refine wpAnyH_take (i := 5) (oi := _) (v := .int .i64 (unt x0)) rfl (by kernel_rfl) (by kernel_rfl) (by kernel_rfl) (fun _ _ _ h => h) (Or.inl ⟨by rfl, fun W1 hS => by (obtain ⟨f, hS⟩ := hS; obtain ⟨z0, z1, z2, z3, _⟩ := blk4 (hS.get 1 rfl); go_simp)⟩) (by assumption) ?_
    go_simp
    refine wpAnyH_take (i := 7) (oi := _) (v := .pointer (some ⟨w.heap.size, 1, none⟩)) rfl (by kernel_rfl) (by kernel_rfl) (by kernel_rfl) (fun _ _ _ h => h) (Or.inl ⟨by rfl, fun W1 hS => by go_simp⟩) (by assumption) ?_
    go_simp
    refine wpAnyH_take (i := 8) (oi := _) (v := .slice p.A p.k.length p.c) rfl (by kernel_rfl) (by kernel_rfl) (by kernel_rfl) (fun _ _ _ h => h) (Or.inl ⟨by rfl, fun W1 hS => by (obtain ⟨f, hS⟩ := hS; obtain ⟨z0, z1, _⟩ := blkP (hS.get 0 rfl); go_simp)⟩) (by assumption) ?_
    go_simp
    refine wpAnyH_take (i := 9) (oi := _) (v := .pointer (some ⟨w.heap.size + 1, 1, none⟩)) rfl (by kernel_rfl) (by kernel_rfl) (by kernel_rfl) (fun _ _ _ h => h) (Or.inl ⟨by rfl, fun W1 hS => by go_simp⟩) (by assumption) ?_
    go_simp
    refine wpAnyH_take (i := 10) (oi := _) (v := .int .i64 (unt x1)) rfl (by kernel_rfl) (by kernel_rfl) (by kernel_rfl) (fun _ _ _ h => h) (Or.inl ⟨by rfl, fun W1 hS => by (obtain ⟨f, hS⟩ := hS; obtain ⟨z0, z1, z2, z3, _⟩ := blk4 (hS.get 1 rfl); go_simp)⟩) (by assumption) ?_
    go_simp
    refine wpAnyH_take (i := 12) (oi := _) (v := .pointer (some ⟨w.heap.size, 1, none⟩)) rfl (by kernel_rfl) (by kernel_rfl) (by kernel_rfl) (fun _ _ _ h => h) (Or.inl ⟨by rfl, fun W1 hS => by go_simp⟩) (by assumption) ?_
    go_simp
    refine wpAnyH_take (i := 13) (oi := _) (v := .slice p.A p.k.length p.c) rfl (by kernel_rfl) (by kernel_rfl) (by kernel_rfl) (fun _ _ _ h => h) (Or.inl ⟨by rfl, fun W1 hS => by (obtain ⟨f, hS⟩ := hS; obtain ⟨z0, z1, _⟩ := blkP (hS.get 0 rfl); go_simp)⟩) (by assumption) ?_
    go_simp
    refine wpAnyH_take (i := 14) (oi := _) (v := .pointer (some ⟨w.heap.size + 1, 2, none⟩)) rfl (by kernel_rfl) (by kernel_rfl) (by kernel_rfl) (fun _ _ _ h => h) (Or.inl ⟨by rfl, fun W1 hS => by go_simp⟩) (by assumption) ?_
    go_simp
    refine wpAnyH_take (i := 15) (oi := _) (v := .int .i64 (unt x2)) rfl (by kernel_rfl) (by kernel_rfl) (by kernel_rfl) (fun _ _ _ h => h) (Or.inl ⟨by rfl, fun W1 hS => by (obtain ⟨f, hS⟩ := hS; obtain ⟨z0, z1, z2, z3, _⟩ := blk4 (hS.get 1 rfl); go_simp)⟩) (by assumption) ?_
    go_simp
    obtain ⟨f9, hHeld⟩ := hHeld
    refine wpAnyH_ready (rs := [6]) (by kernel_rfl) (by simp) ?_
    refine AllReadyH.cons (o := _) rfl (fun K hK => ?_) AllReadyH.nil
    go_simp
    go_at_call 56
    refine (rcat_any p.A p.k p.c (unt x0) _ (HR.out.below hHeld.b).kn).mono ?_
    rintro e w2 ⟨rfl, hb⟩
    go_wp2_with fail
    have HL := Lib.hid (hHeld.below hb)
    clear hHeld hb
    refine hK.out _ _ (⟨_, HL.out⟩) (fun hHeld => ?_)
    clear hK
    try simp only [Act.put, List.setIfInBounds_toArray, List.set_cons_zero, List.set_cons_succ]
    clear HL
    obtain ⟨f9, hHeld⟩ := hHeld
    refine wpAnyH_ready (rs := [11]) (by kernel_rfl) (by simp) ?_
    refine AllReadyH.cons (o := _) rfl (fun K hK => ?_) AllReadyH.nil
    go_simp
    go_at_call 56
    refine (rcat_any p.A p.k p.c (unt x1) _ (HR.out.below hHeld.b).kn).mono ?_
    rintro e w3 ⟨rfl, hb⟩
    go_wp2_with fail
    have HL := Lib.hid (hHeld.below hb)
    clear hHeld hb
    refine hK.out _ _ (⟨_, HL.out⟩) (fun hHeld => ?_)
    clear hK
    try simp only [Act.put, List.setIfInBounds_toArray, List.set_cons_zero, List.set_cons_succ]
    clear HL
    obtain ⟨f9, hHeld⟩ := hHeld
    refine wpAnyH_ready (rs := [16]) (by kernel_rfl) (by simp) ?_
    refine AllReadyH.cons (o := _) rfl (fun K hK => ?_) AllReadyH.nil
    go_simp
    go_at_call 56
    refine (rcat_any p.A p.k p.c (unt x2) _ (HR.out.below hHeld.b).kn).mono ?_
    rintro e w4 ⟨rfl, hb⟩
    go_wp2_with fail
    have HL := Lib.hid (hHeld.below hb)
    clear hHeld hb
    refine hK.out _ _ (⟨_, HL.out⟩) (fun hHeld => ?_)
    clear hK
    try simp only [Act.put, List.setIfInBounds_toArray, List.set_cons_zero, List.set_cons_succ]
    clear HL
    refine wpAnyH_take (i := 17) (oi := _) (v := .agg #[.int .i64 (kAt p.k (unt x0)), .int .i64 (kAt p.k (unt x1)), .int .i64 (kAt p.k (unt x2))]) rfl (by kernel_rfl) (by kernel_rfl) (by kernel_rfl) (fun _ _ _ h => h) (Or.inl ⟨by rfl, fun W1 hS => by go_simp⟩) (by assumption) ?_
    go_simp
    obtain ⟨f9, hHeld⟩ := hHeld
    refine wpAnyH_ready (rs := [18]) (by kernel_rfl) (by simp) ?_
    refine AllReadyH.cons (o := _) rfl (fun K hK => ?_) AllReadyH.nil
    go_simp
    go_at_call 54
    refine (Mat.rApply_any p.m (l3 (kAt p.k (unt x0)) (kAt p.k (unt x1)) (kAt p.k (unt x2))) _).mono ?_
    rintro e w5 ⟨rfl, hb⟩
    go_wp2_with fail
    have HL := Lib.hid (hHeld.below hb)
    clear hHeld hb
    refine hK.out _ _ (⟨_, HL.out⟩) (fun hHeld => ?_)
    clear hK
    try simp only [Act.put, List.setIfInBounds_toArray, List.set_cons_zero, List.set_cons_succ]
    clear HL
    obtain ⟨f9, hHeld⟩ := hHeld
    refine wpAnyH_ready (rs := [19]) (by kernel_rfl) (by simp) ?_
    refine AllReadyH.cons (o := _) rfl (fun K hK => ?_) AllReadyH.nil
    have HL := Lib.hid hHeld
    rw [if_pos (by rfl)]
    refine wp_store_row 34 _ _ rfl (w.heap.size + 1 + 1) (ac 3 (appM p.m (l3 (kAt p.k (unt x0)) (kAt p.k (unt x1)) (kAt p.k (unt x2))))) rfl rfl 34 (ac 3 f9) (HL.out.get 2 rfl) info3 Mat.ac_same (Mat.ac_one 3 _) ?_
    have H9 := HL.out.row 2 rfl (by omega) (by (intro j y hj hy; rcases j with _ | _ | _ | _ | _ | _ | j <;> first | exact absurd rfl hj | (simp only [List.getElem?_cons_zero, List.getElem?_cons_succ, Option.some.injEq] at hy; subst hy; dsimp only; omega) | (simp at hy; done))) (ac 3 (appM p.m (l3 (kAt p.k (unt x0)) (kAt p.k (unt x1)) (kAt p.k (unt x2)))))
    obtain ⟨W9, hW9⟩ : ∃ W9, w5.setRow (w.heap.size + 1 + 1) (ac 3 (appM p.m (l3 (kAt p.k (unt x0)) (kAt p.k (unt x1)) (kAt p.k (unt x2))))) = W9 := ⟨_, rfl⟩
    rw [hW9] at H9 ⊢
    have HL9 := Lib.hid H9
    refine hK.out _ _ ⟨_, H9⟩ (fun hHeld => ?_)
    clear hK HL hHeld hW9 HB2 H9
    try simp only [Act.put, List.setIfInBounds_toArray]
    refine wpAnyH_done (by kernel_rfl) ?_ _
    go_wp2_with fail
    refine bodyPost_ret (v := .agg (ac 3 (lin0 p (x0, x1, x2, x3)))) (results_cell_row rfl _ _ (w.heap.size + 1 + 1) 34 (ac 3 (lin0 p (x0, x1, x2, x3))) (0, 0) _ rfl (HL9.out.get 2 rfl) Try.underlying34 rfl info3) rfl ?_
    exact LinC.mk (linV_ok HZ.out) HL9.out.b
  · have h1 : (z != 0) = true := by simpa using h0
    go_wp2_with (refine wpList_store_row rfl _ _ _ rfl (w.heap.size + 1 + 1) (ac 3 fun _ => 0) rfl rfl 34 (ac 3 fun _ => 0) (HB1.out.get 2 rfl) info3 Mat.ac_same (Mat.ac_one 3 _) ?_)
    have HB2 := Lib.hid (HB1.out.row 2 rfl (by omega) (by (intro j y hj hy; rcases j with _ | _ | _ | _ | _ | _ | j <;> first | exact absurd rfl hj | (simp only [List.getElem?_cons_zero, List.getElem?_cons_succ, Option.some.injEq] at hy; subst hy; dsimp only; omega) | (simp at hy; done))) (ac 3 fun _ => 0))
    refine bodyPost_ret (v := .agg (ac 3 fun _ => 0)) (results_cell_row rfl _ _ (w.heap.size + 1 + 1) 34 (ac 3 fun _ => 0) (0, 0) _ rfl (HB2.out.get 2 rfl) Try.underlying34 rfl info3) rfl ?_
    exact LinC.mk (linV_no (by rw [HZ.out]; exact h0)) HB2.out.b

end Go.Proofs.Ytcighjeiimjbiaa.Pro

/- ProN: Layer 9: newEncoder. -/
namespace Go.Proofs.Ytcighjeiimjbiaa.Pro
open Go.RowKit Go.Proofs.Ytcighjeiimjbiaa Go.Proofs.Ytcighjeiimjbiaa.NumPure
open Go.Proofs.Ytcighjeiimjbiaa.Mat (al ac invM invX appM info9 info3)

/-- An encoder. -/
structure En where
  m : Nat → Int
  A : Option Addr
  c : Nat
  k : List K2
def En.lst (e : En) : List Value := al 9 e.m ++ [.slice e.A e.k.length e.c]
def En.cells (e : En) : Array Value := e.lst.toArray
def En.val (e : En) : Value := .agg e.cells
theorem En.len (e : En) : e.lst.length = 10 := by simp [En.lst, Mat.al_len]
theorem En.size (e : En) : e.cells.size = 10 := by simp [En.cells, En.len]
theorem En.info (e : En) : (Try.prog.info? 58).map (·.size) = some e.cells.size := by rw [e.size]; kernel_rfl
theorem En.one (e : En) : e.cells.all (·.oneCell') = true := by simp [En.cells, En.lst, al, Value.oneCell']
def En.zero : En := ⟨fun _ => 0, none, 0, []⟩
theorem blkE {w : World} {g : Nat} {t : TypeId} {e : En} (h : Blk w g t e.cells) : w.rangeAt g 0 (al 9 e.m) ∧ w.cell? ⟨g, 9, none⟩ = some (.slice e.A e.k.length e.c) := by
  refine ⟨fun j v hv => Blk.at_ h (0 + j) v ?_, Blk.at_ h 9 _ (by simp [En.cells, En.lst, Mat.al_len])⟩
  have hj : j < 9 := by
    have := (List.getElem?_eq_some_iff.1 hv).1
    rwa [Mat.al_len] at this
  have : e.cells[0 + j]? = (al 9 e.m)[j]? := by
    rw [Nat.zero_add]
    simp only [En.cells, En.lst, List.getElem?_toArray]
    rw [List.getElem?_append_left (by rw [Mat.al_len]; exact hj)]
  rw [this, hv]
theorem results_row_tmp {fn : Func} {p t : Tmp} {ty : TypeId} (h : fn.results = #[.cell p ty, .tmp t]) (tmps : Array Value) (w : World) (g : Nat) (T : TypeId) (cs : Array Value) (d : TypeDesc)
    (hp : tmps.getD p undef = .pointer (some ⟨g, 0, none⟩)) (x : Value) (hx : tmps.getD t undef = x) (hg : Blk w g T cs)
    (hu : Try.prog.underlying ty = some d) (hd : d.isRow = true) (hi : (Try.prog.info? ty).map (·.size) = some cs.size) :
    (results fn tmps).run Try.prog w = .ok (.tuple #[.agg cs, x]) w := by
  subst hx
  have hp' : tmps[p]?.getD undef = .pointer (some ⟨g, 0, none⟩) := by simpa using hp
  have hr : (loadVar ty ⟨g, 0, none⟩).run Try.prog w = .ok (.agg cs) w := by
    cases d <;> first | exact run_loadVar_row w g T ty cs (0, 0) _ hg hu rfl hi | (simp [TypeDesc.isRow] at hd; done)
  simp [results, h, hp', asAddr, hr]
theorem wpList_allocC {cs : Array Value} {T : TypeId} (hr : ∀ w, (Instr.alloc T true (.tuple #[])).run Try.prog w = .ok (.pointer (some ⟨w.heap.size, 0, none⟩)) (w.alloc (.cells cs T))) {ops : Array Oper} {rest : List Oper} {o : Oper} {a : Act} {w : World} {Q : Exit → Act → World → Prop} (hg : o.guard = none) (ho : o.op = .alloc T)
    (h : wpList Try.prog ops Q rest (a.put o.dst (.pointer (some ⟨w.heap.size, 0, none⟩))) (w.alloc (.cells cs T))) : wpList Try.prog ops Q (o :: rest) a w := by
  refine wpList_plain hg fun K hK => ?_
  have hr := hr w
  unfold Oper.wp
  simp only [execOp, ho, Sem.run_bind, hr, Result.andThen_ok, Sem.run_pure]
  exact hK _ _ h
theorem wpList_buildC {cs : Array Value} {T : TypeId} {ops : Array Oper} {rest : List Oper} {o : Oper} {a : Act} {w : World} {Q : Exit → Act → World → Prop} (hg : o.guard = none) (parts : Array (Nat × Operand)) (ho : o.op = .build T parts)
    (hb : Try.prog.built T (parts.map fun (i, x) => (i, a.eval x)).toList = some cs)
    (h : wpList Try.prog ops Q rest (a.put o.dst (.agg cs)) w) : wpList Try.prog ops Q (o :: rest) a w := by
  refine wpList_build hg T parts ho (by rw [hb]; rfl) ?_
  rw [hb]
  exact h
theorem runE (w : World) : (Instr.alloc 58 true (.tuple #[])).run Try.prog w = .ok (.pointer (some ⟨w.heap.size, 0, none⟩)) (w.alloc (.cells En.zero.cells 58)) := by kernel_rfl
theorem builtE0 : Try.prog.built 58 [] = some En.zero.cells := by kernel_rfl
theorem builtE (e : En) : Try.prog.built 58 [(0, .agg (ac 9 e.m)), (1, .slice e.A e.k.length e.c)] = some e.cells := by kernel_rfl

theorem wpList_buildE {ops : Array Oper} {rest : List Oper} {o : Oper} {a : Act} {w : World} {Q : Exit → Act → World → Prop} (hg : o.guard = none) (x y : Operand) (ho : o.op = .build 58 #[(0, x), (1, y)]) (e : En)
    (hx : a.eval x = .agg (ac 9 e.m)) (hy : a.eval y = .slice e.A e.k.length e.c) (h : wpList Try.prog ops Q rest (a.put o.dst e.val) w) : wpList Try.prog ops Q (o :: rest) a w := by
  refine wpList_buildC hg _ ho ?_ h
  simp only [List.map_toArray, List.map_cons, List.map_nil, hx, hy]
  exact builtE e

theorem kInvX_ris {l : List K2} (h : kRis l = true) : kInvX l = 0 := by
  unfold kInvX
  have h1 : kErr l = 0 := by
    unfold kRis at h
    simp only [Bool.and_eq_true, decide_eq_true_eq] at h
    exact h.1.1.1
  rw [if_pos h1, if_pos h]
theorem KnR.setRow {w : World} {A : Option Addr} {l : List K2} {B g : Nat} (h : KnR w A l) (hn : New B A) (hg : g < B) (cs : Array Value) : KnR (w.setRow g cs) A l := by
  refine ⟨h.1, fun h0 => ?_⟩
  obtain ⟨ad, e, hb, hc⟩ := h.2 h0
  refine ⟨ad, e, by rw [setRow_size]; exact hb, fun i u hu => ?_⟩
  have h1 := hn ad e
  exact (cell_setRow_other _ _ _ _ (by rw [block_of_add]; omega)).trans (hc i u hu)
def EncC (p : Pf) (w : World) (e : Ending) (w' : World) : Prop := ∃ E : En, e = .returned (.tuple #[E.val, .int .i64 (pErr p)]) ∧ KnR w' E.A E.k ∧ Below w.heap.size w w' ∧ (pErr p = 0 → E.m = invM p.m ∧ E.k = kInv p.k)
theorem EncC.no {p : Pf} {w w' : World} {z : Int} (h : pErr p = z) (hz : z ≠ 0) (hb : Below w.heap.size w w') : EncC p w (.returned (.tuple #[En.zero.val, .int .i64 z])) w' :=
  ⟨En.zero, by rw [h], Reads.none_, hb, fun e => absurd (h.symm.trans e) hz⟩
theorem EncC.yes {p : Pf} {w w' : World} {E : En} (h : pErr p = 0) (h1 : E.m = invM p.m) (h2 : E.k = kInv p.k) (hr : KnR w' E.A E.k) (hb : Below w.heap.size w w') : EncC p w (.returned (.tuple #[E.val, .int .i64 0])) w' :=
  ⟨E, by rw [h], hr, hb, fun _ => ⟨h1, h2⟩⟩
theorem Bn.two (w : World) (t1 t2 : TypeId) (c1 c2 : Array Value) : Bn w ((w.alloc (.cells c1 t1)).alloc (.cells c2 t2)) [(w.heap.size, t1, c1), (w.heap.size + 1, t2, c2)] :=
  ((Bn.nil w).push _ rfl t1 c1).push _ (size_alloc1 _ _) t2 c2

set_option maxRecDepth 100000 in
set_option maxHeartbeats 8000000 in
theorem newEncoder_any (p : Pf) (w : World) (h : PfR w p) : Calls Try.prog 33 #[p.val] w (EncC p w) := by
  have H0 := Bn.two w 27 58 p.cells En.zero.cells
  have HBC := Lib.hid H0
  obtain ⟨W, hW⟩ : ∃ W, (w.alloc (.cells p.cells 27)).alloc (.cells En.zero.cells 58) = W := ⟨_, rfl⟩
  rw [hW] at H0
  have HB := Lib.hid H0
  have HR := Lib.hid h
  have C1 := Check_any p W (h.below H0.b)
  obtain ⟨z, hz⟩ : ∃ z, pErr p = z := ⟨_, rfl⟩
  unfold ChkC at C1
  rw [hz] at C1
  have HZ := Lib.hid hz
  clear h H0 hz
  unfold Pf.val at C1 ⊢
  go_enter Try.func33, Try.ntmps33
  go_wp2_with (first
    | (refine wpList_allocC runE rfl rfl ?_)
    | (refine wpList_load_row rfl _ _ rfl w.heap.size rfl 27 p.cells (0, 0) _ (HBC.out.get 0 rfl) Try.underlying27 rfl p.info ?_)
    | (refine wpList_load_row rfl _ _ rfl w.heap.size rfl 27 p.cells (0, 0) _ (HB.out.get 0 rfl) Try.underlying27 rfl p.info ?_))
  refine C1.mono ?_
  rintro e w1 ⟨rfl, hb⟩
  have HB1 := Lib.hid (HB.out.below hb)
  clear C1 hb HB HBC hW
  by_cases h0 : z = 0
  · subst h0
    obtain ⟨_, hris, hinv⟩ := pErr_zero HZ.out
    have C3 := Mat.inverse_any p.m w1
    rw [hinv] at C3
    obtain ⟨f0, f1, fr⟩ := blkP (HB1.out.get 0 rfl)
    have HRIS := Lib.hid hris
    clear hris hinv
    go_wp2_with (refine wpList_load_mid rfl _ _ rfl w.heap.size 2 rfl (al 9 p.m) _ fr Try.underlying25 rfl info9l ?_)
    refine C3.mono ?_
    rintro e w2 ⟨rfl, hb⟩
    have HLT := Lib.hid ((HB1.out.below hb).get 1 rfl).lt
    have HB2 := Lib.hid (show Bn w (w2.alloc (.cells (ac 9 (invM p.m)) 25)) [(w.heap.size, 27, p.cells), (w.heap.size + 1, 58, En.zero.cells), (w2.heap.size, 25, ac 9 (invM p.m))] from (HB1.out.below hb).push _ rfl 25 (ac 9 (invM p.m)))
    clear C3 hb f0 f1 fr HB1
    obtain ⟨f0, f1, fr⟩ := blkP (HB2.out.get 0 rfl)
    have C4 := cinverse_any p.A p.k p.c _ (HR.out.below HB2.out.b).kn
    go_wp2_with (first
      | (refine Mat.wpList_alloc9 rfl rfl ?_)
      | (refine wpList_store_row rfl _ _ _ rfl w2.heap.size (ac 9 (invM p.m)) rfl rfl 25 (ac 9 fun _ => 0) (heap_alloc_new _ _) info9 Mat.ac_same (Mat.ac_one 9 _) ?_; rw [World.setRow_alloc_new]))
    refine C4.mono ?_
    rintro e w3 ⟨A, cap, rfl, hkn, hnw, hb⟩
    have hx := kInvX_ris HRIS.out
    have hl : invL p.k = kInv p.k := by unfold invL; rw [if_pos hx]
    rw [hl] at hkn
    have HNW := Lib.hid hnw
    rw [hl, hx]
    have HB3 := Lib.hid (HB2.out.below hb)
    have HK := Lib.hid hkn
    clear C4 hb f0 f1 fr HB2 hkn hx hl hnw
    go_wp2_with (first
      | (refine wpList_load_row rfl _ _ rfl w2.heap.size rfl 25 (ac 9 (invM p.m)) (0, 0) _ (HB3.out.get 2 rfl) Try.underlying25 rfl info9 ?_)
      | (refine wpList_buildE rfl _ _ rfl ⟨invM p.m, A, cap, kInv p.k⟩ rfl rfl ?_)
      | (refine wpList_store_row rfl _ _ _ rfl (w.heap.size + 1) (En.mk (invM p.m) A cap (kInv p.k)).cells rfl rfl 58 En.zero.cells (HB3.out.get 1 rfl) (En.info _) (by rw [En.size, En.size]) (En.one _) ?_))
    have HB4 := Lib.hid (HB3.out.row 1 rfl (by omega) (by have := HLT.out; (intro j y hj hy; rcases j with _ | _ | _ | _ | _ | _ | j <;> first | exact absurd rfl hj | (simp only [List.getElem?_cons_zero, List.getElem?_cons_succ, Option.some.injEq] at hy; subst hy; dsimp only; omega) | (simp at hy; done))) (En.mk (invM p.m) A cap (kInv p.k)).cells)
    refine bodyPost_ret (v := .tuple #[En.val ⟨invM p.m, A, cap, kInv p.k⟩, .int .i64 0]) (results_row_tmp rfl _ _ (w.heap.size + 1) 58 (En.mk (invM p.m) A cap (kInv p.k)).cells _ rfl _ rfl (HB4.out.get 1 rfl) Try.underlying58 rfl (En.info _)) rfl ?_
    exact EncC.yes (E := ⟨invM p.m, A, cap, kInv p.k⟩) HZ.out rfl rfl (HK.out.setRow HNW.out (by rw [← size_alloc1]; have := HLT.out; omega) _) HB4.out.b
  · have h1 : (z != 0) = true := by simpa using h0
    go_wp2_with (first
      | (refine wpList_buildC (cs := En.zero.cells) rfl _ rfl builtE0 ?_)
      | (refine wpList_store_row rfl _ _ _ rfl (w.heap.size + 1) En.zero.cells rfl rfl 58 En.zero.cells (HB1.out.get 1 rfl) (En.info _) rfl (En.one _) ?_))
    have HB2 := Lib.hid (HB1.out.row 1 rfl (by omega) (by (intro j y hj hy; rcases j with _ | _ | _ | _ | _ | _ | j <;> first | exact absurd rfl hj | (simp only [List.getElem?_cons_zero, List.getElem?_cons_succ, Option.some.injEq] at hy; subst hy; dsimp only; omega) | (simp at hy; done))) En.zero.cells)
    refine bodyPost_ret (v := .tuple #[En.zero.val, .int .i64 z]) (results_row_tmp rfl _ _ (w.heap.size + 1) 58 En.zero.cells _ rfl _ rfl (HB2.out.get 1 rfl) Try.underlying58 rfl (En.info _)) rfl ?_
    exact EncC.no HZ.out h0 HB2.out.b

end Go.Proofs.Ytcighjeiimjbiaa.Pro

/- ProO: Layer 9: the encoder's pixel. -/
namespace Go.Proofs.Ytcighjeiimjbiaa.Pro
open Go.RowKit Go.Proofs.Ytcighjeiimjbiaa Go.Proofs.Ytcighjeiimjbiaa.NumPure
open Go.Proofs.Ytcighjeiimjbiaa.Mat (al ac invM invX appM info9 info3)

theorem run_index3 (m : Nat → Int) (k : Nat) (hk : k < 3) (w : World) : (Instr.index 34 (.agg (ac 3 m)) (.int .i64 (k : Int))).run Try.prog w = .ok (.int .i64 (m k)) w := by
  have hz : ∀ w, (sizeOf 3).run Try.prog w = .ok 1 w := fun w => by kernel_rfl
  have hcell := Mat.ac_at m hk
  simp [Instr.index, asIntOf, run_underlying Try.underlying34, hz, part, isAgg, run_underlying Try.underlying3, hcell]
  intro h
  omega
theorem clampU (x : Int) (w : World) : Calls Try.prog 65 #[.int .i64 x, .int .i64 0, .int .i64 65535] w fun e w' => e = .returned (.int .i64 (unt x)) ∧ w = w' := Num.clamp_any x 0 65535 w
/-- What is filled so far. -/
def mixE (v m : Nat → Int) (k : List K2) (j : Nat) : Nat → Int := fun n => if n < j then kAt k (unt (appM m v n)) else appM m v n
theorem mixE_step (v m : Nat → Int) (k : List K2) (j : Nat) : (fun n => if n = j then kAt k (unt (appM m v j)) else mixE v m k j n) = mixE v m k (j + 1) := by
  funext n
  unfold mixE
  by_cases h : n = j
  · subst h; rw [if_pos rfl, if_pos (by omega)]
  · rw [if_neg h]
    by_cases h2 : n < j
    · rw [if_pos h2, if_pos (by omega)]
    · rw [if_neg h2, if_neg (by omega)]
theorem mixE_zero (v m : Nat → Int) (k : List K2) : mixE v m k 0 = appM m v := by
  funext n
  unfold mixE
  rw [if_neg (by omega)]
theorem mixE_three (v m : Nat → Int) (k : List K2) {n : Nat} (h : n < 3) : mixE v m k 3 n = kAt k (unt (appM m v n)) := if_pos h
def pixV (m : Nat → Int) (k : List K2) (v : Nat → Int) (a : Int) : P4 := if unt a = 0 then (0, 0, 0, 0) else (kAt k (unt (appM m v 0)), kAt k (unt (appM m v 1)), kAt k (unt (appM m v 2)), unt a)
def PixC (x : P4) (w : World) (e : Ending) (w' : World) : Prop := e = .returned (pagg x) ∧ Below w.heap.size w w'
theorem PixC.mk {x y : P4} {w w' : World} (h : x = y) (hb : Below w.heap.size w w') : PixC y w (.returned (.agg (pcs x))) w' := ⟨by rw [← h]; rfl, hb⟩

set_option maxRecDepth 100000 in
set_option maxHeartbeats 8000000 in
theorem pixel_any (E : En) (v : Nat → Int) (a : Int) (w : World) (h : KnR w E.A E.k) : Calls Try.prog 34 #[E.val, .agg (ac 3 v), .int .i64 a] w (PixC (pixV E.m E.k v a) w) := by
  have H0 := Bn.three w 58 34 23 E.cells (ac 3 v) (pcs (0, 0, 0, 0))
  have HBC := Lib.hid H0
  obtain ⟨W, hW⟩ : ∃ W, (((w.alloc (.cells E.cells 58)).alloc (.cells (ac 3 v) 34)).alloc (.cells (pcs (0, 0, 0, 0)) 23)) = W := ⟨_, rfl⟩
  rw [hW] at H0
  have HB := Lib.hid H0
  have HR := Lib.hid h
  obtain ⟨z, hz⟩ : ∃ z, unt a = z := ⟨_, rfl⟩
  have C1 := clampU a W
  rw [hz] at C1
  have HZ := Lib.hid hz
  clear h H0 hz
  have hrunX : ∀ w, (Instr.alloc 23 true (.tuple #[])).run Try.prog w = .ok (.pointer (some ⟨w.heap.size, 0, none⟩)) (w.alloc (.cells (pcs (0, 0, 0, 0)) 23)) := fun w => by kernel_rfl
  have HRX := Lib.hid hrunX
  clear hrunX
  unfold En.val
  go_enter Try.func34, Try.ntmps34
  go_wp2_with (refine wpList_allocC HRX.out rfl rfl ?_)
  refine C1.mono ?_
  rintro e w1 ⟨rfl, rfl⟩
  clear C1 hW HBC
  by_cases h0 : z = 0
  · subst h0
    obtain ⟨c0, c1, c2, c3, cf⟩ := blk4 (HB.out.get 2 rfl)
    go_wp2_with fail
    rw [four_row (HB.out.get 2 rfl)]
    have HB2 := Lib.hid (HB.out.row 2 rfl (by omega) (by (intro j y hj hy; rcases j with _ | _ | _ | _ | _ | _ | j <;> first | exact absurd rfl hj | (simp only [List.getElem?_cons_zero, List.getElem?_cons_succ, Option.some.injEq] at hy; subst hy; dsimp only; omega) | (simp at hy; done))) (pcs (0, 0, 0, 0)))
    refine bodyPost_ret (v := .agg (pcs (0, 0, 0, 0))) (results_cell_row rfl _ _ (w.heap.size + 1 + 1) 23 (pcs (0, 0, 0, 0)) (0, 0) _ rfl (HB2.out.get 2 rfl) Try.underlying23 rfl (infoX _)) rfl ?_
    exact PixC.mk (by unfold pixV; rw [HZ.out, if_pos rfl]) HB2.out.b
  · have h1 : (z == 0) = false := by simpa using h0
    obtain ⟨fr, f9⟩ := blkE (HB.out.get 0 rfl)
    have C2 := Mat.apply_any E.m v W
    go_wp2_with (first
      | (refine wpList_load_mid rfl _ _ rfl w.heap.size 0 rfl (al 9 E.m) _ fr Try.underlying25 rfl info9l ?_)
      | (refine wpList_load_row rfl _ _ rfl (w.heap.size + 1) rfl 34 (ac 3 v) (0, 0) _ (HB.out.get 1 rfl) Try.underlying34 rfl info3 ?_))
    refine C2.mono ?_
    rintro e w1 ⟨rfl, hb⟩
    have HLT := Lib.hid ((HB.out.below hb).get 2 rfl).lt
    have HB3 := Lib.hid (show Bn w (w1.alloc (.cells (ac 3 (appM E.m v)) 34)) [(w.heap.size, 58, E.cells), (w.heap.size + 1, 34, ac 3 v), (w.heap.size + 1 + 1, 23, pcs (0, 0, 0, 0)), (w1.heap.size, 34, ac 3 (appM E.m v))] from (HB.out.below hb).push _ rfl 34 (ac 3 (appM E.m v)))
    clear C2 hb fr f9
    go_wp2_with (first
      | (refine Mat.wpList_alloc3 rfl rfl ?_)
      | (refine wpList_store_row rfl _ _ _ rfl w1.heap.size (ac 3 (appM E.m v)) rfl rfl 34 (ac 3 fun _ => 0) (heap_alloc_new _ _) info3 Mat.ac_same (Mat.ac_one 3 _) ?_; rw [World.setRow_alloc_new])
      | (refine wpList_load_row rfl _ _ rfl w1.heap.size rfl 34 (ac 3 (appM E.m v)) (0, 0) _ (HB3.out.get 3 rfl) Try.underlying34 rfl info3 ?_))
    obtain ⟨W3, hW3⟩ : ∃ W3, w1.alloc (.cells (ac 3 (appM E.m v)) 34) = W3 := ⟨_, rfl⟩
    obtain ⟨g3, hg3⟩ : ∃ g3, w1.heap.size = g3 := ⟨_, rfl⟩
    rw [hW3, hg3] at HB3
    rw [hg3] at HLT
    rw [hW3, hg3]
    clear hW3 hg3 HB
    have hlt3 := HLT.out
    clear HLT
    go_loopw [20] (fun v20 wr => ∃ j : Nat, v20 = .int .i64 j ∧ j ≤ 3 ∧ Bn w wr [(w.heap.size, 58, E.cells), (w.heap.size + 1, 34, ac 3 v), (w.heap.size + 1 + 1, 23, pcs (0, 0, 0, 0)), (g3, 34, ac 3 (mixE v E.m E.k j))]) (fun v20 _ => 3 - (intOf v20).toNat)
    case atStart => exact ⟨0, rfl, by omega, by rw [mixE_zero]; exact HB3.out⟩
    case round =>
      clear HB3
      obtain ⟨j, rfl, hj, hb⟩ := hrel
      have HB := Lib.hid hb
      clear hb
      by_cases hlt : j < 3
      · have hidx := fun W => run_index3 (appM E.m v) j hlt W
        obtain ⟨x, hx⟩ : ∃ x, appM E.m v j = x := ⟨_, rfl⟩
        have HM := Lib.hid (mixE_step v E.m E.k j)
        rw [hx] at hidx HM
        have hj0 : (0 : Int) ≤ (j : Int) := by omega
        have hj3 : (j : Int) < 3 := by omega
        clear hx
        go_wp2_with fail
        refine wp_region_held_drew (S := fun W => ∃ f, Bn w W [(w.heap.size, 58, E.cells), (w.heap.size + 1, 34, ac 3 v), (w.heap.size + 1 + 1, 23, pcs (0, 0, 0, 0)), (g3, 34, ac 3 f)]) (by kernel_rfl) ⟨_, HB.out.drew⟩ (fun hHeld => ?_)
        refine wpAnyH_take (i := 0) (oi := _) (v := .int .i64 (j : Int)) rfl (by kernel_rfl) (by kernel_rfl) (by kernel_rfl) (fun _ _ _ h => h) (Or.inl ⟨by rfl, fun W1 hS => by go_simp⟩) (by assumption) ?_
        go_simp
        refine wpAnyH_take (i := 1) (oi := _) (v := .pointer (some ⟨w.heap.size, 9, none⟩)) rfl (by kernel_rfl) (by kernel_rfl) (by kernel_rfl) (fun _ _ _ h => h) (Or.inl ⟨by rfl, fun W1 hS => by go_simp⟩) (by assumption) ?_
        go_simp
        refine wpAnyH_take (i := 2) (oi := _) (v := .slice E.A E.k.length E.c) rfl (by kernel_rfl) (by kernel_rfl) (by kernel_rfl) (fun _ _ _ h => h) (Or.inl ⟨by rfl, fun W1 hS => by (obtain ⟨f, hS⟩ := hS; obtain ⟨_, z1⟩ := blkE (hS.get 0 rfl); go_simp)⟩) (by assumption) ?_
        go_simp
        refine wpAnyH_take (i := 3) (oi := _) (v := .int .i64 x) rfl (by kernel_rfl) (by kernel_rfl) (by kernel_rfl) (fun _ _ _ h => h) (Or.inl ⟨by rfl, fun W1 hS => by go_simp⟩) (by assumption) ?_
        go_simp
        clear hHeld
        have HHD := Lib.hid HB.out.drew
        refine wpAnyH_ready (rs := [4]) (by kernel_rfl) (by simp) ?_
        refine AllReadyH.cons (o := _) rfl (fun K hK => ?_) AllReadyH.nil
        go_simp
        go_at_call 65
        refine (clampU x _).mono ?_
        rintro e w' ⟨rfl, rfl⟩
        go_wp2_with fail
        refine hK.out _ _ (⟨_, HHD.out⟩) (fun hHeld => ?_)
        clear hK
        try simp only [Act.put, List.setIfInBounds_toArray, List.set_cons_zero, List.set_cons_succ]
        clear hHeld
        refine wpAnyH_ready (rs := [5]) (by kernel_rfl) (by simp) ?_
        refine AllReadyH.cons (o := _) rfl (fun K hK => ?_) AllReadyH.nil
        go_simp
        go_at_call 67
        refine (cat_any E.A E.k E.c (unt x) _ (HR.out.below HHD.out.b)).mono ?_
        rintro e w2 ⟨rfl, hb⟩
        go_wp2_with fail
        have HL := Lib.hid (HHD.out.below hb)
        clear hb HHD
        refine hK.out _ _ (⟨_, HL.out⟩) (fun hHeld => ?_)
        clear hK
        try simp only [Act.put, List.setIfInBounds_toArray, List.set_cons_zero, List.set_cons_succ]
        refine wpAnyH_take (i := 6) (oi := _) (v := .pointer (some ⟨g3, j, none⟩)) rfl (by kernel_rfl) (by kernel_rfl) (by kernel_rfl) (fun _ _ _ h => h) (Or.inl ⟨by rfl, fun W1 hS => by go_simp⟩) (by assumption) ?_
        go_simp
        clear hHeld
        have hc := (HL.out.get 3 rfl).cell j
        rw [Mat.ac_at _ hlt] at hc
        have hf := (HL.out.get 3 rfl).frozen j
        have hset := setCell_eq_setRow w2 g3 j _ _ _ (.int .i64 (kAt E.k (unt x))) (HL.out.get 3 rfl)
        rw [Mat.ac_set] at hset
        have H9 := Lib.hid (HL.out.row 3 rfl (by omega) (by (intro j y hj hy; rcases j with _ | _ | _ | _ | _ | _ | j <;> first | exact absurd rfl hj | (simp only [List.getElem?_cons_zero, List.getElem?_cons_succ, Option.some.injEq] at hy; subst hy; dsimp only; omega) | (simp at hy; done))) (ac 3 (fun n => if n = j then kAt E.k (unt x) else mixE v E.m E.k j n)))
        refine wpAnyH_ready (rs := [7]) (by kernel_rfl) (by simp) ?_
        refine AllReadyH.cons (o := _) rfl (fun K hK => ?_) AllReadyH.nil
        go_simp
        obtain ⟨W9, hW9⟩ : ∃ W9, w2.setRow g3 (ac 3 (fun n => if n = j then kAt E.k (unt x) else mixE v E.m E.k j n)) = W9 := ⟨_, rfl⟩
        rw [hW9] at H9 ⊢
        clear hc hf hset hW9 HL
        refine hK.out _ _ ⟨_, H9.out⟩ (fun hHeld => ?_)
        clear hK hHeld
        try simp only [Act.put, List.setIfInBounds_toArray]
        refine wpAnyH_done (by kernel_rfl) ?_ _
        go_wp2_with fail
        go_roundw
        case rel => exact ⟨j + 1, by go_num, by omega, by rw [← HM.out]; exact H9.out⟩
        case measure => simp [intOf]; omega
      · obtain rfl : j = 3 := by omega
        have d0 := (HB.out.get 3 rfl).cell 0
        have d1 := (HB.out.get 3 rfl).cell 1
        have d2 := (HB.out.get 3 rfl).cell 2
        rw [Mat.ac_at _ (by omega)] at d0 d1 d2
        rw [mixE_three _ _ _ (by omega)] at d0 d1 d2
        obtain ⟨c0, c1, c2, c3, cf⟩ := blk4 (HB.out.get 2 rfl)
        go_wp2_with fail
        rw [four_row (HB.out.get 2 rfl)]
        have HB2 := Lib.hid (HB.out.row 2 rfl (by omega) (by (intro j y hj hy; rcases j with _ | _ | _ | _ | _ | _ | j <;> first | exact absurd rfl hj | (simp only [List.getElem?_cons_zero, List.getElem?_cons_succ, Option.some.injEq] at hy; subst hy; dsimp only; omega) | (simp at hy; done))) (pcs (kAt E.k (unt (appM E.m v 0)), kAt E.k (unt (appM E.m v 1)), kAt E.k (unt (appM E.m v 2)), z)))
        refine bodyPost_ret (v := .agg (pcs (kAt E.k (unt (appM E.m v 0)), kAt E.k (unt (appM E.m v 1)), kAt E.k (unt (appM E.m v 2)), z))) (results_cell_row rfl _ _ (w.heap.size + 1 + 1) 23 (pcs _) (0, 0) _ rfl (HB2.out.get 2 rfl) Try.underlying23 rfl (infoX _)) rfl ?_
        exact PixC.mk (by unfold pixV; rw [HZ.out, if_neg h0]) HB2.out.b

end Go.Proofs.Ytcighjeiimjbiaa.Pro

/- ProP: Layer 9: Encode. -/
namespace Go.Proofs.Ytcighjeiimjbiaa.Pro
open Go.RowKit Go.Proofs.Ytcighjeiimjbiaa Go.Proofs.Ytcighjeiimjbiaa.NumPure
open Go.Proofs.Ytcighjeiimjbiaa.Mat (al ac invM invX appM info9 info3)

theorem runX (w : World) : (Instr.alloc 23 true (.tuple #[])).run Try.prog w = .ok (.pointer (some ⟨w.heap.size, 0, none⟩)) (w.alloc (.cells (pcs (0, 0, 0, 0)) 23)) := by kernel_rfl
def encV (p : Pf) (v : Nat → Int) (a : Int) : P4 := if pErr p = 0 then pixV (invM p.m) (kInv p.k) v a else (0, 0, 0, 0)
def PxC (x : P4) (z : Int) (w : World) (e : Ending) (w' : World) : Prop := e = .returned (.tuple #[pagg x, .int .i64 z]) ∧ Below w.heap.size w w'
theorem PxC.mk {x y : P4} {z u : Int} {w w' : World} (h : x = y) (hz : z = u) (hb : Below w.heap.size w w') : PxC y u w (.returned (.tuple #[.agg (pcs x), .int .i64 z])) w' := ⟨by rw [← h, ← hz]; rfl, hb⟩
theorem encV_ok {p : Pf} {v : Nat → Int} {a : Int} (h : pErr p = 0) : pixV (invM p.m) (kInv p.k) v a = encV p v a := by unfold encV; rw [if_pos h]
theorem encV_no {p : Pf} {v : Nat → Int} {a : Int} (h : pErr p ≠ 0) : (0, 0, 0, 0) = encV p v a := by unfold encV; rw [if_neg h]

set_option maxRecDepth 100000 in
set_option maxHeartbeats 8000000 in
theorem Encode_any (p : Pf) (v : Nat → Int) (a : Int) (w : World) (h : PfR w p) : Calls Try.prog 12 #[p.val, .agg (ac 3 v), .int .i64 a] w (PxC (encV p v a) (pErr p) w) := by
  have H0 := Bn.three w 27 34 23 p.cells (ac 3 v) (pcs (0, 0, 0, 0))
  have HBC := Lib.hid H0
  obtain ⟨W, hW⟩ : ∃ W, ((w.alloc (.cells p.cells 27)).alloc (.cells (ac 3 v) 34)).alloc (.cells (pcs (0, 0, 0, 0)) 23) = W := ⟨_, rfl⟩
  rw [hW] at H0
  have HB := Lib.hid H0
  have C1 := newEncoder_any p W (h.below H0.b)
  obtain ⟨z, hz⟩ : ∃ z, pErr p = z := ⟨_, rfl⟩
  unfold EncC at C1
  rw [hz] at C1 ⊢
  have HZ := Lib.hid hz
  clear h H0 hz
  unfold Pf.val at C1 ⊢
  go_enter Try.func12, Try.ntmps12
  go_wp2_with (first
    | (refine wpList_allocC runX rfl rfl ?_)
    | (refine wpList_load_row rfl _ _ rfl w.heap.size rfl 27 p.cells (0, 0) _ (HBC.out.get 0 rfl) Try.underlying27 rfl p.info ?_)
    | (refine wpList_load_row rfl _ _ rfl w.heap.size rfl 27 p.cells (0, 0) _ (HB.out.get 0 rfl) Try.underlying27 rfl p.info ?_))
  refine C1.mono ?_
  rintro e w1 ⟨E, rfl, hk, hb, hE⟩
  have HLT := Lib.hid ((HB.out.below hb).get 2 rfl).lt
  have HK := Lib.hid (hk.below ((Below.refl _ _).alloc (Nat.le_refl _) (.cells E.cells 58)))
  have HE := Lib.hid hE
  have HB3 := Lib.hid (show Bn w (w1.alloc (.cells E.cells 58)) [(w.heap.size, 27, p.cells), (w.heap.size + 1, 34, ac 3 v), (w.heap.size + 1 + 1, 23, pcs (0, 0, 0, 0)), (w1.heap.size, 58, E.cells)] from (HB.out.below hb).push _ rfl 58 E.cells)
  clear C1 hb hk hE HB HBC hW
  unfold En.val
  obtain ⟨c0, c1, c2, c3, cf⟩ := blk4 (HB3.out.get 2 rfl)
  by_cases h0 : z = 0
  · subst h0
    have C2 := pixel_any E v a _ HK.out
    unfold En.val PixC at C2
    obtain ⟨e1, e2⟩ := HE.out rfl
    rw [e1, e2] at C2
    have hv := encV_ok (v := v) (a := a) HZ.out
    rw [hv] at C2
    obtain ⟨y, hy⟩ : ∃ y, encV p v a = y := ⟨_, rfl⟩
    rw [hy] at C2
    have HY := Lib.hid hy
    obtain ⟨y0, y1, y2, y3⟩ := y
    clear e1 e2 hv hy
    go_wp2_with (first
      | (refine wpList_allocC runE rfl rfl ?_)
      | (refine wpList_store_row rfl _ _ _ rfl w1.heap.size E.cells rfl rfl 58 En.zero.cells (heap_alloc_new _ _) (En.info _) (by rw [En.size, En.size]) (En.one _) ?_; rw [World.setRow_alloc_new])
      | (refine wpList_load_row rfl _ _ rfl w1.heap.size rfl 58 E.cells (0, 0) _ (HB3.out.get 3 rfl) Try.underlying58 rfl (En.info _) ?_)
      | (refine wpList_load_row rfl _ _ rfl (w.heap.size + 1) rfl 34 (ac 3 v) (0, 0) _ (HB3.out.get 1 rfl) Try.underlying34 rfl info3 ?_))
    refine C2.mono ?_
    rintro e w2 ⟨rfl, hb⟩
    have HB4 := Lib.hid (HB3.out.below hb)
    clear C2 hb c0 c1 c2 c3 cf HB3
    obtain ⟨c0, c1, c2, c3, cf⟩ := blk4 (HB4.out.get 2 rfl)
    unfold pagg
    go_wp2_with fail
    rw [four_row (HB4.out.get 2 rfl)]
    have HB5 := Lib.hid (HB4.out.row 2 rfl (by omega) (by have := HLT.out; (intro j y hj hy; rcases j with _ | _ | _ | _ | _ | _ | j <;> first | exact absurd rfl hj | (simp only [List.getElem?_cons_zero, List.getElem?_cons_succ, Option.some.injEq] at hy; subst hy; dsimp only; omega) | (simp at hy; done))) (pcs (y0, y1, y2, y3)))
    refine bodyPost_ret (v := .tuple #[.agg (pcs (y0, y1, y2, y3)), .int .i64 0]) (results_row_tmp rfl _ _ (w.heap.size + 1 + 1) 23 (pcs (y0, y1, y2, y3)) _ rfl _ rfl (HB5.out.get 2 rfl) Try.underlying23 rfl (infoX _)) rfl ?_
    exact PxC.mk HY.out.symm rfl HB5.out.b
  · have h1 : (z != 0) = true := by simpa using h0
    go_wp2_with (first
      | (refine wpList_allocC runE rfl rfl ?_)
      | (refine wpList_store_row rfl _ _ _ rfl w1.heap.size E.cells rfl rfl 58 En.zero.cells (heap_alloc_new _ _) (En.info _) (by rw [En.size, En.size]) (En.one _) ?_; rw [World.setRow_alloc_new]))
    rw [four_row (HB3.out.get 2 rfl)]
    have HB5 := Lib.hid (HB3.out.row 2 rfl (by omega) (by have := HLT.out; (intro j y hj hy; rcases j with _ | _ | _ | _ | _ | _ | j <;> first | exact absurd rfl hj | (simp only [List.getElem?_cons_zero, List.getElem?_cons_succ, Option.some.injEq] at hy; subst hy; dsimp only; omega) | (simp at hy; done))) (pcs (0, 0, 0, 0)))
    refine bodyPost_ret (v := .tuple #[.agg (pcs (0, 0, 0, 0)), .int .i64 z]) (results_row_tmp rfl _ _ (w.heap.size + 1 + 1) 23 (pcs (0, 0, 0, 0)) _ rfl _ rfl (HB5.out.get 2 rfl) Try.underlying23 rfl (infoX _)) rfl ?_
    exact PxC.mk (encV_no (by rw [HZ.out]; exact h0)) rfl HB5.out.b

end Go.Proofs.Ytcighjeiimjbiaa.Pro

/- ProQ: Layer 9: the reference's Encode. -/
namespace Go.Proofs.Ytcighjeiimjbiaa.Pro
open Go.RowKit Go.Proofs.Ytcighjeiimjbiaa Go.Proofs.Ytcighjeiimjbiaa.NumPure
open Go.Proofs.Ytcighjeiimjbiaa.Mat (al ac invM invX appM info9 info3)

theorem Bn.of2 {w W : World} {a b : Ent} (hb : Below w.heap.size w W) (h1 : Blk W a.1 a.2.1 a.2.2) (h2 : Blk W b.1 b.2.1 b.2.2) : Bn w W [a, b] := ⟨hb, fun i x hx => by
  rcases i with _ | _ | i
  · injection hx with hx; subst hx; exact h1
  · injection hx with hx; subst hx; exact h2
  · simp at hx⟩

set_option maxRecDepth 100000 in
set_option maxHeartbeats 8000000 in
theorem rEncode_any (p : Pf) (v : Nat → Int) (a : Int) (w : World) (h : PfR w p) : Calls Try.prog 26 #[p.val, .agg (ac 3 v), .int .i64 a] w (PxC (encV p v a) (pErr p) w) := by
  have H0 := Bn.three w 27 34 23 p.cells (ac 3 v) (pcs (0, 0, 0, 0))
  have HBC := Lib.hid H0
  obtain ⟨W, hW⟩ : ∃ W, ((w.alloc (.cells p.cells 27)).alloc (.cells (ac 3 v) 34)).alloc (.cells (pcs (0, 0, 0, 0)) 23) = W := ⟨_, rfl⟩
  rw [hW] at H0
  have HB := Lib.hid H0
  have HR := Lib.hid h
  have C1 := rCheck_any p W (h.below H0.b)
  obtain ⟨z, hz⟩ : ∃ z, pErr p = z := ⟨_, rfl⟩
  unfold ChkC at C1
  rw [hz] at C1 ⊢
  have HZ := Lib.hid hz
  clear h H0 hz
  unfold Pf.val at C1 ⊢
  go_enter Try.func26, Try.ntmps26
  go_wp2_with (first
    | (refine wpList_allocC runX rfl rfl ?_)
    | (refine wpList_load_row rfl _ _ rfl w.heap.size rfl 27 p.cells (0, 0) _ (HBC.out.get 0 rfl) Try.underlying27 rfl p.info ?_)
    | (refine wpList_load_row rfl _ _ rfl w.heap.size rfl 27 p.cells (0, 0) _ (HB.out.get 0 rfl) Try.underlying27 rfl p.info ?_))
  refine C1.mono ?_
  rintro e w1 ⟨rfl, hb⟩
  have HB1 := Lib.hid (HB.out.below hb)
  clear C1 hb HB HBC hW
  by_cases h0 : z = 0
  rotate_left
  · have h1 : (z != 0) = true := by simpa using h0
    obtain ⟨c0, c1, c2, c3, cf⟩ := blk4 (HB1.out.get 2 rfl)
    go_wp2_with fail
    rw [four_row (HB1.out.get 2 rfl)]
    have HB5 := Lib.hid (HB1.out.row 2 rfl (by omega) (by (intro j y hj hy; rcases j with _ | _ | _ | _ | _ | _ | j <;> first | exact absurd rfl hj | (simp only [List.getElem?_cons_zero, List.getElem?_cons_succ, Option.some.injEq] at hy; subst hy; dsimp only; omega) | (simp at hy; done))) (pcs (0, 0, 0, 0)))
    refine bodyPost_ret (v := .tuple #[.agg (pcs (0, 0, 0, 0)), .int .i64 z]) (results_row_tmp rfl _ _ (w.heap.size + 1 + 1) 23 (pcs (0, 0, 0, 0)) _ rfl _ rfl (HB5.out.get 2 rfl) Try.underlying23 rfl (infoX _)) rfl ?_
    exact PxC.mk (encV_no (by rw [HZ.out]; exact h0)) rfl HB5.out.b
  · subst h0
    obtain ⟨_, hris, hinv⟩ := pErr_zero HZ.out
    have C3 := Mat.rInverse_any p.m w1
    rw [hinv] at C3
    obtain ⟨f0, f1, fr⟩ := blkP (HB1.out.get 0 rfl)
    have HRIS := Lib.hid hris
    clear hris hinv
    go_wp2_with (refine wpList_load_mid rfl _ _ rfl w.heap.size 2 rfl (al 9 p.m) _ fr Try.underlying25 rfl info9l ?_)
    refine C3.mono ?_
    rintro e w2 ⟨rfl, hb⟩
    have HLT := Lib.hid ((HB1.out.below hb).get 2 rfl).lt
    have HB2 := Lib.hid (show Bn w (w2.alloc (.cells (ac 9 (invM p.m)) 25)) [(w.heap.size, 27, p.cells), (w.heap.size + 1, 34, ac 3 v), (w.heap.size + 1 + 1, 23, pcs (0, 0, 0, 0)), (w2.heap.size, 25, ac 9 (invM p.m))] from (HB1.out.below hb).push _ rfl 25 (ac 9 (invM p.m)))
    clear C3 hb f0 f1 fr HB1
    obtain ⟨f0, f1, fr⟩ := blkP (HB2.out.get 0 rfl)
    have C4 := rcinverse_any p.A p.k p.c _ (HR.out.below HB2.out.b).kn
    go_wp2_with (first
      | (refine Mat.wpList_alloc9 rfl rfl ?_)
      | (refine wpList_store_row rfl _ _ _ rfl w2.heap.size (ac 9 (invM p.m)) rfl rfl 25 (ac 9 fun _ => 0) (heap_alloc_new _ _) info9 Mat.ac_same (Mat.ac_one 9 _) ?_; rw [World.setRow_alloc_new]))
    refine C4.mono ?_
    rintro e w3 ⟨A, cap, rfl, hkn, _, hb⟩
    have hx := kInvX_ris HRIS.out
    have hl : invL p.k = kInv p.k := by unfold invL; rw [if_pos hx]
    rw [hl] at hkn
    rw [hl, hx]
    have HB3 := Lib.hid (HB2.out.below hb)
    have HK3 := Lib.hid hkn
    clear C4 hb f0 f1 fr HB2 hkn hx hl
    have C5 := Mat.rApply_any (invM p.m) v w3
    obtain ⟨f, hf⟩ : ∃ f, appM (invM p.m) v = f := ⟨_, rfl⟩
    rw [hf] at C5
    have HF := Lib.hid hf
    clear hf
    go_wp2_with (first
      | (refine wpList_load_row rfl _ _ rfl w2.heap.size rfl 25 (ac 9 (invM p.m)) (0, 0) _ (HB3.out.get 3 rfl) Try.underlying25 rfl info9 ?_)
      | (refine wpList_load_row rfl _ _ rfl (w.heap.size + 1) rfl 34 (ac 3 v) (0, 0) _ (HB3.out.get 1 rfl) Try.underlying34 rfl info3 ?_))
    refine C5.mono ?_
    rintro e w4 ⟨rfl, hb⟩
    have HB4 := Lib.hid (Bn.of2 (w := w) (a := (w.heap.size + 1 + 1, 23, pcs (0, 0, 0, 0))) (b := (w4.heap.size, 34, ac 3 f)) ((HB3.out.below hb).push _ rfl 34 (ac 3 f)).b (((HB3.out.below hb).push _ rfl 34 (ac 3 f)).get 2 rfl) (((HB3.out.below hb).push _ rfl 34 (ac 3 f)).get 4 rfl))
    have HK4 := Lib.hid (HK3.out.below (hb.alloc hb.size (.cells (ac 3 f) 34)))
    have HL4 := Lib.hid ((HB3.out.below hb).get 2 rfl).lt
    clear C5 hb HB3 HK3 HLT
    have d0 := (HB4.out.get 1 rfl).cell 0
    have d1 := (HB4.out.get 1 rfl).cell 1
    have d2 := (HB4.out.get 1 rfl).cell 2
    rw [Mat.ac_at _ (by omega)] at d0 d1 d2
    have C6 := fun W => rxLimit_any (f 0, f 1, f 2, a) W
    go_wp2_with (first
      | (refine Mat.wpList_alloc3 rfl rfl ?_)
      | (refine wpList_store_row rfl _ _ _ rfl w4.heap.size (ac 3 f) rfl rfl 34 (ac 3 fun _ => 0) (heap_alloc_new _ _) info3 Mat.ac_same (Mat.ac_one 3 _) ?_; rw [World.setRow_alloc_new]))
    refine (C6 _).mono ?_
    rintro e w5 ⟨rfl, hb⟩
    have HL5 := Lib.hid ((HB4.out.below hb).get 0 rfl).lt
    obtain ⟨u0, hu0⟩ : ∃ u, unt (f 0) = u := ⟨_, rfl⟩
    obtain ⟨u1, hu1⟩ : ∃ u, unt (f 1) = u := ⟨_, rfl⟩
    obtain ⟨u2, hu2⟩ : ∃ u, unt (f 2) = u := ⟨_, rfl⟩
    obtain ⟨z, hz⟩ : ∃ u, unt a = u := ⟨_, rfl⟩
    have hlim : pagg (limP (f 0, f 1, f 2, a)) = .agg #[.int .i64 u0, .int .i64 u1, .int .i64 u2, .int .i64 z] := by unfold pagg limP; rw [← hu0, ← hu1, ← hu2, ← hz]
    have HB5 := Lib.hid (Bn.of2 (w := w) (a := (w.heap.size + 1 + 1, 23, pcs (0, 0, 0, 0))) (b := (w5.heap.size, 23, pcs (u0, u1, u2, z))) ((HB4.out.below hb).push _ rfl 23 (pcs (u0, u1, u2, z))).b (((HB4.out.below hb).push _ rfl 23 (pcs (u0, u1, u2, z))).get 0 rfl) (((HB4.out.below hb).push _ rfl 23 (pcs (u0, u1, u2, z))).get 2 rfl))
    have HK5 := Lib.hid (HK4.out.below (hb.alloc hb.size (.cells (pcs (u0, u1, u2, z)) 23)))
    have hxv : (if z = 0 then (0, 0, 0, 0) else (kAt (kInv p.k) u0, kAt (kInv p.k) u1, kAt (kInv p.k) u2, z)) = encV p v a := by
      rw [← encV_ok HZ.out]
      unfold pixV
      rw [HF.out, hu0, hu1, hu2, hz]
    have HXV := Lib.hid hxv
    rw [hlim]
    clear C6 d0 d1 d2 hb HB4 HK4 HL4 hu0 hu1 hu2 hz hlim hxv
    obtain ⟨c0, c1, c2, c3, cf⟩ := blk4 (HB5.out.get 0 rfl)
    obtain ⟨e0, e1, e2, e3, ef⟩ := blk4 (HB5.out.get 1 rfl)
    by_cases hz0 : z = 0
    · subst hz0
      go_wp2_with (first
        | (refine wpList_allocC runX rfl rfl ?_)
        | (refine wpList_store_row rfl _ _ _ rfl w5.heap.size (pcs (u0, u1, u2, 0)) rfl rfl 23 (pcs (0, 0, 0, 0)) (heap_alloc_new _ _) (infoX _) rfl (pcs_one _) ?_; rw [World.setRow_alloc_new]))
      rw [four_row (HB5.out.get 0 rfl)]
      have HB6 := Lib.hid (HB5.out.row 0 rfl (by omega) (by have := HL5.out; (intro j y hj hy; rcases j with _ | _ | _ | _ | _ | _ | j <;> first | exact absurd rfl hj | (simp only [List.getElem?_cons_zero, List.getElem?_cons_succ, Option.some.injEq] at hy; subst hy; dsimp only; omega) | (simp at hy; done))) (pcs (0, 0, 0, 0)))
      refine bodyPost_ret (v := .tuple #[.agg (pcs (0, 0, 0, 0)), .int .i64 0]) (results_row_tmp rfl _ _ (w.heap.size + 1 + 1) 23 (pcs (0, 0, 0, 0)) _ rfl _ rfl (HB6.out.get 0 rfl) Try.underlying23 rfl (infoX _)) rfl ?_
      exact PxC.mk (by simpa using HXV.out) rfl HB6.out.b
    · have h1 : (z == 0) = false := by simpa using hz0
      go_wp2_with (first
        | (refine wpList_allocC runX rfl rfl ?_)
        | (refine wpList_store_row rfl _ _ _ rfl w5.heap.size (pcs (u0, u1, u2, z)) rfl rfl 23 (pcs (0, 0, 0, 0)) (heap_alloc_new _ _) (infoX _) rfl (pcs_one _) ?_; rw [World.setRow_alloc_new]))
      obtain ⟨W6, hW6⟩ : ∃ W6, w5.alloc (.cells (pcs (u0, u1, u2, z)) 23) = W6 := ⟨_, rfl⟩
      obtain ⟨g5, hg5⟩ : ∃ g5, w5.heap.size = g5 := ⟨_, rfl⟩
      rw [hW6, hg5] at HB5
      rw [hW6] at HK5
      rw [hg5] at HL5
      rw [hW6, hg5]
      have HB := HB5
      have HK := HK5
      have hlt5 := HL5.out
      clear hW6 hg5 HL5 c0 c1 c2 c3 cf e0 e1 e2 e3 ef HB5 HK5
      refine wp_region_held_drew (S := fun W => ∃ f : Array Value, Bn w W [(w.heap.size + 1 + 1, 23, f), (g5, 23, pcs (u0, u1, u2, z))]) (by kernel_rfl) ⟨_, HB.out.drew⟩ (fun hHeld => ?_)
      refine wpAnyH_take (i := 0) (oi := _) (v := .slice A (kInv p.k).length cap) rfl (by kernel_rfl) (by kernel_rfl) (by kernel_rfl) (fun _ _ _ h => h) (Or.inl ⟨by rfl, fun W1 hS => by go_simp⟩) (by assumption) ?_
      go_simp
      refine wpAnyH_take (i := 1) (oi := _) (v := .pointer (some ⟨g5, 0, none⟩)) rfl (by kernel_rfl) (by kernel_rfl) (by kernel_rfl) (fun _ _ _ h => h) (Or.inl ⟨by rfl, fun W1 hS => by go_simp⟩) (by assumption) ?_
      go_simp
      refine wpAnyH_take (i := 2) (oi := _) (v := .int .i64 u0) rfl (by kernel_rfl) (by kernel_rfl) (by kernel_rfl) (fun _ _ _ h => h) (Or.inl ⟨by rfl, fun W1 hS => by (obtain ⟨f, hS⟩ := hS; obtain ⟨z0, z1, z2, z3, _⟩ := blk4 (hS.get 1 rfl); go_simp)⟩) (by assumption) ?_
      go_simp
      refine wpAnyH_take (i := 4) (oi := _) (v := .slice A (kInv p.k).length cap) rfl (by kernel_rfl) (by kernel_rfl) (by kernel_rfl) (fun _ _ _ h => h) (Or.inl ⟨by rfl, fun W1 hS => by go_simp⟩) (by assumption) ?_
      go_simp
      refine wpAnyH_take (i := 5) (oi := _) (v := .pointer (some ⟨g5, 1, none⟩)) rfl (by kernel_rfl) (by kernel_rfl) (by kernel_rfl) (fun _ _ _ h => h) (Or.inl ⟨by rfl, fun W1 hS => by go_simp⟩) (by assumption) ?_
      go_simp
      refine wpAnyH_take (i := 6) (oi := _) (v := .int .i64 u1) rfl (by kernel_rfl) (by kernel_rfl) (by kernel_rfl) (fun _ _ _ h => h) (Or.inl ⟨by rfl, fun W1 hS => by (obtain ⟨f, hS⟩ := hS; obtain ⟨z0, z1, z2, z3, _⟩ := blk4 (hS.get 1 rfl); go_simp)⟩) (by assumption) ?_
      go_simp
      refine wpAnyH_take (i := 8) (oi := _) (v := .slice A (kInv p.k).length cap) rfl (by kernel_rfl) (by kernel_rfl) (by kernel_rfl) (fun _ _ _ h => h) (Or.inl ⟨by rfl, fun W1 hS => by go_simp⟩) (by assumption) ?_
      go_simp
      refine wpAnyH_take (i := 9) (oi := _) (v := .pointer (some ⟨g5, 2, none⟩)) rfl (by kernel_rfl) (by kernel_rfl) (by kernel_rfl) (fun _ _ _ h => h) (Or.inl ⟨by rfl, fun W1 hS => by go_simp⟩) (by assumption) ?_
      go_simp
      refine wpAnyH_take (i := 10) (oi := _) (v := .int .i64 u2) rfl (by kernel_rfl) (by kernel_rfl) (by kernel_rfl) (fun _ _ _ h => h) (Or.inl ⟨by rfl, fun W1 hS => by (obtain ⟨f, hS⟩ := hS; obtain ⟨z0, z1, z2, z3, _⟩ := blk4 (hS.get 1 rfl); go_simp)⟩) (by assumption) ?_
      go_simp
      refine wpAnyH_take (i := 12) (oi := _) (v := .pointer (some ⟨g5, 3, none⟩)) rfl (by kernel_rfl) (by kernel_rfl) (by kernel_rfl) (fun _ _ _ h => h) (Or.inl ⟨by rfl, fun W1 hS => by go_simp⟩) (by assumption) ?_
      go_simp
      refine wpAnyH_take (i := 13) (oi := _) (v := .int .i64 z) rfl (by kernel_rfl) (by kernel_rfl) (by kernel_rfl) (fun _ _ _ h => h) (Or.inl ⟨by rfl, fun W1 hS => by (obtain ⟨f, hS⟩ := hS; obtain ⟨z0, z1, z2, z3, _⟩ := blk4 (hS.get 1 rfl); go_simp)⟩) (by assumption) ?_
      go_simp
      have HL0 := Lib.hid HB.out.drew
      have HK0 := Lib.hid (HK.out.below ((Below.refl _ _).drew))
      clear hHeld HK HB
      refine wpAnyH_ready (rs := [3]) (by kernel_rfl) (by simp) ?_
      refine AllReadyH.cons (o := _) rfl (fun K hK => ?_) AllReadyH.nil
      go_simp
      go_at_call 56
      refine (rcat_any A (kInv p.k) cap u0 _ HK0.out).mono ?_
      rintro e v0 ⟨rfl, hb⟩
      go_wp2_with fail
      have HL1 := Lib.hid (HL0.out.below hb)
      have HK1 := Lib.hid (HK0.out.below hb)
      clear hb HL0 HK0
      refine hK.out _ _ (⟨_, HL1.out⟩) (fun hHeld => ?_)
      clear hK
      try simp only [Act.put, List.setIfInBounds_toArray, List.set_cons_zero, List.set_cons_succ]
      clear hHeld
      refine wpAnyH_ready (rs := [7]) (by kernel_rfl) (by simp) ?_
      refine AllReadyH.cons (o := _) rfl (fun K hK => ?_) AllReadyH.nil
      go_simp
      go_at_call 56
      refine (rcat_any A (kInv p.k) cap u1 _ HK1.out).mono ?_
      rintro e v1 ⟨rfl, hb⟩
      go_wp2_with fail
      have HL2 := Lib.hid (HL1.out.below hb)
      have HK2 := Lib.hid (HK1.out.below hb)
      clear hb HL1 HK1
      refine hK.out _ _ (⟨_, HL2.out⟩) (fun hHeld => ?_)
      clear hK
      try simp only [Act.put, List.setIfInBounds_toArray, List.set_cons_zero, List.set_cons_succ]
      clear hHeld
      refine wpAnyH_ready (rs := [11]) (by kernel_rfl) (by simp) ?_
      refine AllReadyH.cons (o := _) rfl (fun K hK => ?_) AllReadyH.nil
      go_simp
      go_at_call 56
      refine (rcat_any A (kInv p.k) cap u2 _ HK2.out).mono ?_
      rintro e v2 ⟨rfl, hb⟩
      go_wp2_with fail
      have HL3 := Lib.hid (HL2.out.below hb)
      have HK3 := Lib.hid (HK2.out.below hb)
      clear hb HL2 HK2
      refine hK.out _ _ (⟨_, HL3.out⟩) (fun hHeld => ?_)
      clear hK
      try simp only [Act.put, List.setIfInBounds_toArray, List.set_cons_zero, List.set_cons_succ]
      refine wpAnyH_take (i := 14) (oi := _) (v := .agg #[.int .i64 (kAt (kInv p.k) u0), .int .i64 (kAt (kInv p.k) u1), .int .i64 (kAt (kInv p.k) u2), .int .i64 z]) rfl (by kernel_rfl) (by kernel_rfl) (by kernel_rfl) (fun _ _ _ h => h) (Or.inl ⟨by rfl, fun W1 hS => by go_simp⟩) (by assumption) ?_
      go_simp
      clear hHeld
      obtain ⟨c0, c1, c2, c3, cf⟩ := blk4 (HL3.out.get 0 rfl)
      have H9 := Lib.hid (HL3.out.row 0 rfl (by omega) (by (intro j y hj hy; rcases j with _ | _ | _ | _ | _ | _ | j <;> first | exact absurd rfl hj | (simp only [List.getElem?_cons_zero, List.getElem?_cons_succ, Option.some.injEq] at hy; subst hy; dsimp only; omega) | (simp at hy; done))) (pcs (kAt (kInv p.k) u0, kAt (kInv p.k) u1, kAt (kInv p.k) u2, z)))
      refine wpAnyH_ready (rs := [15]) (by kernel_rfl) (by simp) ?_
      refine AllReadyH.cons (o := _) rfl (fun K hK => ?_) AllReadyH.nil
      rw [if_pos (by rfl)]
      go_simp
      rw [four_row (HL3.out.get 0 rfl)]
      refine hK.out _ _ (⟨_, H9.out⟩) (fun hHeld => ?_)
      clear hK
      try simp only [Act.put, List.setIfInBounds_toArray, List.set_cons_zero, List.set_cons_succ]
      clear hHeld
      refine wpAnyH_ready (rs := [16]) (by kernel_rfl) (by simp) ?_
      refine AllReadyH.cons (o := _) rfl (fun K hK => ?_) AllReadyH.nil
      rw [if_pos (by rfl)]
      go_simp
      refine hK.out _ _ (⟨_, H9.out⟩) (fun hHeld => ?_)
      clear hK
      try simp only [Act.put, List.setIfInBounds_toArray, List.set_cons_zero, List.set_cons_succ]
      clear hHeld
      refine wpAnyH_done (by kernel_rfl) ?_ _
      clear c0 c1 c2 c3 cf HL3 HK3
      obtain ⟨W9, hW9⟩ : ∃ W9, v2.setRow (w.heap.size + 1 + 1) (pcs (kAt (kInv p.k) u0, kAt (kInv p.k) u1, kAt (kInv p.k) u2, z)) = W9 := ⟨_, rfl⟩
      have H9 : Hid (Bn w W9 [(w.heap.size + 1 + 1, 23, pcs (kAt (kInv p.k) u0, kAt (kInv p.k) u1, kAt (kInv p.k) u2, z)), (g5, 23, pcs (u0, u1, u2, z))]) := Lib.hid (by rw [← hW9]; exact H9.out)
      have hW8 : v2.setRow (w.heap.size + 1 + 1) #[.int .i64 (kAt (kInv p.k) u0), .int .i64 (kAt (kInv p.k) u1), .int .i64 (kAt (kInv p.k) u2), .int .i64 z] = W9 := hW9
      rw [hW8]
      clear hW8 hW9
      go_wp2_with fail
      refine bodyPost_ret (v := .tuple #[.agg (pcs (kAt (kInv p.k) u0, kAt (kInv p.k) u1, kAt (kInv p.k) u2, z)), .int .i64 0]) (results_row_tmp rfl _ _ (w.heap.size + 1 + 1) 23 (pcs (kAt (kInv p.k) u0, kAt (kInv p.k) u1, kAt (kInv p.k) u2, z)) _ rfl _ rfl (H9.out.get 0 rfl) Try.underlying23 rfl (infoX _)) rfl ?_
      exact PxC.mk ((if_neg hz0).symm.trans HXV.out) rfl H9.out.b

end Go.Proofs.Ytcighjeiimjbiaa.Pro

/- ProR: Layer 9, both sides: equality of curves and of profiles. -/
namespace Go.Proofs.Ytcighjeiimjbiaa.Pro
open Go.RowKit Go.Proofs.Ytcighjeiimjbiaa Go.Proofs.Ytcighjeiimjbiaa.NumPure
open Go.Proofs.Ytcighjeiimjbiaa.Mat (al ac invM invX appM info9 info3)

def BolC (b : Bool) (w : World) (e : Ending) (w' : World) : Prop := e = .returned (.bool b) ∧ Below w.heap.size w w'
theorem BolC.mk {a b : Bool} {w w' : World} (h : a = b) (hb : Below w.heap.size w w') : BolC b w (.returned (.bool a)) w' := ⟨by rw [h], hb⟩
theorem take_eq_step {α : Type} {l m : List α} {j : Nat} (h : l.take j = m.take j) (hl : j < l.length) (hm : j < m.length) (he : l[j] = m[j]) : l.take (j + 1) = m.take (j + 1) := by
  rw [List.take_succ_eq_append_getElem hl, List.take_succ_eq_append_getElem hm, h, he]

set_option maxRecDepth 100000 in
set_option maxHeartbeats 8000000 in
theorem Equal_any (A A' : Option Addr) (l l' : List K2) (c c' : Nat) (w : World) (h : KnR w A l) (h' : KnR w A' l') (hmax : l.length ≤ 1048576) : Calls Try.prog 69 #[.slice A l.length c, .slice A' l'.length c'] w (BolC (decide (l = l')) w) := by
  obtain ⟨n, hn⟩ : ∃ n, l.length = n := ⟨_, rfl⟩
  obtain ⟨n', hn'⟩ : ∃ n, l'.length = n := ⟨_, rfl⟩
  rw [hn] at hmax ⊢
  rw [hn']
  have HN := Lib.hid hn
  have HN' := Lib.hid hn'
  have H := Lib.hid h
  have H' := Lib.hid h'
  clear h h' hn hn'
  by_cases he : n = n'
  rotate_left
  · have hk : false = decide (l = l') := (decide_eq_false (fun e => he (by rw [← HN.out, ← HN'.out, e]))).symm
    have HK := Lib.hid hk
    have hi : ((n : Int) ≠ (n' : Int)) := by omega
    have hi' : ((n : Int) != (n' : Int)) = true := by simpa using hi
    clear hk
    go_enter Try.func69, Try.ntmps69
    go_wp2_with fail
    go_ret
    exact BolC.mk HK.out (Below.refl _ _)
  · subst he
    go_enter Try.func69, Try.ntmps69
    go_wp2_with fail
    go_loopw [13] (fun i wr => ∃ j : Nat, i = .int .i64 j ∧ j ≤ n ∧ l.take j = l'.take j ∧ Below w.heap.size w wr) (fun i _ => n - (intOf i).toNat)
    case atStart => exact ⟨0, rfl, by omega, rfl, Below.refl _ _⟩
    case round =>
      obtain ⟨j, rfl, hj, ht, hb⟩ := hrel
      have HB := Lib.hid hb
      have hr := H.out.below hb
      have hr' := H'.out.below hb
      have HT := Lib.hid ht
      clear ht hb
      by_cases hlt : j < n
      · have h1 : j < l.length := by have := HN.out; omega
        have h2 : j < l'.length := by have := HN'.out; omega
        obtain ⟨ad, rfl, _⟩ := hr.addr (by omega)
        obtain ⟨ad', rfl, _⟩ := hr'.addr (by omega)
        obtain ⟨a0, a1⟩ := kn_cells hr j h1
        obtain ⟨b0, b1⟩ := kn_cells hr' j h2
        obtain ⟨f, hf⟩ : ∃ f, l[j] = f := ⟨_, rfl⟩
        obtain ⟨g, hg⟩ : ∃ f, l'[j] = f := ⟨_, rfl⟩
        rw [hf] at a0 a1
        rw [hg] at b0 b1
        have q := fun W => neqKn f g W
        by_cases hfg : f = g
        · rw [decide_eq_true hfg] at q
          have HS := Lib.hid (take_eq_step HT.out h1 h2 (by rw [hf, hg]; exact hfg))
          clear hf hg hfg hr hr'
          go_wp2_with fail
          go_quiet (fail)
          go_wp2_with fail
          go_roundw
          case rel => exact ⟨j + 1, by go_num, by omega, HS.out, drew_below HB.out⟩
          case measure => simp [intOf]; omega
        · rw [decide_eq_false hfg] at q
          have hk : false = decide (l = l') := (decide_eq_false (fun e => hfg (by rw [← hf, ← hg]; simp only [e]))).symm
          have HK := Lib.hid hk
          clear hf hg hfg hr hr' hk
          go_wp2_with fail
          go_quiet (fail)
          go_wp2_with fail
          go_ret
          exact BolC.mk HK.out (drew_below HB.out)
      · obtain rfl : j = n := by omega
        have hk : true = decide (l = l') := (decide_eq_true (by
          have := HT.out
          rw [List.take_of_length_le (by rw [HN.out]; exact Nat.le_refl _), List.take_of_length_le (by rw [HN'.out]; exact Nat.le_refl _)] at this
          exact this)).symm
        have HK := Lib.hid hk
        clear hk hr hr'
        go_wp2_with fail
        go_ret
        exact BolC.mk HK.out HB.out

theorem wpList_load_midG {ops : Array Oper} {rest : List Oper} {op : Oper} {a : Act} {w : World} {Q : Exit → Act → World → Prop} (hw : Region.wanted op (yielded ops a.tmps) = true) (ty : TypeId) (x : Operand) (ho : op.op = .load ty x)
    (b o : Nat) (hx : a.eval x = .pointer (some ⟨b, o, none⟩)) (cs : List Value) (d : TypeDesc) (hc : w.rangeAt b o cs)
    (hu : Try.prog.underlying ty = some d) (hd : d.isRow = true) (hi : (Try.prog.info? ty).map (·.size) = some cs.length)
    (h : wpList Try.prog ops Q rest (a.put op.dst (.agg cs.toArray)) w) : wpList Try.prog ops Q (op :: rest) a w :=
  wpList_step fun K hK => by rw [if_pos hw]; exact wp_load_mid ty x ho b o hx cs d hc hu hd hi (hK _ _ h)
def eqS (s t : ByteArray) : Bool := s.toList == t.toList
theorem eqS_iff (s t : ByteArray) : eqS s t = true ↔ s = t := by
  unfold eqS
  rw [ByteArray.toList_eq, ByteArray.toList_eq, beq_iff_eq]
  constructor
  · intro h
    obtain ⟨s⟩ := s
    obtain ⟨t⟩ := t
    simp only [ByteArray.mk.injEq]
    exact Array.toList_inj.1 h
  · rintro rfl; rfl
def eqM (m f : Nat → Int) : Bool := (List.range 9).map m == (List.range 9).map f
theorem eqM_iff (m f : Nat → Int) : eqM m f = true ↔ ∀ j, j < 9 → m j = f j := by
  unfold eqM
  rw [beq_iff_eq]
  constructor
  · intro h j hj
    have := congrArg (fun l => l[j]?) h
    simpa [hj] using this
  · intro h
    apply List.map_congr_left
    intro j hj
    exact h j (by simpa using hj)
def sameB (a b : Pf) : Bool := eqS a.nm b.nm && eqM a.m b.m && decide (a.k = b.k)
theorem neq9l (m f : Nat → Int) (w : World) : (binOp .neq 25 (.agg (al 9 m).toArray) (.agg (al 9 f).toArray)).run Try.prog w = .ok (.bool (!eqM m f)) w := by
  have h := ArrEq.run_equalIn_ints (P := Try.prog) w 9998 25 3 9 .i64 Try.underlying25 Try.underlying3 (fun w => by kernel_rfl) ((List.range 9).map m) ((List.range 9).map f) (by simp) (by simp)
  rw [Mat.ac_map, Mat.ac_map] at h
  rw [run_neq_struct, acl, acl, h]
  rfl
theorem eql9l (m f : Nat → Int) (w : World) : (binOp .eql 25 (.agg (al 9 m).toArray) (.agg (al 9 f).toArray)).run Try.prog w = .ok (.bool (eqM m f)) w := Mat.eql9 m f w

set_option maxRecDepth 100000 in
set_option maxHeartbeats 8000000 in
theorem rSame_any (a b : Pf) (w : World) (h : PfR w a) (h' : PfR w b) (hmax : a.k.length ≤ 1048576) : Calls Try.prog 23 #[a.val, b.val] w (BolC (sameB a b) w) := by
  have H0 := Bn.two w 27 27 a.cells b.cells
  obtain ⟨W, hW⟩ : ∃ W, (w.alloc (.cells a.cells 27)).alloc (.cells b.cells 27) = W := ⟨_, rfl⟩
  rw [hW] at H0
  have HB := Lib.hid H0
  have HR := Lib.hid (h.below H0.b)
  have HR' := Lib.hid (h'.below H0.b)
  clear h h' H0
  obtain ⟨f0, f1, fr⟩ := blkP (HB.out.get 0 rfl)
  obtain ⟨g0, g1, gr⟩ := blkP (HB.out.get 1 rfl)
  obtain ⟨n, hn⟩ : ∃ n, a.k.length = n := ⟨_, rfl⟩
  obtain ⟨n', hn'⟩ : ∃ n, b.k.length = n := ⟨_, rfl⟩
  rw [hn] at hmax f1
  rw [hn'] at g1
  obtain ⟨bs, hs⟩ : ∃ x, (a.nm.toList == b.nm.toList) = x := ⟨_, rfl⟩
  have HN := Lib.hid hn
  have HN' := Lib.hid hn'
  have HS := Lib.hid (show eqS a.nm b.nm = bs from hs)
  clear hn hn'
  unfold Pf.val
  cases bs with
  | false =>
    have hk : false = sameB a b := by unfold sameB; rw [HS.out]; rfl
    have HK := Lib.hid hk
    clear hk
    go_enter Try.func23, Try.ntmps23
    go_wp2_with fail
    go_ret
    exact BolC.mk HK.out HB.out.b
  | true =>
    have q := fun W => neq9l a.m b.m W
    obtain ⟨bm, hm⟩ : ∃ x, eqM a.m b.m = x := ⟨_, rfl⟩
    rw [hm] at q
    have HM := Lib.hid hm
    clear hm
    cases bm with
    | false =>
      have hk : false = sameB a b := by unfold sameB; rw [HM.out, Bool.and_false]; rfl
      have HK := Lib.hid hk
      clear hk
      go_enter Try.func23, Try.ntmps23
      go_wp2_with (first
        | (refine wpList_load_midG rfl _ _ rfl w.heap.size 2 rfl (al 9 a.m) _ fr Try.underlying25 rfl info9l ?_)
        | (refine wpList_load_midG rfl _ _ rfl (w.heap.size + 1) 2 rfl (al 9 b.m) _ gr Try.underlying25 rfl info9l ?_))
      go_ret
      exact BolC.mk HK.out HB.out.b
    | true =>
      have hk : decide (a.k = b.k) = sameB a b := by unfold sameB; rw [HS.out, HM.out]; rfl
      have HK := Lib.hid hk
      clear hk
      by_cases he : n = n'
      rotate_left
      · have hf : false = decide (a.k = b.k) := (decide_eq_false (fun e => he (by rw [← HN.out, ← HN'.out, e]))).symm
        have HF := Lib.hid hf
        have hi : ((n : Int) ≠ (n' : Int)) := by omega
        have hi' : ((n : Int) != (n' : Int)) = true := by simpa using hi
        clear hf
        go_enter Try.func23, Try.ntmps23
        go_wp2_with (first
          | (refine wpList_load_midG rfl _ _ rfl w.heap.size 2 rfl (al 9 a.m) _ fr Try.underlying25 rfl info9l ?_)
          | (refine wpList_load_midG rfl _ _ rfl (w.heap.size + 1) 2 rfl (al 9 b.m) _ gr Try.underlying25 rfl info9l ?_))
        go_ret
        exact BolC.mk (HF.out.trans HK.out) HB.out.b
      · subst he
        go_enter Try.func23, Try.ntmps23
        go_wp2_with (first
          | (refine wpList_load_midG rfl _ _ rfl w.heap.size 2 rfl (al 9 a.m) _ fr Try.underlying25 rfl info9l ?_)
          | (refine wpList_load_midG rfl _ _ rfl (w.heap.size + 1) 2 rfl (al 9 b.m) _ gr Try.underlying25 rfl info9l ?_))
        clear f0 f1 fr g0 g1 gr q hs
        go_loopw [30] (fun i wr => ∃ j : Nat, i = .int .i64 j ∧ j ≤ n ∧ a.k.take j = b.k.take j ∧ Below W.heap.size W wr) (fun i _ => n - (intOf i).toNat)
        case atStart => exact ⟨0, rfl, by omega, rfl, Below.refl _ _⟩
        case round =>
          clear hW
          obtain ⟨j, rfl, hj, ht, hb⟩ := hrel
          have HBB := Lib.hid (HB.out.below hb)
          have hr := (HR.out.below hb).kn
          have hr' := (HR'.out.below hb).kn
          have HT := Lib.hid ht
          have HB9 := Lib.hid hb
          clear ht hb
          obtain ⟨_, f1, _⟩ := blkP (HBB.out.get 0 rfl)
          obtain ⟨_, g1, _⟩ := blkP (HBB.out.get 1 rfl)
          rw [HN.out] at f1
          rw [HN'.out] at g1
          by_cases hlt : j < n
          · have h1 : j < a.k.length := by have := HN.out; omega
            have h2 : j < b.k.length := by have := HN'.out; omega
            obtain ⟨ad, hA, _⟩ := hr.addr (by omega)
            obtain ⟨ad', hA', _⟩ := hr'.addr (by omega)
            rw [hA] at hr f1
            rw [hA'] at hr' g1
            obtain ⟨a0, a1⟩ := kn_cells hr j h1
            obtain ⟨b0, b1⟩ := kn_cells hr' j h2
            obtain ⟨f, hf⟩ : ∃ f, a.k[j] = f := ⟨_, rfl⟩
            obtain ⟨g, hg⟩ : ∃ f, b.k[j] = f := ⟨_, rfl⟩
            rw [hf] at a0 a1
            rw [hg] at b0 b1
            have q := fun W => neqKn f g W
            by_cases hfg : f = g
            · rw [decide_eq_true hfg] at q
              have HS := Lib.hid (take_eq_step HT.out h1 h2 (by rw [hf, hg]; exact hfg))
              clear hf hg hfg hr hr' hA hA'
              go_wp2_with fail
              go_quiet (fail)
              go_wp2_with fail
              go_roundw
              case rel => exact ⟨j + 1, by go_num, by omega, HS.out, drew_below HB9.out⟩
              case measure => simp [intOf]; omega
            · rw [decide_eq_false hfg] at q
              have hk : false = decide (a.k = b.k) := (decide_eq_false (fun e => hfg (by rw [← hf, ← hg]; simp only [e]))).symm
              have HF := Lib.hid hk
              clear hf hg hfg hr hr' hk hA hA'
              go_wp2_with fail
              go_quiet (fail)
              go_wp2_with fail
              go_ret
              exact BolC.mk (HF.out.trans HK.out) (drew_below HBB.out.b)
          · obtain rfl : j = n := by omega
            have hk : true = decide (a.k = b.k) := (decide_eq_true (by
              have := HT.out
              rw [List.take_of_length_le (by rw [HN.out]; exact Nat.le_refl _), List.take_of_length_le (by rw [HN'.out]; exact Nat.le_refl _)] at this
              exact this)).symm
            have HF := Lib.hid hk
            clear hk hr hr' f1 g1
            go_wp2_with fail
            go_ret
            exact BolC.mk (HF.out.trans HK.out) HBB.out.b

end Go.Proofs.Ytcighjeiimjbiaa.Pro

/- ProS: Layer 9: the converter's function. -/
namespace Go.Proofs.Ytcighjeiimjbiaa.Pro
open Go.RowKit Go.Proofs.Ytcighjeiimjbiaa Go.Proofs.Ytcighjeiimjbiaa.NumPure
open Go.Proofs.Ytcighjeiimjbiaa.Mat (al ac invM invX appM info9 info3)

theorem Blk.range {w : World} {g : Nat} {t : TypeId} {cs : List Value} (h : Blk w g t cs.toArray) : w.rangeAt g 0 cs := fun j v hv => by
  rw [Nat.zero_add]
  exact Blk.at_ h j v (by simpa using hv)
theorem Pf.infol (p : Pf) : (Try.prog.info? 27).map (·.size) = some p.lst.length := by rw [p.len]; kernel_rfl
theorem En.infol (e : En) : (Try.prog.info? 58).map (·.size) = some e.lst.length := by rw [e.len]; kernel_rfl

set_option maxRecDepth 100000 in
set_option maxHeartbeats 8000000 in
theorem converter1_any (E : En) (p : Pf) (x : P4) (g1 g2 : Nat) (w : World) (h1 : Blk w g1 58 E.cells) (h2 : Blk w g2 27 p.cells) (hk : KnR w E.A E.k) (hp : PfR w p) : Calls Try.prog 70 #[pagg x, .pointer (some ⟨g1, 0, none⟩), .pointer (some ⟨g2, 0, none⟩)] w (PixC (pixV E.m E.k (lin0 p x) x.2.2.2) w) := by
  obtain ⟨x0, x1, x2, x3⟩ := x
  have hg1 := h1.lt
  have hg2 := h2.lt
  have H0 := ((Bn.of2 (w := w) (a := (g1, 58, E.cells)) (b := (g2, 27, p.cells)) (Below.refl _ _) h1 h2).push _ rfl 23 (pcs (x0, x1, x2, x3))).push _ (size_alloc1 _ _) 23 (pcs (0, 0, 0, 0))
  obtain ⟨W, hW⟩ : ∃ W, (w.alloc (.cells (pcs (x0, x1, x2, x3)) 23)).alloc (.cells (pcs (0, 0, 0, 0)) 23) = W := ⟨_, rfl⟩
  have HB : Hid (Bn w W [(g1, 58, E.cells), (g2, 27, p.cells), (w.heap.size, 23, pcs (x0, x1, x2, x3)), (w.heap.size + 1, 23, pcs (0, 0, 0, 0))]) := Lib.hid (by rw [← hW]; exact H0)
  have HR := Lib.hid hp
  have HK := Lib.hid hk
  clear h1 h2 H0 hp hk
  rw [pagg_pcs]
  go_enter Try.func70, Try.ntmps70
  go_wp2_with (refine wpList_allocC runX rfl rfl ?_)
  rw [hW]
  clear hW
  refine wp_region_held_drew (S := fun W => ∃ f : Array Value, Bn w W [(g1, 58, E.cells), (g2, 27, p.cells), (w.heap.size, 23, pcs (x0, x1, x2, x3)), (w.heap.size + 1, 23, f)]) (by kernel_rfl) ⟨_, HB.out.drew⟩ (fun hHeld => ?_)
  refine wpAnyH_take (i := 0) (oi := _) (v := .agg E.cells) rfl (by kernel_rfl) (by kernel_rfl) (by kernel_rfl) (fun _ _ _ h => h) (yieldsIf_load_mid (by rfl) 58 _ rfl g1 0 rfl E.lst _ (fun W hS => Blk.range (hS.choose_spec.get 0 rfl)) Try.underlying58 rfl E.infol) (by assumption) ?_
  go_simp
  refine wpAnyH_take (i := 1) (oi := _) (v := .agg p.cells) rfl (by kernel_rfl) (by kernel_rfl) (by kernel_rfl) (fun _ _ _ h => h) (yieldsIf_load_mid (by rfl) 27 _ rfl g2 0 rfl p.lst _ (fun W hS => Blk.range (hS.choose_spec.get 1 rfl)) Try.underlying27 rfl p.infol) (by assumption) ?_
  go_simp
  refine wpAnyH_take (i := 2) (oi := _) (v := .agg #[.int .i64 x0, .int .i64 x1, .int .i64 x2, .int .i64 x3]) rfl (by kernel_rfl) (by kernel_rfl) (by kernel_rfl) (fun _ _ _ h => h) (Or.inl ⟨by rfl, fun W1 hS => by (obtain ⟨f, hS⟩ := hS; obtain ⟨z0, z1, z2, z3, _⟩ := blk4 (hS.get 2 rfl); go_simp)⟩) (by assumption) ?_
  go_simp
  refine wpAnyH_take (i := 4) (oi := _) (v := .pointer (some ⟨w.heap.size, 3, none⟩)) rfl (by kernel_rfl) (by kernel_rfl) (by kernel_rfl) (fun _ _ _ h => h) (Or.inl ⟨by rfl, fun W1 hS => by go_simp⟩) (by assumption) ?_
  go_simp
  refine wpAnyH_take (i := 5) (oi := _) (v := .int .i64 x3) rfl (by kernel_rfl) (by kernel_rfl) (by kernel_rfl) (fun _ _ _ h => h) (Or.inl ⟨by rfl, fun W1 hS => by (obtain ⟨f, hS⟩ := hS; obtain ⟨z0, z1, z2, z3, _⟩ := blk4 (hS.get 2 rfl); go_simp)⟩) (by assumption) ?_
  go_simp
  have HL0 := Lib.hid HB.out.drew
  clear hHeld HB
  refine wpAnyH_ready (rs := [3]) (by kernel_rfl) (by simp) ?_
  refine AllReadyH.cons (o := _) rfl (fun K hK => ?_) AllReadyH.nil
  go_simp
  go_at_call 35
  refine (linear_any p (x0, x1, x2, x3) _ (HR.out.below HL0.out.b)).mono ?_
  rintro e v1 ⟨rfl, hb⟩
  go_wp2_with fail
  have HL1 := Lib.hid (HL0.out.below hb)
  clear hb HL0
  refine hK.out _ _ (⟨_, HL1.out⟩) (fun hHeld => ?_)
  clear hK
  try simp only [Act.put, List.setIfInBounds_toArray, List.set_cons_zero, List.set_cons_succ]
  clear hHeld
  refine wpAnyH_ready (rs := [6]) (by kernel_rfl) (by simp) ?_
  refine AllReadyH.cons (o := _) rfl (fun K hK => ?_) AllReadyH.nil
  go_simp
  go_at_call 34
  refine (pixel_any E (lin0 p (x0, x1, x2, x3)) x3 _ (HK.out.below HL1.out.b)).mono ?_
  rintro e v2 ⟨rfl, hb⟩
  go_wp2_with fail
  have HL2 := Lib.hid (HL1.out.below hb)
  clear hb HL1
  refine hK.out _ _ (⟨_, HL2.out⟩) (fun hHeld => ?_)
  clear hK
  try simp only [Act.put, List.setIfInBounds_toArray, List.set_cons_zero, List.set_cons_succ]
  clear hHeld
  obtain ⟨y, hy⟩ : ∃ y, pixV E.m E.k (lin0 p (x0, x1, x2, x3)) x3 = y := ⟨_, rfl⟩
  rw [hy]
  have HY := Lib.hid hy
  clear hy
  obtain ⟨y0, y1, y2, y3⟩ := y
  obtain ⟨c0, c1, c2, c3, cf⟩ := blk4 (HL2.out.get 3 rfl)
  have H9 := Lib.hid (HL2.out.row 3 rfl (by omega) (by (intro j y hj hy; rcases j with _ | _ | _ | _ | _ | _ | j <;> first | exact absurd rfl hj | (simp only [List.getElem?_cons_zero, List.getElem?_cons_succ, Option.some.injEq] at hy; subst hy; dsimp only; omega) | (simp at hy; done))) (pcs (y0, y1, y2, y3)))
  unfold pagg
  refine wpAnyH_ready (rs := [7]) (by kernel_rfl) (by simp) ?_
  refine AllReadyH.cons (o := _) rfl (fun K hK => ?_) AllReadyH.nil
  rw [if_pos (by rfl)]
  go_simp
  rw [four_row (HL2.out.get 3 rfl)]
  refine hK.out _ _ (⟨_, H9.out⟩) (fun hHeld => ?_)
  clear hK
  try simp only [Act.put, List.setIfInBounds_toArray, List.set_cons_zero, List.set_cons_succ]
  clear hHeld
  refine wpAnyH_done (by kernel_rfl) ?_ _
  clear c0 c1 c2 c3 cf HL2
  obtain ⟨W9, hW9⟩ : ∃ W9, v2.setRow (w.heap.size + 1) (pcs (y0, y1, y2, y3)) = W9 := ⟨_, rfl⟩
  have H9 : Hid (Bn w W9 [(g1, 58, E.cells), (g2, 27, p.cells), (w.heap.size, 23, pcs (x0, x1, x2, x3)), (w.heap.size + 1, 23, pcs (y0, y1, y2, y3))]) := Lib.hid (by rw [← hW9]; exact H9.out)
  have hW8 : v2.setRow (w.heap.size + 1) #[.int .i64 y0, .int .i64 y1, .int .i64 y2, .int .i64 y3] = W9 := hW9
  rw [hW8]
  clear hW8 hW9
  go_wp2_with fail
  refine bodyPost_ret (v := .agg (pcs (y0, y1, y2, y3))) (results_cell_row rfl _ _ (w.heap.size + 1) 23 (pcs (y0, y1, y2, y3)) (0, 0) _ rfl (H9.out.get 3 rfl) Try.underlying23 rfl (infoX _)) rfl ?_
  exact PixC.mk HY.out.symm H9.out.b

end Go.Proofs.Ytcighjeiimjbiaa.Pro

/- ProT: Layer 9: converter. -/
namespace Go.Proofs.Ytcighjeiimjbiaa.Pro
open Go.RowKit Go.Proofs.Ytcighjeiimjbiaa Go.Proofs.Ytcighjeiimjbiaa.NumPure
open Go.Proofs.Ytcighjeiimjbiaa.Mat (al ac invM invX appM info9 info3)

def cErr (a b : Pf) : Int := if pErr a = 0 then pErr b else pErr a
theorem cErr_a {a b : Pf} (h : pErr a ≠ 0) : pErr a = cErr a b := by unfold cErr; rw [if_neg h]
theorem cErr_b {a b : Pf} (h : pErr a = 0) : pErr b = cErr a b := by unfold cErr; rw [if_pos h]
/-- A converter's function. -/
inductive Fun (a b : Pf) (w : World) : Value → Prop
  | same : sameB a b = true → Fun a b w (.func (.func 68) #[] #[])
  | other (E : En) (g1 g2 : Nat) : sameB a b = false → Blk w g1 58 E.cells → Blk w g2 27 a.cells → KnR w E.A E.k → PfR w a → E.m = invM b.m → E.k = kInv b.k → Fun a b w (.func (.func 70) #[] #[.pointer (some ⟨g1, 0, none⟩), .pointer (some ⟨g2, 0, none⟩)])
def CvtC (a b : Pf) (w : World) (e : Ending) (w' : World) : Prop := ∃ F, e = .returned (.tuple #[F, .int .i64 (cErr a b)]) ∧ Below w.heap.size w w' ∧ (cErr a b = 0 → Fun a b w' F)
theorem CvtC.no {a b : Pf} {w w' : World} {z : Int} {F : Value} (h : z = cErr a b) (hz : z ≠ 0) (hb : Below w.heap.size w w') : CvtC a b w (.returned (.tuple #[F, .int .i64 z])) w' := ⟨F, by rw [h], hb, fun e => absurd (h.trans e) hz⟩
theorem CvtC.yes {a b : Pf} {w w' : World} {F : Value} (h : 0 = cErr a b) (hb : Below w.heap.size w w') (hf : Fun a b w' F) : CvtC a b w (.returned (.tuple #[F, .int .i64 0])) w' := ⟨F, by rw [← h], hb, fun _ => hf⟩
theorem len_ok {p : Pf} (h : pErr p = 0) : p.k.length ≤ 1048576 := by
  obtain ⟨_, hr, _⟩ := pErr_zero h
  unfold kRis at hr
  simp only [Bool.and_eq_true, decide_eq_true_eq] at hr
  have := (kErr_good hr.1.1.1).max
  omega

set_option maxRecDepth 100000 in
set_option maxHeartbeats 8000000 in
theorem converter_any (a b : Pf) (w : World) (h : PfR w a) (h' : PfR w b) : Calls Try.prog 36 #[a.val, b.val] w (CvtC a b w) := by
  have H0 := Bn.two w 27 27 a.cells b.cells
  have HBC := Lib.hid H0
  obtain ⟨W, hW⟩ : ∃ W, (w.alloc (.cells a.cells 27)).alloc (.cells b.cells 27) = W := ⟨_, rfl⟩
  rw [hW] at H0
  have HB := Lib.hid H0
  have C1 := Check_any a W (h.below H0.b)
  have HR := Lib.hid h
  have HR' := Lib.hid h'
  obtain ⟨z, hz⟩ : ∃ z, pErr a = z := ⟨_, rfl⟩
  unfold ChkC at C1
  rw [hz] at C1
  have HZ := Lib.hid hz
  clear h h' H0 hz
  unfold Pf.val at C1 ⊢
  go_enter Try.func36, Try.ntmps36
  go_wp2_with (first
    | (refine wpList_load_row rfl _ _ rfl w.heap.size rfl 27 a.cells (0, 0) _ (HBC.out.get 0 rfl) Try.underlying27 rfl a.info ?_)
    | (refine wpList_load_row rfl _ _ rfl w.heap.size rfl 27 a.cells (0, 0) _ (HB.out.get 0 rfl) Try.underlying27 rfl a.info ?_))
  refine C1.mono ?_
  rintro e w1 ⟨rfl, hb⟩
  have HB1 := Lib.hid (HB.out.below hb)
  clear C1 hb HB HBC hW
  by_cases h0 : z = 0
  rotate_left
  · have h1 : (z != 0) = true := by simpa using h0
    go_wp2_with fail
    refine bodyPost_ret (results_tmp2 rfl _ _ _) rfl ?_
    exact CvtC.no (HZ.out.symm.trans (cErr_a (by rw [HZ.out]; exact h0))) h0 HB1.out.b
  subst h0
  have C2 := newEncoder_any b w1 (HR'.out.below HB1.out.b)
  obtain ⟨z, hz⟩ : ∃ z, pErr b = z := ⟨_, rfl⟩
  unfold EncC at C2
  rw [hz] at C2
  have HZB := Lib.hid hz
  unfold Pf.val at C2
  clear hz
  go_wp2_with (refine wpList_load_row rfl _ _ rfl (w.heap.size + 1) rfl 27 b.cells (0, 0) _ (HB1.out.get 1 rfl) Try.underlying27 rfl b.info ?_)
  refine C2.mono ?_
  rintro e w2 ⟨E, rfl, hk, hb, hE⟩
  have HB2 := Lib.hid (show Bn w (w2.alloc (.cells E.cells 58)) [(w.heap.size, 27, a.cells), (w.heap.size + 1, 27, b.cells), (w2.heap.size, 58, E.cells)] from (HB1.out.below hb).push _ rfl 58 E.cells)
  have HK := Lib.hid (hk.below ((Below.refl _ _).alloc (Nat.le_refl _) (.cells E.cells 58)))
  have HE := Lib.hid hE
  clear C2 hb hk hE HB1
  unfold En.val
  by_cases h0 : z = 0
  rotate_left
  · have h1 : (z != 0) = true := by simpa using h0
    go_wp2_with (first
      | (refine wpList_allocC runE rfl rfl ?_)
      | (refine wpList_store_row rfl _ _ _ rfl w2.heap.size E.cells rfl rfl 58 En.zero.cells (heap_alloc_new _ _) (En.info _) (by rw [En.size, En.size]) (En.one _) ?_; rw [World.setRow_alloc_new]))
    refine bodyPost_ret (results_tmp2 rfl _ _ _) rfl ?_
    exact CvtC.no (HZB.out.symm.trans (cErr_b HZ.out)) h0 HB2.out.b
  subst h0
  obtain ⟨W2, hW2⟩ : ∃ W2, w2.alloc (.cells E.cells 58) = W2 := ⟨_, rfl⟩
  rw [hW2] at HB2 HK
  obtain ⟨f0, f1, fr⟩ := blkP (HB2.out.get 0 rfl)
  obtain ⟨g0, g1, gr⟩ := blkP (HB2.out.get 1 rfl)
  have HRa := Lib.hid (HR.out.below HB2.out.b)
  have HRb := Lib.hid (HR'.out.below HB2.out.b)
  obtain ⟨bs, hs⟩ : ∃ x, (a.nm.toList == b.nm.toList) = x := ⟨_, rfl⟩
  have HS := Lib.hid (show eqS a.nm b.nm = bs from hs)
  cases bs with
  | false =>
    have HK2 := Lib.hid (show sameB a b = false by unfold sameB; rw [HS.out]; rfl)
    go_wp2_with (first
      | (refine wpList_allocC runE rfl rfl ?_)
      | (refine wpList_store_row rfl _ _ _ rfl w2.heap.size E.cells rfl rfl 58 En.zero.cells (heap_alloc_new _ _) (En.info _) (by rw [En.size, En.size]) (En.one _) ?_; rw [World.setRow_alloc_new]))
    refine bodyPost_ret (results_tmp2 rfl _ _ _) rfl ?_
    exact CvtC.yes (HZB.out.symm.trans (cErr_b HZ.out)) HB2.out.b (Fun.other E _ _ HK2.out (HB2.out.get 2 rfl) (HB2.out.get 0 rfl) HK.out HRa.out (HE.out (by trivial)).1 (HE.out (by trivial)).2)
  | true =>
    have C3 := Equal_any a.A b.A a.k b.k a.c b.c W2 HRa.out.kn HRb.out.kn (len_ok HZ.out)
    obtain ⟨bk, hbk⟩ : ∃ x, decide (a.k = b.k) = x := ⟨_, rfl⟩
    unfold BolC at C3
    rw [hbk] at C3
    have HKK := Lib.hid hbk
    clear hbk
    go_wp2_with (first
      | (refine wpList_allocC runE rfl rfl ?_)
      | (refine wpList_store_row rfl _ _ _ rfl w2.heap.size E.cells rfl rfl 58 En.zero.cells (heap_alloc_new _ _) (En.info _) (by rw [En.size, En.size]) (En.one _) ?_; rw [World.setRow_alloc_new]))
    refine C3.mono ?_
    rintro e w3 ⟨rfl, hb⟩
    have HB3 := Lib.hid (HB2.out.below hb)
    have HK3 := Lib.hid (HK.out.below hb)
    have HR3 := Lib.hid (HRa.out.below hb)
    clear C3 hb HB2 HK f0 f1 fr g0 g1 gr hW2
    obtain ⟨f0, f1, fr⟩ := blkP (HB3.out.get 0 rfl)
    obtain ⟨g0, g1, gr⟩ := blkP (HB3.out.get 1 rfl)
    cases bk with
    | false =>
      have HK2 := Lib.hid (show sameB a b = false by unfold sameB; rw [HKK.out, Bool.and_false])
      go_wp2_with fail
      refine bodyPost_ret (results_tmp2 rfl _ _ _) rfl ?_
      exact CvtC.yes (HZB.out.symm.trans (cErr_b HZ.out)) HB3.out.b (Fun.other E _ _ HK2.out (HB3.out.get 2 rfl) (HB3.out.get 0 rfl) HK3.out HR3.out (HE.out (by trivial)).1 (HE.out (by trivial)).2)
    | true =>
      have q := fun W => eql9l a.m b.m W
      obtain ⟨bm, hm⟩ : ∃ x, eqM a.m b.m = x := ⟨_, rfl⟩
      rw [hm] at q
      have HM := Lib.hid hm
      clear hm
      cases bm with
      | false =>
        have HK2 := Lib.hid (show sameB a b = false by unfold sameB; rw [HM.out, Bool.and_false]; rfl)
        go_wp2_with (first
          | (refine wpList_load_midG rfl _ _ rfl w.heap.size 2 rfl (al 9 a.m) _ fr Try.underlying25 rfl info9l ?_)
          | (refine wpList_load_midG rfl _ _ rfl (w.heap.size + 1) 2 rfl (al 9 b.m) _ gr Try.underlying25 rfl info9l ?_))
        refine bodyPost_ret (results_tmp2 rfl _ _ _) rfl ?_
        exact CvtC.yes (HZB.out.symm.trans (cErr_b HZ.out)) HB3.out.b (Fun.other E _ _ HK2.out (HB3.out.get 2 rfl) (HB3.out.get 0 rfl) HK3.out HR3.out (HE.out (by trivial)).1 (HE.out (by trivial)).2)
      | true =>
        have HK2 := Lib.hid (show sameB a b = true by unfold sameB; rw [HM.out, HS.out, HKK.out]; rfl)
        go_wp2_with (first
          | (refine wpList_load_midG rfl _ _ rfl w.heap.size 2 rfl (al 9 a.m) _ fr Try.underlying25 rfl info9l ?_)
          | (refine wpList_load_midG rfl _ _ rfl (w.heap.size + 1) 2 rfl (al 9 b.m) _ gr Try.underlying25 rfl info9l ?_))
        refine bodyPost_ret (results_tmp2 rfl _ _ _) rfl ?_
        exact CvtC.yes (HZB.out.symm.trans (cErr_b HZ.out)) HB3.out.b (Fun.same HK2.out)

end Go.Proofs.Ytcighjeiimjbiaa.Pro

/- ProU: Layer 9: Convert. -/
namespace Go.Proofs.Ytcighjeiimjbiaa.Pro
open Go.RowKit Go.Proofs.Ytcighjeiimjbiaa Go.Proofs.Ytcighjeiimjbiaa.NumPure
open Go.Proofs.Ytcighjeiimjbiaa.Mat (al ac invM invX appM info9 info3)

def cnv0 (a b : Pf) (x : P4) : P4 := if sameB a b = true then limP x else pixV (invM b.m) (kInv b.k) (lin0 a x) x.2.2.2
def cnvV (a b : Pf) (x : P4) : P4 := if cErr a b = 0 then cnv0 a b x else (0, 0, 0, 0)
theorem cnvV_ok {a b : Pf} {x : P4} (h : cErr a b = 0) : cnv0 a b x = cnvV a b x := by unfold cnvV; rw [if_pos h]
theorem cnvV_no {a b : Pf} {x : P4} (h : cErr a b ≠ 0) : (0, 0, 0, 0) = cnvV a b x := by unfold cnvV; rw [if_neg h]
theorem cnv0_same {a b : Pf} {x : P4} (h : sameB a b = true) : limP x = cnv0 a b x := by unfold cnv0; rw [if_pos h]
theorem cnv0_other {a b : Pf} {x : P4} {E : En} (h : sameB a b = false) (h1 : E.m = invM b.m) (h2 : E.k = kInv b.k) : pixV E.m E.k (lin0 a x) x.2.2.2 = cnv0 a b x := by unfold cnv0; rw [if_neg (by simp [h]), h1, h2]

set_option maxRecDepth 100000 in
set_option maxHeartbeats 8000000 in
theorem Convert_any (a b : Pf) (x : P4) (w : World) (h : PfR w a) (h' : PfR w b) : Calls Try.prog 17 #[a.val, b.val, pagg x] w (PxC (cnvV a b x) (cErr a b) w) := by
  obtain ⟨x0, x1, x2, x3⟩ := x
  have H0 := Bn.four w 27 27 23 23 a.cells b.cells (pcs (x0, x1, x2, x3)) (pcs (0, 0, 0, 0))
  have HBC := Lib.hid H0
  obtain ⟨W, hW⟩ : ∃ W, ((((w.alloc (.cells a.cells 27)).alloc (.cells b.cells 27)).alloc (.cells (pcs (x0, x1, x2, x3)) 23)).alloc (.cells (pcs (0, 0, 0, 0)) 23)) = W := ⟨_, rfl⟩
  rw [hW] at H0
  have HB := Lib.hid H0
  have C1 := converter_any a b W (h.below H0.b) (h'.below H0.b)
  obtain ⟨z, hz⟩ : ∃ z, cErr a b = z := ⟨_, rfl⟩
  unfold CvtC at C1
  rw [hz] at C1
  have HZ := Lib.hid hz
  clear h h' H0 hz
  unfold Pf.val at C1 ⊢
  rw [pagg_pcs]
  go_enter Try.func17, Try.ntmps17
  go_wp2_with (first
    | (refine wpList_allocC runX rfl rfl ?_)
    | (refine wpList_load_row rfl _ _ rfl w.heap.size rfl 27 a.cells (0, 0) _ (HBC.out.get 0 rfl) Try.underlying27 rfl a.info ?_)
    | (refine wpList_load_row rfl _ _ rfl w.heap.size rfl 27 a.cells (0, 0) _ (HB.out.get 0 rfl) Try.underlying27 rfl a.info ?_)
    | (refine wpList_load_row rfl _ _ rfl (w.heap.size + 1) rfl 27 b.cells (0, 0) _ (HBC.out.get 1 rfl) Try.underlying27 rfl b.info ?_)
    | (refine wpList_load_row rfl _ _ rfl (w.heap.size + 1) rfl 27 b.cells (0, 0) _ (HB.out.get 1 rfl) Try.underlying27 rfl b.info ?_))
  refine C1.mono ?_
  rintro e w1 ⟨F, rfl, hb, hF⟩
  have HB1 := Lib.hid (HB.out.below hb)
  clear C1 hb HB HBC hW
  obtain ⟨c0, c1, c2, c3, cf⟩ := blk4 (HB1.out.get 3 rfl)
  obtain ⟨b0, b1, b2, b3, bf⟩ := blk4 (HB1.out.get 2 rfl)
  by_cases h0 : z = 0
  rotate_left
  · have h1 : (z != 0) = true := by simpa using h0
    clear hF
    go_wp2_with fail
    rw [four_row (HB1.out.get 3 rfl)]
    have HB5 := Lib.hid (HB1.out.row 3 rfl (by omega) (by (intro j y hj hy; rcases j with _ | _ | _ | _ | _ | _ | j <;> first | exact absurd rfl hj | (simp only [List.getElem?_cons_zero, List.getElem?_cons_succ, Option.some.injEq] at hy; subst hy; dsimp only; omega) | (simp at hy; done))) (pcs (0, 0, 0, 0)))
    refine bodyPost_ret (v := .tuple #[.agg (pcs (0, 0, 0, 0)), .int .i64 z]) (results_row_tmp rfl _ _ (w.heap.size + 1 + 1 + 1) 23 (pcs (0, 0, 0, 0)) _ rfl _ rfl (HB5.out.get 3 rfl) Try.underlying23 rfl (infoX _)) rfl ?_
    exact PxC.mk (cnvV_no (by rw [HZ.out]; exact h0)) HZ.out.symm HB5.out.b
  · subst h0
    have hF := hF (by trivial)
    rcases hF with hs | ⟨E, g1, g2, hs, hE, hP, hk, hp, e1, e2⟩
    · have C2 := xLimit_any (x0, x1, x2, x3) w1
      unfold LimC at C2
      obtain ⟨y, hy⟩ : ∃ y, limP (x0, x1, x2, x3) = y := ⟨_, rfl⟩
      rw [hy] at C2
      have HY := Lib.hid (hy.symm.trans (cnv0_same (x := (x0, x1, x2, x3)) hs))
      clear hs hy
      go_wp2_with fail
      refine C2.mono ?_
      rintro e w2 ⟨rfl, hb⟩
      clear C2 c0 c1 c2 c3 cf b0 b1 b2 b3 bf
      have HL := Lib.hid (HB1.out.below hb)
      clear hb
      obtain ⟨y0, y1, y2, y3⟩ := y
      obtain ⟨c0, c1, c2, c3, cf⟩ := blk4 (HL.out.get 3 rfl)
      unfold pagg
      go_wp2_with fail
      rw [four_row (HL.out.get 3 rfl)]
      have HB5 := Lib.hid (HL.out.row 3 rfl (by omega) (by (intro j y hj hy; rcases j with _ | _ | _ | _ | _ | _ | j <;> first | exact absurd rfl hj | (simp only [List.getElem?_cons_zero, List.getElem?_cons_succ, Option.some.injEq] at hy; subst hy; dsimp only; omega) | (simp at hy; done))) (pcs (y0, y1, y2, y3)))
      refine bodyPost_ret (v := .tuple #[.agg (pcs (y0, y1, y2, y3)), .int .i64 0]) (results_row_tmp rfl _ _ (w.heap.size + 1 + 1 + 1) 23 (pcs (y0, y1, y2, y3)) _ rfl _ rfl (HB5.out.get 3 rfl) Try.underlying23 rfl (infoX _)) rfl ?_
      exact PxC.mk (HY.out.trans (cnvV_ok HZ.out)) HZ.out.symm HB5.out.b
    · have C2 := converter1_any E a (x0, x1, x2, x3) g1 g2 w1 hE hP hk hp
      unfold PixC at C2
      obtain ⟨y, hy⟩ : ∃ y, pixV E.m E.k (lin0 a (x0, x1, x2, x3)) x3 = y := ⟨_, rfl⟩
      have hy2 := cnv0_other (a := a) (x := (x0, x1, x2, x3)) hs e1 e2
      simp only [] at C2 hy2
      rw [hy] at C2 hy2
      have HY := Lib.hid hy2
      clear hs hy hy2 e1 e2 hE hP hk hp
      go_wp2_with fail
      refine C2.mono ?_
      rintro e w2 ⟨rfl, hb⟩
      clear C2 c0 c1 c2 c3 cf b0 b1 b2 b3 bf
      have HL := Lib.hid (HB1.out.below hb)
      clear hb
      obtain ⟨y0, y1, y2, y3⟩ := y
      obtain ⟨c0, c1, c2, c3, cf⟩ := blk4 (HL.out.get 3 rfl)
      unfold pagg
      go_wp2_with fail
      rw [four_row (HL.out.get 3 rfl)]
      have HB5 := Lib.hid (HL.out.row 3 rfl (by omega) (by (intro j y hj hy; rcases j with _ | _ | _ | _ | _ | _ | j <;> first | exact absurd rfl hj | (simp only [List.getElem?_cons_zero, List.getElem?_cons_succ, Option.some.injEq] at hy; subst hy; dsimp only; omega) | (simp at hy; done))) (pcs (y0, y1, y2, y3)))
      refine bodyPost_ret (v := .tuple #[.agg (pcs (y0, y1, y2, y3)), .int .i64 0]) (results_row_tmp rfl _ _ (w.heap.size + 1 + 1 + 1) 23 (pcs (y0, y1, y2, y3)) _ rfl _ rfl (HB5.out.get 3 rfl) Try.underlying23 rfl (infoX _)) rfl ?_
      exact PxC.mk (HY.out.trans (cnvV_ok HZ.out)) HZ.out.symm HB5.out.b

end Go.Proofs.Ytcighjeiimjbiaa.Pro

/- ProV: Layer 9: the reference's Convert. -/
namespace Go.Proofs.Ytcighjeiimjbiaa.Pro
open Go.RowKit Go.Proofs.Ytcighjeiimjbiaa Go.Proofs.Ytcighjeiimjbiaa.NumPure
open Go.Proofs.Ytcighjeiimjbiaa.Mat (al ac invM invX appM info9 info3)

theorem cnv_ref {a b : Pf} {x : P4} (h : sameB a b = false) (ha : pErr a = 0) (hb : pErr b = 0) : encV b (linV a x) x.2.2.2 = cnv0 a b x := by
  unfold cnv0
  rw [if_neg (by simp [h]), ← linV_ok ha, ← encV_ok hb]

set_option maxRecDepth 100000 in
set_option maxHeartbeats 8000000 in
theorem rConvert_any (a b : Pf) (x : P4) (w : World) (h : PfR w a) (h' : PfR w b) : Calls Try.prog 28 #[a.val, b.val, pagg x] w (PxC (cnvV a b x) (cErr a b) w) := by
  obtain ⟨x0, x1, x2, x3⟩ := x
  have H0 := Bn.four w 27 27 23 23 a.cells b.cells (pcs (x0, x1, x2, x3)) (pcs (0, 0, 0, 0))
  have HBC := Lib.hid H0
  obtain ⟨W, hW⟩ : ∃ W, ((((w.alloc (.cells a.cells 27)).alloc (.cells b.cells 27)).alloc (.cells (pcs (x0, x1, x2, x3)) 23)).alloc (.cells (pcs (0, 0, 0, 0)) 23)) = W := ⟨_, rfl⟩
  rw [hW] at H0
  have HB := Lib.hid H0
  have HR := Lib.hid h
  have HR' := Lib.hid h'
  have C1 := rCheck_any a W (h.below H0.b)
  obtain ⟨z, hz⟩ : ∃ z, pErr a = z := ⟨_, rfl⟩
  unfold ChkC at C1
  rw [hz] at C1
  have HZ := Lib.hid hz
  clear h h' H0 hz
  unfold Pf.val at C1 ⊢
  rw [pagg_pcs]
  go_enter Try.func28, Try.ntmps28
  go_wp2_with (first
    | (refine wpList_allocC runX rfl rfl ?_)
    | (refine wpList_load_row rfl _ _ rfl w.heap.size rfl 27 a.cells (0, 0) _ (HBC.out.get 0 rfl) Try.underlying27 rfl a.info ?_)
    | (refine wpList_load_row rfl _ _ rfl w.heap.size rfl 27 a.cells (0, 0) _ (HB.out.get 0 rfl) Try.underlying27 rfl a.info ?_))
  refine C1.mono ?_
  rintro e w1 ⟨rfl, hb⟩
  have HB1 := Lib.hid (HB.out.below hb)
  clear C1 hb HB HBC hW
  by_cases h0 : z = 0
  rotate_left
  · have h1 : (z != 0) = true := by simpa using h0
    obtain ⟨c0, c1, c2, c3, cf⟩ := blk4 (HB1.out.get 3 rfl)
    go_wp2_with fail
    rw [four_row (HB1.out.get 3 rfl)]
    have HB5 := Lib.hid (HB1.out.row 3 rfl (by omega) (by (intro j y hj hy; rcases j with _ | _ | _ | _ | _ | _ | j <;> first | exact absurd rfl hj | (simp only [List.getElem?_cons_zero, List.getElem?_cons_succ, Option.some.injEq] at hy; subst hy; dsimp only; omega) | (simp at hy; done))) (pcs (0, 0, 0, 0)))
    refine bodyPost_ret (v := .tuple #[.agg (pcs (0, 0, 0, 0)), .int .i64 z]) (results_row_tmp rfl _ _ (w.heap.size + 1 + 1 + 1) 23 (pcs (0, 0, 0, 0)) _ rfl _ rfl (HB5.out.get 3 rfl) Try.underlying23 rfl (infoX _)) rfl ?_
    have he := HZ.out.symm.trans (cErr_a (b := b) (by rw [HZ.out]; exact h0))
    exact PxC.mk (cnvV_no (by rw [← he]; exact h0)) he HB5.out.b
  subst h0
  have C2 := rCheck_any b w1 (HR'.out.below HB1.out.b)
  obtain ⟨z, hz⟩ : ∃ z, pErr b = z := ⟨_, rfl⟩
  unfold ChkC at C2
  rw [hz] at C2
  have HZB := Lib.hid hz
  unfold Pf.val at C2
  clear hz
  go_wp2_with (refine wpList_load_row rfl _ _ rfl (w.heap.size + 1) rfl 27 b.cells (0, 0) _ (HB1.out.get 1 rfl) Try.underlying27 rfl b.info ?_)
  refine C2.mono ?_
  rintro e w2 ⟨rfl, hb⟩
  have HB2 := Lib.hid (HB1.out.below hb)
  clear C2 hb HB1
  by_cases h0 : z = 0
  rotate_left
  · have h1 : (z != 0) = true := by simpa using h0
    obtain ⟨c0, c1, c2, c3, cf⟩ := blk4 (HB2.out.get 3 rfl)
    go_wp2_with fail
    rw [four_row (HB2.out.get 3 rfl)]
    have HB5 := Lib.hid (HB2.out.row 3 rfl (by omega) (by (intro j y hj hy; rcases j with _ | _ | _ | _ | _ | _ | j <;> first | exact absurd rfl hj | (simp only [List.getElem?_cons_zero, List.getElem?_cons_succ, Option.some.injEq] at hy; subst hy; dsimp only; omega) | (simp at hy; done))) (pcs (0, 0, 0, 0)))
    refine bodyPost_ret (v := .tuple #[.agg (pcs (0, 0, 0, 0)), .int .i64 z]) (results_row_tmp rfl _ _ (w.heap.size + 1 + 1 + 1) 23 (pcs (0, 0, 0, 0)) _ rfl _ rfl (HB5.out.get 3 rfl) Try.underlying23 rfl (infoX _)) rfl ?_
    have he := HZB.out.symm.trans (cErr_b (b := b) HZ.out)
    exact PxC.mk (cnvV_no (by rw [← he]; exact h0)) he HB5.out.b
  subst h0
  have he := HZB.out.symm.trans (cErr_b (b := b) HZ.out)
  have HE := Lib.hid he
  clear he
  have C3 := rSame_any a b w2 (HR.out.below HB2.out.b) (HR'.out.below HB2.out.b) (len_ok HZ.out)
  obtain ⟨bs, hs⟩ : ∃ x, sameB a b = x := ⟨_, rfl⟩
  unfold BolC at C3
  rw [hs] at C3
  have HS := Lib.hid hs
  unfold Pf.val at C3
  clear hs
  go_wp2_with (first
    | (refine wpList_load_row rfl _ _ rfl w.heap.size rfl 27 a.cells (0, 0) _ (HB2.out.get 0 rfl) Try.underlying27 rfl a.info ?_)
    | (refine wpList_load_row rfl _ _ rfl (w.heap.size + 1) rfl 27 b.cells (0, 0) _ (HB2.out.get 1 rfl) Try.underlying27 rfl b.info ?_))
  refine C3.mono ?_
  rintro e w3 ⟨rfl, hb⟩
  have HB3 := Lib.hid (HB2.out.below hb)
  clear C3 hb HB2
  cases bs with
  | true =>
    have C4 := rxLimit_any (x0, x1, x2, x3) w3
    unfold LimC at C4
    obtain ⟨y, hy⟩ : ∃ y, limP (x0, x1, x2, x3) = y := ⟨_, rfl⟩
    rw [hy] at C4
    have HY := Lib.hid (hy.symm.trans (cnv0_same (x := (x0, x1, x2, x3)) HS.out))
    clear hy
    obtain ⟨c0, c1, c2, c3, cf⟩ := blk4 (HB3.out.get 3 rfl)
    obtain ⟨b0, b1, b2, b3, bf⟩ := blk4 (HB3.out.get 2 rfl)
    go_wp2_with fail
    refine C4.mono ?_
    rintro e w4 ⟨rfl, hb⟩
    clear C4 c0 c1 c2 c3 cf b0 b1 b2 b3 bf
    have HL := Lib.hid (HB3.out.below hb)
    clear hb
    obtain ⟨y0, y1, y2, y3⟩ := y
    obtain ⟨c0, c1, c2, c3, cf⟩ := blk4 (HL.out.get 3 rfl)
    unfold pagg
    go_wp2_with fail
    rw [four_row (HL.out.get 3 rfl)]
    have HB5 := Lib.hid (HL.out.row 3 rfl (by omega) (by (intro j y hj hy; rcases j with _ | _ | _ | _ | _ | _ | j <;> first | exact absurd rfl hj | (simp only [List.getElem?_cons_zero, List.getElem?_cons_succ, Option.some.injEq] at hy; subst hy; dsimp only; omega) | (simp at hy; done))) (pcs (y0, y1, y2, y3)))
    refine bodyPost_ret (v := .tuple #[.agg (pcs (y0, y1, y2, y3)), .int .i64 0]) (results_row_tmp rfl _ _ (w.heap.size + 1 + 1 + 1) 23 (pcs (y0, y1, y2, y3)) _ rfl _ rfl (HB5.out.get 3 rfl) Try.underlying23 rfl (infoX _)) rfl ?_
    exact PxC.mk (HY.out.trans (cnvV_ok HE.out.symm)) HE.out HB5.out.b
  | false =>
    go_wp2_with fail
    refine wp_region_held_drew (S := fun W => ∃ f : Array Value, Bn w W [(w.heap.size, 27, a.cells), (w.heap.size + 1, 27, b.cells), (w.heap.size + 1 + 1, 23, pcs (x0, x1, x2, x3)), (w.heap.size + 1 + 1 + 1, 23, f)]) (by kernel_rfl) ⟨_, HB3.out.drew⟩ (fun hHeld => ?_)
    refine wpAnyH_take (i := 0) (oi := _) (v := .agg b.cells) rfl (by kernel_rfl) (by kernel_rfl) (by kernel_rfl) (fun _ _ _ h => h) (yieldsIf_load_mid (by rfl) 27 _ rfl (w.heap.size + 1) 0 rfl b.lst _ (fun W hS => Blk.range (hS.choose_spec.get 1 rfl)) Try.underlying27 rfl b.infol) (by assumption) ?_
    go_simp
    refine wpAnyH_take (i := 1) (oi := _) (v := .agg a.cells) rfl (by kernel_rfl) (by kernel_rfl) (by kernel_rfl) (fun _ _ _ h => h) (yieldsIf_load_mid (by rfl) 27 _ rfl w.heap.size 0 rfl a.lst _ (fun W hS => Blk.range (hS.choose_spec.get 0 rfl)) Try.underlying27 rfl a.infol) (by assumption) ?_
    go_simp
    refine wpAnyH_take (i := 2) (oi := _) (v := .agg #[.int .i64 x0, .int .i64 x1, .int .i64 x2, .int .i64 x3]) rfl (by kernel_rfl) (by kernel_rfl) (by kernel_rfl) (fun _ _ _ h => h) (Or.inl ⟨by rfl, fun W1 hS => by (obtain ⟨f, hS⟩ := hS; obtain ⟨z0, z1, z2, z3, _⟩ := blk4 (hS.get 2 rfl); go_simp)⟩) (by assumption) ?_
    go_simp
    refine wpAnyH_take (i := 4) (oi := _) (v := .pointer (some ⟨w.heap.size + 1 + 1, 3, none⟩)) rfl (by kernel_rfl) (by kernel_rfl) (by kernel_rfl) (fun _ _ _ h => h) (Or.inl ⟨by rfl, fun W1 hS => by go_simp⟩) (by assumption) ?_
    go_simp
    refine wpAnyH_take (i := 5) (oi := _) (v := .int .i64 x3) rfl (by kernel_rfl) (by kernel_rfl) (by kernel_rfl) (fun _ _ _ h => h) (Or.inl ⟨by rfl, fun W1 hS => by (obtain ⟨f, hS⟩ := hS; obtain ⟨z0, z1, z2, z3, _⟩ := blk4 (hS.get 2 rfl); go_simp)⟩) (by assumption) ?_
    go_simp
    have HL0 := Lib.hid HB3.out.drew
    clear hHeld HB3
    refine wpAnyH_ready (rs := [3]) (by kernel_rfl) (by simp) ?_
    refine AllReadyH.cons (o := _) rfl (fun K hK => ?_) AllReadyH.nil
    go_simp
    go_at_call 27
    refine (rLinear_any a (x0, x1, x2, x3) _ (HR.out.below HL0.out.b)).mono ?_
    rintro e v1 ⟨rfl, hb⟩
    go_wp2_with fail
    have HL1 := Lib.hid (HL0.out.below hb)
    clear hb HL0
    refine hK.out _ _ (⟨_, HL1.out⟩) (fun hHeld => ?_)
    clear hK
    try simp only [Act.put, List.setIfInBounds_toArray, List.set_cons_zero, List.set_cons_succ]
    clear hHeld
    refine wpAnyH_ready (rs := [6]) (by kernel_rfl) (by simp) ?_
    refine AllReadyH.cons (o := _) rfl (fun K hK => ?_) AllReadyH.nil
    go_simp
    go_at_call 26
    refine (rEncode_any b (linV a (x0, x1, x2, x3)) x3 _ (HR'.out.below HL1.out.b)).mono ?_
    rintro e v2 ⟨rfl, hb⟩
    go_wp2_with fail
    have HL2 := Lib.hid (HL1.out.below hb)
    clear hb HL1
    refine hK.out _ _ (⟨_, HL2.out⟩) (fun hHeld => ?_)
    clear hK
    try simp only [Act.put, List.setIfInBounds_toArray, List.set_cons_zero, List.set_cons_succ]
    clear hHeld
    obtain ⟨y, hy⟩ : ∃ y, encV b (linV a (x0, x1, x2, x3)) x3 = y := ⟨_, rfl⟩
    rw [hy]
    have HY := Lib.hid hy
    rw [HZB.out]
    clear hy
    obtain ⟨y0, y1, y2, y3⟩ := y
    obtain ⟨c0, c1, c2, c3, cf⟩ := blk4 (HL2.out.get 3 rfl)
    have H9 := Lib.hid (HL2.out.row 3 rfl (by omega) (by (intro j y hj hy; rcases j with _ | _ | _ | _ | _ | _ | j <;> first | exact absurd rfl hj | (simp only [List.getElem?_cons_zero, List.getElem?_cons_succ, Option.some.injEq] at hy; subst hy; dsimp only; omega) | (simp at hy; done))) (pcs (y0, y1, y2, y3)))
    unfold pagg
    have hHeld : True := trivial
    refine wpAnyH_take (i := 7) (oi := _) (v := .agg #[.int .i64 y0, .int .i64 y1, .int .i64 y2, .int .i64 y3]) rfl (by kernel_rfl) (by kernel_rfl) (by kernel_rfl) (fun _ _ _ h => h) (Or.inl ⟨by rfl, fun W1 hS => by go_simp⟩) (⟨_, HL2.out⟩) ?_
    go_simp
    refine wpAnyH_take (i := 8) (oi := _) (v := .int .i64 0) rfl (by kernel_rfl) (by kernel_rfl) (by kernel_rfl) (fun _ _ _ h => h) (Or.inl ⟨by rfl, fun W1 hS => by go_simp⟩) (⟨_, HL2.out⟩) ?_
    go_simp
    refine wpAnyH_ready (rs := [9]) (by kernel_rfl) (by simp) ?_
    refine AllReadyH.cons (o := _) rfl (fun K hK => ?_) AllReadyH.nil
    rw [if_pos (by rfl)]
    go_simp
    rw [four_row (HL2.out.get 3 rfl)]
    refine hK.out _ _ (⟨_, H9.out⟩) (fun hHeld => ?_)
    clear hK
    try simp only [Act.put, List.setIfInBounds_toArray, List.set_cons_zero, List.set_cons_succ]
    clear hHeld
    refine wpAnyH_ready (rs := [10]) (by kernel_rfl) (by simp) ?_
    refine AllReadyH.cons (o := _) rfl (fun K hK => ?_) AllReadyH.nil
    rw [if_pos (by rfl)]
    go_simp
    refine hK.out _ _ (⟨_, H9.out⟩) (fun hHeld => ?_)
    clear hK
    try simp only [Act.put, List.setIfInBounds_toArray, List.set_cons_zero, List.set_cons_succ]
    clear hHeld
    refine wpAnyH_done (by kernel_rfl) ?_ _
    clear c0 c1 c2 c3 cf HL2
    obtain ⟨W9, hW9⟩ : ∃ W9, v2.setRow (w.heap.size + 1 + 1 + 1) (pcs (y0, y1, y2, y3)) = W9 := ⟨_, rfl⟩
    have H9 : Hid (Bn w W9 [(w.heap.size, 27, a.cells), (w.heap.size + 1, 27, b.cells), (w.heap.size + 1 + 1, 23, pcs (x0, x1, x2, x3)), (w.heap.size + 1 + 1 + 1, 23, pcs (y0, y1, y2, y3))]) := Lib.hid (by rw [← hW9]; exact H9.out)
    have hW8 : v2.setRow (w.heap.size + 1 + 1 + 1) #[.int .i64 y0, .int .i64 y1, .int .i64 y2, .int .i64 y3] = W9 := hW9
    rw [hW8]
    clear hW8 hW9
    go_wp2_with fail
    refine bodyPost_ret (v := .tuple #[.agg (pcs (y0, y1, y2, y3)), .int .i64 0]) (results_row_tmp rfl _ _ (w.heap.size + 1 + 1 + 1) 23 (pcs (y0, y1, y2, y3)) _ rfl _ rfl (H9.out.get 3 rfl) Try.underlying23 rfl (infoX _)) rfl ?_
    exact PxC.mk ((HY.out.symm.trans (cnv_ref (x := (x0, x1, x2, x3)) HS.out HZ.out HZB.out)).trans (cnvV_ok HE.out.symm)) HE.out H9.out.b

end Go.Proofs.Ytcighjeiimjbiaa.Pro
