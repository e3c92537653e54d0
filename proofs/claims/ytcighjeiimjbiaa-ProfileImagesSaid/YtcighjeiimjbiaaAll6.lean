/-
  Texts of this claim, joined (6 of 8): ProX, ProY, ProIa, ProIb, ProIc, ProZa.
-/
import Derived.Test.YtcighjeiimjbiaaAll5
import Derived.Deep.DeepCutAuto
import Derived.Great.BuildSlice

/- ProX: Layer 6, both sides: valid pixels. -/
namespace Go.Proofs.Ytcighjeiimjbiaa.Pro
open Go.RowKit Go.Proofs.Ytcighjeiimjbiaa Go.Proofs.Ytcighjeiimjbiaa.NumPure

theorem eqInPx (a b : P4) (w : World) : (Op.equalIn 10000 23 (pagg a) (pagg b)).run Try.prog w = .ok (decide (a = b)) w := by
  obtain ⟨a0, a1, a2, a3⟩ := a
  obtain ⟨b0, b1, b2, b3⟩ := b
  have hp : Try.prog.stoodInHeld 23 = false := by kernel_rfl
  have hf : (Try.prog.fieldsOf 23).toList.map (fun f => (f.name, f.type, f.offset)) = [("R", 3, 0), ("G", 3, 1), ("B", 3, 2), ("A", 3, 3)] := by kernel_rfl
  obtain ⟨f0, l0, hl, g0, hf⟩ := List.map_eq_cons_iff.1 hf
  obtain ⟨f1, l1, rfl, g1, hf⟩ := List.map_eq_cons_iff.1 hf
  obtain ⟨f2, l2, rfl, g2, hf⟩ := List.map_eq_cons_iff.1 hf
  obtain ⟨f3, l3, rfl, g3, hf⟩ := List.map_eq_cons_iff.1 hf
  obtain rfl := List.map_eq_nil_iff.1 hf
  simp only [Prod.mk.injEq] at g0 g1 g2 g3
  unfold pagg
  rw [run_equalIn_struct w 9999 23 _ _ (by kernel_rfl) hp, hl]
  simp only [Op.eqFields, g0, g1, g2, g3]
  have e := fun (x y : Int) (W : World) => run_equalIn_int (P := Try.prog) W 9998 3 .i64 .i64 x y Try.underlying3
  have u := fun (W : World) => run_underlying (w := W) Try.underlying3
  by_cases x0 : a0 = b0
  rotate_left
  · simp [part, isAgg, e, u, x0]
  by_cases x1 : a1 = b1
  rotate_left
  · simp [part, isAgg, e, u, x0, x1]
  by_cases x2 : a2 = b2
  rotate_left
  · simp [part, isAgg, e, u, x0, x1, x2]
  by_cases x3 : a3 = b3
  rotate_left
  · simp [part, isAgg, e, u, x0, x1, x2, x3]
  simp [part, isAgg, e, u, x0, x1, x2, x3]
theorem eqlPx (a b : P4) (w : World) : (binOp .eql 23 (pagg a) (pagg b)).run Try.prog w = .ok (.bool (decide (a = b))) w := by
  rw [show pagg a = .agg _ from rfl, show pagg b = .agg _ from rfl, run_eql_struct]
  have h := eqInPx a b w
  unfold pagg at h
  rw [h]; rfl
theorem neqPx (a b : P4) (w : World) : (binOp .neq 23 (pagg a) (pagg b)).run Try.prog w = .ok (.bool (!decide (a = b))) w := by
  rw [show pagg a = .agg _ from rfl, show pagg b = .agg _ from rfl, run_neq_struct]
  have h := eqInPx a b w
  unfold pagg at h
  rw [h]; rfl
/-- A pixel whose values are unit values. -/
def vP (p : P4) : Bool := decide (p = limP p)
theorem eqlXL (p : P4) (w : World) : (binOp .eql 23 (pagg p) (pagg (limP p))).run Try.prog w = .ok (.bool (vP p)) w := eqlPx p (limP p) w
theorem eqlLX (p : P4) (w : World) : (binOp .eql 23 (pagg (limP p)) (pagg p)).run Try.prog w = .ok (.bool (vP p)) w := by
  rw [eqlPx]; unfold vP; simp only [eq_comm]
theorem Bn.one (w : World) (t : TypeId) (c : Array Value) : Bn w (w.alloc (.cells c t)) [(w.heap.size, t, c)] := (Bn.nil w).push _ rfl t c

set_option maxRecDepth 100000 in
theorem xValid_any (p : P4) (w : World) : Calls Try.prog 71 #[pagg p] w (BolC (vP p) w) := by
  obtain ⟨p0, p1, p2, p3⟩ := p
  have H0 := Bn.one w 23 (pcs (p0, p1, p2, p3))
  obtain ⟨W, hW⟩ : ∃ W, w.alloc (.cells (pcs (p0, p1, p2, p3)) 23) = W := ⟨_, rfl⟩
  rw [hW] at H0
  have HB := Lib.hid H0
  clear H0
  rw [pagg_pcs]
  go_enter Try.func71, Try.ntmps71
  go_wp2_with fail
  clear hW
  refine wp_region_held_drew (S := fun W => Bn w W [(w.heap.size, 23, pcs (p0, p1, p2, p3))]) (by kernel_rfl) HB.out.drew (fun hHeld => ?_)
  refine wpAnyH_take (i := 0) (oi := _) (v := .agg #[.int .i64 p0, .int .i64 p1, .int .i64 p2, .int .i64 p3]) rfl (by kernel_rfl) (by kernel_rfl) (by kernel_rfl) (fun _ _ _ h => h) (Or.inl ⟨by rfl, fun W1 hS => by (obtain ⟨z0, z1, z2, z3, _⟩ := blk4 (hS.get 0 rfl); go_simp)⟩) (by assumption) ?_
  go_simp
  refine wpAnyH_take (i := 1) (oi := _) (v := .agg #[.int .i64 p0, .int .i64 p1, .int .i64 p2, .int .i64 p3]) rfl (by kernel_rfl) (by kernel_rfl) (by kernel_rfl) (fun _ _ _ h => h) (Or.inl ⟨by rfl, fun W1 hS => by (obtain ⟨z0, z1, z2, z3, _⟩ := blk4 (hS.get 0 rfl); go_simp)⟩) (by assumption) ?_
  go_simp
  have HL0 := Lib.hid HB.out.drew
  clear hHeld
  refine wpAnyH_ready (rs := [2]) (by kernel_rfl) (by simp) ?_
  refine AllReadyH.cons (o := _) rfl (fun K hK => ?_) AllReadyH.nil
  go_simp
  go_at_call 68
  refine (xLimit_any (p0, p1, p2, p3) _).mono ?_
  rintro e v1 ⟨rfl, hb⟩
  go_wp2_with fail
  have HL1 := Lib.hid (HL0.out.below hb)
  clear hb HL0
  refine hK.out _ _ (HL1.out) (fun hHeld => ?_)
  clear hK
  try simp only [Act.put, List.setIfInBounds_toArray, List.set_cons_zero, List.set_cons_succ]
  unfold pagg limP
  refine wpAnyH_take (i := 3) (oi := _) (v := .bool (vP (p0, p1, p2, p3))) rfl (by kernel_rfl) (by kernel_rfl) (by kernel_rfl) (fun _ _ _ h => h) (Or.inl ⟨by rfl, fun W1 hS => by (go_simp; unfold vP limP; generalize unt p0 = u0; generalize unt p1 = u1; generalize unt p2 = u2; generalize unt p3 = u3; (repeat' split) <;> simp_all)⟩) (by assumption) ?_
  go_simp
  clear hHeld
  refine wpAnyH_ready (rs := [4]) (by kernel_rfl) (by simp) ?_
  refine AllReadyH.cons (o := _) rfl (fun K hK => ?_) AllReadyH.nil
  rw [if_pos (by rfl)]
  go_simp
  refine hK.out _ _ (HL1.out) (fun hHeld => ?_)
  clear hK
  try simp only [Act.put, List.setIfInBounds_toArray, List.set_cons_zero, List.set_cons_succ]
  clear hHeld
  refine wpAnyH_done (by kernel_rfl) ?_ _
  go_wp2_with fail
  go_ret
  exact BolC.mk rfl HL1.out.b

set_option maxRecDepth 100000 in
theorem rxValid_any (p : P4) (w : World) : Calls Try.prog 72 #[pagg p] w (BolC (vP p) w) := by
  obtain ⟨p0, p1, p2, p3⟩ := p
  have H0 := Bn.one w 23 (pcs (p0, p1, p2, p3))
  obtain ⟨W, hW⟩ : ∃ W, w.alloc (.cells (pcs (p0, p1, p2, p3)) 23) = W := ⟨_, rfl⟩
  rw [hW] at H0
  have HB := Lib.hid H0
  clear H0
  rw [pagg_pcs]
  go_enter Try.func72, Try.ntmps72
  go_wp2_with fail
  clear hW
  refine wp_region_held_drew (S := fun W => Bn w W [(w.heap.size, 23, pcs (p0, p1, p2, p3))]) (by kernel_rfl) HB.out.drew (fun hHeld => ?_)
  refine wpAnyH_take (i := 0) (oi := _) (v := .agg #[.int .i64 p0, .int .i64 p1, .int .i64 p2, .int .i64 p3]) rfl (by kernel_rfl) (by kernel_rfl) (by kernel_rfl) (fun _ _ _ h => h) (Or.inl ⟨by rfl, fun W1 hS => by (obtain ⟨z0, z1, z2, z3, _⟩ := blk4 (hS.get 0 rfl); go_simp)⟩) (by assumption) ?_
  go_simp
  refine wpAnyH_take (i := 2) (oi := _) (v := .agg #[.int .i64 p0, .int .i64 p1, .int .i64 p2, .int .i64 p3]) rfl (by kernel_rfl) (by kernel_rfl) (by kernel_rfl) (fun _ _ _ h => h) (Or.inl ⟨by rfl, fun W1 hS => by (obtain ⟨z0, z1, z2, z3, _⟩ := blk4 (hS.get 0 rfl); go_simp)⟩) (by assumption) ?_
  go_simp
  have HL0 := Lib.hid HB.out.drew
  clear hHeld
  refine wpAnyH_ready (rs := [1]) (by kernel_rfl) (by simp) ?_
  refine AllReadyH.cons (o := _) rfl (fun K hK => ?_) AllReadyH.nil
  go_simp
  go_at_call 55
  refine (rxLimit_any (p0, p1, p2, p3) _).mono ?_
  rintro e v1 ⟨rfl, hb⟩
  go_wp2_with fail
  have HL1 := Lib.hid (HL0.out.below hb)
  clear hb HL0
  refine hK.out _ _ (HL1.out) (fun hHeld => ?_)
  clear hK
  try simp only [Act.put, List.setIfInBounds_toArray, List.set_cons_zero, List.set_cons_succ]
  unfold pagg limP
  refine wpAnyH_take (i := 3) (oi := _) (v := .bool (vP (p0, p1, p2, p3))) rfl (by kernel_rfl) (by kernel_rfl) (by kernel_rfl) (fun _ _ _ h => h) (Or.inl ⟨by rfl, fun W1 hS => by (go_simp; unfold vP limP; generalize unt p0 = u0; generalize unt p1 = u1; generalize unt p2 = u2; generalize unt p3 = u3; (repeat' split) <;> simp_all [eq_comm])⟩) (by assumption) ?_
  go_simp
  clear hHeld
  refine wpAnyH_ready (rs := [4]) (by kernel_rfl) (by simp) ?_
  refine AllReadyH.cons (o := _) rfl (fun K hK => ?_) AllReadyH.nil
  rw [if_pos (by rfl)]
  go_simp
  refine hK.out _ _ (HL1.out) (fun hHeld => ?_)
  clear hK
  try simp only [Act.put, List.setIfInBounds_toArray, List.set_cons_zero, List.set_cons_succ]
  clear hHeld
  refine wpAnyH_done (by kernel_rfl) ?_ _
  go_wp2_with fail
  go_ret
  exact BolC.mk rfl HL1.out.b

end Go.Proofs.Ytcighjeiimjbiaa.Pro

/- ProY: Layer 9, both sides: valid images. -/
namespace Go.Proofs.Ytcighjeiimjbiaa.Pro
open Go.RowKit Go.Proofs.Ytcighjeiimjbiaa Go.Proofs.Ytcighjeiimjbiaa.NumPure

/-- A pixel's cells, and a row of pixels. -/
def px4 (k : P4) : List Value := [.int .i64 k.1, .int .i64 k.2.1, .int .i64 k.2.2.1, .int .i64 k.2.2.2]
def pxs : List P4 → List Value
  | [] => []
  | k :: l => px4 k ++ pxs l
theorem pxs_len (l : List P4) : (pxs l).length = l.length * 4 := by
  induction l with
  | nil => rfl
  | cons k l ih => simp only [pxs, List.length_append, ih, List.length_cons, px4, List.length_nil]; omega
theorem pxs_app (l m : List P4) : pxs (l ++ m) = pxs l ++ pxs m := by
  induction l with
  | nil => rfl
  | cons k l ih => simp only [List.cons_append, pxs, ih, List.append_assoc]
theorem pxs_at (l : List P4) (i : Nat) (h : i < l.length) (c : Nat) (hc : c < 4) : (pxs l)[i * 4 + c]? = (px4 l[i])[c]? := by
  have e : pxs l = pxs (l.take i) ++ (px4 l[i] ++ pxs (l.drop (i + 1))) := by
    rw [← pxs, ← pxs_app, ← List.drop_eq_getElem_cons h, List.take_append_drop]
  have hl : (pxs (l.take i)).length = i * 4 := by rw [pxs_len, List.length_take, Nat.min_eq_left (by omega)]
  rw [e, List.getElem?_append_right (by omega), hl, Nat.add_sub_cancel_left, List.getElem?_append_left (by simp [px4]; exact hc)]
abbrev PxR (w : World) (A : Option Addr) (l : List P4) : Prop := Reads w w.heap.size 4 A l.length (pxs l)
theorem PxR.below {w w' : World} {A : Option Addr} {l : List P4} (h : PxR w A l) (hb : Below w.heap.size w w') : PxR w' A l := (Reads.below h hb).more hb.size
theorem PxR.addr {w : World} {A : Option Addr} {l : List P4} (h : PxR w A l) (h0 : 0 < l.length) : ∃ ad, A = some ad ∧ ad.block < w.heap.size := by
  obtain ⟨a, e, hb, _⟩ := h.2 h0
  exact ⟨a, e, hb⟩
theorem px_cells {w : World} {ad : Addr} {px : List P4} (h : PxR w (some ad) px) (j : Nat) (hj : j < px.length) :
    w.cell? (ad.add (j * 4)) = some (.int .i64 px[j].1) ∧ w.cell? ⟨(ad.add (j * 4)).block, (ad.add (j * 4)).off + 1, none⟩ = some (.int .i64 px[j].2.1) ∧ w.cell? ⟨(ad.add (j * 4)).block, (ad.add (j * 4)).off + 2, none⟩ = some (.int .i64 px[j].2.2.1) ∧ w.cell? ⟨(ad.add (j * 4)).block, (ad.add (j * 4)).off + 3, none⟩ = some (.int .i64 px[j].2.2.2) := by
  obtain ⟨a, e, _, hc⟩ := h.2 (by omega)
  injection e with e
  subst e
  have k := fun c (hc4 : c < 4) (u : Value) (hu : (px4 px[j])[c]? = some u) => hc (j * 4 + c) u ((pxs_at px j hj c hc4).trans hu)
  have f : ∀ c, 0 < c → (⟨(ad.add (j * 4)).block, (ad.add (j * 4)).off + c, none⟩ : Addr) = ad.add (j * 4 + c) := fun c hc => by
    rw [← add_of_add]
    generalize ad.add (j * 4) = b
    unfold Addr.add
    rw [if_neg (by omega)]
  rw [f 1 (by omega), f 2 (by omega), f 3 (by omega)]
  exact ⟨k 0 (by omega) _ rfl, k 1 (by omega) _ rfl, k 2 (by omega) _ rfl, k 3 (by omega) _ rfl⟩
theorem blk3 {w : World} {g : Nat} {t : TypeId} {a b c : Value} (h : Blk w g t #[a, b, c]) : w.cell? ⟨g, 0, none⟩ = some a ∧ w.cell? ⟨g, 1, none⟩ = some b ∧ w.cell? ⟨g, 2, none⟩ = some c ∧ ∀ o, w.frozen? ⟨g, o, none⟩ = false := ⟨h.cell 0, h.cell 1, h.cell 2, h.frozen⟩
/-- An image's cells. -/
def ics (x y : Int) (A : Option Addr) (n c : Nat) : Array Value := #[.int .i64 x, .int .i64 y, .slice A n c]
def vAll : List P4 → Int
  | [] => 0
  | p :: l => if vP p = true then vAll l else 2
/-- Whether the sides are none of an image. -/
def sideB (W H : Int) : Bool := decide (W < 0) || decide (256 < W) || decide (H < 0) || decide (256 < H) || (decide (W = 0) != decide (H = 0))
def imErr (x y : Int) (px : List P4) : Int := if sideB x y = true then 15 else if (px.length : Int) = x * y then vAll px else 15
def ImC (z : Int) (w : World) (e : Ending) (w' : World) : Prop := e = .returned (.int .i64 z) ∧ Below w.heap.size w w'
theorem ImC.mk {z u : Int} {w w' : World} (h : z = u) (hb : Below w.heap.size w w') : ImC u w (.returned (.int .i64 z)) w' := ⟨by rw [h], hb⟩
theorem side_bad {x y : Int} (px : List P4) (h : sideB x y = true) : 15 = imErr x y px := by unfold imErr; rw [if_pos h]
theorem side_len {x y : Int} {px : List P4} {n : Nat} (hn : px.length = n) (h : sideB x y = false) (hl : (n : Int) ≠ x * y) : 15 = imErr x y px := by unfold imErr; rw [hn, if_neg (by simp [h]), if_neg hl]
theorem side_ok {x y : Int} {px : List P4} {n : Nat} (hn : px.length = n) (h : sideB x y = false) (hl : (n : Int) = x * y) : vAll (px.drop 0) = imErr x y px := by unfold imErr; rw [hn, if_neg (by simp [h]), if_pos hl]; rfl
theorem vAll_step (l : List P4) (j : Nat) (h : j < l.length) : vAll (l.drop j) = if vP l[j] = true then vAll (l.drop (j + 1)) else 2 := by
  rw [List.drop_eq_getElem_cons h]; rfl

theorem Bn.alloc_ {w W : World} {L : List Ent} (h : Bn w W L) (o : Obj) : Bn w (W.alloc o) L := h.below ((Below.refl _ _).alloc (Nat.le_refl _) o)

set_option maxRecDepth 100000 in
set_option maxHeartbeats 8000000 in
theorem check_any (x y : Int) (A : Option Addr) (c : Nat) (px : List P4) (w : World) (h : PxR w A px) : Calls Try.prog 37 #[.agg #[.int .i64 x, .int .i64 y, .slice A px.length c]] w (ImC (imErr x y px) w) := by
  obtain ⟨n, hn⟩ : ∃ n, px.length = n := ⟨_, rfl⟩
  have H0 := Bn.one w 39 (ics x y A n c)
  rw [hn]
  have HN := Lib.hid hn
  have HR := Lib.hid h
  obtain ⟨W, hW⟩ : ∃ W, w.alloc (.cells #[.int .i64 x, .int .i64 y, .slice A n c] 39) = W := ⟨_, rfl⟩
  unfold ics at H0
  rw [hW] at H0
  have HB : Hid (Bn w W [(w.heap.size, 39, #[.int .i64 x, .int .i64 y, .slice A n c])]) := Lib.hid H0
  clear H0 hn h
  by_cases h1 : x < 0
  · have hk := side_bad px (show sideB x y = true by unfold sideB; simp [h1])
    have HK := Lib.hid hk
    clear hk
    go_enter Try.func37, Try.ntmps37
    obtain ⟨f0, f1, f2, ff⟩ := blk3 (HB.out.get 0 rfl)
    go_wp2_with fail
    clear hW
    go_ret
    exact ImC.mk HK.out HB.out.b
  by_cases h2 : 256 < x
  · have hk := side_bad px (show sideB x y = true by unfold sideB; simp [h2])
    have HK := Lib.hid hk
    clear hk
    go_enter Try.func37, Try.ntmps37
    obtain ⟨f0, f1, f2, ff⟩ := blk3 (HB.out.get 0 rfl)
    go_wp2_with fail
    clear hW
    go_ret
    exact ImC.mk HK.out HB.out.b
  by_cases h3 : y < 0
  · have hk := side_bad px (show sideB x y = true by unfold sideB; simp [h3])
    have HK := Lib.hid hk
    clear hk
    go_enter Try.func37, Try.ntmps37
    obtain ⟨f0, f1, f2, ff⟩ := blk3 (HB.out.get 0 rfl)
    go_wp2_with fail
    clear hW
    go_ret
    exact ImC.mk HK.out HB.out.b
  by_cases h4 : 256 < y
  · have hk := side_bad px (show sideB x y = true by unfold sideB; simp [h4])
    have HK := Lib.hid hk
    clear hk
    go_enter Try.func37, Try.ntmps37
    obtain ⟨f0, f1, f2, ff⟩ := blk3 (HB.out.get 0 rfl)
    go_wp2_with fail
    clear hW
    go_ret
    exact ImC.mk HK.out HB.out.b
  by_cases h5 : decide (x = 0) = decide (y = 0)
  rotate_left
  · have hk := side_bad px (show sideB x y = true by unfold sideB; simp [h5])
    obtain ⟨bx, hbx⟩ : ∃ b, decide (x = 0) = b := ⟨_, rfl⟩
    have hby : decide (y = 0) = !bx := by rw [← hbx]; revert h5; cases decide (x = 0) <;> cases decide (y = 0) <;> simp
    have hx1 : (x == 0) = bx := hbx
    have hy1 : (y == 0) = !bx := hby
    have hbb : (bx != !bx) = true := by cases bx <;> rfl
    clear h5 hbx hby
    have HK := Lib.hid hk
    clear hk
    go_enter Try.func37, Try.ntmps37
    obtain ⟨f0, f1, f2, ff⟩ := blk3 (HB.out.get 0 rfl)
    go_wp2_with fail
    clear hW
    go_ret
    exact ImC.mk HK.out HB.out.b
  have hsd : sideB x y = false := by unfold sideB; simp [h1, h2, h3, h4, h5]
  have hxy : x * y ≤ 65536 ∧ 0 ≤ x * y := by
    refine ⟨?_, Int.mul_nonneg (by omega) (by omega)⟩
    have := Int.mul_le_mul (show x ≤ 256 by omega) (show y ≤ 256 by omega) (by omega) (by omega)
    omega
  obtain ⟨bx, hbx⟩ : ∃ b, decide (x = 0) = b := ⟨_, rfl⟩
  rw [hbx] at h5
  have hx1 : (x == 0) = bx := hbx
  have hy1 : (y == 0) = bx := h5.symm
  clear h5 hbx
  have hw : IntKind.i64.wrap (x * y) = x * y := IntWalk.i64_in _ (by omega)
  obtain ⟨m, hm⟩ : ∃ m, x * y = m := ⟨_, rfl⟩
  rw [hm] at hw hxy
  by_cases h6 : (n : Int) = m
  rotate_left
  · have hk := side_len HN.out hsd (by rw [hm]; exact h6)
    have h7 : ((n : Int) != m) = true := by simpa using h6
    clear h6
    have HK := Lib.hid hk
    clear hk
    go_enter Try.func37, Try.ntmps37
    obtain ⟨f0, f1, f2, ff⟩ := blk3 (HB.out.get 0 rfl)
    go_wp2_with fail
    clear hW
    go_ret
    exact ImC.mk HK.out HB.out.b
  subst h6
  have hk := side_ok HN.out hsd hm.symm
  have HK := Lib.hid hk
  clear hk hsd
  go_enter Try.func37, Try.ntmps37
  obtain ⟨f0, f1, f2, ff⟩ := blk3 (HB.out.get 0 rfl)
  go_wp2_with fail
  clear f0 f1 f2 ff
  go_loopw [44] (fun i wr => ∃ j : Nat, i = .int .i64 j ∧ j ≤ n ∧ vAll (px.drop j) = imErr x y px ∧ Bn w wr [(w.heap.size, 39, #[.int .i64 x, .int .i64 y, .slice A n c])]) (fun i _ => n - (intOf i).toNat)
  case atStart => exact ⟨0, rfl, by omega, HK.out, HB.out⟩
  case round =>
    clear hW HB HK
    obtain ⟨j, rfl, hj, hv, hb⟩ := hrel
    have HB := Lib.hid hb
    by_cases hlt : j < n
    · have hjl : j < px.length := by have := HN.out; omega
      rw [vAll_step px j hjl] at hv
      have hr := HR.out.below hb.b
      obtain ⟨ad, rfl, _⟩ := hr.addr (by omega)
      obtain ⟨q0, q1, q2, q3⟩ := px_cells hr j hjl
      obtain ⟨f, hf⟩ : ∃ f, px[j] = f := ⟨_, rfl⟩
      rw [hf] at q0 q1 q2 q3 hv
      obtain ⟨f0, f1, f2, f3⟩ := f
      obtain ⟨b, hvb⟩ : ∃ b, vP (f0, f1, f2, f3) = b := ⟨_, rfl⟩
      have q := fun W => xValid_any (f0, f1, f2, f3) W
      rw [hvb] at q hv
      unfold pagg at q
      obtain ⟨i0, i1, i2, iff⟩ := blk3 (hb.get 0 rfl)
      clear hf hvb hr hb
      cases b with
      | true =>
        have HV := Lib.hid ((if_pos rfl).symm.trans hv)
        clear hv
        go_wp2_with fail
        refine (q _).mono ?_
        rintro e w2 ⟨rfl, hb2⟩
        have HB2 := Lib.hid ((HB.out.alloc_ _).below hb2)
        clear hb2 HB
        go_wp2_with fail
        go_roundw
        case rel => exact ⟨j + 1, by go_num, by omega, HV.out, HB2.out⟩
        case measure => simp [intOf]; omega
      | false =>
        have HV := Lib.hid ((if_neg (by simp)).symm.trans hv)
        clear hv
        go_wp2_with fail
        refine (q _).mono ?_
        rintro e w2 ⟨rfl, hb2⟩
        have HB2 := Lib.hid ((HB.out.alloc_ _).below hb2)
        clear hb2 HB
        go_wp2_with fail
        go_ret
        exact ImC.mk HV.out HB2.out.b
    · obtain rfl : j = n := by omega
      have he : 0 = imErr x y px := by
        rw [← hv, ← HN.out, List.drop_length]
        rfl
      have HE := Lib.hid he
      clear hv he hb
      go_wp2_with fail
      go_ret
      exact ImC.mk HE.out HB.out.b

set_option maxRecDepth 100000 in
set_option maxHeartbeats 8000000 in
theorem rPicture_any (x y : Int) (A : Option Addr) (c : Nat) (px : List P4) (w : World) (h : PxR w A px) : Calls Try.prog 38 #[.agg #[.int .i64 x, .int .i64 y, .slice A px.length c]] w (ImC (imErr x y px) w) := by
  obtain ⟨n, hn⟩ : ∃ n, px.length = n := ⟨_, rfl⟩
  have H0 := Bn.one w 39 (ics x y A n c)
  rw [hn]
  have HN := Lib.hid hn
  have HR := Lib.hid h
  obtain ⟨W, hW⟩ : ∃ W, w.alloc (.cells #[.int .i64 x, .int .i64 y, .slice A n c] 39) = W := ⟨_, rfl⟩
  unfold ics at H0
  rw [hW] at H0
  have HB : Hid (Bn w W [(w.heap.size, 39, #[.int .i64 x, .int .i64 y, .slice A n c])]) := Lib.hid H0
  clear H0 hn h
  by_cases h1 : x < 0
  · have hk := side_bad px (show sideB x y = true by unfold sideB; simp [h1])
    have HK := Lib.hid hk
    clear hk
    go_enter Try.func38, Try.ntmps38
    obtain ⟨f0, f1, f2, ff⟩ := blk3 (HB.out.get 0 rfl)
    go_wp2_with fail
    clear hW
    go_ret
    exact ImC.mk HK.out HB.out.b
  by_cases h2 : 256 < x
  · have hk := side_bad px (show sideB x y = true by unfold sideB; simp [h2])
    have HK := Lib.hid hk
    clear hk
    go_enter Try.func38, Try.ntmps38
    obtain ⟨f0, f1, f2, ff⟩ := blk3 (HB.out.get 0 rfl)
    go_wp2_with fail
    clear hW
    go_ret
    exact ImC.mk HK.out HB.out.b
  by_cases h3 : y < 0
  · have hk := side_bad px (show sideB x y = true by unfold sideB; simp [h3])
    have HK := Lib.hid hk
    clear hk
    go_enter Try.func38, Try.ntmps38
    obtain ⟨f0, f1, f2, ff⟩ := blk3 (HB.out.get 0 rfl)
    go_wp2_with fail
    clear hW
    go_ret
    exact ImC.mk HK.out HB.out.b
  by_cases h4 : 256 < y
  · have hk := side_bad px (show sideB x y = true by unfold sideB; simp [h4])
    have HK := Lib.hid hk
    clear hk
    go_enter Try.func38, Try.ntmps38
    obtain ⟨f0, f1, f2, ff⟩ := blk3 (HB.out.get 0 rfl)
    go_wp2_with fail
    clear hW
    go_ret
    exact ImC.mk HK.out HB.out.b
  by_cases h5 : decide (x = 0) = decide (y = 0)
  rotate_left
  · have hk := side_bad px (show sideB x y = true by unfold sideB; simp [h5])
    obtain ⟨bx, hbx⟩ : ∃ b, decide (x = 0) = b := ⟨_, rfl⟩
    have hby : decide (y = 0) = !bx := by rw [← hbx]; revert h5; cases decide (x = 0) <;> cases decide (y = 0) <;> simp
    have hx1 : (x == 0) = bx := hbx
    have hy1 : (y == 0) = !bx := hby
    have hbb : (bx != !bx) = true := by cases bx <;> rfl
    clear h5 hbx hby
    have HK := Lib.hid hk
    clear hk
    go_enter Try.func38, Try.ntmps38
    obtain ⟨f0, f1, f2, ff⟩ := blk3 (HB.out.get 0 rfl)
    go_wp2_with fail
    clear hW
    go_ret
    exact ImC.mk HK.out HB.out.b
  have hsd : sideB x y = false := by unfold sideB; simp [h1, h2, h3, h4, h5]
  have hxy : x * y ≤ 65536 ∧ 0 ≤ x * y := by
    refine ⟨?_, Int.mul_nonneg (by omega) (by omega)⟩
    have := Int.mul_le_mul (show x ≤ 256 by omega) (show y ≤ 256 by omega) (by omega) (by omega)
    omega
  obtain ⟨bx, hbx⟩ : ∃ b, decide (x = 0) = b := ⟨_, rfl⟩
  rw [hbx] at h5
  have hx1 : (x == 0) = bx := hbx
  have hy1 : (y == 0) = bx := h5.symm
  clear h5 hbx
  have hw : IntKind.i64.wrap (x * y) = x * y := IntWalk.i64_in _ (by omega)
  obtain ⟨m, hm⟩ : ∃ m, x * y = m := ⟨_, rfl⟩
  rw [hm] at hw hxy
  by_cases h6 : (n : Int) = m
  rotate_left
  · have hk := side_len HN.out hsd (by rw [hm]; exact h6)
    have h7 : ((n : Int) != m) = true := by simpa using h6
    clear h6
    have HK := Lib.hid hk
    clear hk
    go_enter Try.func38, Try.ntmps38
    obtain ⟨f0, f1, f2, ff⟩ := blk3 (HB.out.get 0 rfl)
    go_wp2_with fail
    clear hW
    go_ret
    exact ImC.mk HK.out HB.out.b
  subst h6
  have hk := side_ok HN.out hsd hm.symm
  have HK := Lib.hid hk
  clear hk hsd
  go_enter Try.func38, Try.ntmps38
  obtain ⟨f0, f1, f2, ff⟩ := blk3 (HB.out.get 0 rfl)
  go_wp2_with fail
  clear f0 f1 f2 ff
  go_loopw [45] (fun i wr => ∃ j : Nat, i = .int .i64 j ∧ j ≤ n ∧ vAll (px.drop j) = imErr x y px ∧ Bn w wr [(w.heap.size, 39, #[.int .i64 x, .int .i64 y, .slice A n c])]) (fun i _ => n - (intOf i).toNat)
  case atStart => exact ⟨0, rfl, by omega, HK.out, HB.out⟩
  case round =>
    clear hW HB HK
    obtain ⟨j, rfl, hj, hv, hb⟩ := hrel
    have HB := Lib.hid hb
    by_cases hlt : j < n
    · have hjl : j < px.length := by have := HN.out; omega
      rw [vAll_step px j hjl] at hv
      have hr := HR.out.below hb.b
      obtain ⟨ad, rfl, _⟩ := hr.addr (by omega)
      obtain ⟨q0, q1, q2, q3⟩ := px_cells hr j hjl
      obtain ⟨f, hf⟩ : ∃ f, px[j] = f := ⟨_, rfl⟩
      rw [hf] at q0 q1 q2 q3 hv
      obtain ⟨f0, f1, f2, f3⟩ := f
      obtain ⟨b, hvb⟩ : ∃ b, vP (f0, f1, f2, f3) = b := ⟨_, rfl⟩
      have q := fun W => rxValid_any (f0, f1, f2, f3) W
      rw [hvb] at q hv
      unfold pagg at q
      obtain ⟨i0, i1, i2, iff⟩ := blk3 (hb.get 0 rfl)
      clear hf hvb hr hb
      cases b with
      | true =>
        have HV := Lib.hid ((if_pos rfl).symm.trans hv)
        clear hv
        go_wp2_with fail
        refine (q _).mono ?_
        rintro e w2 ⟨rfl, hb2⟩
        have HB2 := Lib.hid (HB.out.below hb2)
        clear hb2 HB
        go_wp2_with fail
        go_roundw
        case rel => exact ⟨j + 1, by go_num, by omega, HV.out, HB2.out⟩
        case measure => simp [intOf]; omega
      | false =>
        have HV := Lib.hid ((if_neg (by simp)).symm.trans hv)
        clear hv
        go_wp2_with fail
        refine (q _).mono ?_
        rintro e w2 ⟨rfl, hb2⟩
        have HB2 := Lib.hid (HB.out.below hb2)
        clear hb2 HB
        go_wp2_with fail
        go_ret
        exact ImC.mk HV.out HB2.out.b
    · obtain rfl : j = n := by omega
      have he : 0 = imErr x y px := by
        rw [← hv, ← HN.out, List.drop_length]
        rfl
      have HE := Lib.hid he
      clear hv he hb
      go_wp2_with fail
      go_ret
      exact ImC.mk HE.out HB.out.b

end Go.Proofs.Ytcighjeiimjbiaa.Pro

/- ProIa: Layer 9: Image. -/
namespace Go.Proofs.Ytcighjeiimjbiaa.Pro
open Go.RowKit Go.Proofs.Ytcighjeiimjbiaa Go.Proofs.Ytcighjeiimjbiaa.NumPure
open Go.Proofs.Ytcighjeiimjbiaa.Mat (al ac invM invX appM info9 info3)

theorem three_row {w : World} {g : Nat} {t : TypeId} {a b c a' b' c' : Value} (h : Blk w g t #[a, b, c]) : ((w.setCell ⟨g, 0, none⟩ a').setCell ⟨g, 1, none⟩ b').setCell ⟨g, 2, none⟩ c' = w.setRow g #[a', b', c'] := by
  rw [setCell_eq_setRow w g 0 _ _ _ _ h, setCell_eq_setRow _ g 1 _ _ _ _ (Blk.row h _), setRow_setRow, setCell_eq_setRow _ g 2 _ _ _ _ (Blk.row h _), setRow_setRow]
  rfl
theorem infoI (x y : Int) (A : Option Addr) (n c : Nat) : (Try.prog.info? 39).map (·.size) = some (ics x y A n c).size := by kernel_rfl
/-- The error of an image's conversion. -/
def igErr (a b : Pf) (x y : Int) (px : List P4) : Int := if cErr a b = 0 then imErr x y px else cErr a b
/-- A conversion's image. -/
def IgC (a b : Pf) (x y : Int) (px : List P4) (w : World) (e : Ending) (w' : World) : Prop := ∃ (x' y' : Int) (A : Option Addr) (n c : Nat) (l : List P4), e = .returned (.tuple #[.agg #[.int .i64 x', .int .i64 y', .slice A n c], .int .i64 (igErr a b x y px)]) ∧ n = l.length ∧ PxR w' A l ∧ Below w.heap.size w w' ∧ (x', y', l) = if igErr a b x y px = 0 then (x, y, px.map (cnvV a b)) else (0, 0, [])
theorem IgC.no {a b : Pf} {x y z : Int} {px : List P4} {w w' : World} {c : Nat} (h : z = igErr a b x y px) (hz : z ≠ 0) (hb : Below w.heap.size w w') : IgC a b x y px w (.returned (.tuple #[.agg (ics 0 0 none 0 c), .int .i64 z])) w' :=
  ⟨0, 0, none, 0, c, [], by rw [← h]; rfl, rfl, Reads.none_, hb, by rw [← h, if_neg hz]⟩
theorem IgC.yes {a b : Pf} {x y : Int} {px : List P4} {w w' : World} {A : Option Addr} {n c : Nat} (h : 0 = igErr a b x y px) (hn : n = px.length) (hr : PxR w' A (px.map (cnvV a b))) (hb : Below w.heap.size w w') : IgC a b x y px w (.returned (.tuple #[.agg (ics x y A n c), .int .i64 0])) w' :=
  ⟨x, y, A, n, c, px.map (cnvV a b), by rw [← h]; rfl, by rw [hn, List.length_map], hr, hb, by rw [← h, if_pos rfl]⟩
theorem igErr_a {a b : Pf} {x y z : Int} {px : List P4} (h : cErr a b = z) (hz : z ≠ 0) : z = igErr a b x y px := by unfold igErr; rw [h, if_neg hz]
theorem igErr_b {a b : Pf} {x y z : Int} {px : List P4} (h : cErr a b = 0) (hz : imErr x y px = z) : z = igErr a b x y px := by unfold igErr; rw [h, if_pos rfl, hz]

/-- An image of which the first j pixels are made. -/
def fillP (f : P4 → P4) (px : List P4) (j : Nat) : List P4 := (px.take j).map f ++ List.replicate (px.length - j) (0, 0, 0, 0)
theorem fillP_len (f : P4 → P4) (px : List P4) (j : Nat) (h : j ≤ px.length) : (fillP f px j).length = px.length := by
  unfold fillP
  rw [List.length_append, List.length_map, List.length_take, List.length_replicate]
  omega
theorem fillP_all (f : P4 → P4) (px : List P4) : fillP f px px.length = px.map f := by simp [fillP]
theorem fillP_at (f : P4 → P4) (px : List P4) (j : Nat) (h : j < px.length) : ∃ h' : j < (fillP f px j).length, (fillP f px j)[j] = (0, 0, 0, 0) := by
  refine ⟨by rw [fillP_len _ _ _ (by omega)]; exact h, ?_⟩
  unfold fillP
  have hl : ((px.take j).map f).length = j := by rw [List.length_map, List.length_take]; omega
  rw [List.getElem_append_right (by omega), List.getElem_replicate]
theorem fillP_next (f : P4 → P4) (px : List P4) (j : Nat) (h : j < px.length) : (fillP f px j).set j (f px[j]) = fillP f px (j + 1) := by
  unfold fillP
  have hl : ((px.take j).map f).length = j := by rw [List.length_map, List.length_take]; omega
  rw [List.set_append_right _ _ (by omega), hl, Nat.sub_self, show px.length - j = (px.length - (j + 1)) + 1 by omega, List.replicate_succ, List.set_cons_zero, List.take_succ_eq_append_getElem h]
  rw [List.map_append, List.append_assoc]
  rfl
theorem pxs_set (l : List P4) (j : Nat) (h : j < l.length) (a b c d : Int) : ((((pxs l).toArray.setIfInBounds (j * 4) (.int .i64 a)).setIfInBounds (j * 4 + 1) (.int .i64 b)).setIfInBounds (j * 4 + 2) (.int .i64 c)).setIfInBounds (j * 4 + 3) (.int .i64 d) = (pxs (l.set j (a, b, c, d))).toArray := by
  induction l generalizing j with
  | nil => simp at h
  | cons k l ih =>
    cases j with
    | zero => rfl
    | succ j =>
      have := ih j (by simpa using h)
      simp only [pxs, px4, List.set_cons_succ]
      have e1 : (j + 1) * 4 = j * 4 + 1 + 1 + 1 + 1 := by omega
      have e2 : j * 4 + 1 + 1 + 1 + 1 + 1 = j * 4 + 1 + 1 + 1 + 1 + 1 := rfl
      have e3 : j * 4 + 1 + 1 + 1 + 1 + 2 = j * 4 + 2 + 1 + 1 + 1 + 1 := by omega
      have e4 : j * 4 + 1 + 1 + 1 + 1 + 3 = j * 4 + 3 + 1 + 1 + 1 + 1 := by omega
      rw [e1, e3, e4]
      simp only [List.cons_append, List.nil_append, List.setIfInBounds_toArray, List.set_cons_succ, Array.mk.injEq, List.cons.injEq, true_and] at this ⊢
      exact this
theorem made_pxs (n : Nat) : madeCells #[.int .i64 0, .int .i64 0, .int .i64 0, .int .i64 0] (n * 4) = (pxs (List.replicate n (0, 0, 0, 0))).toArray := by
  apply Array.ext_getElem?
  intro i
  by_cases hi : i < n * 4
  · have hk := pxs_at (List.replicate n (0, 0, 0, 0)) (i / 4) (by rw [List.length_replicate]; omega) (i % 4) (by omega)
    rw [show i / 4 * 4 + i % 4 = i by omega, List.getElem_replicate] at hk
    have hm : i % 4 = 0 ∨ i % 4 = 1 ∨ i % 4 = 2 ∨ i % 4 = 3 := by omega
    have e2 : (pxs (List.replicate n (0, 0, 0, 0))).toArray[i]? = some (.int .i64 0) := by
      rw [List.getElem?_toArray, hk]
      rcases hm with e | e | e | e <;> rw [e] <;> rfl
    rw [e2]
    unfold madeCells
    rw [Array.getElem?_map, Array.getElem?_range]
    rw [if_pos hi]
    rcases hm with e | e | e | e <;> simp [e]
  · rw [Array.getElem?_eq_none (by rw [size_madeCells]; omega), Array.getElem?_eq_none (by rw [List.size_toArray, pxs_len, List.length_replicate]; omega)]
theorem sizePx : (Try.prog.info? 23).map (·.size) = some 4 := by kernel_rfl
theorem makeP (n : Nat) (h : n ≤ 65536) (w : World) : (Instr.makeSlice 37 (.int .i64 (n : Int)) (.int .i64 (n : Int))).run Try.prog w = .ok (.slice (some ⟨w.heap.size, 0, none⟩) n n) (w.alloc (.cells (pxs (List.replicate n (0, 0, 0, 0))).toArray 23)) := by
  obtain ⟨i0, hi0, hz0, hz1, hz2⟩ := info_parts infoP
  have hmk := run_makeSlice (P := Try.prog) w 37 23 i0 (.agg #[.int .i64 0, .int .i64 0, .int .i64 0, .int .i64 0]) Try.underlying37 hi0 hz0 .i64 .i64 (n : Int) (n : Int) (by omega) (by omega) (by rw [hz1, Int.toNat_natCast]; omega) (by rw [hz2]; omega) (by omega)
  simp only [Int.toNat_natCast, hz1, Value.cells] at hmk
  rw [made_pxs] at hmk
  exact hmk

end Go.Proofs.Ytcighjeiimjbiaa.Pro

/- ProIb: Layer 9: Image. -/
namespace Go.Proofs.Ytcighjeiimjbiaa.Pro
open Go.RowKit Go.Proofs.Ytcighjeiimjbiaa Go.Proofs.Ytcighjeiimjbiaa.NumPure
open Go.Proofs.Ytcighjeiimjbiaa.Mat (al ac invM invX appM info9 info3)

theorem Fun.below {a b : Pf} {w w' : World} {F : Value} (h : Fun a b w F) (hb : Below w.heap.size w w') : Fun a b w' F := by
  rcases h with hs | ⟨E, g1, g2, hs, hE, hP, hk, hp, e1, e2⟩
  · exact .same hs
  · exact .other E g1 g2 hs (hE.below hb hE.lt) (hP.below hb hP.lt) (hk.below hb) (hp.below hb) e1 e2
theorem imErr_len {x y : Int} {px : List P4} (h : imErr x y px = 0) : px.length ≤ 65536 := by
  unfold imErr at h
  cases hs : sideB x y with
  | true => rw [hs, if_pos rfl] at h; omega
  | false =>
    rw [hs, if_neg (by simp)] at h
    by_cases hl : (px.length : Int) = x * y
    · unfold sideB at hs
      simp only [Bool.or_eq_false_iff, decide_eq_false_iff_not] at hs
      obtain ⟨⟨⟨⟨h1, h2⟩, h3⟩, h4⟩, _⟩ := hs
      have := Int.mul_le_mul (show x ≤ 256 by omega) (show y ≤ 256 by omega) (by omega) (by omega)
      omega
    · rw [if_neg hl] at h; omega
theorem cells4_row {w : World} {g : Nat} {t : TypeId} {cs : Array Value} (h : Blk w g t cs) (o : Nat) (a b c d : Value) : w.setCells g o [a, b, c, d] = w.setRow g ((((cs.setIfInBounds o a).setIfInBounds (o + 1) b).setIfInBounds (o + 2) c).setIfInBounds (o + 3) d) := by
  simp only [World.setCells]
  rw [setCell_eq_setRow w g o _ _ _ _ h, setCell_eq_setRow _ g (o + 1) _ _ _ _ (Blk.row h _), setRow_setRow, setCell_eq_setRow _ g (o + 1 + 1) _ _ _ _ (Blk.row h _), setRow_setRow, setCell_eq_setRow _ g (o + 1 + 1 + 1) _ _ _ _ (Blk.row h _), setRow_setRow]
theorem there_of_blk {w : World} {g : Nat} {t : TypeId} {cs : Array Value} (h : Blk w g t cs) {o n : Nat} (hn : o + n ≤ cs.size) : w.there g o n := fun j hj => by
  refine ⟨?_, h.frozen _⟩
  rw [h.cell, Array.getElem?_eq_getElem (by omega)]
  rfl
theorem px_of_blk {w : World} {g : Nat} {l : List P4} (h : Blk w g 23 (pxs l).toArray) : PxR w (some ⟨g, 0, none⟩) l :=
  ⟨pxs_len l, fun _ => ⟨_, rfl, h.lt, fun i u hu => (World.news_of_block h) i u (by simpa using hu)⟩⟩
theorem wp_makeP {o : Oper} {a : Act} {W : World} {K : Act → World → Prop} {Q : Exit → Act → World → Prop} (dd : Tmp) (hd : o.dst = some dd) (x y : Operand) (ho : o.op = .makeSlice 37 x y) (n : Nat) (hn : n ≤ 65536) (hx : a.eval x = .int .i64 (n : Int)) (hy : a.eval y = .int .i64 (n : Int))
    (h : K (a.put (some dd) (.slice (some ⟨W.heap.size, 0, none⟩) n n)) (W.alloc (.cells (pxs (List.replicate n (0, 0, 0, 0))).toArray 23))) : o.wp Try.prog a W K Q := by
  unfold Oper.wp execOp
  simp only [ho, hx, hy, makeP n hn W, Sem.run_bind, Sem.run_pure, Result.andThen_ok]
  show K (a.put o.dst _) _
  rw [hd]
  exact h
theorem runI (w : World) : (Instr.alloc 39 true (.tuple #[])).run Try.prog w = .ok (.pointer (some ⟨w.heap.size, 0, none⟩)) (w.alloc (.cells (ics 0 0 none 0 0) 39)) := by kernel_rfl
theorem wp_allocI {o : Oper} {a : Act} {W : World} {K : Act → World → Prop} {Q : Exit → Act → World → Prop} (dd : Tmp) (hd : o.dst = some dd) (ho : o.op = .alloc 39)
    (h : K (a.put (some dd) (.pointer (some ⟨W.heap.size, 0, none⟩))) (W.alloc (.cells (ics 0 0 none 0 0) 39))) : o.wp Try.prog a W K Q := by
  unfold Oper.wp
  simp only [execOp, ho, Sem.run_bind, runI W, Result.andThen_ok, Sem.run_pure]
  show K (a.put o.dst _) _
  rw [hd]
  exact h
theorem ics_one (x y : Int) (A : Option Addr) (n c : Nat) : (ics x y A n c).all (·.oneCell') = true := by simp [ics, Value.oneCell']
/-- What the two blocks of a conversion's image hold. -/
def Two2 (w2 : World) (x y : Int) (n : Nat) (s : Value) (l : List P4) (W : World) : Prop := ∃ gr gi, s = .pointer (some ⟨gi, 0, none⟩) ∧ w2.heap.size ≤ gr ∧ w2.heap.size ≤ gi ∧ gr ≠ gi ∧ Bn w2 W [(gr, 23, (pxs l).toArray), (gi, 39, ics x y (some ⟨gr, 0, none⟩) n n)]

set_option maxRecDepth 100000 in
set_option maxHeartbeats 8000000 in
theorem Image_any (a b : Pf) (x y : Int) (A : Option Addr) (c : Nat) (px : List P4) (w : World) (h : PfR w a) (h' : PfR w b) (hr : PxR w A px) : Calls Try.prog 14 #[a.val, b.val, .agg #[.int .i64 x, .int .i64 y, .slice A px.length c]] w (IgC a b x y px w) := by
  obtain ⟨n, hn⟩ : ∃ n, px.length = n := ⟨_, rfl⟩
  have CK := fun (W : World) (hb : Below w.heap.size w W) => check_any x y A c px W (hr.below hb)
  rw [hn] at CK ⊢
  have H0 := Bn.four w 27 27 39 39 a.cells b.cells (ics x y A n c) (ics 0 0 none 0 0)
  have HBC := Lib.hid H0
  obtain ⟨W, hW⟩ : ∃ W, ((((w.alloc (.cells a.cells 27)).alloc (.cells b.cells 27)).alloc (.cells #[.int .i64 x, .int .i64 y, .slice A n c] 39)).alloc (.cells #[.int .i64 0, .int .i64 0, .slice none 0 0] 39)) = W := ⟨_, rfl⟩
  unfold ics at H0
  rw [hW] at H0
  have HB : Hid (Bn w W [(w.heap.size, 27, a.cells), (w.heap.size + 1, 27, b.cells), (w.heap.size + 1 + 1, 39, ics x y A n c), (w.heap.size + 1 + 1 + 1, 39, ics 0 0 none 0 0)]) := Lib.hid H0
  have HN := Lib.hid hn
  have HR := Lib.hid hr
  have HCK := Lib.hid CK
  have C1 := converter_any a b W (h.below H0.b) (h'.below H0.b)
  obtain ⟨z, hz⟩ : ∃ z, cErr a b = z := ⟨_, rfl⟩
  unfold CvtC at C1
  rw [hz] at C1
  have HZ := Lib.hid hz
  clear h h' H0 hz hn hr CK
  unfold Pf.val at C1 ⊢
  go_enter Try.func14, Try.ntmps14
  go_wp2_with (first
    | (refine wpList_load_row rfl _ _ rfl w.heap.size rfl 27 a.cells (0, 0) _ (HBC.out.get 0 rfl) Try.underlying27 rfl a.info ?_)
    | (refine wpList_load_row rfl _ _ rfl w.heap.size rfl 27 a.cells (0, 0) _ (HB.out.get 0 rfl) Try.underlying27 rfl a.info ?_)
    | (refine wpList_load_row rfl _ _ rfl (w.heap.size + 1) rfl 27 b.cells (0, 0) _ (HBC.out.get 1 rfl) Try.underlying27 rfl b.info ?_)
    | (refine wpList_load_row rfl _ _ rfl (w.heap.size + 1) rfl 27 b.cells (0, 0) _ (HB.out.get 1 rfl) Try.underlying27 rfl b.info ?_))
  refine C1.mono ?_
  rintro e w1 ⟨F, rfl, hb, hF⟩
  have HB1 := Lib.hid (HB.out.below hb)
  clear C1 hb HB HBC hW
  by_cases h0 : z = 0
  rotate_left
  · have h1 : (z != 0) = true := by simpa using h0
    clear hF
    obtain ⟨c0, c1, c2, cf⟩ := blk3 (HB1.out.get 3 rfl)
    go_wp2_with fail
    rw [three_row (HB1.out.get 3 rfl)]
    have HB5 := Lib.hid (HB1.out.row 3 rfl (by omega) (by (intro j y hj hy; rcases j with _ | _ | _ | _ | _ | _ | j <;> first | exact absurd rfl hj | (simp only [List.getElem?_cons_zero, List.getElem?_cons_succ, Option.some.injEq] at hy; subst hy; dsimp only; omega) | (simp at hy; done))) (ics 0 0 none 0 0))
    refine bodyPost_ret (v := .tuple #[.agg (ics 0 0 none 0 0), .int .i64 z]) (results_row_tmp rfl _ _ (w.heap.size + 1 + 1 + 1) 39 (ics 0 0 none 0 0) _ rfl _ rfl (HB5.out.get 3 rfl) Try.underlying39 rfl (infoI _ _ _ _ _)) rfl ?_
    exact IgC.no (igErr_a HZ.out h0) h0 HB5.out.b
  subst h0
  have HF1 := Lib.hid (hF (by trivial))
  have C2 := HCK.out w1 HB1.out.b
  unfold ImC at C2
  obtain ⟨u, hu⟩ : ∃ u, imErr x y px = u := ⟨_, rfl⟩
  rw [hu] at C2
  have HU := Lib.hid hu
  obtain ⟨i0, i1, i2, iff⟩ := blk3 (HB1.out.get 2 rfl)
  clear hF hu
  go_wp2_with fail
  refine C2.mono ?_
  rintro e w2 ⟨rfl, hb⟩
  have HF2 := Lib.hid (HF1.out.below hb)
  have HB2 := Lib.hid (HB1.out.below hb)
  clear C2 hb HB1 HF1 i0 i1 i2 iff
  by_cases h0 : u = 0
  rotate_left
  · have h1 : (u != 0) = true := by simpa using h0
    obtain ⟨c0, c1, c2, cf⟩ := blk3 (HB2.out.get 3 rfl)
    go_wp2_with fail
    rw [three_row (HB2.out.get 3 rfl)]
    have HB5 := Lib.hid (HB2.out.row 3 rfl (by omega) (by (intro j y hj hy; rcases j with _ | _ | _ | _ | _ | _ | j <;> first | exact absurd rfl hj | (simp only [List.getElem?_cons_zero, List.getElem?_cons_succ, Option.some.injEq] at hy; subst hy; dsimp only; omega) | (simp at hy; done))) (ics 0 0 none 0 0))
    refine bodyPost_ret (v := .tuple #[.agg (ics 0 0 none 0 0), .int .i64 u]) (results_row_tmp rfl _ _ (w.heap.size + 1 + 1 + 1) 39 (ics 0 0 none 0 0) _ rfl _ rfl (HB5.out.get 3 rfl) Try.underlying39 rfl (infoI _ _ _ _ _)) rfl ?_
    exact IgC.no (igErr_b HZ.out HU.out) h0 HB5.out.b
  subst h0
  have hle := imErr_len HU.out
  rw [HN.out] at hle
  obtain ⟨i0, i1, i2, iff⟩ := blk3 (HB2.out.get 2 rfl)
  go_upto_region 7 with fail
  go_cut [11] (fun s wx => Two2 w2 x y n s (List.replicate n (0, 0, 0, 0)) wx)
  case first =>
    have T0 := Lib.hid (Bn.nil w2).drew
    have HD := Lib.hid HB2.out.drew
    clear i0 i1 i2 iff
    refine wp_region_held_drew (S := fun W => Bn w W [(w.heap.size, 27, a.cells), (w.heap.size + 1, 27, b.cells), (w.heap.size + 1 + 1, 39, ics x y A n c), (w.heap.size + 1 + 1 + 1, 39, ics 0 0 none 0 0)]) (by kernel_rfl) HB2.out.drew (fun hHeld => ?_)
    refine wpAnyH_take (i := 0) (oi := _) (v := .pointer (some ⟨w.heap.size + 1 + 1, 0, none⟩)) rfl (by kernel_rfl) (by kernel_rfl) (by kernel_rfl) (fun _ _ _ h => h) (Or.inl ⟨by rfl, fun W1 hS => by go_simp⟩) (by assumption) ?_
    go_simp
    refine wpAnyH_take (i := 1) (oi := _) (v := .int .i64 x) rfl (by kernel_rfl) (by kernel_rfl) (by kernel_rfl) (fun _ _ _ h => h) (Or.inl ⟨by rfl, fun W1 hS => by (obtain ⟨z0, z1, z2, _⟩ := blk3 (hS.get 2 rfl); go_simp)⟩) (by assumption) ?_
    go_simp
    refine wpAnyH_take (i := 2) (oi := _) (v := .pointer (some ⟨w.heap.size + 1 + 1, 1, none⟩)) rfl (by kernel_rfl) (by kernel_rfl) (by kernel_rfl) (fun _ _ _ h => h) (Or.inl ⟨by rfl, fun W1 hS => by go_simp⟩) (by assumption) ?_
    go_simp
    refine wpAnyH_take (i := 3) (oi := _) (v := .int .i64 y) rfl (by kernel_rfl) (by kernel_rfl) (by kernel_rfl) (fun _ _ _ h => h) (Or.inl ⟨by rfl, fun W1 hS => by (obtain ⟨z0, z1, z2, _⟩ := blk3 (hS.get 2 rfl); go_simp)⟩) (by assumption) ?_
    go_simp
    refine wpAnyH_take (i := 4) (oi := _) (v := .pointer (some ⟨w.heap.size + 1 + 1, 2, none⟩)) rfl (by kernel_rfl) (by kernel_rfl) (by kernel_rfl) (fun _ _ _ h => h) (Or.inl ⟨by rfl, fun W1 hS => by go_simp⟩) (by assumption) ?_
    go_simp
    refine wpAnyH_take (i := 5) (oi := _) (v := .slice A n c) rfl (by kernel_rfl) (by kernel_rfl) (by kernel_rfl) (fun _ _ _ h => h) (Or.inl ⟨by rfl, fun W1 hS => by (obtain ⟨z0, z1, z2, _⟩ := blk3 (hS.get 2 rfl); go_simp)⟩) (by assumption) ?_
    go_simp
    refine wpAnyH_take (i := 6) (oi := _) (v := .int .i64 n) rfl (by kernel_rfl) (by kernel_rfl) (by kernel_rfl) (fun _ _ _ h => h) (Or.inl ⟨by rfl, fun W1 hS => by go_simp⟩) (by assumption) ?_
    go_simp
    clear hHeld
    refine wpAnyH_ready (rs := [7, 9]) (by kernel_rfl) (by simp) ?_
    refine AllReadyH.cons (o := _) rfl (fun K hK => ?_) (AllReadyH.cons (o := _) rfl (fun K hK => ?_) AllReadyH.nil)
    · rw [if_pos (by rfl)]
      refine wp_makeP 37 rfl _ _ rfl n hle rfl rfl ?_
      have T1 := Lib.hid (T0.out.push _ rfl 23 (pxs (List.replicate n (0, 0, 0, 0))).toArray)
      refine hK.out _ _ (HB2.out.below T1.out.b) (fun hHeld => ?_)
      clear hK hHeld
      revert T1
      obtain ⟨gr, hg⟩ : ∃ g, g = (w2.drew).heap.size := ⟨_, rfl⟩
      obtain ⟨W1, hW⟩ : ∃ W, W = (w2.drew).alloc (.cells (pxs (List.replicate n (0, 0, 0, 0))).toArray 23) := ⟨_, rfl⟩
      have hgr : w2.heap.size ≤ gr := by rw [hg]; exact Nat.le_refl _
      rw [← hg, ← hW]
      clear hg hW
      intro T1
      have T1 : Hid (Bn w2 W1 [(gr, 23, (pxs (List.replicate n (0, 0, 0, 0))).toArray)]) := T1
      try simp only [Act.put, List.setIfInBounds_toArray, List.set_cons_zero, List.set_cons_succ]
      have hT := HB2.out.below T1.out.b
      refine wpAnyH_take (i := 8) (oi := _) (v := .agg (ics x y (some ⟨gr, 0, none⟩) n n)) rfl (by kernel_rfl) (by kernel_rfl) (by kernel_rfl) (fun _ _ _ h => h) (Or.inl ⟨by rfl, fun W1 hS => by (unfold ics; go_simp)⟩) (by assumption) ?_
      go_simp
      clear hT
      refine wpAnyH_ready (rs := [9]) (by kernel_rfl) (by simp) ?_
      refine AllReadyH.cons (o := _) rfl (fun K hK => ?_) AllReadyH.nil
      rw [if_pos (by rfl)]
      refine wp_allocI 11 rfl rfl ?_
      have T2 := Lib.hid (T1.out.push _ rfl 39 (ics 0 0 none 0 0))
      refine hK.out _ _ (HB2.out.below T2.out.b) (fun hHeld => ?_)
      clear hK hHeld
      revert T2
      obtain ⟨gi, hg⟩ : ∃ g, g = (W1).heap.size := ⟨_, rfl⟩
      obtain ⟨W2, hW⟩ : ∃ W, W = (W1).alloc (.cells (ics 0 0 none 0 0) 39) := ⟨_, rfl⟩
      have hgi : w2.heap.size ≤ gi := by rw [hg]; exact T1.out.b.size
      have hne : gr ≠ gi := by have := (T1.out.get 0 rfl).lt; omega
      rw [← hg, ← hW]
      clear hg hW
      intro T2
      have T2 : Hid (Bn w2 W2 [(gr, 23, (pxs (List.replicate n (0, 0, 0, 0))).toArray), (gi, 39, ics 0 0 none 0 0)]) := T2
      try simp only [Act.put, List.setIfInBounds_toArray, List.set_cons_zero, List.set_cons_succ]
      refine wpAnyH_ready (rs := [10]) (by kernel_rfl) (by simp) ?_
      refine AllReadyH.cons (o := _) rfl (fun K hK => ?_) AllReadyH.nil
      rw [if_pos (by rfl)]
      refine wp_store_row 39 _ _ rfl gi (ics x y (some ⟨gr, 0, none⟩) n n) rfl rfl 39 (ics 0 0 none 0 0) (T2.out.get 1 rfl) (infoI _ _ _ _ _) rfl (ics_one _ _ _ _ _) ?_
      have TT := T2.out.row 1 rfl hgi (by (intro j y hj hy; rcases j with _ | _ | _ | _ | _ | _ | j <;> first | exact absurd rfl hj | (simp only [List.getElem?_cons_zero, List.getElem?_cons_succ, Option.some.injEq] at hy; subst hy; dsimp only; omega) | (simp at hy; done))) (ics x y (some ⟨gr, 0, none⟩) n n)
      refine hK.out _ _ (HB2.out.below TT.b) (fun hHeld => ?_)
      clear hK hHeld
      try simp only [Act.put, List.setIfInBounds_toArray]
      refine wpAnyH_done (by kernel_rfl) ?_ _
      go_wp2_with fail
      go_meet
      exact ⟨gr, gi, rfl, hgr, hgi, hne, TT⟩
    · rw [if_pos (by rfl)]
      refine wp_allocI 11 rfl rfl ?_
      have T1 := Lib.hid (T0.out.push _ rfl 39 (ics 0 0 none 0 0))
      refine hK.out _ _ (HB2.out.below T1.out.b) (fun hHeld => ?_)
      clear hK hHeld
      revert T1
      obtain ⟨gi, hg⟩ : ∃ g, g = (w2.drew).heap.size := ⟨_, rfl⟩
      obtain ⟨W1, hW⟩ : ∃ W, W = (w2.drew).alloc (.cells (ics 0 0 none 0 0) 39) := ⟨_, rfl⟩
      have hgi : w2.heap.size ≤ gi := by rw [hg]; exact Nat.le_refl _
      rw [← hg, ← hW]
      clear hg hW
      intro T1
      have T1 : Hid (Bn w2 W1 [(gi, 39, ics 0 0 none 0 0)]) := T1
      try simp only [Act.put, List.setIfInBounds_toArray, List.set_cons_zero, List.set_cons_succ]
      refine wpAnyH_ready (rs := [7]) (by kernel_rfl) (by simp) ?_
      refine AllReadyH.cons (o := _) rfl (fun K hK => ?_) AllReadyH.nil
      rw [if_pos (by rfl)]
      refine wp_makeP 37 rfl _ _ rfl n hle rfl rfl ?_
      have T2 := Lib.hid (T1.out.push _ rfl 23 (pxs (List.replicate n (0, 0, 0, 0))).toArray)
      refine hK.out _ _ (HB2.out.below T2.out.b) (fun hHeld => ?_)
      clear hK hHeld
      revert T2
      obtain ⟨gr, hg⟩ : ∃ g, g = (W1).heap.size := ⟨_, rfl⟩
      obtain ⟨W2, hW⟩ : ∃ W, W = (W1).alloc (.cells (pxs (List.replicate n (0, 0, 0, 0))).toArray 23) := ⟨_, rfl⟩
      have hgr : w2.heap.size ≤ gr := by rw [hg]; exact T1.out.b.size
      have hne : gr ≠ gi := by have := (T1.out.get 0 rfl).lt; omega
      rw [← hg, ← hW]
      clear hg hW
      intro T2
      have T2 : Hid (Bn w2 W2 [(gi, 39, ics 0 0 none 0 0), (gr, 23, (pxs (List.replicate n (0, 0, 0, 0))).toArray)]) := T2
      try simp only [Act.put, List.setIfInBounds_toArray, List.set_cons_zero, List.set_cons_succ]
      have hT := HB2.out.below T2.out.b
      refine wpAnyH_take (i := 8) (oi := _) (v := .agg (ics x y (some ⟨gr, 0, none⟩) n n)) rfl (by kernel_rfl) (by kernel_rfl) (by kernel_rfl) (fun _ _ _ h => h) (Or.inl ⟨by rfl, fun W1 hS => by (unfold ics; go_simp)⟩) (by assumption) ?_
      go_simp
      clear hT
      refine wpAnyH_ready (rs := [10]) (by kernel_rfl) (by simp) ?_
      refine AllReadyH.cons (o := _) rfl (fun K hK => ?_) AllReadyH.nil
      rw [if_pos (by rfl)]
      refine wp_store_row 39 _ _ rfl gi (ics x y (some ⟨gr, 0, none⟩) n n) rfl rfl 39 (ics 0 0 none 0 0) (T2.out.get 0 rfl) (infoI _ _ _ _ _) rfl (ics_one _ _ _ _ _) ?_
      have TT := T2.out.row 0 rfl hgi (by (intro j y hj hy; rcases j with _ | _ | _ | _ | _ | _ | j <;> first | exact absurd rfl hj | (simp only [List.getElem?_cons_zero, List.getElem?_cons_succ, Option.some.injEq] at hy; subst hy; dsimp only; omega) | (simp at hy; done))) (ics x y (some ⟨gr, 0, none⟩) n n)
      refine hK.out _ _ (HB2.out.below TT.b) (fun hHeld => ?_)
      clear hK hHeld
      try simp only [Act.put, List.setIfInBounds_toArray]
      refine wpAnyH_done (by kernel_rfl) ?_ _
      go_wp2_with fail
      go_meet
      exact ⟨gr, gi, rfl, hgr, hgi, hne, Bn.of2 (a := (gr, 23, (pxs (List.replicate n (0, 0, 0, 0))).toArray)) (b := (gi, 39, ics x y (some ⟨gr, 0, none⟩) n n)) TT.b (TT.get 1 rfl) (TT.get 0 rfl)⟩
  case rest =>
    obtain ⟨gr, gi, rfl, hgr, hgi, hne, hB⟩ := hcut
    have e0 : fillP (cnvV a b) px 0 = List.replicate n (0, 0, 0, 0) := by unfold fillP; rw [HN.out]; rfl
    rw [← e0] at hB
    have H3 := Lib.hid hB
    clear hB e0 i0 i1 i2 iff
    have hlt3 := (HB2.out.get 3 rfl).lt
    obtain ⟨i0, i1, i2, iff⟩ := blk3 ((HB2.out.below H3.out.b).get 2 rfl)
    go_wp2_with fail
    clear i0 i1 i2 iff
    go_loopw [42] (fun i wr => ∃ j : Nat, i = .int .i64 j ∧ j ≤ n ∧ Bn w2 wr [(gr, 23, (pxs (fillP (cnvV a b) px j)).toArray), (gi, 39, ics x y (some ⟨gr, 0, none⟩) n n)]) (fun i _ => n - (intOf i).toNat)
    case atStart => exact ⟨0, rfl, by omega, H3.out⟩
    case round =>
      clear H3
      obtain ⟨j, rfl, hj, hb⟩ := hrel
      by_cases hlt : j < n
      · have hjl : j < px.length := by have := HN.out; omega
        have hr := HR.out.below ((HB2.out.below hb.b).b)
        obtain ⟨ad, rfl, _⟩ := hr.addr (by omega)
        obtain ⟨q0, q1, q2, q3⟩ := px_cells hr j hjl
        obtain ⟨f, hf⟩ : ∃ f, px[j] = f := ⟨_, rfl⟩
        rw [hf] at q0 q1 q2 q3
        obtain ⟨f0, f1, f2, f3⟩ := f
        obtain ⟨y, hy⟩ : ∃ y, cnvV a b (f0, f1, f2, f3) = y := ⟨_, rfl⟩
        obtain ⟨y0, y1, y2, y3⟩ := y
        have hfl : j < (fillP (cnvV a b) px j).length := (fillP_at (cnvV a b) px j hjl).1
        have hnx := pxs_set (fillP (cnvV a b) px j) j hfl y0 y1 y2 y3
        rw [← hy, ← hf, fillP_next _ _ _ hjl] at hnx
        have HNX := Lib.hid hnx
        have HYC := Lib.hid hy
        have HB := Lib.hid (hb.push _ rfl 23 (pcs (f0, f1, f2, f3)))
        have hgrl := (hb.get 0 rfl).lt
        have hgil := (hb.get 1 rfl).lt
        clear hf hr hb hy hnx hfl
        go_upto_region 11 with fail
        obtain ⟨W1, hW1⟩ : ∃ W1, wr.alloc (.cells #[.int .i64 f0, .int .i64 f1, .int .i64 f2, .int .i64 f3] 23) = W1 := ⟨_, rfl⟩
        obtain ⟨gb, hgb⟩ : ∃ gb, wr.heap.size = gb := ⟨_, rfl⟩
        have HB : Hid (Bn w2 W1 [(gr, 23, (pxs (fillP (cnvV a b) px j)).toArray), (gi, 39, ics x y (some ⟨gr, 0, none⟩) n n), (gb, 23, pcs (f0, f1, f2, f3))]) := Lib.hid (by rw [← hW1, ← hgb]; exact HB.out)
        rw [hW1, hgb]
        rw [hgb] at hgrl hgil
        have hF3 := HF2.out.below HB.out.drew.b
        clear hW1 hgb q0 q1 q2 q3
        rcases hF3 with hs | ⟨E, g1, g2, hs, hE, hP, hk, hp, e1, e2⟩
        · have HY : Hid (pagg (limP (f0, f1, f2, f3)) = .agg #[.int .i64 y0, .int .i64 y1, .int .i64 y2, .int .i64 y3]) := Lib.hid (by rw [cnv0_same hs, cnvV_ok HZ.out, HYC.out]; rfl)
          clear hs
          refine wp_region_held_drew (S := fun W => ∃ cs : Array Value, Bn w2 W [(gr, 23, cs), (gi, 39, ics x y (some ⟨gr, 0, none⟩) n n), (gb, 23, pcs (f0, f1, f2, f3))]) (by kernel_rfl) ⟨_, HB.out.drew⟩ (fun hHeld => ?_)
          refine wpAnyH_take (i := 0) (oi := _) (v := .pointer (some ⟨gi, 2, none⟩)) rfl (by kernel_rfl) (by kernel_rfl) (by kernel_rfl) (fun _ _ _ h => h) (Or.inl ⟨by rfl, fun W1 hS => by go_simp⟩) (by assumption) ?_
          go_simp
          refine wpAnyH_take (i := 1) (oi := _) (v := .slice (some ⟨gr, 0, none⟩) n n) rfl (by kernel_rfl) (by kernel_rfl) (by kernel_rfl) (fun _ _ _ h => h) (Or.inl ⟨by rfl, fun W1 hS => by (obtain ⟨cs, hS⟩ := hS; obtain ⟨z0, z1, z2, _⟩ := blk3 (hS.get 1 rfl); go_simp)⟩) (by assumption) ?_
          go_simp
          refine wpAnyH_take (i := 2) (oi := _) (v := .int .i64 (j : Int)) rfl (by kernel_rfl) (by kernel_rfl) (by kernel_rfl) (fun _ _ _ h => h) (Or.inl ⟨by rfl, fun W1 hS => by go_simp⟩) (by assumption) ?_
          go_simp
          refine wpAnyH_take (i := 3) (oi := _) (v := .func (.func 68) #[] #[]) rfl (by kernel_rfl) (by kernel_rfl) (by kernel_rfl) (fun _ _ _ h => h) (Or.inl ⟨by rfl, fun W1 hS => by go_simp⟩) (by assumption) ?_
          go_simp
          refine wpAnyH_take (i := 4) (oi := _) (v := .agg #[.int .i64 f0, .int .i64 f1, .int .i64 f2, .int .i64 f3]) rfl (by kernel_rfl) (by kernel_rfl) (by kernel_rfl) (fun _ _ _ h => h) (Or.inl ⟨by rfl, fun W1 hS => by (obtain ⟨cs, hS⟩ := hS; obtain ⟨z0, z1, z2, z3, _⟩ := blk4 (hS.get 2 rfl); go_simp)⟩) (by assumption) ?_
          go_simp
          have HL0 := Lib.hid HB.out.drew
          clear hHeld HB
          refine wpAnyH_ready (rs := [5]) (by kernel_rfl) (by simp) ?_
          refine AllReadyH.cons (o := _) rfl (fun K hK => ?_) AllReadyH.nil
          go_simp
          go_at_call 68
          refine (xLimit_any (f0, f1, f2, f3) _).mono ?_
          rintro e v1 ⟨rfl, hb⟩
          go_wp2_with fail
          have HL1 := Lib.hid (HL0.out.below hb)
          clear hb HL0
          refine hK.out _ _ (⟨_, HL1.out⟩) (fun hHeld => ?_)
          clear hK
          try simp only [Act.put, List.setIfInBounds_toArray, List.set_cons_zero, List.set_cons_succ]
          rw [HY.out]
          refine wpAnyH_take (i := 6) (oi := _) (v := .pointer (some ⟨gr, j * 4, none⟩)) rfl (by kernel_rfl) (by kernel_rfl) (by kernel_rfl) (fun _ _ _ h => h) (Or.inl ⟨by rfl, fun W1 hS => by go_simp⟩) (by assumption) ?_
          go_simp
          clear hHeld
          refine wpAnyH_ready (rs := [7]) (by kernel_rfl) (by simp) ?_
          refine AllReadyH.cons (o := _) rfl (fun K hK => ?_) AllReadyH.nil
          rw [if_pos (by rfl)]
          refine wp_store_mid 23 _ _ rfl gr (j * 4) #[.int .i64 y0, .int .i64 y1, .int .i64 y2, .int .i64 y3] rfl rfl (there_of_blk (HL1.out.get 0 rfl) (by have e : (pxs (fillP (cnvV a b) px j)).toArray.size = n * 4 := List.size_toArray.trans (by rw [pxs_len, fillP_len _ _ _ (by have := HN.out; omega), HN.out]); rw [e]; show j * 4 + 4 ≤ n * 4; omega)) sizePx (by simp [Value.oneCell']) ?_
          show K _ (v1.setCells gr (j * 4) [.int .i64 y0, .int .i64 y1, .int .i64 y2, .int .i64 y3])
          rw [cells4_row (HL1.out.get 0 rfl), HNX.out]
          have H9 := Lib.hid (HL1.out.row 0 rfl hgr (by (intro j y hj hy; rcases j with _ | _ | _ | _ | _ | _ | j <;> first | exact absurd rfl hj | (simp only [List.getElem?_cons_zero, List.getElem?_cons_succ, Option.some.injEq] at hy; subst hy; dsimp only; omega) | (simp at hy; done))) (pxs (fillP (cnvV a b) px (j + 1))).toArray)
          refine hK.out _ _ (⟨_, H9.out⟩) (fun hHeld => ?_)
          clear hK hHeld
          try simp only [Act.put, List.setIfInBounds_toArray]
          refine wpAnyH_done (by kernel_rfl) ?_ _
          clear HL1 HNX HY HYC
          go_wp2_with fail
          go_roundw
          case rel => exact ⟨j + 1, by go_num, by omega, Bn.of2 (a := (gr, 23, (pxs (fillP (cnvV a b) px (j + 1))).toArray)) (b := (gi, 39, ics x y (some ⟨gr, 0, none⟩) n n)) H9.out.b (H9.out.get 0 rfl) (H9.out.get 1 rfl)⟩
          case measure => simp [intOf]; omega
        · have HY : Hid (pagg (pixV E.m E.k (lin0 a (f0, f1, f2, f3)) f3) = .agg #[.int .i64 y0, .int .i64 y1, .int .i64 y2, .int .i64 y3]) := Lib.hid (by rw [cnv0_other (x := (f0, f1, f2, f3)) hs e1 e2, cnvV_ok HZ.out, HYC.out]; rfl)
          have HE := Lib.hid (And.intro hE (And.intro hP (And.intro hk hp)))
          clear hs hE hP hk hp e1 e2
          refine wp_region_held_drew (S := fun W => ∃ cs : Array Value, Bn w2 W [(gr, 23, cs), (gi, 39, ics x y (some ⟨gr, 0, none⟩) n n), (gb, 23, pcs (f0, f1, f2, f3))]) (by kernel_rfl) ⟨_, HB.out.drew⟩ (fun hHeld => ?_)
          refine wpAnyH_take (i := 0) (oi := _) (v := .pointer (some ⟨gi, 2, none⟩)) rfl (by kernel_rfl) (by kernel_rfl) (by kernel_rfl) (fun _ _ _ h => h) (Or.inl ⟨by rfl, fun W1 hS => by go_simp⟩) (by assumption) ?_
          go_simp
          refine wpAnyH_take (i := 1) (oi := _) (v := .slice (some ⟨gr, 0, none⟩) n n) rfl (by kernel_rfl) (by kernel_rfl) (by kernel_rfl) (fun _ _ _ h => h) (Or.inl ⟨by rfl, fun W1 hS => by (obtain ⟨cs, hS⟩ := hS; obtain ⟨z0, z1, z2, _⟩ := blk3 (hS.get 1 rfl); go_simp)⟩) (by assumption) ?_
          go_simp
          refine wpAnyH_take (i := 2) (oi := _) (v := .int .i64 (j : Int)) rfl (by kernel_rfl) (by kernel_rfl) (by kernel_rfl) (fun _ _ _ h => h) (Or.inl ⟨by rfl, fun W1 hS => by go_simp⟩) (by assumption) ?_
          go_simp
          refine wpAnyH_take (i := 3) (oi := _) (v := .func (.func 70) #[] #[.pointer (some ⟨g1, 0, none⟩), .pointer (some ⟨g2, 0, none⟩)]) rfl (by kernel_rfl) (by kernel_rfl) (by kernel_rfl) (fun _ _ _ h => h) (Or.inl ⟨by rfl, fun W1 hS => by go_simp⟩) (by assumption) ?_
          go_simp
          refine wpAnyH_take (i := 4) (oi := _) (v := .agg #[.int .i64 f0, .int .i64 f1, .int .i64 f2, .int .i64 f3]) rfl (by kernel_rfl) (by kernel_rfl) (by kernel_rfl) (fun _ _ _ h => h) (Or.inl ⟨by rfl, fun W1 hS => by (obtain ⟨cs, hS⟩ := hS; obtain ⟨z0, z1, z2, z3, _⟩ := blk4 (hS.get 2 rfl); go_simp)⟩) (by assumption) ?_
          go_simp
          have HL0 := Lib.hid HB.out.drew
          clear hHeld HB
          refine wpAnyH_ready (rs := [5]) (by kernel_rfl) (by simp) ?_
          refine AllReadyH.cons (o := _) rfl (fun K hK => ?_) AllReadyH.nil
          go_simp
          go_at_call 70
          refine (converter1_any E a (f0, f1, f2, f3) g1 g2 _ HE.out.1 HE.out.2.1 HE.out.2.2.1 HE.out.2.2.2).mono ?_
          rintro e v1 ⟨rfl, hb⟩
          go_wp2_with fail
          have HL1 := Lib.hid (HL0.out.below hb)
          clear hb HL0
          refine hK.out _ _ (⟨_, HL1.out⟩) (fun hHeld => ?_)
          clear hK
          try simp only [Act.put, List.setIfInBounds_toArray, List.set_cons_zero, List.set_cons_succ]
          rw [HY.out]
          refine wpAnyH_take (i := 6) (oi := _) (v := .pointer (some ⟨gr, j * 4, none⟩)) rfl (by kernel_rfl) (by kernel_rfl) (by kernel_rfl) (fun _ _ _ h => h) (Or.inl ⟨by rfl, fun W1 hS => by go_simp⟩) (by assumption) ?_
          go_simp
          clear hHeld
          refine wpAnyH_ready (rs := [7]) (by kernel_rfl) (by simp) ?_
          refine AllReadyH.cons (o := _) rfl (fun K hK => ?_) AllReadyH.nil
          rw [if_pos (by rfl)]
          refine wp_store_mid 23 _ _ rfl gr (j * 4) #[.int .i64 y0, .int .i64 y1, .int .i64 y2, .int .i64 y3] rfl rfl (there_of_blk (HL1.out.get 0 rfl) (by have e : (pxs (fillP (cnvV a b) px j)).toArray.size = n * 4 := List.size_toArray.trans (by rw [pxs_len, fillP_len _ _ _ (by have := HN.out; omega), HN.out]); rw [e]; show j * 4 + 4 ≤ n * 4; omega)) sizePx (by simp [Value.oneCell']) ?_
          show K _ (v1.setCells gr (j * 4) [.int .i64 y0, .int .i64 y1, .int .i64 y2, .int .i64 y3])
          rw [cells4_row (HL1.out.get 0 rfl), HNX.out]
          have H9 := Lib.hid (HL1.out.row 0 rfl hgr (by (intro j y hj hy; rcases j with _ | _ | _ | _ | _ | _ | j <;> first | exact absurd rfl hj | (simp only [List.getElem?_cons_zero, List.getElem?_cons_succ, Option.some.injEq] at hy; subst hy; dsimp only; omega) | (simp at hy; done))) (pxs (fillP (cnvV a b) px (j + 1))).toArray)
          refine hK.out _ _ (⟨_, H9.out⟩) (fun hHeld => ?_)
          clear hK hHeld
          try simp only [Act.put, List.setIfInBounds_toArray]
          refine wpAnyH_done (by kernel_rfl) ?_ _
          clear HL1 HNX HY HYC HE
          go_wp2_with fail
          go_roundw
          case rel => exact ⟨j + 1, by go_num, by omega, Bn.of2 (a := (gr, 23, (pxs (fillP (cnvV a b) px (j + 1))).toArray)) (b := (gi, 39, ics x y (some ⟨gr, 0, none⟩) n n)) H9.out.b (H9.out.get 0 rfl) (H9.out.get 1 rfl)⟩
          case measure => simp [intOf]; omega
      · obtain rfl : j = n := by omega
        have hall : fillP (cnvV a b) px j = px.map (cnvV a b) := by rw [← HN.out]; exact fillP_all _ _
        rw [hall] at hb
        have HB := Lib.hid hb
        have HO := Lib.hid (HB2.out.below hb.b)
        obtain ⟨i0, i1, i2, iff⟩ := blk3 (hb.get 1 rfl)
        obtain ⟨c0, c1, c2, cf⟩ := blk3 (HO.out.get 3 rfl)
        clear hb hall
        go_wp2_with fail
        rw [three_row (HO.out.get 3 rfl)]
        have HB5 := Lib.hid (HO.out.row 3 rfl (by omega) (by (intro j y hj hy; rcases j with _ | _ | _ | _ | _ | _ | j <;> first | exact absurd rfl hj | (simp only [List.getElem?_cons_zero, List.getElem?_cons_succ, Option.some.injEq] at hy; subst hy; dsimp only; omega) | (simp at hy; done))) (ics x y (some ⟨gr, 0, none⟩) j j))
        have HR5 := Lib.hid (px_of_blk (Blk.rowFar (k := w.heap.size + 1 + 1 + 1) (HB.out.get 0 rfl) (by omega) (ics x y (some ⟨gr, 0, none⟩) j j)))
        refine bodyPost_ret (v := .tuple #[.agg (ics x y (some ⟨gr, 0, none⟩) j j), .int .i64 0]) (results_row_tmp rfl _ _ (w.heap.size + 1 + 1 + 1) 39 (ics x y (some ⟨gr, 0, none⟩) j j) _ rfl _ rfl (HB5.out.get 3 rfl) Try.underlying39 rfl (infoI _ _ _ _ _)) rfl ?_
        exact IgC.yes (igErr_b HZ.out HU.out) HN.out.symm HR5.out HB5.out.b

end Go.Proofs.Ytcighjeiimjbiaa.Pro

/- ProIc: Layer 9: the reference's Image. -/
namespace Go.Proofs.Ytcighjeiimjbiaa.Pro
open Go.RowKit Go.Proofs.Ytcighjeiimjbiaa Go.Proofs.Ytcighjeiimjbiaa.NumPure
open Go.Proofs.Ytcighjeiimjbiaa.Mat (al ac invM invX appM info9 info3)

theorem wp_allocX {o : Oper} {a : Act} {W : World} {K : Act → World → Prop} {Q : Exit → Act → World → Prop} (dd : Tmp) (hd : o.dst = some dd) (ho : o.op = .alloc 23)
    (h : K (a.put (some dd) (.pointer (some ⟨W.heap.size, 0, none⟩))) (W.alloc (.cells (pcs (0, 0, 0, 0)) 23))) : o.wp Try.prog a W K Q := by
  unfold Oper.wp
  simp only [execOp, ho, Sem.run_bind, runX W, Result.andThen_ok, Sem.run_pure]
  show K (a.put o.dst _) _
  rw [hd]
  exact h
theorem pxs_snoc (f : P4 → P4) (px : List P4) (j : Nat) (hj : j < px.length) {y0 y1 y2 y3 : Int} (h : f px[j] = (y0, y1, y2, y3)) : pxs ((px.map f).take j) ++ [.int .i64 y0, .int .i64 y1, .int .i64 y2, .int .i64 y3] = pxs ((px.map f).take (j + 1)) := by
  rw [List.take_succ_eq_append_getElem (by simpa using hj), pxs_app, List.getElem_map, h]
  rfl
theorem pxr_of_own {W : World} {B n : Nat} {v : Value} {l : List P4} (h : W.ownsRow B 23 4 v n (pxs l)) (hn : n = l.length) : ∃ A cap, v = .slice A n cap ∧ PxR W A l := by
  obtain ⟨A, cap, rfl, _, hr⟩ := own_open h
  subst hn
  exact ⟨A, cap, rfl, hr⟩
theorem Bn.lower {w W W' : World} {L : List Ent} {B : Nat} (h : Bn w W L) (hb : Below B W W') (hB : w.heap.size ≤ B) (hlt : ∀ x ∈ L, x.1 < B) : Bn w W' L :=
  ⟨h.b.trans (hb.mono hB), fun i x hx => (h.at_ i x hx).below hb (hlt x (List.mem_of_getElem? hx))⟩
theorem PxR.setRow {w : World} {A : Option Addr} {l : List P4} {B g : Nat} (h : PxR w A l) (hn : New B A) (hg : g < B) (cs : Array Value) : PxR (w.setRow g cs) A l := by
  refine ⟨h.1, fun h0 => ?_⟩
  obtain ⟨ad, e, hb, hc⟩ := h.2 h0
  refine ⟨ad, e, by simpa using hb, fun j u hu => ?_⟩
  rw [← hc j u hu]
  refine World.cell?_of_block (setRow_other _ _ _ _ ?_)
  rw [block_of_add]
  have := hn ad e
  omega
theorem wpList_allocX {ops : Array Oper} {rest : List Oper} {o : Oper} {a : Act} {w : World} {Q : Exit → Act → World → Prop} (hg : o.guard = none) (ho : o.op = .alloc 23)
    (h : wpList Try.prog ops Q rest (a.put o.dst (.pointer (some ⟨w.heap.size, 0, none⟩))) (w.alloc (.cells (pcs (0, 0, 0, 0)) 23))) : wpList Try.prog ops Q (o :: rest) a w := wpList_allocC runX hg ho h

set_option maxRecDepth 100000 in
set_option maxHeartbeats 8000000 in
theorem rImage_any (a b : Pf) (x y : Int) (A : Option Addr) (c : Nat) (px : List P4) (w : World) (h : PfR w a) (h' : PfR w b) (hr : PxR w A px) : Calls Try.prog 15 #[a.val, b.val, .agg #[.int .i64 x, .int .i64 y, .slice A px.length c]] w (IgC a b x y px w) := by
  obtain ⟨n, hn⟩ : ∃ n, px.length = n := ⟨_, rfl⟩
  have CK := fun (W : World) (hb : Below w.heap.size w W) => rPicture_any x y A c px W (hr.below hb)
  rw [hn] at CK ⊢
  have H0 := Bn.four w 27 27 39 39 a.cells b.cells (ics x y A n c) (ics 0 0 none 0 0)
  have HBC := Lib.hid H0
  obtain ⟨W, hW⟩ : ∃ W, ((((w.alloc (.cells a.cells 27)).alloc (.cells b.cells 27)).alloc (.cells #[.int .i64 x, .int .i64 y, .slice A n c] 39)).alloc (.cells #[.int .i64 0, .int .i64 0, .slice none 0 0] 39)) = W := ⟨_, rfl⟩
  unfold ics at H0
  rw [hW] at H0
  have HB : Hid (Bn w W [(w.heap.size, 27, a.cells), (w.heap.size + 1, 27, b.cells), (w.heap.size + 1 + 1, 39, ics x y A n c), (w.heap.size + 1 + 1 + 1, 39, ics 0 0 none 0 0)]) := Lib.hid H0
  have HN := Lib.hid hn
  have HR := Lib.hid hr
  have HPA := Lib.hid h
  have HPB := Lib.hid h'
  have HCK := Lib.hid CK
  have C1 := rConvert_any a b (0, 0, 0, 0) W (h.below H0.b) (h'.below H0.b)
  obtain ⟨z, hz⟩ : ∃ z, cErr a b = z := ⟨_, rfl⟩
  unfold PxC at C1
  obtain ⟨p, hp⟩ : ∃ p, cnvV a b (0, 0, 0, 0) = p := ⟨_, rfl⟩
  rw [hz, hp] at C1
  obtain ⟨p0, p1, p2, p3⟩ := p
  have HZ := Lib.hid hz
  clear h h' H0 hz hn hr CK hp
  unfold Pf.val at C1 ⊢
  unfold pagg at C1
  go_enter Try.func15, Try.ntmps15
  go_wp2_with (first
    | (refine wpList_load_row rfl _ _ rfl w.heap.size rfl 27 a.cells (0, 0) _ (HBC.out.get 0 rfl) Try.underlying27 rfl a.info ?_)
    | (refine wpList_load_row rfl _ _ rfl w.heap.size rfl 27 a.cells (0, 0) _ (HB.out.get 0 rfl) Try.underlying27 rfl a.info ?_)
    | (refine wpList_load_row rfl _ _ rfl (w.heap.size + 1) rfl 27 b.cells (0, 0) _ (HBC.out.get 1 rfl) Try.underlying27 rfl b.info ?_)
    | (refine wpList_load_row rfl _ _ rfl (w.heap.size + 1) rfl 27 b.cells (0, 0) _ (HB.out.get 1 rfl) Try.underlying27 rfl b.info ?_))
  refine C1.mono ?_
  rintro e w1 ⟨rfl, hb⟩
  have HBX := Lib.hid ((HB.out.below hb).below ((Below.refl _ _).alloc (Nat.le_refl _) (.cells #[.int .i64 p0, .int .i64 p1, .int .i64 p2, .int .i64 p3] 23)))
  clear C1 hb HB HBC hW
  by_cases h0 : z = 0
  rotate_left
  · have h1 : (z != 0) = true := by simpa using h0
    obtain ⟨c0, c1, c2, cf⟩ := blk3 (HBX.out.get 3 rfl)
    go_wp2_with fail
    rw [three_row (HBX.out.get 3 rfl)]
    have HB5 := Lib.hid (HBX.out.row 3 rfl (by omega) (by (intro j y hj hy; rcases j with _ | _ | _ | _ | _ | _ | j <;> first | exact absurd rfl hj | (simp only [List.getElem?_cons_zero, List.getElem?_cons_succ, Option.some.injEq] at hy; subst hy; dsimp only; omega) | (simp at hy; done))) (ics 0 0 none 0 0))
    refine bodyPost_ret (v := .tuple #[.agg (ics 0 0 none 0 0), .int .i64 z]) (results_row_tmp rfl _ _ (w.heap.size + 1 + 1 + 1) 39 (ics 0 0 none 0 0) _ rfl _ rfl (HB5.out.get 3 rfl) Try.underlying39 rfl (infoI _ _ _ _ _)) rfl ?_
    exact IgC.no (igErr_a HZ.out h0) h0 HB5.out.b
  subst h0
  have C2 := HCK.out _ HBX.out.b
  unfold ImC at C2
  obtain ⟨z, hz⟩ : ∃ z, imErr x y px = z := ⟨_, rfl⟩
  rw [hz] at C2
  have HU := Lib.hid hz
  obtain ⟨i0, i1, i2, iff⟩ := blk3 (HBX.out.get 2 rfl)
  clear hz
  go_wp2_with fail
  refine C2.mono ?_
  rintro e w2 ⟨rfl, hb⟩
  have HBX2 := Lib.hid (HBX.out.below hb)
  clear C2 hb HBX i0 i1 i2 iff
  have HBX := HBX2
  clear HBX2
  by_cases h0 : z = 0
  rotate_left
  · have h1 : (z != 0) = true := by simpa using h0
    obtain ⟨c0, c1, c2, cf⟩ := blk3 (HBX.out.get 3 rfl)
    go_wp2_with fail
    rw [three_row (HBX.out.get 3 rfl)]
    have HB5 := Lib.hid (HBX.out.row 3 rfl (by omega) (by (intro j y hj hy; rcases j with _ | _ | _ | _ | _ | _ | j <;> first | exact absurd rfl hj | (simp only [List.getElem?_cons_zero, List.getElem?_cons_succ, Option.some.injEq] at hy; subst hy; dsimp only; omega) | (simp at hy; done))) (ics 0 0 none 0 0))
    refine bodyPost_ret (v := .tuple #[.agg (ics 0 0 none 0 0), .int .i64 z]) (results_row_tmp rfl _ _ (w.heap.size + 1 + 1 + 1) 39 (ics 0 0 none 0 0) _ rfl _ rfl (HB5.out.get 3 rfl) Try.underlying39 rfl (infoI _ _ _ _ _)) rfl ?_
    exact IgC.no (igErr_b HZ.out HU.out) h0 HB5.out.b
  subst h0
  have hle := imErr_len HU.out
  rw [HN.out] at hle
  have H3 := Lib.hid (HBX.out.push _ rfl 39 #[.int .i64 x, .int .i64 y, .slice none 0 0])
  obtain ⟨i0, i1, i2, iff⟩ := blk3 (HBX.out.get 2 rfl)
  obtain ⟨_, _, i5, _⟩ := blk3 (H3.out.get 2 rfl)
  have hlt4 := (HBX.out.get 3 rfl).lt
  go_wp2_with fail
  obtain ⟨W3, hW3⟩ : ∃ W3, w2.alloc (.cells #[.int .i64 x, .int .i64 y, .slice none 0 0] 39) = W3 := ⟨_, rfl⟩
  obtain ⟨gi, hgi⟩ : ∃ gi, w2.heap.size = gi := ⟨_, rfl⟩
  have H3 : Hid (Bn w W3 [(w.heap.size, 27, a.cells), (w.heap.size + 1, 27, b.cells), (w.heap.size + 1 + 1, 39, ics x y A n c), (w.heap.size + 1 + 1 + 1, 39, ics 0 0 none 0 0), (gi, 39, #[.int .i64 x, .int .i64 y, .slice none 0 0])]) := Lib.hid (by rw [← hW3, ← hgi]; exact H3.out)
  rw [hW3, hgi]
  rw [hgi] at hlt4
  clear i0 i1 i2 iff i5 hW3 hgi HBX
  go_loopw [39] (fun i wr => ∃ (j : Nat) (v : Value), i = .int .i64 j ∧ j ≤ n ∧ Bn w wr [(w.heap.size, 27, a.cells), (w.heap.size + 1, 27, b.cells), (w.heap.size + 1 + 1, 39, ics x y A n c), (w.heap.size + 1 + 1 + 1, 39, ics 0 0 none 0 0), (gi, 39, #[.int .i64 x, .int .i64 y, v])] ∧ wr.ownsRow W3.heap.size 23 4 v j (pxs ((px.map (cnvV a b)).take j)) ∧ W3.heap.size ≤ wr.heap.size) (fun i _ => n - (intOf i).toNat)
  case atStart => exact ⟨0, _, rfl, by omega, H3.out, World.ownsRow_nil _ _ _ _, Nat.le_refl _⟩
  case round =>
    have hgi3 := (H3.out.get 4 rfl).lt
    have hW3l := H3.out.b.size
    clear H3
    obtain ⟨j, v, rfl, hj, hb, hown, hsz⟩ := hrel
    by_cases hlt : j < n
    · have hjl : j < px.length := by have := HN.out; omega
      have hr := HR.out.below hb.b
      obtain ⟨ad, rfl, _⟩ := hr.addr (by omega)
      have qc := fun (W1 : World) (hS : Below wr.heap.size wr W1) => px_cells (hr.below hS) j hjl
      obtain ⟨f, hf⟩ : ∃ f, px[j] = f := ⟨_, rfl⟩
      rw [hf] at qc
      obtain ⟨f0, f1, f2, f3⟩ := f
      obtain ⟨y', hy⟩ : ∃ y, cnvV a b (f0, f1, f2, f3) = y := ⟨_, rfl⟩
      obtain ⟨y0, y1, y2, y3⟩ := y'
      have hnx := pxs_snoc (cnvV a b) px j hjl (y0 := y0) (y1 := y1) (y2 := y2) (y3 := y3) (by rw [hf, hy])
      have HNX := Lib.hid hnx
      have HY : Hid (pagg (cnvV a b (f0, f1, f2, f3)) = .agg #[.int .i64 y0, .int .i64 y1, .int .i64 y2, .int .i64 y3]) := Lib.hid (by rw [hy]; rfl)
      have QC := Lib.hid qc
      have HI := Lib.hid hb
      have HO := Lib.hid hown
      clear hf hr hb hy hnx qc hown
      go_upto_region 11 with fail
      go_cut [12, 13] (fun s t wx => ∃ gx, s = .pointer (some ⟨gx, 0, none⟩) ∧ t = .int .i64 0 ∧ Below wr.heap.size wr wx ∧ Blk wx gx 23 (pcs (y0, y1, y2, y3)))
      case first =>
        have hB0 := (Below.refl wr.heap.size wr).drew
        refine wp_region_held_drew (S := fun W => Below wr.heap.size wr W) (by kernel_rfl) hB0 (fun hHeld => ?_)
        refine wpAnyH_take (i := 0) (oi := _) (v := .agg a.cells) rfl (by kernel_rfl) (by kernel_rfl) (by kernel_rfl) (fun _ _ _ h => h) (yieldsIf_load_mid (by rfl) 27 _ rfl (w.heap.size) 0 rfl a.lst _ (fun W hS => Blk.range ((HI.out.below hS).get 0 rfl)) Try.underlying27 rfl a.infol) (by assumption) ?_
        go_simp
        refine wpAnyH_take (i := 1) (oi := _) (v := .agg b.cells) rfl (by kernel_rfl) (by kernel_rfl) (by kernel_rfl) (fun _ _ _ h => h) (yieldsIf_load_mid (by rfl) 27 _ rfl (w.heap.size + 1) 0 rfl b.lst _ (fun W hS => Blk.range ((HI.out.below hS).get 1 rfl)) Try.underlying27 rfl b.infol) (by assumption) ?_
        go_simp
        refine wpAnyH_take (i := 2) (oi := _) (v := .pointer (some ⟨w.heap.size + 1 + 1, 2, none⟩)) rfl (by kernel_rfl) (by kernel_rfl) (by kernel_rfl) (fun _ _ _ h => h) (Or.inl ⟨by rfl, fun W1 hS => by go_simp⟩) (by assumption) ?_
        go_simp
        refine wpAnyH_take (i := 3) (oi := _) (v := .slice (some ad) n c) rfl (by kernel_rfl) (by kernel_rfl) (by kernel_rfl) (fun _ _ _ h => h) (Or.inl ⟨by rfl, fun W1 hS => by (obtain ⟨z0, z1, z2, _⟩ := blk3 ((HI.out.below hS).get 2 rfl); go_simp)⟩) (by assumption) ?_
        go_simp
        refine wpAnyH_take (i := 4) (oi := _) (v := .int .i64 (j : Int)) rfl (by kernel_rfl) (by kernel_rfl) (by kernel_rfl) (fun _ _ _ h => h) (Or.inl ⟨by rfl, fun W1 hS => by go_simp⟩) (by assumption) ?_
        go_simp
        refine wpAnyH_take (i := 5) (oi := _) (v := .pointer (some (ad.add (j * 4)))) rfl (by kernel_rfl) (by kernel_rfl) (by kernel_rfl) (fun _ _ _ h => h) (Or.inl ⟨by rfl, fun W1 hS => by go_simp⟩) (by assumption) ?_
        go_simp
        refine wpAnyH_take (i := 6) (oi := _) (v := .agg #[.int .i64 f0, .int .i64 f1, .int .i64 f2, .int .i64 f3]) rfl (by kernel_rfl) (by kernel_rfl) (by kernel_rfl) (fun _ _ _ h => h) (Or.inl ⟨by rfl, fun W1 hS => by (obtain ⟨q0, q1, q2, q3⟩ := QC.out W1 hS; go_simp)⟩) (by assumption) ?_
        go_simp
        have T0 := Lib.hid hB0
        clear hHeld hB0
        refine wpAnyH_ready (rs := [7, 11]) (by kernel_rfl) (by simp) ?_
        refine AllReadyH.cons (o := _) rfl (fun K hK => ?_) (AllReadyH.cons (o := _) rfl (fun K hK => ?_) AllReadyH.nil)
        · go_simp
          go_at_call 28
          refine (rConvert_any a b (f0, f1, f2, f3) _ (HPA.out.below (HI.out.below T0.out).b) (HPB.out.below (HI.out.below T0.out).b)).mono ?_
          rintro e v1 ⟨rfl, hb⟩
          go_wp2_with fail
          have T1 := Lib.hid (T0.out.trans (hb.mono T0.out.size))
          have HQ := Lib.hid hb
          clear hb
          refine hK.out _ _ (T1.out) (fun hHeld => ?_)
          clear hK
          try simp only [Act.put, List.setIfInBounds_toArray, List.set_cons_zero, List.set_cons_succ]
          rw [HY.out, HZ.out]
          refine wpAnyH_take (i := 8) (oi := _) (v := .tuple #[.agg #[.int .i64 y0, .int .i64 y1, .int .i64 y2, .int .i64 y3], .int .i64 0]) rfl (by kernel_rfl) (by kernel_rfl) (by kernel_rfl) (fun _ _ _ h => h) (Or.inl ⟨by rfl, fun W1 hS => by go_simp⟩) (by assumption) ?_
          go_simp
          refine wpAnyH_take (i := 9) (oi := _) (v := .agg #[.int .i64 y0, .int .i64 y1, .int .i64 y2, .int .i64 y3]) rfl (by kernel_rfl) (by kernel_rfl) (by kernel_rfl) (fun _ _ _ h => h) (Or.inl ⟨by rfl, fun W1 hS => by go_simp⟩) (by assumption) ?_
          go_simp
          refine wpAnyH_take (i := 10) (oi := _) (v := .int .i64 0) rfl (by kernel_rfl) (by kernel_rfl) (by kernel_rfl) (fun _ _ _ h => h) (Or.inl ⟨by rfl, fun W1 hS => by go_simp⟩) (by assumption) ?_
          go_simp
          clear hHeld HQ
          refine wpAnyH_ready (rs := [11]) (by kernel_rfl) (by simp) ?_
          refine AllReadyH.cons (o := _) rfl (fun K hK => ?_) AllReadyH.nil
          rw [if_pos (by rfl)]
          refine wp_allocX 12 rfl rfl ?_
          have T2 := Lib.hid (T1.out.alloc T1.out.size (.cells (pcs (0, 0, 0, 0)) 23))
          have HG := Lib.hid (Blk.new (v1) 23 (pcs (0, 0, 0, 0)))
          have hgx : wr.heap.size ≤ (v1).heap.size := T1.out.size
          refine hK.out _ _ T2.out (fun hHeld => ?_)
          clear hK hHeld
          revert T2 HG hgx
          obtain ⟨gx, hg⟩ : ∃ g, g = (v1).heap.size := ⟨_, rfl⟩
          obtain ⟨v2, hW⟩ : ∃ W, W = (v1).alloc (.cells (pcs (0, 0, 0, 0)) 23) := ⟨_, rfl⟩
          rw [← hg, ← hW]
          clear hg hW
          intro T2 HG hgx
          try simp only [Act.put, List.setIfInBounds_toArray, List.set_cons_zero, List.set_cons_succ]
          refine wpAnyH_ready (rs := [12]) (by kernel_rfl) (by simp) ?_
          refine AllReadyH.cons (o := _) rfl (fun K hK => ?_) AllReadyH.nil
          rw [if_pos (by rfl)]
          refine wp_store_row 23 _ _ rfl gx (pcs (y0, y1, y2, y3)) rfl rfl 23 (pcs (0, 0, 0, 0)) HG.out (infoX _) rfl (pcs_one _) ?_
          have T9 := Lib.hid (Mat.below_setRow T2.out hgx (pcs (y0, y1, y2, y3)))
          have HG9 := Lib.hid (Blk.row HG.out (pcs (y0, y1, y2, y3)))
          clear HG
          refine hK.out _ _ (T9.out) (fun hHeld => ?_)
          clear hK
          try simp only [Act.put, List.setIfInBounds_toArray]
          clear hHeld
          refine wpAnyH_ready (rs := [13]) (by kernel_rfl) (by simp) ?_
          refine AllReadyH.cons (o := _) rfl (fun K hK => ?_) AllReadyH.nil
          rw [if_pos (by rfl)]
          go_simp
          refine hK.out _ _ T9.out (fun hHeld => ?_)
          clear hK hHeld
          try simp only [Act.put, List.setIfInBounds_toArray]
          refine wpAnyH_done (by kernel_rfl) ?_ _
          go_wp2_with fail
          go_meet
          exact ⟨gx, rfl, rfl, T9.out, HG9.out⟩
        · rw [if_pos (by rfl)]
          refine wp_allocX 12 rfl rfl ?_
          have T1 := Lib.hid (T0.out.alloc T0.out.size (.cells (pcs (0, 0, 0, 0)) 23))
          have HG := Lib.hid (Blk.new (wr.drew) 23 (pcs (0, 0, 0, 0)))
          have hgx : wr.heap.size ≤ (wr.drew).heap.size := T0.out.size
          refine hK.out _ _ T1.out (fun hHeld => ?_)
          clear hK hHeld
          revert T1 HG hgx
          obtain ⟨gx, hg⟩ : ∃ g, g = (wr.drew).heap.size := ⟨_, rfl⟩
          obtain ⟨v1, hW⟩ : ∃ W, W = (wr.drew).alloc (.cells (pcs (0, 0, 0, 0)) 23) := ⟨_, rfl⟩
          rw [← hg, ← hW]
          clear hg hW
          intro T1 HG hgx
          try simp only [Act.put, List.setIfInBounds_toArray, List.set_cons_zero, List.set_cons_succ]
          refine wpAnyH_ready (rs := [7]) (by kernel_rfl) (by simp) ?_
          refine AllReadyH.cons (o := _) rfl (fun K hK => ?_) AllReadyH.nil
          go_simp
          go_at_call 28
          refine (rConvert_any a b (f0, f1, f2, f3) _ (HPA.out.below (HI.out.below T1.out).b) (HPB.out.below (HI.out.below T1.out).b)).mono ?_
          rintro e v2 ⟨rfl, hb⟩
          go_wp2_with fail
          have T2 := Lib.hid (T1.out.trans (hb.mono T1.out.size))
          have HQ := Lib.hid hb
          clear hb
          refine hK.out _ _ (T2.out) (fun hHeld => ?_)
          clear hK
          try simp only [Act.put, List.setIfInBounds_toArray, List.set_cons_zero, List.set_cons_succ]
          rw [HY.out, HZ.out]
          have HG := Lib.hid (HG.out.below HQ.out HG.out.lt)
          refine wpAnyH_take (i := 8) (oi := _) (v := .tuple #[.agg #[.int .i64 y0, .int .i64 y1, .int .i64 y2, .int .i64 y3], .int .i64 0]) rfl (by kernel_rfl) (by kernel_rfl) (by kernel_rfl) (fun _ _ _ h => h) (Or.inl ⟨by rfl, fun W1 hS => by go_simp⟩) (by assumption) ?_
          go_simp
          refine wpAnyH_take (i := 9) (oi := _) (v := .agg #[.int .i64 y0, .int .i64 y1, .int .i64 y2, .int .i64 y3]) rfl (by kernel_rfl) (by kernel_rfl) (by kernel_rfl) (fun _ _ _ h => h) (Or.inl ⟨by rfl, fun W1 hS => by go_simp⟩) (by assumption) ?_
          go_simp
          refine wpAnyH_take (i := 10) (oi := _) (v := .int .i64 0) rfl (by kernel_rfl) (by kernel_rfl) (by kernel_rfl) (fun _ _ _ h => h) (Or.inl ⟨by rfl, fun W1 hS => by go_simp⟩) (by assumption) ?_
          go_simp
          clear hHeld HQ
          refine wpAnyH_ready (rs := [12]) (by kernel_rfl) (by simp) ?_
          refine AllReadyH.cons (o := _) rfl (fun K hK => ?_) AllReadyH.nil
          rw [if_pos (by rfl)]
          refine wp_store_row 23 _ _ rfl gx (pcs (y0, y1, y2, y3)) rfl rfl 23 (pcs (0, 0, 0, 0)) HG.out (infoX _) rfl (pcs_one _) ?_
          have T9 := Lib.hid (Mat.below_setRow T2.out hgx (pcs (y0, y1, y2, y3)))
          have HG9 := Lib.hid (Blk.row HG.out (pcs (y0, y1, y2, y3)))
          clear HG
          refine hK.out _ _ (T9.out) (fun hHeld => ?_)
          clear hK
          try simp only [Act.put, List.setIfInBounds_toArray]
          clear hHeld
          refine wpAnyH_ready (rs := [13]) (by kernel_rfl) (by simp) ?_
          refine AllReadyH.cons (o := _) rfl (fun K hK => ?_) AllReadyH.nil
          rw [if_pos (by rfl)]
          go_simp
          refine hK.out _ _ T9.out (fun hHeld => ?_)
          clear hK hHeld
          try simp only [Act.put, List.setIfInBounds_toArray]
          refine wpAnyH_done (by kernel_rfl) ?_ _
          go_wp2_with fail
          go_meet
          exact ⟨gx, rfl, rfl, T9.out, HG9.out⟩
      case rest =>
        obtain ⟨gx, rfl, rfl, hbx, hgx⟩ := hcut
        have HI2 := Lib.hid (HI.out.below hbx)
        have hown := own_below HO.out hbx
        have hgx1 := hbx.size
        obtain ⟨i0, i1, i2, iff⟩ := blk3 (HI2.out.get 4 rfl)
        obtain ⟨c0, c1, c2, c3, cf⟩ := blk4 hgx
        obtain ⟨t0, hi0, hz0, hz1, hz2⟩ := info_parts infoP
        have HOW := Lib.hid hown
        clear hbx HI HO hown
        go_wp2_with (at_builtin; refine wpList_append_own _ rfl _ _ 37 rfl W3.heap.size 23 t0 (.agg #[.int .i64 0, .int .i64 0, .int .i64 0, .int .i64 0]) 4 32 Try.underlying37 hi0 hz0 hz1 hz2 rfl (by decide) _ _ _ rfl (HOW.out.alloc _) ⟨wc.heap.size, 0, none⟩ 1 1 [.int .i64 y0, .int .i64 y1, .int .i64 y2, .int .i64 y3] rfl rfl (World.news_of_block (Blk.new _ _ _)) ?c2 ?c3 ?c4 ?c5 ?_)
        case c2 => exact ⟨rfl, rfl, rfl, rfl⟩
        case c3 => unfold maxLen; omega
        case c4 => omega
        case c5 => omega
        intro v' w3 hown' hgrow _
        have hb3 := (Below.refl W3.heap.size (wc.alloc (.cells #[.int .i64 y0, .int .i64 y1, .int .i64 y2, .int .i64 y3] 23))).grown hgrow (by simp; omega) (own_low HOW.out)
        have hsz3 : W3.heap.size ≤ w3.heap.size := by have := hb3.size; simp at this; omega
        have hI3 := (HI2.out.below ((Below.refl _ _).alloc (Nat.le_refl _) (.cells #[.int .i64 y0, .int .i64 y1, .int .i64 y2, .int .i64 y3] 23))).lower hb3 (by omega) (by simp only [List.forall_mem_cons, List.not_mem_nil, false_implies, implies_true, and_true]; omega)
        rw [HNX.out] at hown'
        obtain ⟨A', cap', rfl, _⟩ := own_open hown'
        have HI3 := Lib.hid hI3
        have HO3 := Lib.hid hown'
        obtain ⟨i0, i1, i2, iff⟩ := blk3 (hI3.get 4 rfl)
        clear hb3 hI3 hgrow hown' HOW HI2 c0 c1 c2 c3 cf hgx
        go_wp2_with fail
        go_roundw
        case rel =>
          refine ⟨j + 1, .slice A' (j + 1) cap', by go_num, by omega, ?_, ?_, ?_⟩
          · rw [setCell_eq_setRow w3 gi 2 _ _ _ _ (HI3.out.get 4 rfl)]
            exact HI3.out.row 4 rfl (by omega) (by (intro j y hj hy; rcases j with _ | _ | _ | _ | _ | _ | j <;> first | exact absurd rfl hj | (simp only [List.getElem?_cons_zero, List.getElem?_cons_succ, Option.some.injEq] at hy; subst hy; dsimp only; omega) | (simp at hy; done))) #[.int .i64 x, .int .i64 y, .slice A' (j + 1) cap']
          · exact own_at HO3.out fun k hk => Below.heap_setCell _ _ _ _ (by have := own_low HO3.out k hk; simp only; omega)
          · simpa using hsz3
        case measure => simp [intOf]; omega
    · obtain rfl : j = n := by omega
      have hall : (px.map (cnvV a b)).take j = px.map (cnvV a b) := List.take_of_length_le (by rw [List.length_map, HN.out]; exact Nat.le_refl _)
      rw [hall] at hown
      obtain ⟨A', cap, rfl, hpr⟩ := pxr_of_own hown (by rw [List.length_map, HN.out])
      have HI := Lib.hid hb
      have HP := Lib.hid hpr
      obtain ⟨i0, i1, i2, iff⟩ := blk3 (hb.get 4 rfl)
      obtain ⟨c0, c1, c2, cf⟩ := blk3 (hb.get 3 rfl)
      have HA : Hid (New W3.heap.size A') := Lib.hid (own_new hown)
      clear hb hall hown hpr
      go_wp2_with fail
      rw [three_row (HI.out.get 3 rfl)]
      have HB5 := Lib.hid (HI.out.row 3 rfl (by omega) (by (intro j y hj hy; rcases j with _ | _ | _ | _ | _ | _ | j <;> first | exact absurd rfl hj | (simp only [List.getElem?_cons_zero, List.getElem?_cons_succ, Option.some.injEq] at hy; subst hy; dsimp only; omega) | (simp at hy; done))) (ics x y A' j cap))
      have HR5 := Lib.hid (PxR.setRow HP.out HA.out (g := w.heap.size + 1 + 1 + 1) (by omega) (ics x y A' j cap))
      refine bodyPost_ret (v := .tuple #[.agg (ics x y A' j cap), .int .i64 0]) (results_row_tmp rfl _ _ (w.heap.size + 1 + 1 + 1) 39 (ics x y A' j cap) _ rfl _ rfl (HB5.out.get 3 rfl) Try.underlying39 rfl (infoI _ _ _ _ _)) rfl ?_
      exact IgC.yes (igErr_b HZ.out HU.out) HN.out.symm HR5.out HB5.out.b

end Go.Proofs.Ytcighjeiimjbiaa.Pro

/- ProZa: Layer 9, both sides: the standard profiles. -/
namespace Go.Proofs.Ytcighjeiimjbiaa.Pro
open Go.RowKit Go.Proofs.Ytcighjeiimjbiaa Go.Proofs.Ytcighjeiimjbiaa.NumPure
open Go.Proofs.Ytcighjeiimjbiaa.Mat (al ac invM invX appM info9 info3 sameM same_lit)

def lI (l : List Int) : Nat → Int := fun n => l.getD n 0
set_option maxHeartbeats 1000000 in
theorem rsame_any (w : World) : Calls Try.prog 40 #[] w fun e w' => e = .returned (.agg (ac 9 sameM)) ∧ Below w.heap.size w w' := by
  go_enter Try.func40, Try.ntmps40
  go_wp2_with (first
    | (refine Mat.wpList_alloc9 rfl rfl ?_)
    | (refine wpList_buildC (cs := ac 9 sameM) (T := 25) rfl _ rfl (by kernel_rfl) ?_)
    | (refine wpList_store_row rfl _ _ _ rfl w.heap.size (ac 9 sameM) rfl rfl 25 (ac 9 fun _ => 0) (heap_alloc_new _ _) info9 Mat.ac_same (Mat.ac_one 9 _) ?_))
  refine bodyPost_ret (v := .agg (ac 9 sameM)) (results_cell_row rfl _ _ w.heap.size 25 (ac 9 sameM) (0, 0) _ rfl (setRow_heap _ _ (ac 9 fun _ => 0) _ _ _ (heap_alloc_new _ _)) Try.underlying25 rfl info9) rfl ?_
  exact ⟨rfl, Mat.below_setRow ((Below.refl _ _).alloc (Nat.le_refl _) _) (Nat.le_refl _) _⟩
def Pf.zero : Pf := ⟨⟨#[]⟩, none, 0, [], fun _ => 0⟩
theorem runP (w : World) : (Instr.alloc 27 true (.tuple #[])).run Try.prog w = .ok (.pointer (some ⟨w.heap.size, 0, none⟩)) (w.alloc (.cells Pf.zero.cells 27)) := by kernel_rfl
theorem builtP (p : Pf) : Try.prog.built 27 [(0, .string p.nm), (1, .slice p.A p.k.length p.c), (2, .agg (ac 9 p.m))] = some p.cells := by kernel_rfl
theorem builtP0 : Try.prog.built 27 [] = some Pf.zero.cells := by kernel_rfl
theorem wpList_buildP {ops : Array Oper} {rest : List Oper} {o : Oper} {a : Act} {w : World} {Q : Exit → Act → World → Prop} (hg : o.guard = none) (x y z : Operand) (ho : o.op = .build 27 #[(0, x), (1, y), (2, z)]) (p : Pf)
    (hx : a.eval x = .string p.nm) (hy : a.eval y = .slice p.A p.k.length p.c) (hz : a.eval z = .agg (ac 9 p.m)) (h : wpList Try.prog ops Q rest (a.put o.dst p.val) w) : wpList Try.prog ops Q (o :: rest) a w := by
  refine wpList_buildC (cs := p.cells) hg _ ho ?_ h
  simp only [List.map_toArray, List.map_cons, List.map_nil, hx, hy, hz]
  exact builtP p
theorem New.of_le {B B' : Nat} {A : Option Addr} (h : New B A) (hb : B' ≤ B) : New B' A := fun ad e => Nat.le_trans hb (h ad e)
theorem intr_blk {w : World} {g : Nat} {xs : List Int} (h : Blk w g 3 (xs.map (Value.int .i64)).toArray) : IntR w (some ⟨g, 0, none⟩) xs :=
  ⟨by simp, fun _ => ⟨_, rfl, h.lt, fun i u hu => (World.news_of_block h) i u (by simpa using hu)⟩⟩
/-- A profile that is returned, with an error. -/
def StC (nm : ByteArray) (k : List K2) (m : Nat → Int) (z : Int) (w : World) (e : Ending) (w' : World) : Prop := ∃ A c, e = .returned (.tuple #[(Pf.mk nm A c k m).val, .int .i64 z]) ∧ KnR w' A k ∧ Below w.heap.size w w'
theorem StC.mk (p : Pf) {z : Int} {w w' : World} (hk : KnR w' p.A p.k) (hb : Below w.heap.size w w') : StC p.nm p.k p.m z w (.returned (.tuple #[.agg p.cells, .int .i64 z])) w' := ⟨p.A, p.c, rfl, hk, hb⟩
def stN0 : ByteArray := ⟨#[108, 105, 110, 101, 97, 114]⟩
def stK0 : List K2 := [(0, 0), (65535, 65535)]
def stM0 : Nat → Int := sameM
def stN1 : ByteArray := ⟨#[115, 114, 103, 98]⟩
def stK1 : List K2 := [(0, 0), (2621, 203), (6554, 657), (13107, 2170), (19661, 4800), (26214, 8708), (32768, 14027), (39321, 20876), (45875, 29359), (52428, 39572), (58982, 51603), (65535, 65535)]
def stM1 : Nat → Int := lI [27031, 23434, 11825, 13938, 46868, 4730, 1267, 7811, 62279]
def stN2 : ByteArray := ⟨#[119, 105, 100, 101]⟩
def stK2 : List K2 := [(0, 0), (8192, 676), (16384, 3104), (24576, 7574), (32768, 14263), (40960, 23302), (49152, 34803), (57344, 48853), (65535, 65535)]
def stM2 : Nat → Int := lI [37797, 12160, 12333, 19489, 41114, 4933, 1772, 4633, 64953]
def stN3 : ByteArray := ⟨#[119, 97, 114, 109]⟩
def stK3 : List K2 := [(0, 0), (16384, 8192), (32768, 24576), (65535, 65535)]
def stM3 : Nat → Int := lI [60000, 5000, 536, 2000, 62000, 1536, 0, 4000, 61536]
set_option maxRecDepth 100000 in
set_option maxHeartbeats 8000000 in
theorem Standard_0 (w : World) : Calls Try.prog 10 #[.int .i64 0] w (StC stN0 stK0 stM0 0 w) := by
  obtain ⟨xs, hxs⟩ : ∃ xs : List Int, xs = [0, 0, 65535, 65535] := ⟨_, rfl⟩
  have hl : xs.length = 4 := by rw [hxs]; rfl
  have hp : pairs xs = stK0 := by rw [hxs]; rfl
  have C1 := fun W (h : IntR W (some ⟨w.heap.size + 1, 0, none⟩) xs) => knots_any (some ⟨w.heap.size + 1, 0, none⟩) xs 4 W h (by rw [hl]; decide)
  rw [hl] at C1
  have HC := Lib.hid C1
  have HP := Lib.hid hp
  have HX := Lib.hid hxs
  have hsz : (w.alloc (.cells Pf.zero.cells 27)).heap.size = w.heap.size + 1 := (size_alloc1 _ _).symm
  have hB := (Bn.one w 27 Pf.zero.cells).push _ (size_alloc1 _ _) 3 (xs.map (Value.int .i64)).toArray
  have HB : Hid (Bn w _ [(w.heap.size, 27, Pf.zero.cells), (w.heap.size + 1, 3, (xs.map (Value.int .i64)).toArray)]) := Lib.hid hB
  clear C1 hp hxs hl hB
  go_enter Try.func10, Try.ntmps10
  go_wp2_with (first
    | (refine wpList_allocC runP rfl rfl ?_)
    | (refine wpList_buildFlatAt rfl 67 3 4 _ rfl .i64 xs (w.heap.size + 1) hsz _ rfl Try.underlying67 (by kernel_rfl) (by kernel_rfl) (by rw [HX.out]; rfl) (by decide) (by decide) (by rw [HX.out]; rfl) ?_))
  clear hsz
  refine (HC.out _ (intr_blk (HB.out.get 1 rfl))).mono ?_
  rintro e w1 ⟨A, c, rfl, hk, hnw, hb⟩
  rw [HP.out] at hk ⊢
  have HB1 := Lib.hid (HB.out.below hb)
  have HK := Lib.hid hk
  have HNW : Hid (New (w.heap.size + 1) A) := Lib.hid (hnw.of_le (by rw [← size_alloc2]; omega))
  clear hb hk hnw HB HC HP HX
  go_wp2_with fail
  refine (Mat.same_any _).mono ?_
  rintro e w2 ⟨rfl, hb⟩
  have HB2 := Lib.hid (HB1.out.below hb)
  have HK2 := Lib.hid (HK.out.below hb)
  clear hb HB1 HK
  go_wp2_with (first
    | (refine wpList_buildP rfl _ _ _ rfl (Pf.mk stN0 A c stK0 stM0) rfl rfl rfl ?_)
    | (refine wpList_store_row rfl _ _ _ rfl w.heap.size (Pf.mk stN0 A c stK0 stM0).cells rfl rfl 27 Pf.zero.cells (HB2.out.get 0 rfl) (Pf.info _) (by rw [Pf.size, Pf.size]) (Pf.one _) ?_))
  have HB9 := Lib.hid (HB2.out.row 0 rfl (Nat.le_refl _) (by (intro j y hj hy; rcases j with _ | _ | _ | _ | _ | _ | j <;> first | exact absurd rfl hj | (simp only [List.getElem?_cons_zero, List.getElem?_cons_succ, Option.some.injEq] at hy; subst hy; dsimp only; omega) | (simp at hy; done))) (Pf.mk stN0 A c stK0 stM0).cells)
  have HK9 := Lib.hid (KnR.setRow (g := w.heap.size) HK2.out HNW.out (by omega) (Pf.mk stN0 A c stK0 stM0).cells)
  refine bodyPost_ret (v := .tuple #[.agg (Pf.mk stN0 A c stK0 stM0).cells, .int .i64 0]) (results_row_tmp rfl _ _ w.heap.size 27 (Pf.mk stN0 A c stK0 stM0).cells _ rfl _ rfl (HB9.out.get 0 rfl) Try.underlying27 rfl (Pf.info _)) rfl ?_
  exact StC.mk (Pf.mk stN0 A c stK0 stM0) HK9.out HB9.out.b

set_option maxRecDepth 100000 in
set_option maxHeartbeats 8000000 in
theorem rStandard_0 (w : World) : Calls Try.prog 18 #[.int .i64 0] w (StC stN0 stK0 stM0 0 w) := by
  obtain ⟨xs, hxs⟩ : ∃ xs : List Int, xs = [0, 0, 65535, 65535] := ⟨_, rfl⟩
  have hl : xs.length = 4 := by rw [hxs]; rfl
  have hp : pairs xs = stK0 := by rw [hxs]; rfl
  have C1 := fun W (h : IntR W (some ⟨w.heap.size + 1, 0, none⟩) xs) => rknots_any (some ⟨w.heap.size + 1, 0, none⟩) xs 4 W h (by rw [hl]; decide)
  rw [hl] at C1
  have HC := Lib.hid C1
  have HP := Lib.hid hp
  have HX := Lib.hid hxs
  have hsz : (w.alloc (.cells Pf.zero.cells 27)).heap.size = w.heap.size + 1 := (size_alloc1 _ _).symm
  have hB := (Bn.one w 27 Pf.zero.cells).push _ (size_alloc1 _ _) 3 (xs.map (Value.int .i64)).toArray
  have HB : Hid (Bn w _ [(w.heap.size, 27, Pf.zero.cells), (w.heap.size + 1, 3, (xs.map (Value.int .i64)).toArray)]) := Lib.hid hB
  clear C1 hp hxs hl hB
  go_enter Try.func18, Try.ntmps18
  go_wp2_with (first
    | (refine wpList_allocC runP rfl rfl ?_)
    | (refine wpList_buildFlatAt rfl 67 3 4 _ rfl .i64 xs (w.heap.size + 1) hsz _ rfl Try.underlying67 (by kernel_rfl) (by kernel_rfl) (by rw [HX.out]; rfl) (by decide) (by decide) (by rw [HX.out]; rfl) ?_))
  clear hsz
  refine (HC.out _ (intr_blk (HB.out.get 1 rfl))).mono ?_
  rintro e w1 ⟨A, c, rfl, hk, hnw, hb⟩
  rw [HP.out] at hk ⊢
  have HB1 := Lib.hid (HB.out.below hb)
  have HK := Lib.hid hk
  have HNW : Hid (New (w.heap.size + 1) A) := Lib.hid (hnw.of_le (by rw [← size_alloc2]; omega))
  clear hb hk hnw HB HC HP HX
  go_wp2_with fail
  refine (rsame_any _).mono ?_
  rintro e w2 ⟨rfl, hb⟩
  have HB2 := Lib.hid (HB1.out.below hb)
  have HK2 := Lib.hid (HK.out.below hb)
  clear hb HB1 HK
  go_wp2_with (first
    | (refine wpList_buildP rfl _ _ _ rfl (Pf.mk stN0 A c stK0 stM0) rfl rfl rfl ?_)
    | (refine wpList_store_row rfl _ _ _ rfl w.heap.size (Pf.mk stN0 A c stK0 stM0).cells rfl rfl 27 Pf.zero.cells (HB2.out.get 0 rfl) (Pf.info _) (by rw [Pf.size, Pf.size]) (Pf.one _) ?_))
  have HB9 := Lib.hid (HB2.out.row 0 rfl (Nat.le_refl _) (by (intro j y hj hy; rcases j with _ | _ | _ | _ | _ | _ | j <;> first | exact absurd rfl hj | (simp only [List.getElem?_cons_zero, List.getElem?_cons_succ, Option.some.injEq] at hy; subst hy; dsimp only; omega) | (simp at hy; done))) (Pf.mk stN0 A c stK0 stM0).cells)
  have HK9 := Lib.hid (KnR.setRow (g := w.heap.size) HK2.out HNW.out (by omega) (Pf.mk stN0 A c stK0 stM0).cells)
  refine bodyPost_ret (v := .tuple #[.agg (Pf.mk stN0 A c stK0 stM0).cells, .int .i64 0]) (results_row_tmp rfl _ _ w.heap.size 27 (Pf.mk stN0 A c stK0 stM0).cells _ rfl _ rfl (HB9.out.get 0 rfl) Try.underlying27 rfl (Pf.info _)) rfl ?_
  exact StC.mk (Pf.mk stN0 A c stK0 stM0) HK9.out HB9.out.b

set_option maxRecDepth 100000 in
set_option maxHeartbeats 8000000 in
theorem Standard_1 (w : World) : Calls Try.prog 10 #[.int .i64 1] w (StC stN1 stK1 stM1 0 w) := by
  obtain ⟨xs, hxs⟩ : ∃ xs : List Int, xs = [0, 0, 2621, 203, 6554, 657, 13107, 2170, 19661, 4800, 26214, 8708, 32768, 14027, 39321, 20876, 45875, 29359, 52428, 39572, 58982, 51603, 65535, 65535] := ⟨_, rfl⟩
  have hl : xs.length = 24 := by rw [hxs]; rfl
  have hp : pairs xs = stK1 := by rw [hxs]; rfl
  have C1 := fun W (h : IntR W (some ⟨w.heap.size + 1, 0, none⟩) xs) => knots_any (some ⟨w.heap.size + 1, 0, none⟩) xs 24 W h (by rw [hl]; decide)
  rw [hl] at C1
  have HC := Lib.hid C1
  have HP := Lib.hid hp
  have HX := Lib.hid hxs
  have hsz : (w.alloc (.cells Pf.zero.cells 27)).heap.size = w.heap.size + 1 := (size_alloc1 _ _).symm
  have hB := (Bn.one w 27 Pf.zero.cells).push _ (size_alloc1 _ _) 3 (xs.map (Value.int .i64)).toArray
  have HB : Hid (Bn w _ [(w.heap.size, 27, Pf.zero.cells), (w.heap.size + 1, 3, (xs.map (Value.int .i64)).toArray)]) := Lib.hid hB
  clear C1 hp hxs hl hB
  go_enter Try.func10, Try.ntmps10
  go_wp2_with (first
    | (refine wpList_allocC runP rfl rfl ?_)
    | (refine wpList_buildFlatAt rfl 67 3 24 _ rfl .i64 xs (w.heap.size + 1) hsz _ rfl Try.underlying67 (by kernel_rfl) (by kernel_rfl) (by rw [HX.out]; rfl) (by decide) (by decide) (by rw [HX.out]; rfl) ?_))
  clear hsz
  refine (HC.out _ (intr_blk (HB.out.get 1 rfl))).mono ?_
  rintro e w1 ⟨A, c, rfl, hk, hnw, hb⟩
  rw [HP.out] at hk ⊢
  have HB1 := Lib.hid (HB.out.below hb)
  have HK := Lib.hid hk
  have HNW : Hid (New (w.heap.size + 1) A) := Lib.hid (hnw.of_le (by rw [← size_alloc2]; omega))
  clear hb hk hnw HB HC HP HX
  go_wp2_with (first
    | (refine wpList_buildC (cs := ac 9 stM1) (T := 25) rfl _ rfl (by kernel_rfl) ?_)
    | (refine wpList_buildP rfl _ _ _ rfl (Pf.mk stN1 A c stK1 stM1) rfl rfl rfl ?_)
    | (refine wpList_store_row rfl _ _ _ rfl w.heap.size (Pf.mk stN1 A c stK1 stM1).cells rfl rfl 27 Pf.zero.cells (HB1.out.get 0 rfl) (Pf.info _) (by rw [Pf.size, Pf.size]) (Pf.one _) ?_))
  have HB9 := Lib.hid (HB1.out.row 0 rfl (Nat.le_refl _) (by (intro j y hj hy; rcases j with _ | _ | _ | _ | _ | _ | j <;> first | exact absurd rfl hj | (simp only [List.getElem?_cons_zero, List.getElem?_cons_succ, Option.some.injEq] at hy; subst hy; dsimp only; omega) | (simp at hy; done))) (Pf.mk stN1 A c stK1 stM1).cells)
  have HK9 := Lib.hid (KnR.setRow (g := w.heap.size) HK.out HNW.out (by omega) (Pf.mk stN1 A c stK1 stM1).cells)
  refine bodyPost_ret (v := .tuple #[.agg (Pf.mk stN1 A c stK1 stM1).cells, .int .i64 0]) (results_row_tmp rfl _ _ w.heap.size 27 (Pf.mk stN1 A c stK1 stM1).cells _ rfl _ rfl (HB9.out.get 0 rfl) Try.underlying27 rfl (Pf.info _)) rfl ?_
  exact StC.mk (Pf.mk stN1 A c stK1 stM1) HK9.out HB9.out.b

set_option maxRecDepth 100000 in
set_option maxHeartbeats 8000000 in
theorem rStandard_1 (w : World) : Calls Try.prog 18 #[.int .i64 1] w (StC stN1 stK1 stM1 0 w) := by
  obtain ⟨xs, hxs⟩ : ∃ xs : List Int, xs = [0, 0, 2621, 203, 6554, 657, 13107, 2170, 19661, 4800, 26214, 8708, 32768, 14027, 39321, 20876, 45875, 29359, 52428, 39572, 58982, 51603, 65535, 65535] := ⟨_, rfl⟩
  have hl : xs.length = 24 := by rw [hxs]; rfl
  have hp : pairs xs = stK1 := by rw [hxs]; rfl
  have C1 := fun W (h : IntR W (some ⟨w.heap.size + 1, 0, none⟩) xs) => rknots_any (some ⟨w.heap.size + 1, 0, none⟩) xs 24 W h (by rw [hl]; decide)
  rw [hl] at C1
  have HC := Lib.hid C1
  have HP := Lib.hid hp
  have HX := Lib.hid hxs
  have hsz : (w.alloc (.cells Pf.zero.cells 27)).heap.size = w.heap.size + 1 := (size_alloc1 _ _).symm
  have hB := (Bn.one w 27 Pf.zero.cells).push _ (size_alloc1 _ _) 3 (xs.map (Value.int .i64)).toArray
  have HB : Hid (Bn w _ [(w.heap.size, 27, Pf.zero.cells), (w.heap.size + 1, 3, (xs.map (Value.int .i64)).toArray)]) := Lib.hid hB
  clear C1 hp hxs hl hB
  go_enter Try.func18, Try.ntmps18
  go_wp2_with (first
    | (refine wpList_allocC runP rfl rfl ?_)
    | (refine wpList_buildFlatAt rfl 67 3 24 _ rfl .i64 xs (w.heap.size + 1) hsz _ rfl Try.underlying67 (by kernel_rfl) (by kernel_rfl) (by rw [HX.out]; rfl) (by decide) (by decide) (by rw [HX.out]; rfl) ?_))
  clear hsz
  refine (HC.out _ (intr_blk (HB.out.get 1 rfl))).mono ?_
  rintro e w1 ⟨A, c, rfl, hk, hnw, hb⟩
  rw [HP.out] at hk ⊢
  have HB1 := Lib.hid (HB.out.below hb)
  have HK := Lib.hid hk
  have HNW : Hid (New (w.heap.size + 1) A) := Lib.hid (hnw.of_le (by rw [← size_alloc2]; omega))
  clear hb hk hnw HB HC HP HX
  go_wp2_with (first
    | (refine wpList_buildC (cs := ac 9 stM1) (T := 25) rfl _ rfl (by kernel_rfl) ?_)
    | (refine wpList_buildP rfl _ _ _ rfl (Pf.mk stN1 A c stK1 stM1) rfl rfl rfl ?_)
    | (refine wpList_store_row rfl _ _ _ rfl w.heap.size (Pf.mk stN1 A c stK1 stM1).cells rfl rfl 27 Pf.zero.cells (HB1.out.get 0 rfl) (Pf.info _) (by rw [Pf.size, Pf.size]) (Pf.one _) ?_))
  have HB9 := Lib.hid (HB1.out.row 0 rfl (Nat.le_refl _) (by (intro j y hj hy; rcases j with _ | _ | _ | _ | _ | _ | j <;> first | exact absurd rfl hj | (simp only [List.getElem?_cons_zero, List.getElem?_cons_succ, Option.some.injEq] at hy; subst hy; dsimp only; omega) | (simp at hy; done))) (Pf.mk stN1 A c stK1 stM1).cells)
  have HK9 := Lib.hid (KnR.setRow (g := w.heap.size) HK.out HNW.out (by omega) (Pf.mk stN1 A c stK1 stM1).cells)
  refine bodyPost_ret (v := .tuple #[.agg (Pf.mk stN1 A c stK1 stM1).cells, .int .i64 0]) (results_row_tmp rfl _ _ w.heap.size 27 (Pf.mk stN1 A c stK1 stM1).cells _ rfl _ rfl (HB9.out.get 0 rfl) Try.underlying27 rfl (Pf.info _)) rfl ?_
  exact StC.mk (Pf.mk stN1 A c stK1 stM1) HK9.out HB9.out.b

set_option maxRecDepth 100000 in
set_option maxHeartbeats 8000000 in
theorem Standard_2 (w : World) : Calls Try.prog 10 #[.int .i64 2] w (StC stN2 stK2 stM2 0 w) := by
  obtain ⟨xs, hxs⟩ : ∃ xs : List Int, xs = [0, 0, 8192, 676, 16384, 3104, 24576, 7574, 32768, 14263, 40960, 23302, 49152, 34803, 57344, 48853, 65535, 65535] := ⟨_, rfl⟩
  have hl : xs.length = 18 := by rw [hxs]; rfl
  have hp : pairs xs = stK2 := by rw [hxs]; rfl
  have C1 := fun W (h : IntR W (some ⟨w.heap.size + 1, 0, none⟩) xs) => knots_any (some ⟨w.heap.size + 1, 0, none⟩) xs 18 W h (by rw [hl]; decide)
  rw [hl] at C1
  have HC := Lib.hid C1
  have HP := Lib.hid hp
  have HX := Lib.hid hxs
  have hsz : (w.alloc (.cells Pf.zero.cells 27)).heap.size = w.heap.size + 1 := (size_alloc1 _ _).symm
  have hB := (Bn.one w 27 Pf.zero.cells).push _ (size_alloc1 _ _) 3 (xs.map (Value.int .i64)).toArray
  have HB : Hid (Bn w _ [(w.heap.size, 27, Pf.zero.cells), (w.heap.size + 1, 3, (xs.map (Value.int .i64)).toArray)]) := Lib.hid hB
  clear C1 hp hxs hl hB
  go_enter Try.func10, Try.ntmps10
  go_wp2_with (first
    | (refine wpList_allocC runP rfl rfl ?_)
    | (refine wpList_buildFlatAt rfl 67 3 18 _ rfl .i64 xs (w.heap.size + 1) hsz _ rfl Try.underlying67 (by kernel_rfl) (by kernel_rfl) (by rw [HX.out]; rfl) (by decide) (by decide) (by rw [HX.out]; rfl) ?_))
  clear hsz
  refine (HC.out _ (intr_blk (HB.out.get 1 rfl))).mono ?_
  rintro e w1 ⟨A, c, rfl, hk, hnw, hb⟩
  rw [HP.out] at hk ⊢
  have HB1 := Lib.hid (HB.out.below hb)
  have HK := Lib.hid hk
  have HNW : Hid (New (w.heap.size + 1) A) := Lib.hid (hnw.of_le (by rw [← size_alloc2]; omega))
  clear hb hk hnw HB HC HP HX
  go_wp2_with (first
    | (refine wpList_buildC (cs := ac 9 stM2) (T := 25) rfl _ rfl (by kernel_rfl) ?_)
    | (refine wpList_buildP rfl _ _ _ rfl (Pf.mk stN2 A c stK2 stM2) rfl rfl rfl ?_)
    | (refine wpList_store_row rfl _ _ _ rfl w.heap.size (Pf.mk stN2 A c stK2 stM2).cells rfl rfl 27 Pf.zero.cells (HB1.out.get 0 rfl) (Pf.info _) (by rw [Pf.size, Pf.size]) (Pf.one _) ?_))
  have HB9 := Lib.hid (HB1.out.row 0 rfl (Nat.le_refl _) (by (intro j y hj hy; rcases j with _ | _ | _ | _ | _ | _ | j <;> first | exact absurd rfl hj | (simp only [List.getElem?_cons_zero, List.getElem?_cons_succ, Option.some.injEq] at hy; subst hy; dsimp only; omega) | (simp at hy; done))) (Pf.mk stN2 A c stK2 stM2).cells)
  have HK9 := Lib.hid (KnR.setRow (g := w.heap.size) HK.out HNW.out (by omega) (Pf.mk stN2 A c stK2 stM2).cells)
  refine bodyPost_ret (v := .tuple #[.agg (Pf.mk stN2 A c stK2 stM2).cells, .int .i64 0]) (results_row_tmp rfl _ _ w.heap.size 27 (Pf.mk stN2 A c stK2 stM2).cells _ rfl _ rfl (HB9.out.get 0 rfl) Try.underlying27 rfl (Pf.info _)) rfl ?_
  exact StC.mk (Pf.mk stN2 A c stK2 stM2) HK9.out HB9.out.b

set_option maxRecDepth 100000 in
set_option maxHeartbeats 8000000 in
theorem rStandard_2 (w : World) : Calls Try.prog 18 #[.int .i64 2] w (StC stN2 stK2 stM2 0 w) := by
  obtain ⟨xs, hxs⟩ : ∃ xs : List Int, xs = [0, 0, 8192, 676, 16384, 3104, 24576, 7574, 32768, 14263, 40960, 23302, 49152, 34803, 57344, 48853, 65535, 65535] := ⟨_, rfl⟩
  have hl : xs.length = 18 := by rw [hxs]; rfl
  have hp : pairs xs = stK2 := by rw [hxs]; rfl
  have C1 := fun W (h : IntR W (some ⟨w.heap.size + 1, 0, none⟩) xs) => rknots_any (some ⟨w.heap.size + 1, 0, none⟩) xs 18 W h (by rw [hl]; decide)
  rw [hl] at C1
  have HC := Lib.hid C1
  have HP := Lib.hid hp
  have HX := Lib.hid hxs
  have hsz : (w.alloc (.cells Pf.zero.cells 27)).heap.size = w.heap.size + 1 := (size_alloc1 _ _).symm
  have hB := (Bn.one w 27 Pf.zero.cells).push _ (size_alloc1 _ _) 3 (xs.map (Value.int .i64)).toArray
  have HB : Hid (Bn w _ [(w.heap.size, 27, Pf.zero.cells), (w.heap.size + 1, 3, (xs.map (Value.int .i64)).toArray)]) := Lib.hid hB
  clear C1 hp hxs hl hB
  go_enter Try.func18, Try.ntmps18
  go_wp2_with (first
    | (refine wpList_allocC runP rfl rfl ?_)
    | (refine wpList_buildFlatAt rfl 67 3 18 _ rfl .i64 xs (w.heap.size + 1) hsz _ rfl Try.underlying67 (by kernel_rfl) (by kernel_rfl) (by rw [HX.out]; rfl) (by decide) (by decide) (by rw [HX.out]; rfl) ?_))
  clear hsz
  refine (HC.out _ (intr_blk (HB.out.get 1 rfl))).mono ?_
  rintro e w1 ⟨A, c, rfl, hk, hnw, hb⟩
  rw [HP.out] at hk ⊢
  have HB1 := Lib.hid (HB.out.below hb)
  have HK := Lib.hid hk
  have HNW : Hid (New (w.heap.size + 1) A) := Lib.hid (hnw.of_le (by rw [← size_alloc2]; omega))
  clear hb hk hnw HB HC HP HX
  go_wp2_with (first
    | (refine wpList_buildC (cs := ac 9 stM2) (T := 25) rfl _ rfl (by kernel_rfl) ?_)
    | (refine wpList_buildP rfl _ _ _ rfl (Pf.mk stN2 A c stK2 stM2) rfl rfl rfl ?_)
    | (refine wpList_store_row rfl _ _ _ rfl w.heap.size (Pf.mk stN2 A c stK2 stM2).cells rfl rfl 27 Pf.zero.cells (HB1.out.get 0 rfl) (Pf.info _) (by rw [Pf.size, Pf.size]) (Pf.one _) ?_))
  have HB9 := Lib.hid (HB1.out.row 0 rfl (Nat.le_refl _) (by (intro j y hj hy; rcases j with _ | _ | _ | _ | _ | _ | j <;> first | exact absurd rfl hj | (simp only [List.getElem?_cons_zero, List.getElem?_cons_succ, Option.some.injEq] at hy; subst hy; dsimp only; omega) | (simp at hy; done))) (Pf.mk stN2 A c stK2 stM2).cells)
  have HK9 := Lib.hid (KnR.setRow (g := w.heap.size) HK.out HNW.out (by omega) (Pf.mk stN2 A c stK2 stM2).cells)
  refine bodyPost_ret (v := .tuple #[.agg (Pf.mk stN2 A c stK2 stM2).cells, .int .i64 0]) (results_row_tmp rfl _ _ w.heap.size 27 (Pf.mk stN2 A c stK2 stM2).cells _ rfl _ rfl (HB9.out.get 0 rfl) Try.underlying27 rfl (Pf.info _)) rfl ?_
  exact StC.mk (Pf.mk stN2 A c stK2 stM2) HK9.out HB9.out.b

set_option maxRecDepth 100000 in
set_option maxHeartbeats 8000000 in
theorem Standard_3 (w : World) : Calls Try.prog 10 #[.int .i64 3] w (StC stN3 stK3 stM3 0 w) := by
  obtain ⟨xs, hxs⟩ : ∃ xs : List Int, xs = [0, 0, 16384, 8192, 32768, 24576, 65535, 65535] := ⟨_, rfl⟩
  have hl : xs.length = 8 := by rw [hxs]; rfl
  have hp : pairs xs = stK3 := by rw [hxs]; rfl
  have C1 := fun W (h : IntR W (some ⟨w.heap.size + 1, 0, none⟩) xs) => knots_any (some ⟨w.heap.size + 1, 0, none⟩) xs 8 W h (by rw [hl]; decide)
  rw [hl] at C1
  have HC := Lib.hid C1
  have HP := Lib.hid hp
  have HX := Lib.hid hxs
  have hsz : (w.alloc (.cells Pf.zero.cells 27)).heap.size = w.heap.size + 1 := (size_alloc1 _ _).symm
  have hB := (Bn.one w 27 Pf.zero.cells).push _ (size_alloc1 _ _) 3 (xs.map (Value.int .i64)).toArray
  have HB : Hid (Bn w _ [(w.heap.size, 27, Pf.zero.cells), (w.heap.size + 1, 3, (xs.map (Value.int .i64)).toArray)]) := Lib.hid hB
  clear C1 hp hxs hl hB
  go_enter Try.func10, Try.ntmps10
  go_wp2_with (first
    | (refine wpList_allocC runP rfl rfl ?_)
    | (refine wpList_buildFlatAt rfl 67 3 8 _ rfl .i64 xs (w.heap.size + 1) hsz _ rfl Try.underlying67 (by kernel_rfl) (by kernel_rfl) (by rw [HX.out]; rfl) (by decide) (by decide) (by rw [HX.out]; rfl) ?_))
  clear hsz
  refine (HC.out _ (intr_blk (HB.out.get 1 rfl))).mono ?_
  rintro e w1 ⟨A, c, rfl, hk, hnw, hb⟩
  rw [HP.out] at hk ⊢
  have HB1 := Lib.hid (HB.out.below hb)
  have HK := Lib.hid hk
  have HNW : Hid (New (w.heap.size + 1) A) := Lib.hid (hnw.of_le (by rw [← size_alloc2]; omega))
  clear hb hk hnw HB HC HP HX
  go_wp2_with (first
    | (refine wpList_buildC (cs := ac 9 stM3) (T := 25) rfl _ rfl (by kernel_rfl) ?_)
    | (refine wpList_buildP rfl _ _ _ rfl (Pf.mk stN3 A c stK3 stM3) rfl rfl rfl ?_)
    | (refine wpList_store_row rfl _ _ _ rfl w.heap.size (Pf.mk stN3 A c stK3 stM3).cells rfl rfl 27 Pf.zero.cells (HB1.out.get 0 rfl) (Pf.info _) (by rw [Pf.size, Pf.size]) (Pf.one _) ?_))
  have HB9 := Lib.hid (HB1.out.row 0 rfl (Nat.le_refl _) (by (intro j y hj hy; rcases j with _ | _ | _ | _ | _ | _ | j <;> first | exact absurd rfl hj | (simp only [List.getElem?_cons_zero, List.getElem?_cons_succ, Option.some.injEq] at hy; subst hy; dsimp only; omega) | (simp at hy; done))) (Pf.mk stN3 A c stK3 stM3).cells)
  have HK9 := Lib.hid (KnR.setRow (g := w.heap.size) HK.out HNW.out (by omega) (Pf.mk stN3 A c stK3 stM3).cells)
  refine bodyPost_ret (v := .tuple #[.agg (Pf.mk stN3 A c stK3 stM3).cells, .int .i64 0]) (results_row_tmp rfl _ _ w.heap.size 27 (Pf.mk stN3 A c stK3 stM3).cells _ rfl _ rfl (HB9.out.get 0 rfl) Try.underlying27 rfl (Pf.info _)) rfl ?_
  exact StC.mk (Pf.mk stN3 A c stK3 stM3) HK9.out HB9.out.b

set_option maxRecDepth 100000 in
set_option maxHeartbeats 8000000 in
theorem rStandard_3 (w : World) : Calls Try.prog 18 #[.int .i64 3] w (StC stN3 stK3 stM3 0 w) := by
  obtain ⟨xs, hxs⟩ : ∃ xs : List Int, xs = [0, 0, 16384, 8192, 32768, 24576, 65535, 65535] := ⟨_, rfl⟩
  have hl : xs.length = 8 := by rw [hxs]; rfl
  have hp : pairs xs = stK3 := by rw [hxs]; rfl
  have C1 := fun W (h : IntR W (some ⟨w.heap.size + 1, 0, none⟩) xs) => rknots_any (some ⟨w.heap.size + 1, 0, none⟩) xs 8 W h (by rw [hl]; decide)
  rw [hl] at C1
  have HC := Lib.hid C1
  have HP := Lib.hid hp
  have HX := Lib.hid hxs
  have hsz : (w.alloc (.cells Pf.zero.cells 27)).heap.size = w.heap.size + 1 := (size_alloc1 _ _).symm
  have hB := (Bn.one w 27 Pf.zero.cells).push _ (size_alloc1 _ _) 3 (xs.map (Value.int .i64)).toArray
  have HB : Hid (Bn w _ [(w.heap.size, 27, Pf.zero.cells), (w.heap.size + 1, 3, (xs.map (Value.int .i64)).toArray)]) := Lib.hid hB
  clear C1 hp hxs hl hB
  go_enter Try.func18, Try.ntmps18
  go_wp2_with (first
    | (refine wpList_allocC runP rfl rfl ?_)
    | (refine wpList_buildFlatAt rfl 67 3 8 _ rfl .i64 xs (w.heap.size + 1) hsz _ rfl Try.underlying67 (by kernel_rfl) (by kernel_rfl) (by rw [HX.out]; rfl) (by decide) (by decide) (by rw [HX.out]; rfl) ?_))
  clear hsz
  refine (HC.out _ (intr_blk (HB.out.get 1 rfl))).mono ?_
  rintro e w1 ⟨A, c, rfl, hk, hnw, hb⟩
  rw [HP.out] at hk ⊢
  have HB1 := Lib.hid (HB.out.below hb)
  have HK := Lib.hid hk
  have HNW : Hid (New (w.heap.size + 1) A) := Lib.hid (hnw.of_le (by rw [← size_alloc2]; omega))
  clear hb hk hnw HB HC HP HX
  go_wp2_with (first
    | (refine wpList_buildC (cs := ac 9 stM3) (T := 25) rfl _ rfl (by kernel_rfl) ?_)
    | (refine wpList_buildP rfl _ _ _ rfl (Pf.mk stN3 A c stK3 stM3) rfl rfl rfl ?_)
    | (refine wpList_store_row rfl _ _ _ rfl w.heap.size (Pf.mk stN3 A c stK3 stM3).cells rfl rfl 27 Pf.zero.cells (HB1.out.get 0 rfl) (Pf.info _) (by rw [Pf.size, Pf.size]) (Pf.one _) ?_))
  have HB9 := Lib.hid (HB1.out.row 0 rfl (Nat.le_refl _) (by (intro j y hj hy; rcases j with _ | _ | _ | _ | _ | _ | j <;> first | exact absurd rfl hj | (simp only [List.getElem?_cons_zero, List.getElem?_cons_succ, Option.some.injEq] at hy; subst hy; dsimp only; omega) | (simp at hy; done))) (Pf.mk stN3 A c stK3 stM3).cells)
  have HK9 := Lib.hid (KnR.setRow (g := w.heap.size) HK.out HNW.out (by omega) (Pf.mk stN3 A c stK3 stM3).cells)
  refine bodyPost_ret (v := .tuple #[.agg (Pf.mk stN3 A c stK3 stM3).cells, .int .i64 0]) (results_row_tmp rfl _ _ w.heap.size 27 (Pf.mk stN3 A c stK3 stM3).cells _ rfl _ rfl (HB9.out.get 0 rfl) Try.underlying27 rfl (Pf.info _)) rfl ?_
  exact StC.mk (Pf.mk stN3 A c stK3 stM3) HK9.out HB9.out.b

set_option maxRecDepth 100000 in
set_option maxHeartbeats 8000000 in
theorem Standard_no (i : Int) (h0 : i ≠ 0) (h1 : i ≠ 1) (h2 : i ≠ 2) (h3 : i ≠ 3) (w : World) : Calls Try.prog 10 #[.int .i64 i] w (StC ⟨#[]⟩ [] (fun _ => 0) 2 w) := by
  have b0 : (i == 0) = false := by simpa using h0
  have b1 : (i == 1) = false := by simpa using h1
  have b2 : (i == 2) = false := by simpa using h2
  have b3 : (i == 3) = false := by simpa using h3
  have HB := Lib.hid (Bn.one w 27 Pf.zero.cells)
  go_enter Try.func10, Try.ntmps10
  go_wp2_with (first
    | (refine wpList_allocC runP rfl rfl ?_)
    | (refine wpList_buildC (cs := Pf.zero.cells) (T := 27) rfl _ rfl (by kernel_rfl) ?_)
    | (refine wpList_store_row rfl _ _ _ rfl w.heap.size Pf.zero.cells rfl rfl 27 Pf.zero.cells (HB.out.get 0 rfl) (Pf.info _) rfl (Pf.one _) ?_))
  have HB9 := Lib.hid (HB.out.row 0 rfl (Nat.le_refl _) (by intro j y hj hy; rcases j with _ | j; exact absurd rfl hj; simp at hy) Pf.zero.cells)
  refine bodyPost_ret (v := .tuple #[.agg Pf.zero.cells, .int .i64 2]) (results_row_tmp rfl _ _ w.heap.size 27 Pf.zero.cells _ rfl _ rfl (HB9.out.get 0 rfl) Try.underlying27 rfl (Pf.info _)) rfl ?_
  exact StC.mk Pf.zero Reads.none_ HB9.out.b
set_option maxRecDepth 100000 in
set_option maxHeartbeats 8000000 in
theorem rStandard_no (i : Int) (h0 : i ≠ 0) (h1 : i ≠ 1) (h2 : i ≠ 2) (h3 : i ≠ 3) (w : World) : Calls Try.prog 18 #[.int .i64 i] w (StC ⟨#[]⟩ [] (fun _ => 0) 2 w) := by
  have b0 : (i == 0) = false := by simpa using h0
  have b1 : (i == 1) = false := by simpa using h1
  have b2 : (i == 2) = false := by simpa using h2
  have b3 : (i == 3) = false := by simpa using h3
  have HB := Lib.hid (Bn.one w 27 Pf.zero.cells)
  go_enter Try.func18, Try.ntmps18
  go_wp2_with (first
    | (refine wpList_allocC runP rfl rfl ?_)
    | (refine wpList_buildC (cs := Pf.zero.cells) (T := 27) rfl _ rfl (by kernel_rfl) ?_)
    | (refine wpList_store_row rfl _ _ _ rfl w.heap.size Pf.zero.cells rfl rfl 27 Pf.zero.cells (HB.out.get 0 rfl) (Pf.info _) rfl (Pf.one _) ?_))
  have HB9 := Lib.hid (HB.out.row 0 rfl (Nat.le_refl _) (by intro j y hj hy; rcases j with _ | j; exact absurd rfl hj; simp at hy) Pf.zero.cells)
  refine bodyPost_ret (v := .tuple #[.agg Pf.zero.cells, .int .i64 2]) (results_row_tmp rfl _ _ w.heap.size 27 Pf.zero.cells _ rfl _ rfl (HB9.out.get 0 rfl) Try.underlying27 rfl (Pf.info _)) rfl ?_
  exact StC.mk Pf.zero Reads.none_ HB9.out.b
def stN (i : Int) : ByteArray := if i = 0 then stN0 else if i = 1 then stN1 else if i = 2 then stN2 else if i = 3 then stN3 else ⟨#[]⟩
def stK (i : Int) : List K2 := if i = 0 then stK0 else if i = 1 then stK1 else if i = 2 then stK2 else if i = 3 then stK3 else []
def stM (i : Int) : Nat → Int := if i = 0 then stM0 else if i = 1 then stM1 else if i = 2 then stM2 else if i = 3 then stM3 else fun _ => 0
def stZ (i : Int) : Int := if i = 0 ∨ i = 1 ∨ i = 2 ∨ i = 3 then 0 else 2
theorem Standard_any (i : Int) (w : World) : Calls Try.prog 10 #[.int .i64 i] w (StC (stN i) (stK i) (stM i) (stZ i) w) := by
  by_cases h0 : i = 0
  · subst h0; exact Standard_0 w
  by_cases h1 : i = 1
  · subst h1; exact Standard_1 w
  by_cases h2 : i = 2
  · subst h2; exact Standard_2 w
  by_cases h3 : i = 3
  · subst h3; exact Standard_3 w
  have e := Standard_no i h0 h1 h2 h3 w
  rw [show stN i = ⟨#[]⟩ by simp [stN, h0, h1, h2, h3], show stK i = [] by simp [stK, h0, h1, h2, h3], show stM i = fun _ => 0 by simp [stM, h0, h1, h2, h3], show stZ i = 2 by simp [stZ, h0, h1, h2, h3]]
  exact e
theorem rStandard_any (i : Int) (w : World) : Calls Try.prog 18 #[.int .i64 i] w (StC (stN i) (stK i) (stM i) (stZ i) w) := by
  by_cases h0 : i = 0
  · subst h0; exact rStandard_0 w
  by_cases h1 : i = 1
  · subst h1; exact rStandard_1 w
  by_cases h2 : i = 2
  · subst h2; exact rStandard_2 w
  by_cases h3 : i = 3
  · subst h3; exact rStandard_3 w
  have e := rStandard_no i h0 h1 h2 h3 w
  rw [show stN i = ⟨#[]⟩ by simp [stN, h0, h1, h2, h3], show stK i = [] by simp [stK, h0, h1, h2, h3], show stM i = fun _ => 0 by simp [stM, h0, h1, h2, h3], show stZ i = 2 by simp [stZ, h0, h1, h2, h3]]
  exact e

end Go.Proofs.Ytcighjeiimjbiaa.Pro
