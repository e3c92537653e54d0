/-
  MatrixDets: the determinant of a product of whole matrices is the product of the determinants.
-/
import Derived.Test.YtcmaoomcdmjimaaMatDt
import Derived.Deep.DeepCutAuto
import Derived.SizedLaws
namespace Go.Proofs.Ytcmaoomcdmjimaa.MatrixDets
open Go.RowKit Go.Proofs.Ytcmaoomcdmjimaa Go.Proofs.Ytcmaoomcdmjimaa.NumPure Go.Proofs.Ytcmaoomcdmjimaa.MatPure Go.Proofs.Ytcmaoomcdmjimaa.Mat

def al8 (m : Nat → Int) : List Value := (List.range 9).map fun j => Value.int .i8 (m j)
def ac8 (m : Nat → Int) : Array Value := (al8 m).toArray
theorem ac8_size (m : Nat → Int) : (ac8 m).size = 9 := by simp [ac8, al8]
theorem ac8_at (m : Nat → Int) {j : Nat} (hj : j < 9) : (ac8 m)[j]? = some (.int .i8 (m j)) := by simp [ac8, al8, hj]
theorem types9b : Try.prog.cellTypes Try.prog.depth 36 = some (List.replicate 9 35) := by kernel_rfl
theorem open9b {W : World} {r : Reach} {base : Nat} {v : Value} (h : Value.okWide Try.prog W r base 36 v) : ∃ m : Nat → Int, v = .agg (ac8 m) := by
  unfold Value.okWide at h
  rw [Try.underlying36] at h
  obtain ⟨cs, rfl, hs0, hr⟩ := h
  have hs : cs.size = 9 := hs0.trans (by kernel_rfl)
  obtain ⟨ts, ht, _, hc⟩ := hr
  rw [types9b] at ht
  obtain rfl : List.replicate 9 35 = ts := by simpa using ht
  refine ⟨fun i => match cs[i]? with | some (.int _ z) => z | _ => 0, ?_⟩
  refine congrArg Value.agg (Array.ext_getElem? fun i => ?_)
  by_cases hi : i < 9
  · obtain ⟨v, hv⟩ : ∃ v, cs[i]? = some v := ⟨_, Array.getElem?_eq_getElem (by omega)⟩
    obtain ⟨u, hu, ho⟩ := hc i v hv
    rw [List.length_replicate, Nat.mod_eq_of_lt hi, List.getElem?_replicate, if_pos hi] at hu
    obtain rfl : 35 = u := by simpa using hu
    have h2 : Value.okWide Try.prog W r base 35 v := by
      unfold Value.okWide
      rw [Try.underlying35]
      exact ho
    obtain ⟨z, rfl⟩ := Go.WideShapes.okWide_int Try.underlying35 h2
    rw [ac8_at _ hi, hv]
  · rw [Array.getElem?_eq_none (by omega), Array.getElem?_eq_none (by rw [ac8_size]; omega)]

def Fo (B g1 g2 g3 g4 : Nat) (w : World) (A1 A2 A3 A4 : Array Value) (wr : World) : Prop :=
  Blk wr g1 36 A1 ∧ Blk wr g2 36 A2 ∧ Blk wr g3 22 A3 ∧ Blk wr g4 22 A4 ∧ Below B w wr ∧ g1 < g2 ∧ g2 < g3 ∧ g3 < g4 ∧ B ≤ g1
section
variable {B g1 g2 g3 g4 : Nat} {w wr w' : World} {A1 A2 A3 A4 : Array Value}
theorem Fo.below (h : Fo B g1 g2 g3 g4 w A1 A2 A3 A4 wr) (hb : Below wr.heap.size wr w') : Fo B g1 g2 g3 g4 w A1 A2 A3 A4 w' :=
  ⟨h.1.below hb h.1.lt, h.2.1.below hb h.2.1.lt, h.2.2.1.below hb h.2.2.1.lt, h.2.2.2.1.below hb h.2.2.2.1.lt, h.2.2.2.2.1.trans (hb.mono (by have := h.1.lt; have := h.2.2.2.2.2.2.2.2; omega)), h.2.2.2.2.2⟩
theorem Fo.drewN (h : Fo B g1 g2 g3 g4 w A1 A2 A3 A4 wr) (n : Nat) : Fo B g1 g2 g3 g4 w A1 A2 A3 A4 (wr.drewN n) :=
  ⟨h.1, h.2.1, h.2.2.1, h.2.2.2.1, below_drewN h.2.2.2.2.1 n, h.2.2.2.2.2⟩
theorem Fo.drew (h : Fo B g1 g2 g3 g4 w A1 A2 A3 A4 wr) : Fo B g1 g2 g3 g4 w A1 A2 A3 A4 wr.drew := h.drewN 1
theorem Fo.set34 (h : Fo B g1 g2 g3 g4 w A1 A2 A3 A4 wr) (k : Nat) (u v : Value) : Fo B g1 g2 g3 g4 w A1 A2 (A3.setIfInBounds k u) (A4.setIfInBounds k v) ((wr.setCell ⟨g3, k, none⟩ u).setCell ⟨g4, k, none⟩ v) := by
  obtain ⟨h1, h2, h3, h4, hb, d1, d2, d3, d4⟩ := h
  exact ⟨(h1.far (p := ⟨g3, k, none⟩) (by simp; omega) u).far (p := ⟨g4, k, none⟩) (by simp; omega) v, (h2.far (p := ⟨g3, k, none⟩) (by simp; omega) u).far (p := ⟨g4, k, none⟩) (by simp; omega) v,
    (h3.set_ k u).far (p := ⟨g4, k, none⟩) (by simp; omega) v, (h4.far (p := ⟨g3, k, none⟩) (by simp; omega) u).set_ k v, (hb.setCell (by simp; omega) u).setCell (by simp; omega) v, d1, d2, d3, d4⟩
theorem Fo.new (w : World) (A1 A2 A3 A4 : Array Value) : Fo w.heap.size w.heap.size (w.heap.size + 1) (w.heap.size + 1 + 1) (w.heap.size + 1 + 1 + 1) w A1 A2 A3 A4 ((((w.alloc (.cells A1 36)).alloc (.cells A2 36)).alloc (.cells A3 22)).alloc (.cells A4 22)) :=
  ⟨heap4_1 _ _ _ _ _, heap4_2 _ _ _ _ _, heap4_3 _ _ _ _ _, heap4_new _ _ _ _ _, ((((Below.refl _ _).alloc (Nat.le_refl _) _).alloc (by simp) _).alloc (by simp; omega) _).alloc (by simp; omega) _, by omega, by omega, by omega, by omega⟩
end

def zz : Array Value := ac 9 fun _ => 0
def St (B g1 g2 g3 g4 : Nat) (w : World) (A1 A2 A3 A4 : Array Value) (n8 n9 : Option Nat) (W : World) : Prop :=
  Fo B g1 g2 g3 g4 w A1 A2 A3 A4 W ∧ (∀ g, n8 = some g → Blk W g 22 zz ∧ g4 < g) ∧ (∀ g, n9 = some g → Blk W g 22 zz ∧ g4 < g) ∧ (∀ g g', n8 = some g → n9 = some g' → g ≠ g')
section
variable {B g1 g2 g3 g4 : Nat} {w wr w' : World} {A1 A2 A3 A4 : Array Value} {n8 n9 : Option Nat}
theorem St.below (h : St B g1 g2 g3 g4 w A1 A2 A3 A4 n8 n9 wr) (hb : Below wr.heap.size wr w') : St B g1 g2 g3 g4 w A1 A2 A3 A4 n8 n9 w' :=
  ⟨h.1.below hb, fun g e => ⟨(h.2.1 g e).1.below hb (h.2.1 g e).1.lt, (h.2.1 g e).2⟩, fun g e => ⟨(h.2.2.1 g e).1.below hb (h.2.2.1 g e).1.lt, (h.2.2.1 g e).2⟩, h.2.2.2⟩
theorem St.alloc8 (h : St B g1 g2 g3 g4 w A1 A2 A3 A4 none n9 wr) : St B g1 g2 g3 g4 w A1 A2 A3 A4 (some wr.heap.size) n9 (wr.alloc (.cells zz 22)) := by
  have hb : Below wr.heap.size wr (wr.alloc (.cells zz 22)) := (Below.refl _ _).alloc (Nat.le_refl _) _
  have h1 := h.below hb
  refine ⟨h1.1, fun g e => ?_, h1.2.2.1, fun g g' e e' => ?_⟩
  · obtain rfl : wr.heap.size = g := by simpa using e
    exact ⟨Blk.new _ _ _, h.1.2.2.2.1.lt⟩
  · obtain rfl : wr.heap.size = g := by simpa using e
    have := (h.2.2.1 g' e').1.lt
    omega
theorem St.alloc9 (h : St B g1 g2 g3 g4 w A1 A2 A3 A4 n8 none wr) : St B g1 g2 g3 g4 w A1 A2 A3 A4 n8 (some wr.heap.size) (wr.alloc (.cells zz 22)) := by
  have hb : Below wr.heap.size wr (wr.alloc (.cells zz 22)) := (Below.refl _ _).alloc (Nat.le_refl _) _
  have h1 := h.below hb
  refine ⟨h1.1, h1.2.1, fun g e => ?_, fun g g' e e' => ?_⟩
  · obtain rfl : wr.heap.size = g := by simpa using e
    exact ⟨Blk.new _ _ _, h.1.2.2.2.1.lt⟩
  · obtain rfl : wr.heap.size = g' := by simpa using e'
    have := (h.2.1 g e).1.lt
    omega
theorem Fo.row (h : Fo B g1 g2 g3 g4 w A1 A2 A3 A4 wr) {g : Nat} (hg : g4 < g) (cs : Array Value) : Fo B g1 g2 g3 g4 w A1 A2 A3 A4 (wr.setRow g cs) := by
  obtain ⟨h1, h2, h3, h4, hb, d1, d2, d3, d4⟩ := h
  exact ⟨(setRow_other _ _ _ _ (by omega)).trans h1, (setRow_other _ _ _ _ (by omega)).trans h2, (setRow_other _ _ _ _ (by omega)).trans h3, (setRow_other _ _ _ _ (by omega)).trans h4, below_setRow hb (by omega) _, d1, d2, d3, d4⟩
end
theorem wp_alloc9 {o : Oper} {a : Act} {w : World} {K : Act → World → Prop} {Q : Exit → Act → World → Prop} (d : Tmp) (hd : o.dst = some d) (ho : o.op = .alloc 22)
    (h : K (a.put (some d) (.pointer (some ⟨w.heap.size, 0, none⟩))) (w.alloc (.cells zz 22))) : o.wp Try.prog a w K Q := by
  have hr := run_alloc9 w
  rw [← hd] at h
  unfold Oper.wp
  simp only [execOp, ho, Sem.run_bind, hr, Result.andThen_ok, Sem.run_pure]
  exact h
/-- Two blocks that the call has made. -/
def Tw (B g8 g9 : Nat) (w : World) (A8 A9 : Array Value) (W : World) : Prop := Blk W g8 22 A8 ∧ Blk W g9 22 A9 ∧ Below B w W ∧ B ≤ g8 ∧ B ≤ g9
theorem Tw.below {B g8 g9 : Nat} {w wr w' : World} {A8 A9 : Array Value} (h : Tw B g8 g9 w A8 A9 wr) (hb : Below wr.heap.size wr w') : Tw B g8 g9 w A8 A9 w' :=
  ⟨h.1.below hb h.1.lt, h.2.1.below hb h.2.1.lt, h.2.2.1.trans (hb.mono (by have := h.1.lt; have := h.2.2.2.1; omega)), h.2.2.2⟩
theorem Tw.drew {B g8 g9 : Nat} {w wr : World} {A8 A9 : Array Value} (h : Tw B g8 g9 w A8 A9 wr) : Tw B g8 g9 w A8 A9 wr.drew := ⟨h.1.drew, h.2.1.drew, h.2.2.1.drew, h.2.2.2⟩
theorem tw_of {B g1 g2 g3 g4 g8 g9 : Nat} {w wr : World} {A1 A2 A3 A4 : Array Value} {m n : Nat → Int} (h : St B g1 g2 g3 g4 w A1 A2 A3 A4 (some g8) (some g9) wr) : Tw B g8 g9 w (ac 9 m) (ac 9 n) ((wr.setRow g8 (ac 9 m)).setRow g9 (ac 9 n)) := by
  have h8 := h.2.1 g8 rfl
  have h9 := h.2.2.1 g9 rfl
  have hne := h.2.2.2 g8 g9 rfl rfl
  have a9 : Blk (wr.setRow g8 (ac 9 m)) g9 22 zz := (setRow_other _ _ _ _ (by omega)).trans h9.1
  have d := h.1.2.2.2.2
  exact ⟨(setRow_other _ _ _ _ (by omega)).trans (setRow_heap _ _ zz _ _ _ h8.1), setRow_heap _ _ zz _ _ _ a9, below_setRow (below_setRow d.1 (by omega) _) (by omega) _, by omega, by omega⟩
theorem wp_store9 {o : Oper} {a : Act} {w : World} {K : Act → World → Prop} {Q : Exit → Act → World → Prop} (hd : o.dst = none) (x y : Operand) (ho : o.op = .store 22 x y)
    (g : Nat) (cells : Array Value) (hx : a.eval x = .pointer (some ⟨g, 0, none⟩)) (hy : a.eval y = .agg cells) (old : Array Value) (hg : w.heap[g]? = some (.cells old 22 (0, 0)))
    (hi : (Try.prog.info? 22).map (·.size) = some cells.size) (hold : old.size = cells.size) (h1 : cells.all (·.oneCell') = true) (h : K a (w.setRow g cells)) : o.wp Try.prog a w K Q :=
  wp_store_row _ x y ho g cells hx hy _ old hg hi hold h1 (by rw [hd]; exact h)
theorem zz_same (m : Nat → Int) : zz.size = (ac 9 m).size := ac_same

set_option maxHeartbeats 4000000 in
set_option maxRecDepth 100000 in
theorem walk (a b : Nat → Int) (w : World) : Calls Try.prog 7 #[.agg (ac8 a), .agg (ac8 b)] w fun e w' => e = .returned (.bool true) ∧ Below w.heap.size w w' := by
  obtain ⟨B, hB⟩ : ∃ B, B = w.heap.size := ⟨_, rfl⟩
  rw [← hB]
  go_enter Try.func7, Try.ntmps7
  go_wp2_with (first | (refine wpList_alloc9 rfl rfl ?_))
  have H0 := Fo.new w (ac8 a) (ac8 b) (ac 9 (upTo (tm a) 0)) (ac 9 (upTo (tm b) 0))
  rw [show (ac 9 fun _ => 0) = ac 9 (upTo (tm a) 0) from (upTo_none 9 _).symm]
  have H0 := Fo.new w (ac8 a) (ac8 b) (ac 9 (upTo (tm a) 0)) (ac 9 (upTo (tm b) 0))
  rw [show ac 9 (upTo (tm b) 0) = ac 9 (upTo (tm a) 0) by rw [upTo_none, upTo_none]] at H0
  obtain ⟨W, hW⟩ : ∃ W, W = (((w.alloc (.cells (ac8 a) 36)).alloc (.cells (ac8 b) 36)).alloc (.cells (ac 9 (upTo (tm a) 0)) 22)).alloc (.cells (ac 9 (upTo (tm a) 0)) 22) := ⟨_, rfl⟩
  obtain ⟨g4, e4⟩ : ∃ g, g = w.heap.size + 1 + 1 + 1 := ⟨_, rfl⟩
  obtain ⟨g3, e3⟩ : ∃ g, g = w.heap.size + 1 + 1 := ⟨_, rfl⟩
  obtain ⟨g2, e2⟩ : ∃ g, g = w.heap.size + 1 := ⟨_, rfl⟩
  obtain ⟨g1, e1⟩ : ∃ g, g = w.heap.size := ⟨_, rfl⟩
  rw [← hW, ← e4, ← e3, ← e2, ← hB] at H0
  rw [← hW, ← e4, ← e3, ← e2, ← e1]
  have hg1 : B = g1 := hB.trans e1.symm
  have H1 : Fo B g1 g2 g3 g4 w (ac8 a) (ac8 b) (ac 9 (upTo (tm a) 0)) (ac 9 (upTo (tm b) 0)) W := by rw [show ac 9 (upTo (tm b) 0) = ac 9 (upTo (tm a) 0) by rw [upTo_none, upTo_none]]; rw [← hg1]; rw [hg1] at H0 ⊢; exact H0
  clear hW e4 e3 e2 e1 hB hg1 H0
  go_loopw [12] (fun v12 wr => ∃ k : Nat, k ≤ 9 ∧ v12 = .int .i64 k ∧ Fo B g1 g2 g3 g4 w (ac8 a) (ac8 b) (ac 9 (upTo (tm a) k)) (ac 9 (upTo (tm b) k)) wr) (fun v12 _ => 9 - (intOf v12).toNat)
  case atStart => exact ⟨0, by omega, rfl, H1⟩
  case round =>
    clear H1
    obtain ⟨k, hk, rfl, H⟩ := hrel
    by_cases hlt : k < 9
    · have c1 := H.1.cell k
      rw [ac8_at _ hlt] at c1
      have c2 := H.2.1.cell k
      rw [ac8_at _ hlt] at c2
      have c3 := H.2.2.1.cell k
      rw [ac_at _ hlt] at c3
      have c4 := H.2.2.2.1.cell k
      rw [ac_at _ hlt] at c4
      have f3 := H.2.2.1.frozen k
      have f4 := H.2.2.2.1.frozen k
      have x1 := tm_in a k
      have x2 := tm_in b k
      obtain ⟨n13, n23, n14, n24, n34⟩ : g1 ≠ g3 ∧ g2 ≠ g3 ∧ g1 ≠ g4 ∧ g2 ≠ g4 ∧ g3 ≠ g4 := by have := H.2.2.2.2.2; omega
      have w1 : IntKind.i64.wrap ((a k).tmod 3) = tm a k := IntWalk.i64_in _ (by unfold tm at x1; omega)
      have w2 : IntKind.i64.wrap ((b k).tmod 3) = tm b k := IntWalk.i64_in _ (by unfold tm at x2; omega)
      have KS : Hid (∀ (W1 : World) (g : Nat) (u : Value), (g = g3 ∨ g = g4) → W1.cell? ⟨g1, k, none⟩ = some (.int .i8 (a k)) ∧ W1.cell? ⟨g2, k, none⟩ = some (.int .i8 (b k)) → (W1.setCell ⟨g, k, none⟩ u).cell? ⟨g1, k, none⟩ = some (.int .i8 (a k)) ∧ (W1.setCell ⟨g, k, none⟩ u).cell? ⟨g2, k, none⟩ = some (.int .i8 (b k))) :=
        Lib.hid fun W1 g u hg h => ⟨(World.cell?_setCell_other W1 _ _ u (fun e => by injection e; omega)).trans h.1, (World.cell?_setCell_other W1 _ _ u (fun e => by injection e; omega)).trans h.2⟩
      have i0 : (0 : Int) ≤ (k : Int) := by omega
      have i1 : (k : Int) < 9 := by omega
      have HS := Lib.hid (H.set34 k (.int .i64 (tm a k)) (.int .i64 (tm b k)))
      rw [upTo_set, upTo_set] at HS
      have K1 := Lib.hid c1
      go_wp2_with fail
      go_region_held3 (fun w' => w'.cell? ⟨g1, k, none⟩ = some (.int .i8 (a k)) ∧ w'.cell? ⟨g2, k, none⟩ = some (.int .i8 (b k))) (first | exact KS.out _ _ _ (.inl rfl) (by assumption) | exact KS.out _ _ _ (.inr rfl) (by assumption) | go_keep) (fail)
      go_wp2_with fail
      go_roundw
      case rel => exact ⟨k + 1, by omega, by go_num, Fo.drew HS.out⟩
      case measure => simp [intOf]; omega
    · obtain rfl : k = 9 := by omega
      rw [upTo_all, upTo_all] at H
      obtain ⟨D, E, D0, D1, E0, E1, eD, eE, eP⟩ := dets a b
      have wh1 := fun W => whole_any (tm a) (fun n _ => by have := tm_in a n; omega) W
      have wh2 := fun W => whole_any (tm b) (fun n _ => by have := tm_in b n; omega) W
      have dt1 := fun W => det_any (whM (tm a)) W
      have dt2 := fun W => det_any (whM (tm b)) W
      have dt3 := fun W => det_any (whM (prd (tm a) (tm b))) W
      have ml := fun W => mul_any (whM (tm a)) (whM (tm b)) W
      rw [mul_wh (tm_small a) (tm_small b)] at ml
      rw [eD] at dt1
      rw [eE] at dt2
      rw [eP] at dt3
      clear eD eE eP
      obtain ⟨d, hd⟩ : ∃ d, 65536 * D = d := ⟨_, rfl⟩
      obtain ⟨f, hf⟩ : ∃ f, 65536 * E = f := ⟨_, rfl⟩
      obtain ⟨r, hr⟩ : ∃ r, D * f = r := ⟨_, rfl⟩
      rw [hd] at dt1
      rw [hf] at dt2
      rw [hf, hr] at dt3
      have q1 : d.tdiv 65536 = D := by rw [← hd]; exact Int.mul_tdiv_cancel_left D (by omega)
      have q2 : f.tdiv 65536 = E := by rw [← hf]; exact Int.mul_tdiv_cancel_left E (by omega)
      have m1 : d.tmod 65536 = 0 := by rw [← hd]; exact Int.mul_tmod_right 65536 D
      have m2 : f.tmod 65536 = 0 := by rw [← hf]; exact Int.mul_tmod_right 65536 E
      have hrb := abs_mul_le (x := D) (y := f) (m := 48) (by omega) (by omega) (by omega) 3145728 (by omega) (by omega) (by omega)
      rw [hr] at hrb
      have wr1 : IntKind.i64.wrap (D * f) = r := by rw [hr]; exact IntWalk.i64_in _ (by omega)
      have wr2 : wrap64 (D * f) = r := (IntWalk.i64_left _).symm.trans wr1
      obtain ⟨M, hM⟩ : ∃ M, whM (tm a) = M := ⟨_, rfl⟩
      obtain ⟨N, hN⟩ : ∃ N, whM (tm b) = N := ⟨_, rfl⟩
      obtain ⟨P, hP⟩ : ∃ P, whM (prd (tm a) (tm b)) = P := ⟨_, rfl⟩
      rw [hM] at wh1 dt1
      rw [hN] at wh2 dt2
      rw [hP] at dt3
      rw [hM, hN, hP] at ml
      have W1 := Lib.hid wh1
      have W2 := Lib.hid wh2
      have T1 := Lib.hid dt1
      have T2 := Lib.hid dt2
      have T3 := Lib.hid dt3
      have ML := Lib.hid ml
      clear hd hf hr hM hN hP wh1 wh2 dt1 dt2 dt3 ml
      go_upto_region 7 with fail
      go_cut [8, 9] (fun s8 s9 wx => ∃ g8 g9 : Nat, s8 = .pointer (some ⟨g8, 0, none⟩) ∧ s9 = .pointer (some ⟨g9, 0, none⟩) ∧ Tw B g8 g9 w (ac 9 M) (ac 9 N) wx)
      case first =>
        clear q1 q2 m1 m2 wr1 wr2 T1 T2 T3 ML
        have T0 : St B g1 g2 g3 g4 w (ac8 a) (ac8 b) (ac 9 (tm a)) (ac 9 (tm b)) none none wr.drew := ⟨Fo.drew H, fun g e => by (cases e), fun g e => (by cases e), fun g g' e => by (cases e)⟩
        clear H
        refine wp_region_held_drew (S := fun w' => Fo B g1 g2 g3 g4 w (ac8 a) (ac8 b) (ac 9 (tm a)) (ac 9 (tm b)) w') (by kernel_rfl) T0.1 (fun hHeld => ?_)
        refine wpAnyH_take (i := 0) (oi := _) (v := _) rfl (by kernel_rfl) (by kernel_rfl) (by kernel_rfl) (fun _ _ _ h => h) (yLoad9 rfl _ rfl g3 rfl (tm a) (fun _ h => h.2.2.1)) (by assumption) ?_
        go_simp
        refine wpAnyH_take (i := 2) (oi := _) (v := _) rfl (by kernel_rfl) (by kernel_rfl) (by kernel_rfl) (fun _ _ _ h => h) (yLoad9 rfl _ rfl g4 rfl (tm b) (fun _ h => h.2.2.2.1)) (by assumption) ?_
        go_simp
        refine wpAnyH_ready (rs := [1, 4, 5]) (by kernel_rfl) (by simp) ?_
        refine AllReadyH.cons (o := _) rfl (fun K hK => ?_) (AllReadyH.cons (o := _) rfl (fun K hK => ?_) (AllReadyH.cons (o := _) rfl (fun K hK => ?_) AllReadyH.nil))
        · go_simp
          go_at_call 20
          refine (W1.out _).mono ?_
          rintro e v1 ⟨rfl, hbq⟩
          go_wp2_with fail
          have T1 := T0.below hbq
          refine hK.out _ _ T1.1 (fun hHeld => ?_)
          clear hK hbq T0
          try simp only [Act.put, List.setIfInBounds_toArray, List.set_cons_zero, List.set_cons_succ]
          refine wpAnyH_ready (rs := [3, 4, 5]) (by kernel_rfl) (by simp) ?_
          refine AllReadyH.cons (o := _) rfl (fun K hK => ?_) (AllReadyH.cons (o := _) rfl (fun K hK => ?_) (AllReadyH.cons (o := _) rfl (fun K hK => ?_) AllReadyH.nil))
          · go_simp
            go_at_call 20
            refine (W2.out _).mono ?_
            rintro e v2 ⟨rfl, hbq⟩
            go_wp2_with fail
            have T2 := T1.below hbq
            refine hK.out _ _ T2.1 (fun hHeld => ?_)
            clear hK hbq T1
            try simp only [Act.put, List.setIfInBounds_toArray, List.set_cons_zero, List.set_cons_succ]
            refine wpAnyH_ready (rs := [4, 5]) (by kernel_rfl) (by simp) ?_
            refine AllReadyH.cons (o := _) rfl (fun K hK => ?_) (AllReadyH.cons (o := _) rfl (fun K hK => ?_) AllReadyH.nil)
            · rw [if_pos (by rfl)]
              refine wp_alloc9 8 rfl rfl ?_
              have T3 := T2.alloc8
              refine hK.out _ _ T3.1 (fun hHeld => ?_)
              clear hK
              revert hHeld T3
              obtain ⟨g8, hg⟩ : ∃ g, g = (v2).heap.size := ⟨_, rfl⟩
              obtain ⟨v3, hW⟩ : ∃ W, W = (v2).alloc (.cells zz 22) := ⟨_, rfl⟩
              rw [← hg, ← hW]
              clear hg hW
              intro T3 hHeld
              clear T2
              try simp only [Act.put, List.setIfInBounds_toArray, List.set_cons_zero, List.set_cons_succ]
              refine wpAnyH_ready (rs := [5]) (by kernel_rfl) (by simp) ?_
              refine AllReadyH.cons (o := _) rfl (fun K hK => ?_) AllReadyH.nil
              · rw [if_pos (by rfl)]
                refine wp_alloc9 9 rfl rfl ?_
                have T4 := T3.alloc9
                refine hK.out _ _ T4.1 (fun hHeld => ?_)
                clear hK
                revert hHeld T4
                obtain ⟨g9, hg⟩ : ∃ g, g = (v3).heap.size := ⟨_, rfl⟩
                obtain ⟨v4, hW⟩ : ∃ W, W = (v3).alloc (.cells zz 22) := ⟨_, rfl⟩
                rw [← hg, ← hW]
                clear hg hW
                intro T4 hHeld
                clear T3
                try simp only [Act.put, List.setIfInBounds_toArray, List.set_cons_zero, List.set_cons_succ]
                refine wpAnyH_ready (rs := [6]) (by kernel_rfl) (by simp) ?_
                refine AllReadyH.cons (o := _) rfl (fun K hK => ?_) AllReadyH.nil
                rw [if_pos (by rfl)]
                refine wp_store9 rfl _ _ rfl g8 (ac 9 M) rfl rfl zz (T4.2.1 g8 rfl).1 info9 (zz_same _) (ac_one 9 _) ?_
                refine hK.out _ _ (Fo.row T4.1 (T4.2.1 g8 rfl).2 _) (fun hHeld => ?_)
                clear hK
                try simp only [Act.put, List.setIfInBounds_toArray, List.set_cons_zero, List.set_cons_succ]
                refine wpAnyH_ready (rs := [7]) (by kernel_rfl) (by simp) ?_
                refine AllReadyH.cons (o := _) rfl (fun K hK => ?_) AllReadyH.nil
                rw [if_pos (by rfl)]
                refine wp_store9 rfl _ _ rfl g9 (ac 9 N) rfl rfl zz ((setRow_other _ _ _ _ (fun e => (T4.2.2.2 g8 g9 rfl rfl) e.symm)).trans (T4.2.2.1 g9 rfl).1) info9 (zz_same _) (ac_one 9 _) ?_
                refine hK.out _ _ (Fo.row (Fo.row T4.1 (T4.2.1 g8 rfl).2 _) (T4.2.2.1 g9 rfl).2 _) (fun hHeld => ?_)
                clear hK
                try simp only [Act.put, List.setIfInBounds_toArray, List.set_cons_zero, List.set_cons_succ]
                refine wpAnyH_done (by kernel_rfl) ?_ _
                go_wp2_with fail
                go_meet
                exact ⟨g8, g9, rfl, rfl, tw_of T4⟩
            · rw [if_pos (by rfl)]
              refine wp_alloc9 9 rfl rfl ?_
              have T3 := T2.alloc9
              refine hK.out _ _ T3.1 (fun hHeld => ?_)
              clear hK
              revert hHeld T3
              obtain ⟨g9, hg⟩ : ∃ g, g = (v2).heap.size := ⟨_, rfl⟩
              obtain ⟨v3, hW⟩ : ∃ W, W = (v2).alloc (.cells zz 22) := ⟨_, rfl⟩
              rw [← hg, ← hW]
              clear hg hW
              intro T3 hHeld
              clear T2
              try simp only [Act.put, List.setIfInBounds_toArray, List.set_cons_zero, List.set_cons_succ]
              refine wpAnyH_ready (rs := [4]) (by kernel_rfl) (by simp) ?_
              refine AllReadyH.cons (o := _) rfl (fun K hK => ?_) AllReadyH.nil
              · rw [if_pos (by rfl)]
                refine wp_alloc9 8 rfl rfl ?_
                have T4 := T3.alloc8
                refine hK.out _ _ T4.1 (fun hHeld => ?_)
                clear hK
                revert hHeld T4
                obtain ⟨g8, hg⟩ : ∃ g, g = (v3).heap.size := ⟨_, rfl⟩
                obtain ⟨v4, hW⟩ : ∃ W, W = (v3).alloc (.cells zz 22) := ⟨_, rfl⟩
                rw [← hg, ← hW]
                clear hg hW
                intro T4 hHeld
                clear T3
                try simp only [Act.put, List.setIfInBounds_toArray, List.set_cons_zero, List.set_cons_succ]
                refine wpAnyH_ready (rs := [6]) (by kernel_rfl) (by simp) ?_
                refine AllReadyH.cons (o := _) rfl (fun K hK => ?_) AllReadyH.nil
                rw [if_pos (by rfl)]
                refine wp_store9 rfl _ _ rfl g8 (ac 9 M) rfl rfl zz (T4.2.1 g8 rfl).1 info9 (zz_same _) (ac_one 9 _) ?_
                refine hK.out _ _ (Fo.row T4.1 (T4.2.1 g8 rfl).2 _) (fun hHeld => ?_)
                clear hK
                try simp only [Act.put, List.setIfInBounds_toArray, List.set_cons_zero, List.set_cons_succ]
                refine wpAnyH_ready (rs := [7]) (by kernel_rfl) (by simp) ?_
                refine AllReadyH.cons (o := _) rfl (fun K hK => ?_) AllReadyH.nil
                rw [if_pos (by rfl)]
                refine wp_store9 rfl _ _ rfl g9 (ac 9 N) rfl rfl zz ((setRow_other _ _ _ _ (fun e => (T4.2.2.2 g8 g9 rfl rfl) e.symm)).trans (T4.2.2.1 g9 rfl).1) info9 (zz_same _) (ac_one 9 _) ?_
                refine hK.out _ _ (Fo.row (Fo.row T4.1 (T4.2.1 g8 rfl).2 _) (T4.2.2.1 g9 rfl).2 _) (fun hHeld => ?_)
                clear hK
                try simp only [Act.put, List.setIfInBounds_toArray, List.set_cons_zero, List.set_cons_succ]
                refine wpAnyH_done (by kernel_rfl) ?_ _
                go_wp2_with fail
                go_meet
                exact ⟨g8, g9, rfl, rfl, tw_of T4⟩
          · rw [if_pos (by rfl)]
            refine wp_alloc9 8 rfl rfl ?_
            have T2 := T1.alloc8
            refine hK.out _ _ T2.1 (fun hHeld => ?_)
            clear hK
            revert hHeld T2
            obtain ⟨g8, hg⟩ : ∃ g, g = (v1).heap.size := ⟨_, rfl⟩
            obtain ⟨v2, hW⟩ : ∃ W, W = (v1).alloc (.cells zz 22) := ⟨_, rfl⟩
            rw [← hg, ← hW]
            clear hg hW
            intro T2 hHeld
            clear T1
            try simp only [Act.put, List.setIfInBounds_toArray, List.set_cons_zero, List.set_cons_succ]
            refine wpAnyH_ready (rs := [3, 5]) (by kernel_rfl) (by simp) ?_
            refine AllReadyH.cons (o := _) rfl (fun K hK => ?_) (AllReadyH.cons (o := _) rfl (fun K hK => ?_) AllReadyH.nil)
            · go_simp
              go_at_call 20
              refine (W2.out _).mono ?_
              rintro e v3 ⟨rfl, hbq⟩
              go_wp2_with fail
              have T3 := T2.below hbq
              refine hK.out _ _ T3.1 (fun hHeld => ?_)
              clear hK hbq T2
              try simp only [Act.put, List.setIfInBounds_toArray, List.set_cons_zero, List.set_cons_succ]
              refine wpAnyH_ready (rs := [5]) (by kernel_rfl) (by simp) ?_
              refine AllReadyH.cons (o := _) rfl (fun K hK => ?_) AllReadyH.nil
              · rw [if_pos (by rfl)]
                refine wp_alloc9 9 rfl rfl ?_
                have T4 := T3.alloc9
                refine hK.out _ _ T4.1 (fun hHeld => ?_)
                clear hK
                revert hHeld T4
                obtain ⟨g9, hg⟩ : ∃ g, g = (v3).heap.size := ⟨_, rfl⟩
                obtain ⟨v4, hW⟩ : ∃ W, W = (v3).alloc (.cells zz 22) := ⟨_, rfl⟩
                rw [← hg, ← hW]
                clear hg hW
                intro T4 hHeld
                clear T3
                try simp only [Act.put, List.setIfInBounds_toArray, List.set_cons_zero, List.set_cons_succ]
                refine wpAnyH_ready (rs := [6]) (by kernel_rfl) (by simp) ?_
                refine AllReadyH.cons (o := _) rfl (fun K hK => ?_) AllReadyH.nil
                rw [if_pos (by rfl)]
                refine wp_store9 rfl _ _ rfl g8 (ac 9 M) rfl rfl zz (T4.2.1 g8 rfl).1 info9 (zz_same _) (ac_one 9 _) ?_
                refine hK.out _ _ (Fo.row T4.1 (T4.2.1 g8 rfl).2 _) (fun hHeld => ?_)
                clear hK
                try simp only [Act.put, List.setIfInBounds_toArray, List.set_cons_zero, List.set_cons_succ]
                refine wpAnyH_ready (rs := [7]) (by kernel_rfl) (by simp) ?_
                refine AllReadyH.cons (o := _) rfl (fun K hK => ?_) AllReadyH.nil
                rw [if_pos (by rfl)]
                refine wp_store9 rfl _ _ rfl g9 (ac 9 N) rfl rfl zz ((setRow_other _ _ _ _ (fun e => (T4.2.2.2 g8 g9 rfl rfl) e.symm)).trans (T4.2.2.1 g9 rfl).1) info9 (zz_same _) (ac_one 9 _) ?_
                refine hK.out _ _ (Fo.row (Fo.row T4.1 (T4.2.1 g8 rfl).2 _) (T4.2.2.1 g9 rfl).2 _) (fun hHeld => ?_)
                clear hK
                try simp only [Act.put, List.setIfInBounds_toArray, List.set_cons_zero, List.set_cons_succ]
                refine wpAnyH_done (by kernel_rfl) ?_ _
                go_wp2_with fail
                go_meet
                exact ⟨g8, g9, rfl, rfl, tw_of T4⟩
            · rw [if_pos (by rfl)]
              refine wp_alloc9 9 rfl rfl ?_
              have T3 := T2.alloc9
              refine hK.out _ _ T3.1 (fun hHeld => ?_)
              clear hK
              revert hHeld T3
              obtain ⟨g9, hg⟩ : ∃ g, g = (v2).heap.size := ⟨_, rfl⟩
              obtain ⟨v3, hW⟩ : ∃ W, W = (v2).alloc (.cells zz 22) := ⟨_, rfl⟩
              rw [← hg, ← hW]
              clear hg hW
              intro T3 hHeld
              clear T2
              try simp only [Act.put, List.setIfInBounds_toArray, List.set_cons_zero, List.set_cons_succ]
              refine wpAnyH_ready (rs := [3]) (by kernel_rfl) (by simp) ?_
              refine AllReadyH.cons (o := _) rfl (fun K hK => ?_) AllReadyH.nil
              · go_simp
                go_at_call 20
                refine (W2.out _).mono ?_
                rintro e v4 ⟨rfl, hbq⟩
                go_wp2_with fail
                have T4 := T3.below hbq
                refine hK.out _ _ T4.1 (fun hHeld => ?_)
                clear hK hbq T3
                try simp only [Act.put, List.setIfInBounds_toArray, List.set_cons_zero, List.set_cons_succ]
                refine wpAnyH_ready (rs := [6]) (by kernel_rfl) (by simp) ?_
                refine AllReadyH.cons (o := _) rfl (fun K hK => ?_) AllReadyH.nil
                rw [if_pos (by rfl)]
                refine wp_store9 rfl _ _ rfl g8 (ac 9 M) rfl rfl zz (T4.2.1 g8 rfl).1 info9 (zz_same _) (ac_one 9 _) ?_
                refine hK.out _ _ (Fo.row T4.1 (T4.2.1 g8 rfl).2 _) (fun hHeld => ?_)
                clear hK
                try simp only [Act.put, List.setIfInBounds_toArray, List.set_cons_zero, List.set_cons_succ]
                refine wpAnyH_ready (rs := [7]) (by kernel_rfl) (by simp) ?_
                refine AllReadyH.cons (o := _) rfl (fun K hK => ?_) AllReadyH.nil
                rw [if_pos (by rfl)]
                refine wp_store9 rfl _ _ rfl g9 (ac 9 N) rfl rfl zz ((setRow_other _ _ _ _ (fun e => (T4.2.2.2 g8 g9 rfl rfl) e.symm)).trans (T4.2.2.1 g9 rfl).1) info9 (zz_same _) (ac_one 9 _) ?_
                refine hK.out _ _ (Fo.row (Fo.row T4.1 (T4.2.1 g8 rfl).2 _) (T4.2.2.1 g9 rfl).2 _) (fun hHeld => ?_)
                clear hK
                try simp only [Act.put, List.setIfInBounds_toArray, List.set_cons_zero, List.set_cons_succ]
                refine wpAnyH_done (by kernel_rfl) ?_ _
                go_wp2_with fail
                go_meet
                exact ⟨g8, g9, rfl, rfl, tw_of T4⟩
          · rw [if_pos (by rfl)]
            refine wp_alloc9 9 rfl rfl ?_
            have T2 := T1.alloc9
            refine hK.out _ _ T2.1 (fun hHeld => ?_)
            clear hK
            revert hHeld T2
            obtain ⟨g9, hg⟩ : ∃ g, g = (v1).heap.size := ⟨_, rfl⟩
            obtain ⟨v2, hW⟩ : ∃ W, W = (v1).alloc (.cells zz 22) := ⟨_, rfl⟩
            rw [← hg, ← hW]
            clear hg hW
            intro T2 hHeld
            clear T1
            try simp only [Act.put, List.setIfInBounds_toArray, List.set_cons_zero, List.set_cons_succ]
            refine wpAnyH_ready (rs := [3, 4]) (by kernel_rfl) (by simp) ?_
            refine AllReadyH.cons (o := _) rfl (fun K hK => ?_) (AllReadyH.cons (o := _) rfl (fun K hK => ?_) AllReadyH.nil)
            · go_simp
              go_at_call 20
              refine (W2.out _).mono ?_
              rintro e v3 ⟨rfl, hbq⟩
              go_wp2_with fail
              have T3 := T2.below hbq
              refine hK.out _ _ T3.1 (fun hHeld => ?_)
              clear hK hbq T2
              try simp only [Act.put, List.setIfInBounds_toArray, List.set_cons_zero, List.set_cons_succ]
              refine wpAnyH_ready (rs := [4]) (by kernel_rfl) (by simp) ?_
              refine AllReadyH.cons (o := _) rfl (fun K hK => ?_) AllReadyH.nil
              · rw [if_pos (by rfl)]
                refine wp_alloc9 8 rfl rfl ?_
                have T4 := T3.alloc8
                refine hK.out _ _ T4.1 (fun hHeld => ?_)
                clear hK
                revert hHeld T4
                obtain ⟨g8, hg⟩ : ∃ g, g = (v3).heap.size := ⟨_, rfl⟩
                obtain ⟨v4, hW⟩ : ∃ W, W = (v3).alloc (.cells zz 22) := ⟨_, rfl⟩
                rw [← hg, ← hW]
                clear hg hW
                intro T4 hHeld
                clear T3
                try simp only [Act.put, List.setIfInBounds_toArray, List.set_cons_zero, List.set_cons_succ]
                refine wpAnyH_ready (rs := [6]) (by kernel_rfl) (by simp) ?_
                refine AllReadyH.cons (o := _) rfl (fun K hK => ?_) AllReadyH.nil
                rw [if_pos (by rfl)]
                refine wp_store9 rfl _ _ rfl g8 (ac 9 M) rfl rfl zz (T4.2.1 g8 rfl).1 info9 (zz_same _) (ac_one 9 _) ?_
                refine hK.out _ _ (Fo.row T4.1 (T4.2.1 g8 rfl).2 _) (fun hHeld => ?_)
                clear hK
                try simp only [Act.put, List.setIfInBounds_toArray, List.set_cons_zero, List.set_cons_succ]
                refine wpAnyH_ready (rs := [7]) (by kernel_rfl) (by simp) ?_
                refine AllReadyH.cons (o := _) rfl (fun K hK => ?_) AllReadyH.nil
                rw [if_pos (by rfl)]
                refine wp_store9 rfl _ _ rfl g9 (ac 9 N) rfl rfl zz ((setRow_other _ _ _ _ (fun e => (T4.2.2.2 g8 g9 rfl rfl) e.symm)).trans (T4.2.2.1 g9 rfl).1) info9 (zz_same _) (ac_one 9 _) ?_
                refine hK.out _ _ (Fo.row (Fo.row T4.1 (T4.2.1 g8 rfl).2 _) (T4.2.2.1 g9 rfl).2 _) (fun hHeld => ?_)
                clear hK
                try simp only [Act.put, List.setIfInBounds_toArray, List.set_cons_zero, List.set_cons_succ]
                refine wpAnyH_done (by kernel_rfl) ?_ _
                go_wp2_with fail
                go_meet
                exact ⟨g8, g9, rfl, rfl, tw_of T4⟩
            · rw [if_pos (by rfl)]
              refine wp_alloc9 8 rfl rfl ?_
              have T3 := T2.alloc8
              refine hK.out _ _ T3.1 (fun hHeld => ?_)
              clear hK
              revert hHeld T3
              obtain ⟨g8, hg⟩ : ∃ g, g = (v2).heap.size := ⟨_, rfl⟩
              obtain ⟨v3, hW⟩ : ∃ W, W = (v2).alloc (.cells zz 22) := ⟨_, rfl⟩
              rw [← hg, ← hW]
              clear hg hW
              intro T3 hHeld
              clear T2
              try simp only [Act.put, List.setIfInBounds_toArray, List.set_cons_zero, List.set_cons_succ]
              refine wpAnyH_ready (rs := [3]) (by kernel_rfl) (by simp) ?_
              refine AllReadyH.cons (o := _) rfl (fun K hK => ?_) AllReadyH.nil
              · go_simp
                go_at_call 20
                refine (W2.out _).mono ?_
                rintro e v4 ⟨rfl, hbq⟩
                go_wp2_with fail
                have T4 := T3.below hbq
                refine hK.out _ _ T4.1 (fun hHeld => ?_)
                clear hK hbq T3
                try simp only [Act.put, List.setIfInBounds_toArray, List.set_cons_zero, List.set_cons_succ]
                refine wpAnyH_ready (rs := [6]) (by kernel_rfl) (by simp) ?_
                refine AllReadyH.cons (o := _) rfl (fun K hK => ?_) AllReadyH.nil
                rw [if_pos (by rfl)]
                refine wp_store9 rfl _ _ rfl g8 (ac 9 M) rfl rfl zz (T4.2.1 g8 rfl).1 info9 (zz_same _) (ac_one 9 _) ?_
                refine hK.out _ _ (Fo.row T4.1 (T4.2.1 g8 rfl).2 _) (fun hHeld => ?_)
                clear hK
                try simp only [Act.put, List.setIfInBounds_toArray, List.set_cons_zero, List.set_cons_succ]
                refine wpAnyH_ready (rs := [7]) (by kernel_rfl) (by simp) ?_
                refine AllReadyH.cons (o := _) rfl (fun K hK => ?_) AllReadyH.nil
                rw [if_pos (by rfl)]
                refine wp_store9 rfl _ _ rfl g9 (ac 9 N) rfl rfl zz ((setRow_other _ _ _ _ (fun e => (T4.2.2.2 g8 g9 rfl rfl) e.symm)).trans (T4.2.2.1 g9 rfl).1) info9 (zz_same _) (ac_one 9 _) ?_
                refine hK.out _ _ (Fo.row (Fo.row T4.1 (T4.2.1 g8 rfl).2 _) (T4.2.2.1 g9 rfl).2 _) (fun hHeld => ?_)
                clear hK
                try simp only [Act.put, List.setIfInBounds_toArray, List.set_cons_zero, List.set_cons_succ]
                refine wpAnyH_done (by kernel_rfl) ?_ _
                go_wp2_with fail
                go_meet
                exact ⟨g8, g9, rfl, rfl, tw_of T4⟩
        · rw [if_pos (by rfl)]
          refine wp_alloc9 8 rfl rfl ?_
          have T1 := T0.alloc8
          refine hK.out _ _ T1.1 (fun hHeld => ?_)
          clear hK
          revert hHeld T1
          obtain ⟨g8, hg⟩ : ∃ g, g = (wr.drew).heap.size := ⟨_, rfl⟩
          obtain ⟨v1, hW⟩ : ∃ W, W = (wr.drew).alloc (.cells zz 22) := ⟨_, rfl⟩
          rw [← hg, ← hW]
          clear hg hW
          intro T1 hHeld
          clear T0
          try simp only [Act.put, List.setIfInBounds_toArray, List.set_cons_zero, List.set_cons_succ]
          refine wpAnyH_ready (rs := [1, 5]) (by kernel_rfl) (by simp) ?_
          refine AllReadyH.cons (o := _) rfl (fun K hK => ?_) (AllReadyH.cons (o := _) rfl (fun K hK => ?_) AllReadyH.nil)
          · go_simp
            go_at_call 20
            refine (W1.out _).mono ?_
            rintro e v2 ⟨rfl, hbq⟩
            go_wp2_with fail
            have T2 := T1.below hbq
            refine hK.out _ _ T2.1 (fun hHeld => ?_)
            clear hK hbq T1
            try simp only [Act.put, List.setIfInBounds_toArray, List.set_cons_zero, List.set_cons_succ]
            refine wpAnyH_ready (rs := [3, 5]) (by kernel_rfl) (by simp) ?_
            refine AllReadyH.cons (o := _) rfl (fun K hK => ?_) (AllReadyH.cons (o := _) rfl (fun K hK => ?_) AllReadyH.nil)
            · go_simp
              go_at_call 20
              refine (W2.out _).mono ?_
              rintro e v3 ⟨rfl, hbq⟩
              go_wp2_with fail
              have T3 := T2.below hbq
              refine hK.out _ _ T3.1 (fun hHeld => ?_)
              clear hK hbq T2
              try simp only [Act.put, List.setIfInBounds_toArray, List.set_cons_zero, List.set_cons_succ]
              refine wpAnyH_ready (rs := [5]) (by kernel_rfl) (by simp) ?_
              refine AllReadyH.cons (o := _) rfl (fun K hK => ?_) AllReadyH.nil
              · rw [if_pos (by rfl)]
                refine wp_alloc9 9 rfl rfl ?_
                have T4 := T3.alloc9
                refine hK.out _ _ T4.1 (fun hHeld => ?_)
                clear hK
                revert hHeld T4
                obtain ⟨g9, hg⟩ : ∃ g, g = (v3).heap.size := ⟨_, rfl⟩
                obtain ⟨v4, hW⟩ : ∃ W, W = (v3).alloc (.cells zz 22) := ⟨_, rfl⟩
                rw [← hg, ← hW]
                clear hg hW
                intro T4 hHeld
                clear T3
                try simp only [Act.put, List.setIfInBounds_toArray, List.set_cons_zero, List.set_cons_succ]
                refine wpAnyH_ready (rs := [6]) (by kernel_rfl) (by simp) ?_
                refine AllReadyH.cons (o := _) rfl (fun K hK => ?_) AllReadyH.nil
                rw [if_pos (by rfl)]
                refine wp_store9 rfl _ _ rfl g8 (ac 9 M) rfl rfl zz (T4.2.1 g8 rfl).1 info9 (zz_same _) (ac_one 9 _) ?_
                refine hK.out _ _ (Fo.row T4.1 (T4.2.1 g8 rfl).2 _) (fun hHeld => ?_)
                clear hK
                try simp only [Act.put, List.setIfInBounds_toArray, List.set_cons_zero, List.set_cons_succ]
                refine wpAnyH_ready (rs := [7]) (by kernel_rfl) (by simp) ?_
                refine AllReadyH.cons (o := _) rfl (fun K hK => ?_) AllReadyH.nil
                rw [if_pos (by rfl)]
                refine wp_store9 rfl _ _ rfl g9 (ac 9 N) rfl rfl zz ((setRow_other _ _ _ _ (fun e => (T4.2.2.2 g8 g9 rfl rfl) e.symm)).trans (T4.2.2.1 g9 rfl).1) info9 (zz_same _) (ac_one 9 _) ?_
                refine hK.out _ _ (Fo.row (Fo.row T4.1 (T4.2.1 g8 rfl).2 _) (T4.2.2.1 g9 rfl).2 _) (fun hHeld => ?_)
                clear hK
                try simp only [Act.put, List.setIfInBounds_toArray, List.set_cons_zero, List.set_cons_succ]
                refine wpAnyH_done (by kernel_rfl) ?_ _
                go_wp2_with fail
                go_meet
                exact ⟨g8, g9, rfl, rfl, tw_of T4⟩
            · rw [if_pos (by rfl)]
              refine wp_alloc9 9 rfl rfl ?_
              have T3 := T2.alloc9
              refine hK.out _ _ T3.1 (fun hHeld => ?_)
              clear hK
              revert hHeld T3
              obtain ⟨g9, hg⟩ : ∃ g, g = (v2).heap.size := ⟨_, rfl⟩
              obtain ⟨v3, hW⟩ : ∃ W, W = (v2).alloc (.cells zz 22) := ⟨_, rfl⟩
              rw [← hg, ← hW]
              clear hg hW
              intro T3 hHeld
              clear T2
              try simp only [Act.put, List.setIfInBounds_toArray, List.set_cons_zero, List.set_cons_succ]
              refine wpAnyH_ready (rs := [3]) (by kernel_rfl) (by simp) ?_
              refine AllReadyH.cons (o := _) rfl (fun K hK => ?_) AllReadyH.nil
              · go_simp
                go_at_call 20
                refine (W2.out _).mono ?_
                rintro e v4 ⟨rfl, hbq⟩
                go_wp2_with fail
                have T4 := T3.below hbq
                refine hK.out _ _ T4.1 (fun hHeld => ?_)
                clear hK hbq T3
                try simp only [Act.put, List.setIfInBounds_toArray, List.set_cons_zero, List.set_cons_succ]
                refine wpAnyH_ready (rs := [6]) (by kernel_rfl) (by simp) ?_
                refine AllReadyH.cons (o := _) rfl (fun K hK => ?_) AllReadyH.nil
                rw [if_pos (by rfl)]
                refine wp_store9 rfl _ _ rfl g8 (ac 9 M) rfl rfl zz (T4.2.1 g8 rfl).1 info9 (zz_same _) (ac_one 9 _) ?_
                refine hK.out _ _ (Fo.row T4.1 (T4.2.1 g8 rfl).2 _) (fun hHeld => ?_)
                clear hK
                try simp only [Act.put, List.setIfInBounds_toArray, List.set_cons_zero, List.set_cons_succ]
                refine wpAnyH_ready (rs := [7]) (by kernel_rfl) (by simp) ?_
                refine AllReadyH.cons (o := _) rfl (fun K hK => ?_) AllReadyH.nil
                rw [if_pos (by rfl)]
                refine wp_store9 rfl _ _ rfl g9 (ac 9 N) rfl rfl zz ((setRow_other _ _ _ _ (fun e => (T4.2.2.2 g8 g9 rfl rfl) e.symm)).trans (T4.2.2.1 g9 rfl).1) info9 (zz_same _) (ac_one 9 _) ?_
                refine hK.out _ _ (Fo.row (Fo.row T4.1 (T4.2.1 g8 rfl).2 _) (T4.2.2.1 g9 rfl).2 _) (fun hHeld => ?_)
                clear hK
                try simp only [Act.put, List.setIfInBounds_toArray, List.set_cons_zero, List.set_cons_succ]
                refine wpAnyH_done (by kernel_rfl) ?_ _
                go_wp2_with fail
                go_meet
                exact ⟨g8, g9, rfl, rfl, tw_of T4⟩
          · rw [if_pos (by rfl)]
            refine wp_alloc9 9 rfl rfl ?_
            have T2 := T1.alloc9
            refine hK.out _ _ T2.1 (fun hHeld => ?_)
            clear hK
            revert hHeld T2
            obtain ⟨g9, hg⟩ : ∃ g, g = (v1).heap.size := ⟨_, rfl⟩
            obtain ⟨v2, hW⟩ : ∃ W, W = (v1).alloc (.cells zz 22) := ⟨_, rfl⟩
            rw [← hg, ← hW]
            clear hg hW
            intro T2 hHeld
            clear T1
            try simp only [Act.put, List.setIfInBounds_toArray, List.set_cons_zero, List.set_cons_succ]
            refine wpAnyH_ready (rs := [1]) (by kernel_rfl) (by simp) ?_
            refine AllReadyH.cons (o := _) rfl (fun K hK => ?_) AllReadyH.nil
            · go_simp
              go_at_call 20
              refine (W1.out _).mono ?_
              rintro e v3 ⟨rfl, hbq⟩
              go_wp2_with fail
              have T3 := T2.below hbq
              refine hK.out _ _ T3.1 (fun hHeld => ?_)
              clear hK hbq T2
              try simp only [Act.put, List.setIfInBounds_toArray, List.set_cons_zero, List.set_cons_succ]
              refine wpAnyH_ready (rs := [3]) (by kernel_rfl) (by simp) ?_
              refine AllReadyH.cons (o := _) rfl (fun K hK => ?_) AllReadyH.nil
              · go_simp
                go_at_call 20
                refine (W2.out _).mono ?_
                rintro e v4 ⟨rfl, hbq⟩
                go_wp2_with fail
                have T4 := T3.below hbq
                refine hK.out _ _ T4.1 (fun hHeld => ?_)
                clear hK hbq T3
                try simp only [Act.put, List.setIfInBounds_toArray, List.set_cons_zero, List.set_cons_succ]
                refine wpAnyH_ready (rs := [6]) (by kernel_rfl) (by simp) ?_
                refine AllReadyH.cons (o := _) rfl (fun K hK => ?_) AllReadyH.nil
                rw [if_pos (by rfl)]
                refine wp_store9 rfl _ _ rfl g8 (ac 9 M) rfl rfl zz (T4.2.1 g8 rfl).1 info9 (zz_same _) (ac_one 9 _) ?_
                refine hK.out _ _ (Fo.row T4.1 (T4.2.1 g8 rfl).2 _) (fun hHeld => ?_)
                clear hK
                try simp only [Act.put, List.setIfInBounds_toArray, List.set_cons_zero, List.set_cons_succ]
                refine wpAnyH_ready (rs := [7]) (by kernel_rfl) (by simp) ?_
                refine AllReadyH.cons (o := _) rfl (fun K hK => ?_) AllReadyH.nil
                rw [if_pos (by rfl)]
                refine wp_store9 rfl _ _ rfl g9 (ac 9 N) rfl rfl zz ((setRow_other _ _ _ _ (fun e => (T4.2.2.2 g8 g9 rfl rfl) e.symm)).trans (T4.2.2.1 g9 rfl).1) info9 (zz_same _) (ac_one 9 _) ?_
                refine hK.out _ _ (Fo.row (Fo.row T4.1 (T4.2.1 g8 rfl).2 _) (T4.2.2.1 g9 rfl).2 _) (fun hHeld => ?_)
                clear hK
                try simp only [Act.put, List.setIfInBounds_toArray, List.set_cons_zero, List.set_cons_succ]
                refine wpAnyH_done (by kernel_rfl) ?_ _
                go_wp2_with fail
                go_meet
                exact ⟨g8, g9, rfl, rfl, tw_of T4⟩
        · rw [if_pos (by rfl)]
          refine wp_alloc9 9 rfl rfl ?_
          have T1 := T0.alloc9
          refine hK.out _ _ T1.1 (fun hHeld => ?_)
          clear hK
          revert hHeld T1
          obtain ⟨g9, hg⟩ : ∃ g, g = (wr.drew).heap.size := ⟨_, rfl⟩
          obtain ⟨v1, hW⟩ : ∃ W, W = (wr.drew).alloc (.cells zz 22) := ⟨_, rfl⟩
          rw [← hg, ← hW]
          clear hg hW
          intro T1 hHeld
          clear T0
          try simp only [Act.put, List.setIfInBounds_toArray, List.set_cons_zero, List.set_cons_succ]
          refine wpAnyH_ready (rs := [1, 4]) (by kernel_rfl) (by simp) ?_
          refine AllReadyH.cons (o := _) rfl (fun K hK => ?_) (AllReadyH.cons (o := _) rfl (fun K hK => ?_) AllReadyH.nil)
          · go_simp
            go_at_call 20
            refine (W1.out _).mono ?_
            rintro e v2 ⟨rfl, hbq⟩
            go_wp2_with fail
            have T2 := T1.below hbq
            refine hK.out _ _ T2.1 (fun hHeld => ?_)
            clear hK hbq T1
            try simp only [Act.put, List.setIfInBounds_toArray, List.set_cons_zero, List.set_cons_succ]
            refine wpAnyH_ready (rs := [3, 4]) (by kernel_rfl) (by simp) ?_
            refine AllReadyH.cons (o := _) rfl (fun K hK => ?_) (AllReadyH.cons (o := _) rfl (fun K hK => ?_) AllReadyH.nil)
            · go_simp
              go_at_call 20
              refine (W2.out _).mono ?_
              rintro e v3 ⟨rfl, hbq⟩
              go_wp2_with fail
              have T3 := T2.below hbq
              refine hK.out _ _ T3.1 (fun hHeld => ?_)
              clear hK hbq T2
              try simp only [Act.put, List.setIfInBounds_toArray, List.set_cons_zero, List.set_cons_succ]
              refine wpAnyH_ready (rs := [4]) (by kernel_rfl) (by simp) ?_
              refine AllReadyH.cons (o := _) rfl (fun K hK => ?_) AllReadyH.nil
              · rw [if_pos (by rfl)]
                refine wp_alloc9 8 rfl rfl ?_
                have T4 := T3.alloc8
                refine hK.out _ _ T4.1 (fun hHeld => ?_)
                clear hK
                revert hHeld T4
                obtain ⟨g8, hg⟩ : ∃ g, g = (v3).heap.size := ⟨_, rfl⟩
                obtain ⟨v4, hW⟩ : ∃ W, W = (v3).alloc (.cells zz 22) := ⟨_, rfl⟩
                rw [← hg, ← hW]
                clear hg hW
                intro T4 hHeld
                clear T3
                try simp only [Act.put, List.setIfInBounds_toArray, List.set_cons_zero, List.set_cons_succ]
                refine wpAnyH_ready (rs := [6]) (by kernel_rfl) (by simp) ?_
                refine AllReadyH.cons (o := _) rfl (fun K hK => ?_) AllReadyH.nil
                rw [if_pos (by rfl)]
                refine wp_store9 rfl _ _ rfl g8 (ac 9 M) rfl rfl zz (T4.2.1 g8 rfl).1 info9 (zz_same _) (ac_one 9 _) ?_
                refine hK.out _ _ (Fo.row T4.1 (T4.2.1 g8 rfl).2 _) (fun hHeld => ?_)
                clear hK
                try simp only [Act.put, List.setIfInBounds_toArray, List.set_cons_zero, List.set_cons_succ]
                refine wpAnyH_ready (rs := [7]) (by kernel_rfl) (by simp) ?_
                refine AllReadyH.cons (o := _) rfl (fun K hK => ?_) AllReadyH.nil
                rw [if_pos (by rfl)]
                refine wp_store9 rfl _ _ rfl g9 (ac 9 N) rfl rfl zz ((setRow_other _ _ _ _ (fun e => (T4.2.2.2 g8 g9 rfl rfl) e.symm)).trans (T4.2.2.1 g9 rfl).1) info9 (zz_same _) (ac_one 9 _) ?_
                refine hK.out _ _ (Fo.row (Fo.row T4.1 (T4.2.1 g8 rfl).2 _) (T4.2.2.1 g9 rfl).2 _) (fun hHeld => ?_)
                clear hK
                try simp only [Act.put, List.setIfInBounds_toArray, List.set_cons_zero, List.set_cons_succ]
                refine wpAnyH_done (by kernel_rfl) ?_ _
                go_wp2_with fail
                go_meet
                exact ⟨g8, g9, rfl, rfl, tw_of T4⟩
            · rw [if_pos (by rfl)]
              refine wp_alloc9 8 rfl rfl ?_
              have T3 := T2.alloc8
              refine hK.out _ _ T3.1 (fun hHeld => ?_)
              clear hK
              revert hHeld T3
              obtain ⟨g8, hg⟩ : ∃ g, g = (v2).heap.size := ⟨_, rfl⟩
              obtain ⟨v3, hW⟩ : ∃ W, W = (v2).alloc (.cells zz 22) := ⟨_, rfl⟩
              rw [← hg, ← hW]
              clear hg hW
              intro T3 hHeld
              clear T2
              try simp only [Act.put, List.setIfInBounds_toArray, List.set_cons_zero, List.set_cons_succ]
              refine wpAnyH_ready (rs := [3]) (by kernel_rfl) (by simp) ?_
              refine AllReadyH.cons (o := _) rfl (fun K hK => ?_) AllReadyH.nil
              · go_simp
                go_at_call 20
                refine (W2.out _).mono ?_
                rintro e v4 ⟨rfl, hbq⟩
                go_wp2_with fail
                have T4 := T3.below hbq
                refine hK.out _ _ T4.1 (fun hHeld => ?_)
                clear hK hbq T3
                try simp only [Act.put, List.setIfInBounds_toArray, List.set_cons_zero, List.set_cons_succ]
                refine wpAnyH_ready (rs := [6]) (by kernel_rfl) (by simp) ?_
                refine AllReadyH.cons (o := _) rfl (fun K hK => ?_) AllReadyH.nil
                rw [if_pos (by rfl)]
                refine wp_store9 rfl _ _ rfl g8 (ac 9 M) rfl rfl zz (T4.2.1 g8 rfl).1 info9 (zz_same _) (ac_one 9 _) ?_
                refine hK.out _ _ (Fo.row T4.1 (T4.2.1 g8 rfl).2 _) (fun hHeld => ?_)
                clear hK
                try simp only [Act.put, List.setIfInBounds_toArray, List.set_cons_zero, List.set_cons_succ]
                refine wpAnyH_ready (rs := [7]) (by kernel_rfl) (by simp) ?_
                refine AllReadyH.cons (o := _) rfl (fun K hK => ?_) AllReadyH.nil
                rw [if_pos (by rfl)]
                refine wp_store9 rfl _ _ rfl g9 (ac 9 N) rfl rfl zz ((setRow_other _ _ _ _ (fun e => (T4.2.2.2 g8 g9 rfl rfl) e.symm)).trans (T4.2.2.1 g9 rfl).1) info9 (zz_same _) (ac_one 9 _) ?_
                refine hK.out _ _ (Fo.row (Fo.row T4.1 (T4.2.1 g8 rfl).2 _) (T4.2.2.1 g9 rfl).2 _) (fun hHeld => ?_)
                clear hK
                try simp only [Act.put, List.setIfInBounds_toArray, List.set_cons_zero, List.set_cons_succ]
                refine wpAnyH_done (by kernel_rfl) ?_ _
                go_wp2_with fail
                go_meet
                exact ⟨g8, g9, rfl, rfl, tw_of T4⟩
          · rw [if_pos (by rfl)]
            refine wp_alloc9 8 rfl rfl ?_
            have T2 := T1.alloc8
            refine hK.out _ _ T2.1 (fun hHeld => ?_)
            clear hK
            revert hHeld T2
            obtain ⟨g8, hg⟩ : ∃ g, g = (v1).heap.size := ⟨_, rfl⟩
            obtain ⟨v2, hW⟩ : ∃ W, W = (v1).alloc (.cells zz 22) := ⟨_, rfl⟩
            rw [← hg, ← hW]
            clear hg hW
            intro T2 hHeld
            clear T1
            try simp only [Act.put, List.setIfInBounds_toArray, List.set_cons_zero, List.set_cons_succ]
            refine wpAnyH_ready (rs := [1]) (by kernel_rfl) (by simp) ?_
            refine AllReadyH.cons (o := _) rfl (fun K hK => ?_) AllReadyH.nil
            · go_simp
              go_at_call 20
              refine (W1.out _).mono ?_
              rintro e v3 ⟨rfl, hbq⟩
              go_wp2_with fail
              have T3 := T2.below hbq
              refine hK.out _ _ T3.1 (fun hHeld => ?_)
              clear hK hbq T2
              try simp only [Act.put, List.setIfInBounds_toArray, List.set_cons_zero, List.set_cons_succ]
              refine wpAnyH_ready (rs := [3]) (by kernel_rfl) (by simp) ?_
              refine AllReadyH.cons (o := _) rfl (fun K hK => ?_) AllReadyH.nil
              · go_simp
                go_at_call 20
                refine (W2.out _).mono ?_
                rintro e v4 ⟨rfl, hbq⟩
                go_wp2_with fail
                have T4 := T3.below hbq
                refine hK.out _ _ T4.1 (fun hHeld => ?_)
                clear hK hbq T3
                try simp only [Act.put, List.setIfInBounds_toArray, List.set_cons_zero, List.set_cons_succ]
                refine wpAnyH_ready (rs := [6]) (by kernel_rfl) (by simp) ?_
                refine AllReadyH.cons (o := _) rfl (fun K hK => ?_) AllReadyH.nil
                rw [if_pos (by rfl)]
                refine wp_store9 rfl _ _ rfl g8 (ac 9 M) rfl rfl zz (T4.2.1 g8 rfl).1 info9 (zz_same _) (ac_one 9 _) ?_
                refine hK.out _ _ (Fo.row T4.1 (T4.2.1 g8 rfl).2 _) (fun hHeld => ?_)
                clear hK
                try simp only [Act.put, List.setIfInBounds_toArray, List.set_cons_zero, List.set_cons_succ]
                refine wpAnyH_ready (rs := [7]) (by kernel_rfl) (by simp) ?_
                refine AllReadyH.cons (o := _) rfl (fun K hK => ?_) AllReadyH.nil
                rw [if_pos (by rfl)]
                refine wp_store9 rfl _ _ rfl g9 (ac 9 N) rfl rfl zz ((setRow_other _ _ _ _ (fun e => (T4.2.2.2 g8 g9 rfl rfl) e.symm)).trans (T4.2.2.1 g9 rfl).1) info9 (zz_same _) (ac_one 9 _) ?_
                refine hK.out _ _ (Fo.row (Fo.row T4.1 (T4.2.1 g8 rfl).2 _) (T4.2.2.1 g9 rfl).2 _) (fun hHeld => ?_)
                clear hK
                try simp only [Act.put, List.setIfInBounds_toArray, List.set_cons_zero, List.set_cons_succ]
                refine wpAnyH_done (by kernel_rfl) ?_ _
                go_wp2_with fail
                go_meet
                exact ⟨g8, g9, rfl, rfl, tw_of T4⟩
      case rest =>
        obtain ⟨g8, g9, rfl, rfl, H8⟩ := hcut
        go_wp2_with fail
        have KK : Hid (∀ W1 W' : World, Tw B g8 g9 w (ac 9 M) (ac 9 N) W1 → Below W1.heap.size W1 W' → Tw B g8 g9 w (ac 9 M) (ac 9 N) W') := Lib.hid (fun W1 W' h hq => h.below hq)
        refine wp_region_held_drew (S := fun w' => Tw B g8 g9 w (ac 9 M) (ac 9 N) w') (by kernel_rfl) (Tw.drew H8) (fun hHeld => ?_)
        clear H8
        refine wpAnyH_take (i := 0) (oi := _) (v := _) rfl (by kernel_rfl) (by kernel_rfl) (by kernel_rfl) (fun _ _ _ h => h) (yLoad9 rfl _ rfl g8 rfl M (fun _ h => h.1)) (by assumption) ?_
        go_simp
        refine wpAnyH_take (i := 2) (oi := _) (v := _) rfl (by kernel_rfl) (by kernel_rfl) (by kernel_rfl) (fun _ _ _ h => h) (yLoad9 rfl _ rfl g9 rfl N (fun _ h => h.2.1)) (by assumption) ?_
        go_simp
        refine wpAnyH_ready (rs := [1]) (by kernel_rfl) (by simp) ?_
        refine AllReadyH.cons (o := _) rfl (fun K hK => ?_) AllReadyH.nil
        go_simp
        go_at_call 15
        refine (T1.out _).mono ?_
        rintro e w3 ⟨rfl, hbq⟩
        go_wp2_with fail
        refine hK.out _ _ (KK.out _ _ (by assumption) hbq) (fun hHeld => ?_)
        clear hK hbq
        try simp only [Act.put, List.setIfInBounds_toArray, List.set_cons_zero, List.set_cons_succ]
        refine wpAnyH_ready (rs := [3]) (by kernel_rfl) (by simp) ?_
        refine AllReadyH.cons (o := _) rfl (fun K hK => ?_) AllReadyH.nil
        go_simp
        go_at_call 15
        refine (T2.out _).mono ?_
        rintro e w4 ⟨rfl, hbq⟩
        go_wp2_with fail
        refine hK.out _ _ (KK.out _ _ (by assumption) hbq) (fun hHeld => ?_)
        clear hK hbq
        try simp only [Act.put, List.setIfInBounds_toArray, List.set_cons_zero, List.set_cons_succ]
        refine wpAnyH_take (i := 4) (oi := _) (v := .int .i64 d) rfl (by kernel_rfl) (by kernel_rfl) (by kernel_rfl) (fun _ _ _ h => h) (Or.inl ⟨by rfl, fun W1 _ => by go_simp⟩) (by assumption) ?_
        go_simp
        refine wpAnyH_take (i := 5) (oi := _) (v := .int .i64 f) rfl (by kernel_rfl) (by kernel_rfl) (by kernel_rfl) (fun _ _ _ h => h) (Or.inl ⟨by rfl, fun W1 _ => by go_simp⟩) (by assumption) ?_
        go_simp
        refine wpAnyH_done (by kernel_rfl) ?_ _
        have H9 : Tw B g8 g9 w (ac 9 M) (ac 9 N) w4 := by assumption
        go_wp2_with fail
        refine (awake_any _).mono ?_
        rintro e w5 ⟨rfl, hb5⟩
        have H10 := H9.below hb5
        clear hb5 H9
        go_wp2_with (first
          | (refine wpList_load9G rfl _ rfl g8 rfl M H10.1 ?_)
          | (refine wpList_load9G rfl _ rfl g9 rfl N H10.2.1 ?_))
        refine (ML.out _).mono ?_
        rintro e w6 ⟨rfl, hb6⟩
        have H11 := H10.below hb6
        clear hb6 H10
        go_wp2_with fail
        refine (T3.out _).mono ?_
        rintro e w7 ⟨rfl, hb7⟩
        have H12 := H11.below hb7
        clear hb7 H11
        go_wp2_with fail
        go_ret
        exact ⟨rfl, H12.2.2.1⟩

open Go.ChangeShapes Go.WideShapes Go.ChangeAt Go.Joins

theorem contract (H : Type) (enc : TypeId × Value → H) (W : World) (base : Nat) (args : Array Value) (ds gs : List (DataW H)) (before : List MemPlace)
    (hval : ∀ (j : Nat) t v, Try.f7.params[j]? = some t → args[j]? = some v → Value.okWide Try.prog W .any base t v)
    (hW : DataW.Whole enc Try.prog Try.f7.params.toList Rows.matrixDetsSpec.vars false W args.toList ds gs before) :
    Calls Try.prog 7 args W fun e W' => ∃ v, e = .returned v ∧ Rows.matrixDetsSpec.post enc Try.prog Try.f7 false true false false W args v W' := by
  have hW' := hW
  obtain ⟨p, q, hA0, hV, rfl, hfz, hnd⟩ := hW
  have hA : DataW.TrodAll enc Try.prog W 0 (fun _ => true) true Try.f7.params.toList args.toList ds p := hA0
  rw [Try.params7] at hA hval
  obtain ⟨v0, vs0, d0, ds0, p0, q0, hargs, rfl, rfl, g0, r0⟩ := trodAll_cons hA
  obtain ⟨v1, vs1, d1, ds1, p1, q1, rfl, rfl, rfl, g1, r1⟩ := trodAll_cons r0
  obtain ⟨rfl, rfl, rfl⟩ := trodAll_nil r1
  obtain rfl : args = #[v0, v1] := by cases args; simp_all
  obtain ⟨rfl, rfl⟩ := trodVars_none hV
  obtain ⟨m0, rfl⟩ := open9b (hval 0 36 v0 rfl rfl)
  obtain ⟨m1, rfl⟩ := open9b (hval 1 36 v1 rfl rfl)
  clear hA0
  refine (walk m0 m1 W).mono fun e W' ⟨he, hb⟩ => ?_
  subst he
  exact ⟨_, rfl, Frame.law_post Frame.laidOut (by kernel_rfl) Try.underlying4 (by kernel_rfl) rfl rfl hW' hb⟩

set_option maxRecDepth 100000 in
theorem lifted (os : Os) (started : os.Started) (H : Type) (enc : TypeId × Value → H) :
    ReturnsInHanded {} Try.checked os 7 .any (Rows.matrixDetsSpec.pre6 enc Try.prog Try.f7 Rows.matrixDetsRow.domain false) (Rows.matrixDetsSpec.post enc Try.prog Try.f7 false true false false) := by
  refine returnsInHanded_of_change (C := Try.checked) Frame.own started (by kernel_rfl) Try.func7
    (ChangeSpec.witness6 (enc := enc) (C := Try.checked) false ⟨#[], #[.agg (Array.replicate 9 (.int .i8 0)), .agg (Array.replicate 9 (.int .i8 0))], []⟩ 8 (by kernel_rfl) (by kernel_rfl) (by kernel_rfl) (by kernel_rfl)) ?_
  intro W base args ds gs before hval hW _ _
  exact contract H enc W base args ds gs before hval hW

theorem proved : Rows.MatrixDetsSaid :=
  OpenClaim.holds_of_wide 7 Try.f7 rfl rfl rfl rfl rfl rfl rfl ⟨rfl, rfl, rfl, rfl, rfl⟩ rfl rfl rfl rfl rfl (by kernel_rfl) Try.func7 (by kernel_rfl)
    (of_decide_eq_true (by kernel_rfl)) (by unfold Func.isWrapper; first | (rw [if_pos (by decide +kernel)]; kernel_rfl) | (rw [if_neg (by decide +kernel)]; exact ⟨rfl, rfl⟩))
    (fun os started H enc _ => lifted os started H enc)

end Go.Proofs.Ytcmaoomcdmjimaa.MatrixDets
