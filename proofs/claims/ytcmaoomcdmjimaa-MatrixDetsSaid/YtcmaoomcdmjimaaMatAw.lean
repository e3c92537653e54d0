/-
  Layer 8's laws: the examples hold.
-/
import Derived.Test.YtcmaoomcdmjimaaMatEx
namespace Go.Proofs.Ytcmaoomcdmjimaa.Mat
open Go.RowKit Go.Proofs.Ytcmaoomcdmjimaa Go.Proofs.Ytcmaoomcdmjimaa.NumPure Go.Proofs.Ytcmaoomcdmjimaa.MatPure

theorem neq9 (m f : Nat → Int) (w : World) : (binOp .neq 22 (.agg (ac 9 m)) (.agg (ac 9 f))).run Try.prog w = .ok (.bool (!((List.range 9).map m == (List.range 9).map f))) w := by
  have h := ArrEq.run_equalIn_ints (P := Try.prog) w 9998 22 3 9 .i64 Try.underlying22 Try.underlying3 (fun w => by kernel_rfl) ((List.range 9).map m) ((List.range 9).map f) (by simp) (by simp)
  rw [ac_map, ac_map] at h
  rw [run_neq_struct, h]
  rfl
theorem eql3 (m f : Nat → Int) (w : World) : (binOp .eql 23 (.agg (ac 3 m)) (.agg (ac 3 f))).run Try.prog w = .ok (.bool ((List.range 3).map m == (List.range 3).map f)) w := by
  have h := ArrEq.run_eql_ints (P := Try.prog) w 23 3 3 .i64 Try.underlying23 Try.underlying3 (fun w => by kernel_rfl) ((List.range 3).map m) ((List.range 3).map f) (by simp) (by simp)
  rw [ac_map, ac_map] at h
  exact h
theorem neq3 (m f : Nat → Int) (w : World) : (binOp .neq 23 (.agg (ac 3 m)) (.agg (ac 3 f))).run Try.prog w = .ok (.bool (!((List.range 3).map m == (List.range 3).map f))) w := by
  have h := ArrEq.run_equalIn_ints (P := Try.prog) w 9998 23 3 3 .i64 Try.underlying23 Try.underlying3 (fun w => by kernel_rfl) ((List.range 3).map m) ((List.range 3).map f) (by simp) (by simp)
  rw [ac_map, ac_map] at h
  rw [run_neq_struct, h]
  rfl
theorem neq9_same (l : List Int) (w : World) : (binOp .neq 22 (.agg (ac 9 (li l))) (.agg (ac 9 (li l)))).run Try.prog w = .ok (.bool false) w := by
  rw [neq9]; simp
theorem neq3_same (l : List Int) (w : World) : (binOp .neq 23 (.agg (ac 3 (li l))) (.agg (ac 3 (li l)))).run Try.prog w = .ok (.bool false) w := by
  rw [neq3]; simp
theorem eql9_same (l : List Int) (w : World) : (binOp .eql 22 (.agg (ac 9 (li l))) (.agg (ac 9 (li l)))).run Try.prog w = .ok (.bool true) w := by
  rw [eql9]; simp

theorem whole_is (l u : List Int) (hm : ∀ n, n < 9 → -1073741824 ≤ li l n ∧ li l n ≤ 1073741824) (h : ∀ n, n < 9 → whM (li l) n = li u n) (w : World) : Calls Try.prog 20 #[.agg (ac 9 (li l))] w fun e w' => e = .returned (.agg (ac 9 (li u))) ∧ Below w.heap.size w w' := by
  rw [← ac_ext h]; exact whole_any _ hm w
theorem mul_is (a b u : List Int) (h : ∀ n, n < 9 → mulM (li a) (li b) n = li u n) (w : World) : Calls Try.prog 19 #[.agg (ac 9 (li a)), .agg (ac 9 (li b))] w fun e w' => e = .returned (.agg (ac 9 (li u))) ∧ Below w.heap.size w w' := by
  rw [← ac_ext h]; exact mul_any _ _ w
theorem apply_is (a b u : List Int) (h : ∀ n, n < 3 → appM (li a) (li b) n = li u n) (w : World) : Calls Try.prog 11 #[.agg (ac 9 (li a)), .agg (ac 3 (li b))] w fun e w' => e = .returned (.agg (ac 3 (li u))) ∧ Below w.heap.size w w' := by
  rw [← ac_ext h]; exact apply_any _ _ w
theorem det_is (a : List Int) (d : Int) (h : detM (li a) = d) (w : World) : Calls Try.prog 15 #[.agg (ac 9 (li a))] w fun e w' => e = .returned (.int .i64 d) ∧ Below w.heap.size w w' := by
  rw [← h]; exact det_any _ w
theorem inverse_is (a u : List Int) (x : Int) (h : ∀ n, n < 9 → invM (li a) n = li u n) (hx : invX (li a) = x) (w : World) : Calls Try.prog 13 #[.agg (ac 9 (li a))] w fun e w' => e = .returned (.tuple #[.agg (ac 9 (li u)), .int .i64 x]) ∧ Below w.heap.size w w' := by
  rw [← ac_ext h, ← hx]; exact inverse_any _ w

theorem Two.row1 {B g1 g2 : Nat} {w wr : World} {m f : Nat → Int} {A2 : Array Value} (h : Two B g1 g2 w (ac 9 m) A2 wr) : Two B g1 g2 w (ac 9 f) A2 (wr.setRow g1 (ac 9 f)) := by
  obtain ⟨h1, h2, hb, d1, d2⟩ := h
  exact ⟨setRow_heap _ _ (ac 9 m) _ _ _ h1, (setRow_other _ _ _ _ (by omega)).trans h2, below_setRow hb (by omega) _, d1, d2⟩
theorem Two.row2 {B g1 g2 : Nat} {w wr : World} {m f : Nat → Int} {A1 : Array Value} (h : Two B g1 g2 w A1 (ac 9 m) wr) : Two B g1 g2 w A1 (ac 9 f) (wr.setRow g2 (ac 9 f)) := by
  obtain ⟨h1, h2, hb, d1, d2⟩ := h
  exact ⟨(setRow_other _ _ _ _ (by omega)).trans h1, setRow_heap _ _ (ac 9 m) _ _ _ h2, below_setRow hb (by omega) _, d1, d2⟩
theorem Two.below {B g1 g2 : Nat} {w wr w' : World} {A1 A2 : Array Value} (h : Two B g1 g2 w A1 A2 wr) (hb : Below wr.heap.size wr w') : Two B g1 g2 w A1 A2 w' :=
  ⟨h.1.below hb h.1.lt, h.2.1.below hb h.2.1.lt, h.2.2.1.trans (hb.mono (by have := h.1.lt; have := h.2.2.2.2; omega)), h.2.2.2⟩
theorem wpList_alloc9g {ops : Array Oper} {rest : List Oper} {o : Oper} {a : Act} {w : World} {Q : Exit → Act → World → Prop} (hg : o.guard = none) (ho : o.op = .alloc 22) (g : Nat) (e : w.heap.size = g)
    (h : wpList Try.prog ops Q rest (a.put o.dst (.pointer (some ⟨g, 0, none⟩))) (w.alloc (.cells (ac 9 fun _ => 0) 22))) : wpList Try.prog ops Q (o :: rest) a w := by
  subst e
  exact wpList_alloc9 hg ho h
theorem wpList_load9G {ops : Array Oper} {rest : List Oper} {o : Oper} {a : Act} {w : World} {Q : Exit → Act → World → Prop} (hw : Region.wanted o (yielded ops a.tmps) = true) (x : Operand) (ho : o.op = .load 22 x)
    (g : Nat) (hx : a.eval x = .pointer (some ⟨g, 0, none⟩)) (m : Nat → Int) (hg : Blk w g 22 (ac 9 m))
    (h : wpList Try.prog ops Q rest (a.put o.dst (.agg (ac 9 m))) w) : wpList Try.prog ops Q (o :: rest) a w :=
  wpList_step fun K hK => by rw [if_pos hw]; exact wp_load_row _ x ho g hx _ (ac 9 m) (0, 0) _ hg Try.underlying22 rfl info9 (hK _ _ h)
theorem wpList_buildK {n : Nat} {l : List Int} {T : TypeId} (k : Nat) {ops : Array Oper} {rest : List Oper} {o : Oper} {a : Act} {w : World} {Q : Exit → Act → World → Prop} (hg : o.guard = none) (parts : Array (Nat × Operand)) (ho : o.op = .build T parts) (_ : parts.size = k)
    (hb : Try.prog.built T (parts.map fun (i, x) => (i, a.eval x)).toList = some (ac n (li l)))
    (h : wpList Try.prog ops Q rest (a.put o.dst (.agg (ac n (li l)))) w) : wpList Try.prog ops Q (o :: rest) a w := wpList_buildL hg parts ho hb h
theorem wpList_buildG {n : Nat} {l : List Int} {T : TypeId} {ops : Array Oper} {rest : List Oper} {o : Oper} {a : Act} {w : World} {Q : Exit → Act → World → Prop} (k : Nat) (hw : Region.wanted o (yielded ops a.tmps) = true) (parts : Array (Nat × Operand)) (ho : o.op = .build T parts) (_ : parts.size = k)
    (hb : Try.prog.built T (parts.map fun (i, x) => (i, a.eval x)).toList = some (ac n (li l)))
    (h : wpList Try.prog ops Q rest (a.put o.dst (.agg (ac n (li l)))) w) : wpList Try.prog ops Q (o :: rest) a w :=
  wpList_step fun K hK => by
    rw [if_pos hw]
    refine wp_build T parts ho (by rw [hb]; rfl) ?_
    rw [hb]
    exact hK _ _ h
theorem yLoad9 {S : World → Prop} {ops : Array Oper} {o : Oper} {a : Act} (hw : Region.wanted o (yielded ops a.tmps) = true) (x : Operand) (ho : o.op = .load 22 x) (g : Nat) (hx : a.eval x = .pointer (some ⟨g, 0, none⟩)) (m : Nat → Int)
    (hS : ∀ W, S W → Blk W g 22 (ac 9 m)) : YieldsIf Try.prog ops S o (.agg (ac 9 m)) a :=
  Or.inl ⟨hw, fun W h => by
    unfold execOp
    simp only [ho, hx, Instr.loadAt, Instr.sureAddr, Sem.run_bind, Sem.run_pure, Result.andThen_ok, run_loadVar_row W g 22 22 (ac 9 m) (0, 0) _ (hS W h) Try.underlying22 rfl info9]⟩
theorem yBuild {n : Nat} {l : List Int} {S : World → Prop} {ops : Array Oper} {o : Oper} {a : Act} (hw : Region.wanted o (yielded ops a.tmps) = true) (T : TypeId) (parts : Array (Nat × Operand)) (ho : o.op = .build T parts)
    (hb : Try.prog.built T (parts.map fun (i, x) => (i, a.eval x)).toList = some (ac n (li l))) : YieldsIf Try.prog ops S o (.agg (ac n (li l))) a :=
  Or.inl ⟨hw, fun W h => by
    unfold execOp
    simp only [ho, Sem.run_bind, run_build W T _ _ hb, Result.andThen_ok, Sem.run_pure]⟩
theorem yBin {v : Value} {S : World → Prop} {ops : Array Oper} {o : Oper} {a : Act} (hw : Region.wanted o (yielded ops a.tmps) = true) (b : BinOp) (t u : TypeId) (x y : Operand) (ho : o.op = .binOp b t x y u)
    (he : ∀ W, (eqGuard b t x y (a.eval x) (a.eval y)).run Try.prog W = .ok () W) (hr : ∀ W, (binOp b t (a.eval x) (a.eval y)).run Try.prog W = .ok v W) : YieldsIf Try.prog ops S o v a :=
  Or.inl ⟨hw, fun W h => by
    unfold execOp
    simp [ho, Sem.run_bind, he, hr, Result.andThen_ok]⟩
theorem Two.new {B : Nat} {w w2 : World} (hb : Below B w w2) (hB : B ≤ w2.heap.size) (m f : Nat → Int) : Two B w2.heap.size (w2.heap.size + 1) w (ac 9 m) (ac 9 f) ((w2.alloc (.cells (ac 9 m) 22)).alloc (.cells (ac 9 f) 22)) := by
  have a1 := (Blk.new w2 22 (ac 9 m)).alloc (.cells (ac 9 f) 22)
  have a2 := Blk.new (w2.alloc (.cells (ac 9 m) 22)) 22 (ac 9 f)
  have e2 : (w2.alloc (.cells (ac 9 m) 22)).heap.size = w2.heap.size + 1 := by simp
  rw [e2] at a2
  exact ⟨a1, a2, (hb.alloc hB _).alloc (by simp; omega) _, by omega, hB⟩

theorem same_is (w : World) : Calls Try.prog 17 #[] w fun e w' => e = .returned (.agg (ac 9 (li [65536, 0, 0, 0, 65536, 0, 0, 0, 65536]))) ∧ Below w.heap.size w w' := by
  rw [← ac_ext (m := sameM) (f := li [65536, 0, 0, 0, 65536, 0, 0, 0, 65536]) (by decide +kernel)]; exact same_any w
theorem check_is (l : List Int) (h : okM (li l) = false) (w : World) : Calls Try.prog 18 #[.agg (ac 9 (li l))] w fun e w' => e = .returned (.int .i64 2) ∧ Below w.heap.size w w' := check_bad _ h w

set_option maxHeartbeats 2000000 in
set_option maxRecDepth 100000 in
theorem awake_any (w : World) : Calls Try.prog 10 #[] w fun e w' => e = .returned (.bool true) ∧ Below w.heap.size w w' := by
  obtain ⟨B, hB⟩ : ∃ B, B = w.heap.size := ⟨_, rfl⟩
  rw [← hB]
  have hBw : B ≤ w.heap.size := by omega
  go_enter Try.func10, Try.ntmps10
  go_wp2_with (refine wpList_buildL (n := 9) (l := [1, 2, 0, 0, 1, 0, 0, 0, 1]) rfl _ rfl (by kernel_rfl) ?_)
  refine (whole_is [1, 2, 0, 0, 1, 0, 0, 0, 1] [65536, 131072, 0, 0, 65536, 0, 0, 0, 65536] (by decide) (by decide +kernel) _).mono ?_
  rintro e w1 ⟨rfl, hb1⟩
  rw [← hB] at hb1
  go_wp2_with (refine wpList_buildL (n := 9) (l := [1, 0, 0, 3, 1, 0, 0, 0, 1]) rfl _ rfl (by kernel_rfl) ?_)
  refine (whole_is [1, 0, 0, 3, 1, 0, 0, 0, 1] [65536, 0, 0, 196608, 65536, 0, 0, 0, 65536] (by decide) (by decide +kernel) _).mono ?_
  rintro e w2 ⟨rfl, hb2⟩
  have hb := hb1.trans (hb2.mono (by have := hb1.size; omega))
  clear hb1 hb2
  have T0 := Two.new hb (by have := hb.size; omega) (fun _ => 0) (fun _ => 0)
  obtain ⟨g1, e1⟩ : ∃ g, w2.heap.size = g := ⟨_, rfl⟩
  obtain ⟨g2, e2⟩ : ∃ g, (w2.alloc (.cells (ac 9 fun _ => 0) 22)).heap.size = g := ⟨_, rfl⟩
  have e3 : w2.heap.size + 1 = g2 := by rw [← e2]; simp
  rw [e3, e1] at T0
  obtain ⟨W0, hW0⟩ : ∃ W, (w2.alloc (.cells (ac 9 fun _ => 0) 22)) = W := ⟨_, rfl⟩
  obtain ⟨W1, hW1⟩ : ∃ W, (W0.alloc (.cells (ac 9 fun _ => 0) 22)) = W := ⟨_, rfl⟩
  rw [hW0] at e2
  rw [hW0, hW1] at T0
  have T1 := T0.row1 (f := li [65536, 131072, 0, 0, 65536, 0, 0, 0, 65536])
  have T2 := T1.row2 (f := li [65536, 0, 0, 196608, 65536, 0, 0, 0, 65536])
  clear e3 hb hB
  go_wp2_with (first
    | (refine wpList_alloc9g rfl rfl g1 e1 ?_; rw [hW0])
    | (refine wpList_alloc9g rfl rfl g2 e2 ?_; rw [hW1])
    | (refine wpList_store_row rfl _ _ _ rfl g1 (ac 9 (li [65536, 131072, 0, 0, 65536, 0, 0, 0, 65536])) rfl rfl 22 (ac 9 fun _ => 0) T0.1 info9 ac_same (ac_one 9 _) ?_)
    | (refine wpList_store_row rfl _ _ _ rfl g2 (ac 9 (li [65536, 0, 0, 196608, 65536, 0, 0, 0, 65536])) rfl rfl 22 (ac 9 fun _ => 0) T1.2.1 info9 ac_same (ac_one 9 _) ?_)
    | (refine wpList_load_row rfl _ _ rfl g1 rfl 22 (ac 9 (li [65536, 131072, 0, 0, 65536, 0, 0, 0, 65536])) (0, 0) _ T2.1 Try.underlying22 rfl info9 ?_)
    | (refine wpList_load_row rfl _ _ rfl g2 rfl 22 (ac 9 (li [65536, 0, 0, 196608, 65536, 0, 0, 0, 65536])) (0, 0) _ T2.2.1 Try.underlying22 rfl info9 ?_))
  clear hW0 hW1 e1 e2
  clear T0 T1
  refine (mul_is [65536, 131072, 0, 0, 65536, 0, 0, 0, 65536] [65536, 0, 0, 196608, 65536, 0, 0, 0, 65536] [458752, 131072, 0, 196608, 65536, 0, 0, 0, 65536] (by decide +kernel) _).mono ?_
  rintro e w3 ⟨rfl, hb3⟩
  have T3 := T2.below hb3
  clear T2 hb3
  go_wp2_with (refine wpList_buildL (n := 9) (l := [7, 2, 0, 3, 1, 0, 0, 0, 1]) rfl _ rfl (by kernel_rfl) ?_)
  refine (whole_is [7, 2, 0, 3, 1, 0, 0, 0, 1] [458752, 131072, 0, 196608, 65536, 0, 0, 0, 65536] (by decide) (by decide +kernel) _).mono ?_
  rintro e w4 ⟨rfl, hb3⟩
  have T4 := T3.below hb3
  clear T3 hb3
  have hn := fun W => neq9_same [458752, 131072, 0, 196608, 65536, 0, 0, 0, 65536] W
  go_wp2_with (first
    | (refine wpList_buildG (n := 3) (l := [10, 20, 30]) (T := 23) 3 rfl _ rfl rfl (by kernel_rfl) ?_)
    | (refine wpList_load9G rfl _ rfl g1 rfl (li [65536, 131072, 0, 0, 65536, 0, 0, 0, 65536]) T4.1 ?_))
  refine (apply_is [65536, 131072, 0, 0, 65536, 0, 0, 0, 65536] [10, 20, 30] [50, 20, 30] (by decide +kernel) _).mono ?_
  rintro e w5 ⟨rfl, hb3⟩
  have T5 := T4.below hb3
  clear T4 hb3 hn
  have hn := fun W => neq3_same [50, 20, 30] W
  go_wp2_with (first
    | (refine wpList_buildG (n := 3) (l := [50, 20, 30]) (T := 23) 3 rfl _ rfl rfl (by kernel_rfl) ?_)
    | (refine wpList_load9G rfl _ rfl g1 rfl (li [65536, 131072, 0, 0, 65536, 0, 0, 0, 65536]) T5.1 ?_))
  refine (inverse_is [65536, 131072, 0, 0, 65536, 0, 0, 0, 65536] [65536, -131072, 0, 0, 65536, 0, 0, 0, 65536] 0 (by decide +kernel) (by decide +kernel) _).mono ?_
  rintro e w6 ⟨rfl, hb3⟩
  have T6 := (T5.below hb3).2.2.1
  clear T5 hb3 hn
  obtain ⟨g3, e3⟩ : ∃ g, w6.heap.size = g := ⟨_, rfl⟩
  have D0 : Blk (w6.alloc (.cells (ac 9 fun _ => 0) 22)) g3 22 (ac 9 fun _ => 0) := by rw [← e3]; exact Blk.new _ _ _
  have D1 : Blk ((w6.alloc (.cells (ac 9 fun _ => 0) 22)).setRow g3 (ac 9 (li [65536, -131072, 0, 0, 65536, 0, 0, 0, 65536]))) g3 22 (ac 9 (li [65536, -131072, 0, 0, 65536, 0, 0, 0, 65536])) := setRow_heap _ _ (ac 9 fun _ => 0) _ _ _ D0
  go_wp2_with (first
    | (refine wpList_alloc9g rfl rfl g3 e3 ?_)
    | (refine wpList_store_row rfl _ _ _ rfl g3 (ac 9 (li [65536, -131072, 0, 0, 65536, 0, 0, 0, 65536])) rfl rfl 22 (ac 9 fun _ => 0) D0 info9 ac_same (ac_one 9 _) ?_))
  obtain ⟨W7, hW7⟩ : ∃ W, W = (w6.alloc (.cells (ac 9 fun _ => 0) 22)).setRow g3 (ac 9 (li [65536, -131072, 0, 0, 65536, 0, 0, 0, 65536])) := ⟨_, rfl⟩
  have T7 : Below B w W7 := by rw [hW7]; exact below_setRow (T6.alloc (by have := T6.size; omega) _) (by have := T6.size; omega) _
  have hg3 : B ≤ g3 := by have := T6.size; omega
  rw [← hW7] at D1 ⊢
  clear D0 hW7 e3 T6
  have hS0 : Blk W7.drew g3 22 (ac 9 (li [65536, -131072, 0, 0, 65536, 0, 0, 0, 65536])) ∧ Below B w W7.drew := ⟨D1.drew, T7.drew⟩
  refine wp_region_held_drew (S := (fun w' => Blk w' g3 22 (ac 9 (li [65536, -131072, 0, 0, 65536, 0, 0, 0, 65536])) ∧ Below B w w')) (by kernel_rfl) hS0 (fun hHeld => ?_)
  refine wpAnyH_take (i := 0) (oi := _) (v := _) rfl (by kernel_rfl) (by kernel_rfl) (by kernel_rfl) (fun _ _ _ h => h) (yLoad9 rfl _ rfl g3 rfl (li [65536, -131072, 0, 0, 65536, 0, 0, 0, 65536]) (fun _ h => h.1)) (by assumption) ?_
  go_simp
  refine wpAnyH_take (i := 1) (oi := _) (v := _) rfl (by kernel_rfl) (by kernel_rfl) (by kernel_rfl) (fun _ _ _ h => h) (yBuild (n := 9) (l := [1, -2, 0, 0, 1, 0, 0, 0, 1]) rfl _ _ rfl (by kernel_rfl)) (by assumption) ?_
  go_simp
  refine wpAnyH_ready (rs := [2]) (by kernel_rfl) (by simp) ?_
  refine AllReadyH.cons (o := _) rfl (fun K hK => ?_) AllReadyH.nil
  go_simp
  go_at_call 20
  refine (whole_is [1, -2, 0, 0, 1, 0, 0, 0, 1] [65536, -131072, 0, 0, 65536, 0, 0, 0, 65536] (by decide) (by decide +kernel) _).mono ?_
  rintro e w8 ⟨rfl, hbq⟩
  go_wp2_with fail
  have D8 := D1.drew.below hbq D1.drew.lt
  have T8 := T7.drew.trans (hbq.mono (by have := D1.drew.lt; omega))
  refine hK.out _ _ ⟨D8, T8⟩ (fun hHeld => ?_)
  clear hK hbq
  try simp only [Act.put, List.setIfInBounds_toArray, List.set_cons_zero, List.set_cons_succ]
  refine wpAnyH_take (i := 3) (oi := _) (v := .bool false) rfl (by kernel_rfl) (by kernel_rfl) (by kernel_rfl) (fun _ _ _ h => h) (yBin rfl _ _ _ _ _ rfl (fun _ => by kernel_rfl) (fun W => neq9_same [65536, -131072, 0, 0, 65536, 0, 0, 0, 65536] W)) (by assumption) ?_
  go_simp
  refine wpAnyH_take (i := 4) (oi := _) (v := .bool false) rfl (by kernel_rfl) (by kernel_rfl) (by kernel_rfl) (fun _ _ _ h => h) (Or.inl ⟨by rfl, fun W1 _ => by go_simp⟩) (by assumption) ?_
  go_simp
  refine wpAnyH_take (i := 5) (oi := _) (v := .int .i64 0) rfl (by kernel_rfl) (by kernel_rfl) (by kernel_rfl) (fun _ _ _ h => h) (Or.inl ⟨by rfl, fun W1 _ => by go_simp⟩) (by assumption) ?_
  go_simp
  refine wpAnyH_take (i := 6) (oi := _) (v := .bool false) rfl (by kernel_rfl) (by kernel_rfl) (by kernel_rfl) (fun _ _ _ h => h) (Or.inl ⟨by rfl, fun W1 _ => by go_simp⟩) (by assumption) ?_
  go_simp
  refine wpAnyH_take (i := 7) (oi := _) (v := .bool false) rfl (by kernel_rfl) (by kernel_rfl) (by kernel_rfl) (fun _ _ _ h => h) (Or.inl ⟨by rfl, fun W1 _ => by go_simp⟩) (by assumption) ?_
  go_simp
  refine wpAnyH_done (by kernel_rfl) ?_ _
  clear hS0 D1 T7 hBw
  have n1 := fun W => neq3_same [1] W
  have n0 := fun W => neq3_same [] W
  go_wp2_with (first
    | (refine wpList_buildG (n := 9) (l := [32768]) (T := 22) 1 rfl _ rfl rfl (by kernel_rfl) ?_)
    | (refine wpList_buildK (n := 3) (l := [1]) (T := 23) 1 rfl _ rfl rfl (by kernel_rfl) ?_))
  refine (apply_is [32768] [1] [1] (by decide +kernel) _).mono ?_
  rintro e w9 ⟨rfl, hb9⟩
  have D9 := D8.below hb9 D8.lt
  have T9 := T8.trans (hb9.mono (by have := D8.lt; omega))
  clear D8 T8 hb9
  go_wp2_with (first
    | (refine wpList_buildG (n := 9) (l := [32768]) (T := 22) 1 rfl _ rfl rfl (by kernel_rfl) ?_)
    | (refine wpList_buildK (n := 3) (l := [1]) (T := 23) 1 rfl _ rfl rfl (by kernel_rfl) ?_)
    | (refine wpList_buildG (n := 3) (l := [-1]) (T := 23) 1 rfl _ rfl rfl (by kernel_rfl) ?_))
  refine (apply_is [32768] [-1] [] (by decide +kernel) _).mono ?_
  rintro e w10 ⟨rfl, hb9⟩
  have D10 := D9.below hb9 D9.lt
  have T10 := T9.trans (hb9.mono (by have := D9.lt; omega))
  clear D9 T9 hb9
  go_wp2_with (first
    | (refine wpList_buildG (n := 3) (l := []) (T := 23) 0 rfl _ rfl rfl (by kernel_rfl) ?_)
    | (refine wpList_buildG (n := 9) (l := [131072, 0, 0, 0, 131072, 0, 0, 0, 131072]) (T := 22) 9 rfl _ rfl rfl (by kernel_rfl) ?_))
  clear n0 n1
  refine (det_is [131072, 0, 0, 0, 131072, 0, 0, 0, 131072] 524288 (by decide +kernel) _).mono ?_
  rintro e w11 ⟨rfl, hb9⟩
  have D11 := D10.below hb9 D10.lt
  have T11 := T10.trans (hb9.mono (by have := D10.lt; omega))
  clear D10 T10 hb9
  go_wp2_with (first
    | (refine wpList_buildG (n := 9) (l := [-65536, 0, 0, 0, 32768, 0, 0, 0, 1]) (T := 22) 9 rfl _ rfl rfl (by kernel_rfl) ?_))
  refine (det_is [-65536, 0, 0, 0, 32768, 0, 0, 0, 1] 0 (by decide +kernel) _).mono ?_
  rintro e w12 ⟨rfl, hb9⟩
  have D12 := D11.below hb9 D11.lt
  have T12 := T11.trans (hb9.mono (by have := D11.lt; omega))
  clear D11 T11 hb9
  go_wp2_with (first
    | (refine wpList_buildG (n := 9) (l := [196608, 0, 0, 0, 65536, 0, 0, 0, 65536]) (T := 22) 9 rfl _ rfl rfl (by kernel_rfl) ?_))
  refine (inverse_is [196608, 0, 0, 0, 65536, 0, 0, 0, 65536] [21845, 0, 0, 0, 65536, 0, 0, 0, 65536] 0 (by decide +kernel) (by decide +kernel) _).mono ?_
  rintro e w13 ⟨rfl, hb9⟩
  have D13 := D12.below hb9 D12.lt
  have T13 := T12.trans (hb9.mono (by have := D12.lt; omega))
  clear D12 T12 hb9
  have D14 : Blk (w13.setRow g3 (ac 9 (li [21845, 0, 0, 0, 65536, 0, 0, 0, 65536]))) g3 22 (ac 9 (li [21845, 0, 0, 0, 65536, 0, 0, 0, 65536])) := setRow_heap _ _ (ac 9 _) _ _ _ D13
  have T14 : Below B w (w13.setRow g3 (ac 9 (li [21845, 0, 0, 0, 65536, 0, 0, 0, 65536]))) := below_setRow T13 hg3 _
  have n2 := fun W => neq9_same [21845, 0, 0, 0, 65536, 0, 0, 0, 65536] W
  go_wp2_with (first
    | (refine wpList_store_row rfl _ _ _ rfl g3 (ac 9 (li [21845, 0, 0, 0, 65536, 0, 0, 0, 65536])) rfl rfl 22 (ac 9 _) D13 info9 ac_same (ac_one 9 _) ?_)
    | (refine wpList_load9G rfl _ rfl g3 rfl (li [21845, 0, 0, 0, 65536, 0, 0, 0, 65536]) D14 ?_)
    | (refine wpList_buildG (n := 9) (l := [21845, 0, 0, 0, 65536, 0, 0, 0, 65536]) (T := 22) 9 rfl _ rfl rfl (by kernel_rfl) ?_)
    | (refine wpList_buildG (n := 9) (l := []) (T := 22) 0 rfl _ rfl rfl (by kernel_rfl) ?_))
  clear D13 T13 n2
  refine (inverse_is [] [] 17 (by decide +kernel) (by decide +kernel) _).mono ?_
  rintro e w15 ⟨rfl, hb9⟩
  have T15 := T14.trans (hb9.mono (by have := D14.lt; omega))
  have g15 : B ≤ w15.heap.size := by have := hb9.size; have := D14.lt; omega
  clear D14 T14 hb9
  go_wp2_with (first
    | (refine wpList_buildG (n := 9) (l := [1048577]) (T := 22) 1 rfl _ rfl rfl (by kernel_rfl) ?_))
  refine (check_is [1048577] (by decide +kernel) _).mono ?_
  rintro e w16 ⟨rfl, hb9⟩
  have T16 := T15.trans (hb9.mono g15)
  have g16 : B ≤ w16.heap.size := by have := hb9.size; omega
  clear T15 hb9
  go_wp2_with fail
  refine (same_is _).mono ?_
  rintro e w17 ⟨rfl, hb9⟩
  have T17 := T16.trans (hb9.mono g16)
  have g17 : B ≤ w17.heap.size := by have := hb9.size; omega
  clear T16 hb9
  go_wp2_with (first
    | (refine wpList_buildG (n := 9) (l := [1, 0, 0, 0, 1, 0, 0, 0, 1]) (T := 22) 9 rfl _ rfl rfl (by kernel_rfl) ?_))
  refine (whole_is [1, 0, 0, 0, 1, 0, 0, 0, 1] [65536, 0, 0, 0, 65536, 0, 0, 0, 65536] (by decide) (by decide +kernel) _).mono ?_
  rintro e w18 ⟨rfl, hb9⟩
  have T18 := T17.trans (hb9.mono g17)
  clear T17 hb9
  have n3 := fun W => eql9_same [65536, 0, 0, 0, 65536, 0, 0, 0, 65536] W
  go_wp2_with fail
  go_ret
  exact ⟨rfl, T18⟩

end Go.Proofs.Ytcmaoomcdmjimaa.Mat
