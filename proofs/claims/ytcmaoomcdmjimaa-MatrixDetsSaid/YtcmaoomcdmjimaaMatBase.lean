/-
  Arrays of integers in memory, as functions of the index: what package matrix and its reference read and write.
-/
import Derived.Test.YtcmaoomcdmjimaaWords
import Derived.Test.YtcmaoomcdmjimaaNumUn
import Derived.Test.YtcmaoomcdmjimaaArrEq
import Derived.Test.YtcmaoomcdmjimaaMatArith
import Derived.WalkKit
import Derived.WalkSpells
import Derived.WalkLawsBesides
import Derived.Outline
import Derived.Laws.NewBlocks
import Derived.Lib.Hide
import Derived.Deep.WholeRow
import Derived.Deep.QuietTactic
import Derived.BigQuiet
import Derived.Deep.RegionHeld3
import Derived.Deep.MidRow
namespace Go.Proofs.Ytcmaoomcdmjimaa.Mat
open Go.RowKit Go.Proofs.Ytcmaoomcdmjimaa Go.Proofs.Ytcmaoomcdmjimaa.NumPure Go.Proofs.Ytcmaoomcdmjimaa.MatPure

/-- An array of n integers. -/
def al (n : Nat) (m : Nat → Int) : List Value := (List.range n).map fun j => Value.int .i64 (m j)
def ac (n : Nat) (m : Nat → Int) : Array Value := (al n m).toArray
theorem al_len (n : Nat) (m : Nat → Int) : (al n m).length = n := by simp [al]
theorem ac_size (n : Nat) (m : Nat → Int) : (ac n m).size = n := by simp [ac, al]
theorem ac_same {n : Nat} {m f : Nat → Int} : (ac n m).size = (ac n f).size := by rw [ac_size, ac_size]
theorem ac_at {n : Nat} (m : Nat → Int) {j : Nat} (hj : j < n) : (ac n m)[j]? = some (.int .i64 (m j)) := by simp [ac, al, hj]
theorem ac_one (n : Nat) (m : Nat → Int) : (ac n m).all (·.oneCell') = true := by simp [ac, al, Value.oneCell']
theorem ac_ext {n : Nat} {m f : Nat → Int} (h : ∀ j, j < n → m j = f j) : ac n m = ac n f := by
  unfold ac al
  congr 1
  apply List.map_congr_left
  intro j hj
  rw [h j (by simpa using hj)]
theorem ac_set (n : Nat) (m : Nat → Int) (k : Nat) (x : Int) : (ac n m).setIfInBounds k (.int .i64 x) = ac n (fun j => if j = k then x else m j) := by
  apply Array.ext_getElem?
  intro j
  rw [Array.getElem?_setIfInBounds, ac_size]
  by_cases hj : j < n
  · by_cases h : k = j
    · subst h
      rw [if_pos rfl, if_pos hj, ac_at _ hj, if_pos rfl]
    · rw [if_neg h, ac_at _ hj, ac_at _ hj, if_neg (fun e => h e.symm)]
  · rw [Array.getElem?_eq_none (by rw [ac_size]; omega), Array.getElem?_eq_none (by rw [ac_size]; omega)]
    split
    · split
      · omega
      · rfl
    · rfl
theorem ac_map (n : Nat) (m : Nat → Int) : (((List.range n).map m).map (Value.int .i64)).toArray = ac n m := by simp [ac, al, Function.comp_def]
theorem info9 {m : Nat → Int} : (Try.prog.info? 22).map (·.size) = some (ac 9 m).size := by rw [ac_size]; kernel_rfl
theorem info3 {m : Nat → Int} : (Try.prog.info? 23).map (·.size) = some (ac 3 m).size := by rw [ac_size]; kernel_rfl

/-- What is filled so far: f below k, zero from there on. -/
def upTo (f : Nat → Int) (k : Nat) : Nat → Int := fun j => if j < k then f j else 0
theorem upTo_set (n : Nat) (f : Nat → Int) (k : Nat) : (ac n (upTo f k)).setIfInBounds k (.int .i64 (f k)) = ac n (upTo f (k + 1)) := by
  rw [ac_set]
  apply ac_ext
  intro j _
  unfold upTo
  by_cases h : j = k
  · subst h
    rw [if_pos rfl, if_pos (by omega)]
  · rw [if_neg h]
    by_cases h2 : j < k
    · rw [if_pos h2, if_pos (by omega)]
    · rw [if_neg h2, if_neg (by omega)]
theorem upTo_all (n : Nat) (f : Nat → Int) : ac n (upTo f n) = ac n f := ac_ext fun _ hj => if_pos hj
theorem upTo_none (n : Nat) (f : Nat → Int) : ac n (upTo f 0) = ac n (fun _ => 0) := ac_ext fun _ _ => if_neg (by omega)

theorem run_index9 (m : Nat → Int) (k : Nat) (hk : k < 9) (w : World) : (Instr.index 22 (.agg (ac 9 m)) (.int .i64 (k : Int))).run Try.prog w = .ok (.int .i64 (m k)) w := by
  have hz : ∀ w, (sizeOf 3).run Try.prog w = .ok 1 w := fun w => by kernel_rfl
  have hcell := ac_at m hk
  simp [Instr.index, asIntOf, run_underlying Try.underlying22, hz, part, isAgg, run_underlying Try.underlying3, hcell]
  intro h
  omega

theorem eql9 (m f : Nat → Int) (w : World) : (binOp .eql 22 (.agg (ac 9 m)) (.agg (ac 9 f))).run Try.prog w = .ok (.bool ((List.range 9).map m == (List.range 9).map f)) w := by
  have h := ArrEq.run_eql_ints (P := Try.prog) w 22 3 9 .i64 Try.underlying22 Try.underlying3 (fun w => by kernel_rfl) ((List.range 9).map m) ((List.range 9).map f) (by simp) (by simp)
  rw [ac_map, ac_map] at h
  exact h

theorem run_alloc9 (w : World) : (Instr.alloc 22 true (.tuple #[])).run Try.prog w = .ok (.pointer (some ⟨w.heap.size, 0, none⟩)) (w.alloc (.cells (ac 9 fun _ => 0) 22)) := by
  kernel_rfl
theorem run_alloc3 (w : World) : (Instr.alloc 23 true (.tuple #[])).run Try.prog w = .ok (.pointer (some ⟨w.heap.size, 0, none⟩)) (w.alloc (.cells (ac 3 fun _ => 0) 23)) := by
  kernel_rfl
theorem wpList_alloc9 {ops : Array Oper} {rest : List Oper} {o : Oper} {a : Act} {w : World} {Q : Exit → Act → World → Prop} (hg : o.guard = none) (ho : o.op = .alloc 22)
    (h : wpList Try.prog ops Q rest (a.put o.dst (.pointer (some ⟨w.heap.size, 0, none⟩))) (w.alloc (.cells (ac 9 fun _ => 0) 22))) : wpList Try.prog ops Q (o :: rest) a w := by
  refine wpList_plain hg fun K hK => ?_
  have hr := run_alloc9 w
  unfold Oper.wp
  simp only [execOp, ho, Sem.run_bind, hr, Result.andThen_ok, Sem.run_pure]
  exact hK _ _ h
theorem wpList_alloc3 {ops : Array Oper} {rest : List Oper} {o : Oper} {a : Act} {w : World} {Q : Exit → Act → World → Prop} (hg : o.guard = none) (ho : o.op = .alloc 23)
    (h : wpList Try.prog ops Q rest (a.put o.dst (.pointer (some ⟨w.heap.size, 0, none⟩))) (w.alloc (.cells (ac 3 fun _ => 0) 23))) : wpList Try.prog ops Q (o :: rest) a w := by
  refine wpList_plain hg fun K hK => ?_
  have hr := run_alloc3 w
  unfold Oper.wp
  simp only [execOp, ho, Sem.run_bind, hr, Result.andThen_ok, Sem.run_pure]
  exact hK _ _ h

theorem below_setRow {B : Nat} {a w : World} (h : Below B a w) {g : Nat} (hg : B ≤ g) (cs : Array Value) : Below B a (w.setRow g cs) :=
  ⟨h.os, h.tape, h.output, by rw [size_setRow]; exact h.size, fun i hi => (setRow_other _ _ _ _ (by omega)).trans (h.block i hi)⟩
theorem below_drewN {B : Nat} {a w : World} (h : Below B a w) (n : Nat) : Below B a (w.drewN n) := ⟨h.os, h.tape, h.output, h.size, h.block⟩

theorem size_alloc (w : World) (A : Obj) : (w.alloc A).heap.size = w.heap.size + 1 := by simp
theorem heap3_new (w : World) (A B C : Obj) : (((w.alloc A).alloc B).alloc C).heap[w.heap.size + 1 + 1]? = some C := by
  have h := heap_alloc_new ((w.alloc A).alloc B) C
  rwa [size_alloc, size_alloc] at h
theorem heap3_mid (w : World) (A B C : Obj) : (((w.alloc A).alloc B).alloc C).heap[w.heap.size + 1]? = some B :=
  (Below.heap_alloc _ C _ (by rw [size_alloc, size_alloc]; omega)).trans (heap_alloc2_new w A B)
theorem heap3_old (w : World) (A B C : Obj) : (((w.alloc A).alloc B).alloc C).heap[w.heap.size]? = some A :=
  (Below.heap_alloc _ C _ (by rw [size_alloc, size_alloc]; omega)).trans (heap_alloc2_old w A B)
theorem heap4_new (w : World) (A B C D : Obj) : ((((w.alloc A).alloc B).alloc C).alloc D).heap[w.heap.size + 1 + 1 + 1]? = some D := by
  have h := heap_alloc_new (((w.alloc A).alloc B).alloc C) D
  rwa [size_alloc, size_alloc, size_alloc] at h
theorem heap4_3 (w : World) (A B C D : Obj) : ((((w.alloc A).alloc B).alloc C).alloc D).heap[w.heap.size + 1 + 1]? = some C :=
  (Below.heap_alloc _ D _ (by rw [size_alloc, size_alloc, size_alloc]; omega)).trans (heap3_new w A B C)
theorem heap4_2 (w : World) (A B C D : Obj) : ((((w.alloc A).alloc B).alloc C).alloc D).heap[w.heap.size + 1]? = some B :=
  (Below.heap_alloc _ D _ (by rw [size_alloc, size_alloc, size_alloc]; omega)).trans (heap3_mid w A B C)
theorem heap4_1 (w : World) (A B C D : Obj) : ((((w.alloc A).alloc B).alloc C).alloc D).heap[w.heap.size]? = some A :=
  (Below.heap_alloc _ D _ (by rw [size_alloc, size_alloc, size_alloc]; omega)).trans (heap3_old w A B C)

theorem range9 {w : World} {g : Nat} {T : TypeId} {m : Nat → Int} (h : Blk w g T (ac 9 m)) : w.rangeAt g 0 (al 9 m) := fun j v hv => by
  rw [Nat.zero_add, h.cell j]
  simpa [ac] using hv
theorem size9 (m : Nat → Int) : (Try.prog.info? 22).map (·.size) = some (al 9 m).length := by rw [al_len]; kernel_rfl
theorem cells9 {w : World} {g : Nat} {T : TypeId} {m : Nat → Int} (h : Blk w g T (ac 9 m)) :
    w.cell? ⟨g, 0, none⟩ = some (.int .i64 (m 0)) ∧ w.cell? ⟨g, 1, none⟩ = some (.int .i64 (m 1)) ∧ w.cell? ⟨g, 2, none⟩ = some (.int .i64 (m 2)) ∧ w.cell? ⟨g, 3, none⟩ = some (.int .i64 (m 3)) ∧ w.cell? ⟨g, 4, none⟩ = some (.int .i64 (m 4)) ∧
    w.cell? ⟨g, 5, none⟩ = some (.int .i64 (m 5)) ∧ w.cell? ⟨g, 6, none⟩ = some (.int .i64 (m 6)) ∧ w.cell? ⟨g, 7, none⟩ = some (.int .i64 (m 7)) ∧ w.cell? ⟨g, 8, none⟩ = some (.int .i64 (m 8)) :=
  ⟨h.cell 0, h.cell 1, h.cell 2, h.cell 3, h.cell 4, h.cell 5, h.cell 6, h.cell 7, h.cell 8⟩

/-- Within the limits of an element. -/
def okM (m : Nat → Int) : Bool := (List.range 9).all fun j => decide (-1048576 ≤ m j ∧ m j ≤ 1048576)
theorem okM_iff {m : Nat → Int} : okM m = true ↔ ∀ j, j < 9 → -1048576 ≤ m j ∧ m j ≤ 1048576 := by simp [okM]
theorem okM_not {m : Nat → Int} : okM m = false ↔ ¬ ∀ j, j < 9 → -1048576 ≤ m j ∧ m j ≤ 1048576 := by rw [← okM_iff]; simp

theorem quiet_left {P : Program} {f : FuncId} {args : Array Value} {w : World} {n : Nat} {v : Value} (h : Calls P f args (w.drewN n) fun e w' => e = .returned v ∧ w.drewN n = w') : Calls P f args (w.drewN n) fun e w'' => e = .returned v ∧ ∃ m, w'' = w.drewN m :=
  h.mono fun _ _ ⟨he, hm⟩ => ⟨he, n, hm.symm⟩

end Go.Proofs.Ytcmaoomcdmjimaa.Mat
