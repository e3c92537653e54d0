/-
  The reference of layer 1: the table of sines, sine and cosine.
-/
import Derived.Test.YtdchcnggjamifaaDoorNumTn
import Derived.Test.YtdchcnggjamifaaDoorRef01Un
import Derived.Laws.NewBlocks
import Derived.Deep.WholeRow
namespace Go.Proofs.YtdchcnggjamifaaDoor.Ref01
open Go.RowKit Go.Proofs.YtdchcnggjamifaaDoor Go.Proofs.YtdchcnggjamifaaDoor.NumPure Go.Proofs.YtdchcnggjamifaaDoor.Num

def tabA : Array Value := (sinL.map (Value.int .i64)).toArray
def tab0 : Array Value := (List.replicate 65 (Value.int .i64 0)).toArray
theorem tabA_size : tabA.size = 65 := by decide +kernel
theorem tabA_at (i : Nat) (h : i < 65) : tabA[i]? = some (.int .i64 (sinT i)) := by
  have hl : i < sinL.length := h
  unfold tabA sinT
  rw [List.getElem?_toArray, List.getElem?_map, List.getD_eq_getElem?_getD, List.getElem?_eq_getElem hl]
  rfl
theorem tabA_one : tabA.all (·.oneCell') = true := by decide +kernel
theorem tab_same : tab0.size = tabA.size := by decide +kernel
theorem info65 : (Tryd.prog.info? 44).map (·.size) = some tabA.size := by kernel_rfl
theorem run_alloc65 (w : World) : (Instr.alloc 44 true (.tuple #[])).run Tryd.prog w = .ok (.pointer (some ⟨w.heap.size, 0, none⟩)) (w.alloc (.cells tab0 44)) := by
  kernel_rfl
theorem wpList_alloc65 {ops : Array Oper} {rest : List Oper} {o : Oper} {a : Act} {w : World} {Q : Exit → Act → World → Prop} (hg : o.guard = none) (ho : o.op = .alloc 44)
    (h : wpList Tryd.prog ops Q rest (a.put o.dst (.pointer (some ⟨w.heap.size, 0, none⟩))) (w.alloc (.cells tab0 44))) : wpList Tryd.prog ops Q (o :: rest) a w := by
  refine wpList_plain hg fun K hK => ?_
  have hr := run_alloc65 w
  unfold Oper.wp
  simp only [execOp, ho, Sem.run_bind, hr, Result.andThen_ok, Sem.run_pure]
  exact hK _ _ h
theorem wpList_buildT {ops : Array Oper} {rest : List Oper} {o : Oper} {a : Act} {w : World} {Q : Exit → Act → World → Prop} (hg : o.guard = none) (parts : Array (Nat × Operand)) (ho : o.op = .build 44 parts)
    (hb : Tryd.prog.built 44 (parts.map fun (i, x) => (i, a.eval x)).toList = some tabA)
    (h : wpList Tryd.prog ops Q rest (a.put o.dst (.agg tabA)) w) : wpList Tryd.prog ops Q (o :: rest) a w := by
  refine wpList_build hg 44 parts ho (by rw [hb]; rfl) ?_
  rw [hb]
  exact h
theorem below_setRowT {B : Nat} {a w : World} (h : Below B a w) {g : Nat} (hg : B ≤ g) (cs : Array Value) : Below B a (w.setRow g cs) :=
  ⟨h.os, h.tape, h.output, by rw [size_setRow]; exact h.size, fun i hi => (setRow_other _ _ _ _ (by omega)).trans (h.block i hi)⟩
theorem belowN {B : Nat} {a w : World} (h : Below B a w) (n : Nat) : Below B a (w.drewN n) := ⟨h.os, h.tape, h.output, h.size, h.block⟩

set_option maxHeartbeats 1000000 in
set_option maxRecDepth 100000 in
theorem rTable_any (w : World) : Calls Tryd.prog 52 #[] w fun e w' => e = .returned (.agg tabA) ∧ Below w.heap.size w w' := by
  go_enter Tryd.func52, Tryd.ntmps52
  go_wp2_with (first
    | (refine wpList_alloc65 rfl rfl ?_)
    | (refine wpList_buildT rfl _ rfl (by kernel_rfl) ?_)
    | (refine wpList_store_row rfl _ _ _ rfl w.heap.size tabA rfl rfl 44 tab0 (heap_alloc_new _ _) info65 tab_same tabA_one ?_))
  refine bodyPost_ret (v := .agg tabA) (results_cell_row rfl _ _ w.heap.size 44 tabA (0, 0) _ rfl (setRow_heap _ _ tab0 _ _ _ (heap_alloc_new _ _)) Tryd.underlying44 rfl info65) rfl ⟨rfl, ?_⟩
  exact below_setRowT ((Below.refl _ _).alloc (Nat.le_refl _) _) (Nat.le_refl _) _

/-- The table in a block of the call's own, and what was there before. -/
def TB (B g : Nat) (w wr : World) : Prop := Blk wr g 44 tabA ∧ Below B w wr
theorem TB.drewN {B g : Nat} {w wr : World} (h : TB B g w wr) (n : Nat) : TB B g w (wr.drewN n) := ⟨h.1, belowN h.2 n⟩
theorem quiet_right {P : Program} {f : FuncId} {args : Array Value} {w : World} {n : Nat} {v : Value} (h : Calls P f args (w.drewN n) fun e w' => e = .returned v ∧ ∃ k, w' = (w.drewN n).drewN k) : Calls P f args (w.drewN n) fun e w'' => e = .returned v ∧ ∃ m, w'' = w.drewN m :=
  h.mono fun _ _ ⟨he, k, hk⟩ => ⟨he, n + k, by rw [hk, World.drewN_drewN]⟩

set_option maxHeartbeats 2000000 in
set_option maxRecDepth 100000 in
theorem rQuarter_any (u : Nat) (hu : u ≤ 16384) (w : World) :
    Calls Tryd.prog 50 #[.int .i64 (u : Int)] w fun e w' => e = .returned (.int .i64 (qrt u)) ∧ Below w.heap.size w w' := by
  obtain ⟨B, hB⟩ : ∃ B, B = w.heap.size := ⟨_, rfl⟩
  rw [← hB]
  go_enter Tryd.func50, Tryd.ntmps50
  go_wp2_with fail
  refine (rTable_any _).mono ?_
  rintro e w1 ⟨rfl, hb1⟩
  rw [← hB] at hb1
  have hw1 : B ≤ w1.heap.size := by have := hb1.size; omega
  obtain ⟨g, eg⟩ : ∃ g, w1.heap.size = g := ⟨_, rfl⟩
  have D0 : (w1.alloc (.cells tab0 44)).heap[g]? = some (.cells tab0 44) := by rw [← eg]; exact heap_alloc_new _ _
  have T0 : TB B g w ((w1.alloc (.cells tab0 44)).setRow g tabA) := ⟨setRow_heap _ _ tab0 _ _ _ D0, below_setRowT (hb1.alloc hw1 _) (by omega) _⟩
  clear hB hw1 hb1
  by_cases hb : u = 16384
  · subst hb
    have HF : Hid (qrt 16384 = sinT 64) := Lib.hid rfl
    have c0 := T0.1.cell 64
    rw [tabA_at _ (by omega)] at c0
    have HT := Lib.hid T0
    clear T0 hu
    go_wp2_with (first
      | (refine wpList_alloc65 rfl rfl ?_)
      | (rw [eg]; refine wpList_store_row rfl _ _ _ rfl g tabA rfl rfl 44 tab0 D0 info65 tab_same tabA_one ?_))
    go_ret
    exact ⟨ret_int HF.out.symm, HT.out.2⟩
  obtain ⟨i, hi⟩ : ∃ i, u / 256 = i := ⟨_, rfl⟩
  obtain ⟨f, hf⟩ : ∃ f, u % 256 = f := ⟨_, rfl⟩
  have hi64 : i < 64 := by omega
  have hf256 : f < 256 := by omega
  have hui : (u : Int) / 256 = (i : Int) := by omega
  have huf : (u : Int) - 256 * (i : Int) = (f : Int) := by omega
  have c0 := T0.1.cell i
  rw [tabA_at _ (by omega)] at c0
  have c1 := T0.1.cell (i + 1)
  rw [tabA_at _ (by omega)] at c1
  have b0 := sinT_bd i
  have b1 := sinT_bd (i + 1)
  have hq : qrt u = sinT i + dvr ((sinT (i + 1) - sinT i) * (f : Int)) 256 := by rw [qrt_of u (by omega), hi, hf]
  have bq := qrt_bd u hu
  rw [hq] at bq
  obtain ⟨s0, hs0⟩ : ∃ s, sinT i = s := ⟨_, rfl⟩
  obtain ⟨s1, hs1⟩ : ∃ s, sinT (i + 1) = s := ⟨_, rfl⟩
  rw [hs0, hs1] at hq bq
  rw [hs0] at c0 b0
  rw [hs1] at c1 b1
  have HF := Lib.hid hq
  obtain ⟨p, hp⟩ : ∃ p, (s1 - s0) * (f : Int) = p := ⟨_, rfl⟩
  have bp : -16777216 ≤ p ∧ p ≤ 16777216 := by
    rw [← hp]
    have h1 := Int.mul_le_mul_of_nonneg_right (show s1 - s0 ≤ 65536 by omega) (show (0 : Int) ≤ f by omega)
    have h2 := Int.mul_le_mul_of_nonneg_right (show -65536 ≤ s1 - s0 by omega) (show (0 : Int) ≤ f by omega)
    omega
  rw [hp] at bq
  obtain ⟨dd, hdd⟩ : ∃ dd, dd = dvr p 256 := ⟨_, rfl⟩
  rw [← hdd] at bq
  have HV := Lib.hid (fun W => div_any p 256 (by omega) (by omega) (by omega) (by omega) W)
  have HD := Lib.hid hdd
  have HP := Lib.hid hp
  have e1 : IntKind.i64.wrap ((i : Int) + 1) = (i : Int) + 1 := IntWalk.i64_in _ (by omega)
  have e2 : IntKind.i64.wrap (256 * (i : Int)) = 256 * (i : Int) := IntWalk.i64_in _ (by omega)
  have e3 : IntKind.i64.wrap ((u : Int) - 256 * (i : Int)) = (f : Int) := by rw [huf]; exact IntWalk.i64_in _ (by omega)
  have e4 : IntKind.i64.wrap (s1 - s0) = s1 - s0 := IntWalk.i64_in _ (by omega)
  have e5 : IntKind.i64.wrap ((s1 - s0) * (f : Int)) = p := by rw [hp]; exact IntWalk.i64_in _ (by omega)
  have e6 : IntKind.i64.wrap (s0 + dd) = s0 + dd := IntWalk.i64_in _ (by omega)
  have e7 : ((i : Int) + 1).toNat = i + 1 := by omega
  have e8 : (0 : Int) ≤ (i : Int) + 1 := by omega
  have e9 : ((i : Int) + 1) < 65 := by omega
  have HT := Lib.hid T0
  clear T0 hi hf huf hs0 hs1 hq bq bp hdd hp hu
  go_wp2_with (first
    | (refine wpList_alloc65 rfl rfl ?_)
    | (rw [eg]; refine wpList_store_row rfl _ _ _ rfl g tabA rfl rfl 44 tab0 D0 info65 tab_same tabA_one ?_))
  obtain ⟨W, hW⟩ : ∃ W, W = (w1.alloc (.cells tab0 44)).setRow g tabA := ⟨_, rfl⟩
  rw [← hW] at HT c0 c1 ⊢
  clear hW D0 eg hb
  have hdc : ∀ n, Calls Tryd.prog 15 #[.int .i64 p, .int .i64 256] (W.drewN n) fun e w'' => e = .returned (.int .i64 dd) ∧ ∃ m, w'' = W.drewN m := fun n => quiet_right (by rw [HD.out]; exact HV.out _)
  have HC := Lib.hid hdc
  clear hdc
  go_quiet ((go_at_call 15; exact HC.out _))
  go_wp2
  go_ret
  exact ⟨ret_int (by rw [HF.out, HP.out, ← HD.out]), belowN HT.out.2 _⟩

theorem rQuarter_is (z : Int) (u : Nat) (hz : z = u) (hu : u ≤ 16384) (w : World) :
    Calls Tryd.prog 50 #[.int .i64 z] w fun e w' => e = .returned (.int .i64 (qrt u)) ∧ Below w.heap.size w w' := by
  subst hz
  exact rQuarter_any u hu w

set_option maxHeartbeats 1000000 in
theorem rSine_any (a : Nat) (ha : a < 65536) (w : World) :
    Calls Tryd.prog 47 #[.int .i64 (a : Int)] w fun e w' => e = .returned (.int .i64 (sinA a)) ∧ Below w.heap.size w w' := by
  obtain ⟨q, hq⟩ : ∃ q, a / 16384 = q := ⟨_, rfl⟩
  obtain ⟨r, hr⟩ : ∃ r, a % 16384 = r := ⟨_, rfl⟩
  have hr' : r < 16384 := by omega
  have rq : (a : Int) / 16384 = (q : Int) := by omega
  have rr : (a : Int) - 16384 * (q : Int) = (r : Int) := by omega
  have hF : sinA a = if q = 0 then qrt r else if q = 1 then qrt (16384 - r) else if q = 2 then -qrt r else -qrt (16384 - r) := by rw [sinA, hq, hr]
  have b1 := qrt_bd r (by omega)
  have b2 := qrt_bd (16384 - r) (by omega)
  have hcase : q = 0 ∨ q = 1 ∨ q = 2 ∨ q = 3 := by omega
  obtain ⟨x1, hx1⟩ : ∃ x, qrt r = x := ⟨_, rfl⟩
  obtain ⟨x2, hx2⟩ : ∃ x, qrt (16384 - r) = x := ⟨_, rfl⟩
  rw [hx1, hx2] at hF
  rw [hx1] at b1
  rw [hx2] at b2
  have X1 := Lib.hid hx1
  have X2 := Lib.hid hx2
  clear hq hr hx1 hx2
  rcases hcase with rfl | rfl | rfl | rfl
  · have HF := Lib.hid hF
    clear hF
    go_enter Tryd.func47, Tryd.ntmps47
    go_wp2_with fail
    refine (rQuarter_is _ r (by omega) (by omega) _).mono ?_
    rintro e w' ⟨rfl, hb⟩
    rw [X1.out]
    go_wp2
    go_ret
    exact ⟨ret_int HF.out.symm, hb⟩
  · have HF := Lib.hid hF
    clear hF
    go_enter Tryd.func47, Tryd.ntmps47
    go_wp2_with fail
    refine (rQuarter_is _ (16384 - r) (by omega) (by omega) _).mono ?_
    rintro e w' ⟨rfl, hb⟩
    rw [X2.out]
    go_wp2
    go_ret
    exact ⟨ret_int HF.out.symm, hb⟩
  · have HF := Lib.hid hF
    clear hF
    go_enter Tryd.func47, Tryd.ntmps47
    go_wp2_with fail
    refine (rQuarter_is _ r (by omega) (by omega) _).mono ?_
    rintro e w' ⟨rfl, hb⟩
    rw [X1.out]
    go_wp2
    go_ret
    exact ⟨ret_int HF.out.symm, hb⟩
  · have HF := Lib.hid hF
    clear hF
    go_enter Tryd.func47, Tryd.ntmps47
    go_wp2_with fail
    refine (rQuarter_is _ (16384 - r) (by omega) (by omega) _).mono ?_
    rintro e w' ⟨rfl, hb⟩
    rw [X2.out]
    go_wp2
    go_ret
    exact ⟨ret_int HF.out.symm, hb⟩

theorem rSine_is (z : Int) (a : Nat) (hz : z = a) (ha : a < 65536) (w : World) :
    Calls Tryd.prog 47 #[.int .i64 z] w fun e w' => e = .returned (.int .i64 (sinA a)) ∧ Below w.heap.size w w' := by
  subst hz
  exact rSine_any a ha w

set_option maxHeartbeats 1000000 in
theorem rTurn_any (z : Int) (h0 : -9223372036854775808 ≤ z) (h1 : z ≤ 9223372036854775807) (w : World) :
    Calls Tryd.prog 34 #[.int .i64 z] w fun e w' => e = .returned (.tuple #[.int .i64 (sinZ z), .int .i64 (cosZ z)]) ∧ Below w.heap.size w w' := by
  obtain ⟨a, ha⟩ : ∃ a, (z % 65536).toNat = a := ⟨_, rfl⟩
  have ha2 : a < 65536 := by omega
  have HS : Hid (sinZ z = sinA a) := Lib.hid (by rw [sinZ, ha])
  have HC : Hid (cosZ z = sinA ((a + 16384) % 65536)) := Lib.hid (by rw [cosZ, ha])
  rcases Int.lt_or_le z 0 with hz | hz
  · have ht := tmod_neg (a := z) (b := 65536) (by omega) (by omega)
    have hp := t_parts z 65536
    obtain ⟨T, hT⟩ : ∃ T, z.tmod 65536 = T := ⟨_, rfl⟩
    rw [hT] at ht hp
    have hTa : (T < 0 ∧ (a : Int) = T + 65536) ∨ (T = 0 ∧ a = 0) := by omega
    clear hp ha
    rcases hTa with ⟨hT0, haT⟩ | ⟨rfl, rfl⟩
    · have HT := Lib.hid haT
      have e1 : T + 65536 = (a : Int) := by omega
      clear haT
      go_enter Tryd.func34, Tryd.ntmps34
      go_wp2_with fail
      refine (rSine_is _ a (by omega) ha2 _).mono ?_
      rintro e w1 ⟨rfl, hb1⟩
      go_wp2_with fail
      refine (rSine_is _ ((a + 16384) % 65536) (by omega) (by omega) _).mono ?_
      rintro e w2 ⟨rfl, hb2⟩
      go_wp2
      go_ret2
      exact ⟨ret_two HS.out.symm HC.out.symm, hb1.trans (hb2.mono hb1.size)⟩
    · clear ht ha2
      go_enter Tryd.func34, Tryd.ntmps34
      go_wp2_with fail
      refine (rSine_is _ 0 (by omega) (by omega) _).mono ?_
      rintro e w1 ⟨rfl, hb1⟩
      go_wp2_with fail
      refine (rSine_is _ 16384 (by omega) (by omega) _).mono ?_
      rintro e w2 ⟨rfl, hb2⟩
      go_wp2
      go_ret2
      exact ⟨ret_two HS.out.symm HC.out.symm, hb1.trans (hb2.mono hb1.size)⟩
  · have e1 : z % 65536 = (a : Int) := by omega
    clear ha
    go_enter Tryd.func34, Tryd.ntmps34
    go_wp2_with fail
    refine (rSine_is _ a (by omega) ha2 _).mono ?_
    rintro e w1 ⟨rfl, hb1⟩
    go_wp2_with fail
    refine (rSine_is _ ((a + 16384) % 65536) (by omega) (by omega) _).mono ?_
    rintro e w2 ⟨rfl, hb2⟩
    go_wp2
    go_ret2
    exact ⟨ret_two HS.out.symm HC.out.symm, hb1.trans (hb2.mono hb1.size)⟩

end Go.Proofs.YtdchcnggjamifaaDoor.Ref01
