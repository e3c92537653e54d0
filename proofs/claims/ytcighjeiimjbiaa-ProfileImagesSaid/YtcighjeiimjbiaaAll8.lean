/-
  Texts of this claim, joined (8 of 8): ProAw, ProOpen, ProLw, ProDr, ProId, ProSm.
-/
import Derived.Test.YtcighjeiimjbiaaAll7
import Derived.Deep.Slices
import Derived.Deep.Fields
import Derived.ChangeSame
import Derived.ChangeShapes
import Derived.OpenShut
import Derived.SizedLaws

/- ProAw: Layer 9: the examples of the chapter hold. -/
namespace Go.Proofs.Ytcighjeiimjbiaa.Pro
open Go.RowKit Go.Proofs.Ytcighjeiimjbiaa Go.Proofs.Ytcighjeiimjbiaa.NumPure Go.Proofs.Ytcighjeiimjbiaa.WirePure
open Go.Proofs.Ytcighjeiimjbiaa.Mat (al ac invM invX appM info9 info3)

theorem Count_any (w : World) : Calls Try.prog 21 #[] w fun e w' => e = .returned (.int .i64 4) ∧ w = w' := by
  go_enter Try.func21, Try.ntmps21
  go_wp2_with fail
  go_ret
  exact ⟨rfl, rfl⟩
theorem rCount_any (w : World) : Calls Try.prog 22 #[] w fun e w' => e = .returned (.int .i64 4) ∧ w = w' := by
  go_enter Try.func22, Try.ntmps22
  go_wp2_with fail
  go_ret
  exact ⟨rfl, rfl⟩
theorem wpList_load_rowG {ops : Array Oper} {rest : List Oper} {op : Oper} {a : Act} {w : World} {Q : Exit → Act → World → Prop} (hw : Region.wanted op (yielded ops a.tmps) = true) (x : Operand) (ho : op.op = .load 27 x)
    (g : Nat) (hx : a.eval x = .pointer (some ⟨g, 0, none⟩)) (p : Pf) (hc : Blk w g 27 p.cells)
    (h : wpList Try.prog ops Q rest (a.put op.dst (.agg p.cells)) w) : wpList Try.prog ops Q (op :: rest) a w :=
  wpList_step fun K hK => by rw [if_pos hw]; exact wp_load_row _ x ho g hx 27 p.cells (0, 0) _ hc Try.underlying27 rfl p.info (hK _ _ h)
theorem wpList_buildG {ops : Array Oper} {rest : List Oper} {o : Oper} {a : Act} {w : World} {Q : Exit → Act → World → Prop} (k : Nat) (hw : Region.wanted o (yielded ops a.tmps) = true) (T : TypeId) (parts : Array (Nat × Operand)) (ho : o.op = .build T parts) (_ : parts.size = k) (cs : Array Value)
    (hb : Try.prog.built T (parts.map fun (i, x) => (i, a.eval x)).toList = some cs)
    (h : wpList Try.prog ops Q rest (a.put o.dst (.agg cs)) w) : wpList Try.prog ops Q (o :: rest) a w :=
  wpList_step fun K hK => by
    rw [if_pos hw]
    refine wp_build T parts ho (by rw [hb]; rfl) ?_
    rw [hb]
    exact hK _ _ h
def eq3 (m f : Nat → Int) : Bool := (List.range 3).map m == (List.range 3).map f
theorem eq3_iff (m f : Nat → Int) : eq3 m f = true ↔ ∀ j, j < 3 → m j = f j := by
  unfold eq3
  rw [beq_iff_eq]
  constructor
  · intro h j hj
    have := congrArg (fun l => l[j]?) h
    simpa [hj] using this
  · intro h
    apply List.map_congr_left
    intro j hj
    exact h j (by simpa using hj)
theorem eql3l (m f : Nat → Int) (w : World) : (binOp .eql 34 (.agg (ac 3 m)) (.agg (ac 3 f))).run Try.prog w = .ok (.bool (eq3 m f)) w := by
  have h := ArrEq.run_equalIn_ints (P := Try.prog) w 9998 34 3 3 .i64 Try.underlying34 Try.underlying3 (fun w => by kernel_rfl) ((List.range 3).map m) ((List.range 3).map f) (by simp) (by simp)
  rw [Mat.ac_map, Mat.ac_map] at h
  rw [run_eql_struct, h]
  rfl
theorem neq3l (m f : Nat → Int) (w : World) : (binOp .neq 34 (.agg (ac 3 m)) (.agg (ac 3 f))).run Try.prog w = .ok (.bool (!eq3 m f)) w := by
  have h := ArrEq.run_equalIn_ints (P := Try.prog) w 9998 34 3 3 .i64 Try.underlying34 Try.underlying3 (fun w => by kernel_rfl) ((List.range 3).map m) ((List.range 3).map f) (by simp) (by simp)
  rw [Mat.ac_map, Mat.ac_map] at h
  rw [run_neq_struct, h]
  rfl
theorem ex_str : (stN0.toList == (ByteArray.mk #[108, 105, 110, 101, 97, 114]).toList) = true ∧ (stN1.toList == (ByteArray.mk #[115, 114, 103, 98]).toList) = true ∧ (stN3.toList == (ByteArray.mk #[119, 97, 114, 109]).toList) = true := ⟨beq_self_eq_true _, beq_self_eq_true _, beq_self_eq_true _⟩

set_option maxRecDepth 100000 in
set_option maxHeartbeats 8000000 in
theorem awake_any (w : World) : Calls Try.prog 11 #[] w (BolC true w) := by
  go_enter Try.func11, Try.ntmps11
  go_wp2_with fail
  refine (Standard_0 _).mono ?_
  rintro e w0 ⟨A0, c0, rfl, hk, hb⟩
  rw [show (Pf.mk stN0 A0 c0 stK0 stM0).val = .agg (pf0 A0 c0).cells from rfl]
  have hB := ((Bn.nil w).below hb).push _ rfl 27 (pf0 A0 c0).cells
  have HB1 : Hid (Bn w _ [(w0.heap.size, 27, (pf0 A0 c0).cells)]) := Lib.hid hB
  have HK0 := Lib.hid (hk.below ((Below.refl w0.heap.size _).alloc (Nat.le_refl _) (.cells (pf0 A0 c0).cells 27)))
  clear hb hB  
  go_upto_region 2 with (first
    | (refine wpList_allocC runP rfl rfl ?_)
    | (refine wpList_store_row rfl _ _ _ rfl w0.heap.size (pf0 A0 c0).cells rfl rfl 27 Pf.zero.cells (heap_alloc_new _ _) (pf0 A0 c0).info (by rw [Pf.size, Pf.size]) (pf0 A0 c0).one ?_; rw [World.setRow_alloc_new]))
  obtain ⟨g0, hg⟩ : ∃ g, w0.heap.size = g := ⟨_, rfl⟩
  obtain ⟨W1, hW⟩ : ∃ W, w0.alloc (.cells (pf0 A0 c0).cells 27) = W := ⟨_, rfl⟩
  rw [hW] at HK0
  rw [hW, hg] at HB1
  rw [hW, hg]
  clear hW hg
  go_wp2_with fail
  refine (Standard_1 _).mono ?_
  rintro e w1 ⟨A1, c1, rfl, hk, hb⟩
  rw [show (Pf.mk stN1 A1 c1 stK1 stM1).val = .agg (pf1 A1 c1).cells from rfl]
  have hB := (HB1.out.below hb).push _ rfl 27 (pf1 A1 c1).cells
  have HB2 : Hid (Bn w _ [(g0, 27, (pf0 A0 c0).cells), (w1.heap.size, 27, (pf1 A1 c1).cells)]) := Lib.hid hB
  have HK0' := Lib.hid ((HK0.out.below hb).below ((Below.refl w1.heap.size _).alloc (Nat.le_refl _) (.cells (pf1 A1 c1).cells 27)))
  have HK1 := Lib.hid (hk.below ((Below.refl w1.heap.size _).alloc (Nat.le_refl _) (.cells (pf1 A1 c1).cells 27)))
  clear hb hB HB1 HK0
  go_upto_region 3 with (first
    | (refine wpList_allocC runP rfl rfl ?_)
    | (refine wpList_store_row rfl _ _ _ rfl w1.heap.size (pf1 A1 c1).cells rfl rfl 27 Pf.zero.cells (heap_alloc_new _ _) (pf1 A1 c1).info (by rw [Pf.size, Pf.size]) (pf1 A1 c1).one ?_; rw [World.setRow_alloc_new]))
  obtain ⟨g1, hg⟩ : ∃ g, w1.heap.size = g := ⟨_, rfl⟩
  obtain ⟨W2, hW⟩ : ∃ W, w1.alloc (.cells (pf1 A1 c1).cells 27) = W := ⟨_, rfl⟩
  rw [hW] at HK0'
  rw [hW] at HK1
  rw [hW, hg] at HB2
  rw [hW, hg]
  clear hW hg
  go_wp2_with fail
  refine (Standard_3 _).mono ?_
  rintro e w2 ⟨A2, c2, rfl, hk, hb⟩
  rw [show (Pf.mk stN3 A2 c2 stK3 stM3).val = .agg (pf3 A2 c2).cells from rfl]
  have hB := (HB2.out.below hb).push _ rfl 27 (pf3 A2 c2).cells
  have HB3 : Hid (Bn w _ [(g0, 27, (pf0 A0 c0).cells), (g1, 27, (pf1 A1 c1).cells), (w2.heap.size, 27, (pf3 A2 c2).cells)]) := Lib.hid hB
  have HK0'' := Lib.hid ((HK0'.out.below hb).below ((Below.refl w2.heap.size _).alloc (Nat.le_refl _) (.cells (pf3 A2 c2).cells 27)))
  have HK1' := Lib.hid ((HK1.out.below hb).below ((Below.refl w2.heap.size _).alloc (Nat.le_refl _) (.cells (pf3 A2 c2).cells 27)))
  have HK2 := Lib.hid (hk.below ((Below.refl w2.heap.size _).alloc (Nat.le_refl _) (.cells (pf3 A2 c2).cells 27)))
  clear hb hB HB2 HK0' HK1
  go_upto_region 4 with (first
    | (refine wpList_allocC runP rfl rfl ?_)
    | (refine wpList_store_row rfl _ _ _ rfl w2.heap.size (pf3 A2 c2).cells rfl rfl 27 Pf.zero.cells (heap_alloc_new _ _) (pf3 A2 c2).info (by rw [Pf.size, Pf.size]) (pf3 A2 c2).one ?_; rw [World.setRow_alloc_new]))
  obtain ⟨g2, hg⟩ : ∃ g, w2.heap.size = g := ⟨_, rfl⟩
  obtain ⟨W3, hW⟩ : ∃ W, w2.alloc (.cells (pf3 A2 c2).cells 27) = W := ⟨_, rfl⟩
  rw [hW] at HK0''
  rw [hW] at HK1'
  rw [hW] at HK2
  rw [hW, hg] at HB3
  rw [hW, hg]
  clear hW hg
  go_wp2_with fail
  refine (Standard_no 4 (by decide) (by decide) (by decide) (by decide) _).mono ?_
  rintro e w3 ⟨A3, c3, rfl, hk, hb⟩
  obtain ⟨p4, hp4⟩ : ∃ p : Pf, Pf.mk ⟨#[]⟩ A3 c3 [] (fun _ => 0) = p := ⟨_, rfl⟩
  rw [hp4]
  rw [show p4.val = .agg p4.cells from rfl]
  clear hp4 hk
  have hB := (HB3.out.below hb).push _ rfl 27 p4.cells
  have HB4 : Hid (Bn w _ [(g0, 27, (pf0 A0 c0).cells), (g1, 27, (pf1 A1 c1).cells), (g2, 27, (pf3 A2 c2).cells), (w3.heap.size, 27, p4.cells)]) := Lib.hid hB
  have HK0''' := Lib.hid ((HK0''.out.below hb).below ((Below.refl w3.heap.size _).alloc (Nat.le_refl _) (.cells p4.cells 27)))
  have HK1'' := Lib.hid ((HK1'.out.below hb).below ((Below.refl w3.heap.size _).alloc (Nat.le_refl _) (.cells p4.cells 27)))
  have HK2' := Lib.hid ((HK2.out.below hb).below ((Below.refl w3.heap.size _).alloc (Nat.le_refl _) (.cells p4.cells 27)))
  clear hb hB HB3 HK0'' HK1' HK2
  go_upto_region 5 with (first
    | (refine wpList_allocC runP rfl rfl ?_)
    | (refine wpList_store_row rfl _ _ _ rfl w3.heap.size p4.cells rfl rfl 27 Pf.zero.cells (heap_alloc_new _ _) p4.info (by rw [Pf.size, Pf.size]) p4.one ?_; rw [World.setRow_alloc_new]))
  obtain ⟨g3, hg⟩ : ∃ g, w3.heap.size = g := ⟨_, rfl⟩
  obtain ⟨W4, hW⟩ : ∃ W, w3.alloc (.cells p4.cells 27) = W := ⟨_, rfl⟩
  rw [hW] at HK0'''
  rw [hW] at HK1''
  rw [hW] at HK2'
  rw [hW, hg] at HB4
  rw [hW, hg]
  clear hW hg
  go_wp2_with (first
    | (refine wpList_load_row rfl _ _ rfl g0 rfl 27 (pf0 A0 c0).cells (0, 0) _ (HB4.out.get 0 rfl) Try.underlying27 rfl (pf0 A0 c0).info ?_))
  have C := Encode_any (pf0 A0 c0) (l3 70000 (-1) 5) 65535 W4 ⟨HK0'''.out, show stN0.size ≤ 9223372036854775807 by decide⟩
  unfold PxC at C
  rw [ex_enc, ok0] at C
  refine C.mono ?_
  rintro e w4 ⟨rfl, hb⟩
  clear C
  rw [pagg_pcs]
  have hB := (HB4.out.below hb).push _ rfl 23 (pcs (65535, 0, 5, 65535))
  have HB5 : Hid (Bn w _ [(g0, 27, (pf0 A0 c0).cells), (g1, 27, (pf1 A1 c1).cells), (g2, 27, (pf3 A2 c2).cells), (g3, 27, p4.cells), (w4.heap.size, 23, (pcs (65535, 0, 5, 65535)))]) := Lib.hid hB
  have HK0'''' := Lib.hid ((HK0'''.out.below hb).below ((Below.refl w4.heap.size _).alloc (Nat.le_refl _) (.cells (pcs (65535, 0, 5, 65535)) 23)))
  have HK1''' := Lib.hid ((HK1''.out.below hb).below ((Below.refl w4.heap.size _).alloc (Nat.le_refl _) (.cells (pcs (65535, 0, 5, 65535)) 23)))
  have HK2'' := Lib.hid ((HK2'.out.below hb).below ((Below.refl w4.heap.size _).alloc (Nat.le_refl _) (.cells (pcs (65535, 0, 5, 65535)) 23)))
  clear hb hB HB4 HK0''' HK1'' HK2'
  go_upto_region 6 with (first
    | (refine wpList_allocC runX rfl rfl ?_)
    | (refine wpList_store_row rfl _ _ _ rfl w4.heap.size (pcs (65535, 0, 5, 65535)) rfl rfl 23 (pcs (0, 0, 0, 0)) (heap_alloc_new _ _) (infoX _) rfl (pcs_one _) ?_; rw [World.setRow_alloc_new]))
  obtain ⟨g4, hg⟩ : ∃ g, w4.heap.size = g := ⟨_, rfl⟩
  obtain ⟨W5, hW⟩ : ∃ W, w4.alloc (.cells (pcs (65535, 0, 5, 65535)) 23) = W := ⟨_, rfl⟩
  rw [hW] at HK0''''
  rw [hW] at HK1'''
  rw [hW] at HK2''
  rw [hW, hg] at HB5
  rw [hW, hg]
  clear hW hg
  go_wp2_with (first
    | (refine wpList_load_row rfl _ _ rfl g0 rfl 27 (pf0 A0 c0).cells (0, 0) _ (HB5.out.get 0 rfl) Try.underlying27 rfl (pf0 A0 c0).info ?_))
  have C := Convert_any (pf0 A0 c0) (pf0 A0 c0) (5, 6, 7, 0) W5 ⟨HK0''''.out, show stN0.size ≤ 9223372036854775807 by decide⟩ ⟨HK0''''.out, show stN0.size ≤ 9223372036854775807 by decide⟩
  unfold PxC at C
  rw [ex_cnv, c00] at C
  refine C.mono ?_
  rintro e w5 ⟨rfl, hb⟩
  clear C
  rw [pagg_pcs]
  have hB := (HB5.out.below hb).push _ rfl 23 (pcs (5, 6, 7, 0))
  have HB6 : Hid (Bn w _ [(g0, 27, (pf0 A0 c0).cells), (g1, 27, (pf1 A1 c1).cells), (g2, 27, (pf3 A2 c2).cells), (g3, 27, p4.cells), (g4, 23, (pcs (65535, 0, 5, 65535))), (w5.heap.size, 23, (pcs (5, 6, 7, 0)))]) := Lib.hid hB
  have HK0''''' := Lib.hid ((HK0''''.out.below hb).below ((Below.refl w5.heap.size _).alloc (Nat.le_refl _) (.cells (pcs (5, 6, 7, 0)) 23)))
  have HK1'''' := Lib.hid ((HK1'''.out.below hb).below ((Below.refl w5.heap.size _).alloc (Nat.le_refl _) (.cells (pcs (5, 6, 7, 0)) 23)))
  have HK2''' := Lib.hid ((HK2''.out.below hb).below ((Below.refl w5.heap.size _).alloc (Nat.le_refl _) (.cells (pcs (5, 6, 7, 0)) 23)))
  clear hb hB HB5 HK0'''' HK1''' HK2''
  go_upto_region 7 with (first
    | (refine wpList_allocC runX rfl rfl ?_)
    | (refine wpList_store_row rfl _ _ _ rfl w5.heap.size (pcs (5, 6, 7, 0)) rfl rfl 23 (pcs (0, 0, 0, 0)) (heap_alloc_new _ _) (infoX _) rfl (pcs_one _) ?_; rw [World.setRow_alloc_new]))
  obtain ⟨g5, hg⟩ : ∃ g, w5.heap.size = g := ⟨_, rfl⟩
  obtain ⟨W6, hW⟩ : ∃ W, w5.alloc (.cells (pcs (5, 6, 7, 0)) 23) = W := ⟨_, rfl⟩
  rw [hW] at HK0'''''
  rw [hW] at HK1''''
  rw [hW] at HK2'''
  rw [hW, hg] at HB6
  rw [hW, hg]
  clear hW hg
  go_wp2_with (first
    | (refine wpList_load_row rfl _ _ rfl g0 rfl 27 (pf0 A0 c0).cells (0, 0) _ (HB6.out.get 0 rfl) Try.underlying27 rfl (pf0 A0 c0).info ?_)
    | (refine wpList_load_row rfl _ _ rfl g2 rfl 27 (pf3 A2 c2).cells (0, 0) _ (HB6.out.get 2 rfl) Try.underlying27 rfl (pf3 A2 c2).info ?_))
  have C := Convert_any (pf0 A0 c0) (pf3 A2 c2) (5, 6, 7, 0) W6 ⟨HK0'''''.out, show stN0.size ≤ 9223372036854775807 by decide⟩ ⟨HK2'''.out, show stN3.size ≤ 9223372036854775807 by decide⟩
  unfold PxC at C
  rw [ex_cnv3, c03] at C
  refine C.mono ?_
  rintro e w6 ⟨rfl, hb⟩
  clear C
  rw [pagg_pcs]
  have hB := (HB6.out.below hb).push _ rfl 23 (pcs (0, 0, 0, 0))
  have HB7 : Hid (Bn w _ [(g0, 27, (pf0 A0 c0).cells), (g1, 27, (pf1 A1 c1).cells), (g2, 27, (pf3 A2 c2).cells), (g3, 27, p4.cells), (g4, 23, (pcs (65535, 0, 5, 65535))), (g5, 23, (pcs (5, 6, 7, 0))), (w6.heap.size, 23, (pcs (0, 0, 0, 0)))]) := Lib.hid hB
  have HK0'''''' := Lib.hid ((HK0'''''.out.below hb).below ((Below.refl w6.heap.size _).alloc (Nat.le_refl _) (.cells (pcs (0, 0, 0, 0)) 23)))
  have HK1''''' := Lib.hid ((HK1''''.out.below hb).below ((Below.refl w6.heap.size _).alloc (Nat.le_refl _) (.cells (pcs (0, 0, 0, 0)) 23)))
  have HK2'''' := Lib.hid ((HK2'''.out.below hb).below ((Below.refl w6.heap.size _).alloc (Nat.le_refl _) (.cells (pcs (0, 0, 0, 0)) 23)))
  clear hb hB HB6 HK0''''' HK1'''' HK2'''
  go_upto_region 8 with (first
    | (refine wpList_allocC runX rfl rfl ?_)
    | (refine wpList_store_row rfl _ _ _ rfl w6.heap.size (pcs (0, 0, 0, 0)) rfl rfl 23 (pcs (0, 0, 0, 0)) (heap_alloc_new _ _) (infoX _) rfl (pcs_one _) ?_; rw [World.setRow_alloc_new]))
  obtain ⟨g6, hg⟩ : ∃ g, w6.heap.size = g := ⟨_, rfl⟩
  obtain ⟨W7, hW⟩ : ∃ W, w6.alloc (.cells (pcs (0, 0, 0, 0)) 23) = W := ⟨_, rfl⟩
  rw [hW] at HK0''''''
  rw [hW] at HK1'''''
  rw [hW] at HK2''''
  rw [hW, hg] at HB7
  rw [hW, hg]
  clear hW hg
  go_wp2_with (first
    | (refine wpList_load_row rfl _ _ rfl g0 rfl 27 (pf0 A0 c0).cells (0, 0) _ (HB7.out.get 0 rfl) Try.underlying27 rfl (pf0 A0 c0).info ?_))
  have C := Bytes_any (pf0 A0 c0) W7 ⟨HK0''''''.out, show stN0.size ≤ 9223372036854775807 by decide⟩
  unfold BytC at C
  rw [ex_enb, ok0] at C
  refine C.mono ?_
  rintro e w7 ⟨rfl, hb⟩
  clear C
  have HB8 := Lib.hid (HB7.out.below hb)
  have HK0''''''' := Lib.hid (HK0''''''.out.below hb)
  have HK1'''''' := Lib.hid (HK1'''''.out.below hb)
  have HK2''''' := Lib.hid (HK2''''.out.below hb)
  clear hb HB7 HK0'''''' HK1''''' HK2''''
  have hlen : eb0.length = 31 := len0
  have HLN := Lib.hid hlen
  have q1 := fun W => bs_run eb0 [120] (by rw [hlen]; decide) W
  have q1 : ∀ W, (Op.stringOp .add (bs eb0) ⟨#[120]⟩).run Try.prog W = .ok (.string (bs (eb0 ++ [120]))) W := q1
  go_wp2_with fail
  clear q1
  have C := Parse_any (bs (eb0 ++ [120])) w7 (by rw [bs_size, List.length_append, hlen]; decide)
  rw [show (bs (eb0 ++ [120])).data.toList = eb0 ++ [120] by simp [bs]] at C
  unfold ParC at C
  rw [ex_more] at C
  clear hlen
  refine C.mono ?_
  rintro e w8 ⟨A8, c8, rfl, hk, hb⟩
  clear C hk
  obtain ⟨p8, hp8⟩ : ∃ p : Pf, Pf.mk (paR (eb0 ++ [120])).nm A8 c8 (paR (eb0 ++ [120])).k (paR (eb0 ++ [120])).m = p := ⟨_, rfl⟩
  rw [hp8]
  rw [show p8.val = .agg p8.cells from rfl]
  clear hp8
  have hB := (HB8.out.below hb).push _ rfl 27 p8.cells
  have HB9 : Hid (Bn w _ [(g0, 27, (pf0 A0 c0).cells), (g1, 27, (pf1 A1 c1).cells), (g2, 27, (pf3 A2 c2).cells), (g3, 27, p4.cells), (g4, 23, (pcs (65535, 0, 5, 65535))), (g5, 23, (pcs (5, 6, 7, 0))), (g6, 23, (pcs (0, 0, 0, 0))), (w8.heap.size, 27, p8.cells)]) := Lib.hid hB
  have HK0'''''''' := Lib.hid ((HK0'''''''.out.below hb).below ((Below.refl w8.heap.size _).alloc (Nat.le_refl _) (.cells p8.cells 27)))
  have HK1''''''' := Lib.hid ((HK1''''''.out.below hb).below ((Below.refl w8.heap.size _).alloc (Nat.le_refl _) (.cells p8.cells 27)))
  have HK2'''''' := Lib.hid ((HK2'''''.out.below hb).below ((Below.refl w8.heap.size _).alloc (Nat.le_refl _) (.cells p8.cells 27)))
  clear hb hB HB8 HK0''''''' HK1'''''' HK2'''''
  go_upto_region 10 with (first
    | (refine wpList_allocC runP rfl rfl ?_)
    | (refine wpList_store_row rfl _ _ _ rfl w8.heap.size p8.cells rfl rfl 27 Pf.zero.cells (heap_alloc_new _ _) p8.info (by rw [Pf.size, Pf.size]) p8.one ?_; rw [World.setRow_alloc_new]))
  obtain ⟨g7, hg⟩ : ∃ g, w8.heap.size = g := ⟨_, rfl⟩
  obtain ⟨W9, hW⟩ : ∃ W, w8.alloc (.cells p8.cells 27) = W := ⟨_, rfl⟩
  rw [hW] at HK0''''''''
  rw [hW] at HK1'''''''
  rw [hW] at HK2''''''
  rw [hW, hg] at HB9
  rw [hW, hg]
  clear hW hg
  go_wp2_with fail
  have C := Parse_any ⟨#[]⟩ W9 (by decide)
  rw [show (ByteArray.mk #[]).data.toList = [] from rfl] at C
  unfold ParC at C
  rw [ex_none] at C
  refine C.mono ?_
  rintro e w9 ⟨A9, c9, rfl, hk, hb⟩
  clear C hk
  obtain ⟨p9, hp9⟩ : ∃ p : Pf, Pf.mk (paR []).nm A9 c9 (paR []).k (paR []).m = p := ⟨_, rfl⟩
  rw [hp9]
  rw [show p9.val = .agg p9.cells from rfl]
  clear hp9
  have hB := (HB9.out.below hb).push _ rfl 27 p9.cells
  have HB10 : Hid (Bn w _ [(g0, 27, (pf0 A0 c0).cells), (g1, 27, (pf1 A1 c1).cells), (g2, 27, (pf3 A2 c2).cells), (g3, 27, p4.cells), (g4, 23, (pcs (65535, 0, 5, 65535))), (g5, 23, (pcs (5, 6, 7, 0))), (g6, 23, (pcs (0, 0, 0, 0))), (g7, 27, p8.cells), (w9.heap.size, 27, p9.cells)]) := Lib.hid hB
  have HK0''''''''' := Lib.hid ((HK0''''''''.out.below hb).below ((Below.refl w9.heap.size _).alloc (Nat.le_refl _) (.cells p9.cells 27)))
  have HK1'''''''' := Lib.hid ((HK1'''''''.out.below hb).below ((Below.refl w9.heap.size _).alloc (Nat.le_refl _) (.cells p9.cells 27)))
  have HK2''''''' := Lib.hid ((HK2''''''.out.below hb).below ((Below.refl w9.heap.size _).alloc (Nat.le_refl _) (.cells p9.cells 27)))
  clear hb hB HB9 HK0'''''''' HK1''''''' HK2''''''
  go_upto_region 11 with (first
    | (refine wpList_allocC runP rfl rfl ?_)
    | (refine wpList_store_row rfl _ _ _ rfl w9.heap.size p9.cells rfl rfl 27 Pf.zero.cells (heap_alloc_new _ _) p9.info (by rw [Pf.size, Pf.size]) p9.one ?_; rw [World.setRow_alloc_new]))
  obtain ⟨g8, hg⟩ : ∃ g, w9.heap.size = g := ⟨_, rfl⟩
  obtain ⟨W10, hW⟩ : ∃ W, w9.alloc (.cells p9.cells 27) = W := ⟨_, rfl⟩
  rw [hW] at HK0'''''''''
  rw [hW] at HK1''''''''
  rw [hW] at HK2'''''''
  rw [hW, hg] at HB10
  rw [hW, hg]
  clear hW hg
  go_wp2_with fail
  refine (Count_any _).mono ?_
  rintro e w10 ⟨rfl, rfl⟩
  have s0 : stN0.toList = [108, 105, 110, 101, 97, 114] := by rw [ByteArray.toList_eq]; rfl
  have s1 : stN1.toList = [115, 114, 103, 98] := by rw [ByteArray.toList_eq]; rfl
  have s3 : stN3.toList = [119, 97, 114, 109] := by rw [ByteArray.toList_eq]; rfl
  have n0 : W10.cell? ⟨g0, 0, none⟩ = some (.string stN0) := (blkP (HB10.out.get 0 rfl)).1
  have n1 : W10.cell? ⟨g1, 0, none⟩ = some (.string stN1) := (blkP (HB10.out.get 1 rfl)).1
  have n3 : W10.cell? ⟨g2, 0, none⟩ = some (.string stN3) := (blkP (HB10.out.get 2 rfl)).1
  have C := Linear_any (pf3 A2 c2) (16384, 0, 0, 65535) W10 ⟨HK2'''''''.out, show stN3.size ≤ 9223372036854775807 by decide⟩
  unfold LinC at C
  rw [Mat.ac_ext (ex_lin A2 c2), ← l3_agg] at C
  unfold pagg at C
  have C : Calls Try.prog 13 #[.agg #[.string stN3, .slice A2 4 c2, .int .i64 60000, .int .i64 5000, .int .i64 536, .int .i64 2000, .int .i64 62000, .int .i64 1536, .int .i64 0, .int .i64 4000, .int .i64 61536], .agg #[.int .i64 16384, .int .i64 0, .int .i64 0, .int .i64 65535]] W10 _ := C
  have r0 : W10.cell? ⟨g2, 0, none⟩ = some (.string stN3) := ((HB10.out.get 2 rfl).cell 0).trans rfl
  have r1 : W10.cell? ⟨g2, 1, none⟩ = some (.slice A2 4 c2) := ((HB10.out.get 2 rfl).cell 1).trans rfl
  have r2 : W10.cell? ⟨g2, 2, none⟩ = some (.int .i64 60000) := ((HB10.out.get 2 rfl).cell 2).trans rfl
  have r3 : W10.cell? ⟨g2, 3, none⟩ = some (.int .i64 5000) := ((HB10.out.get 2 rfl).cell 3).trans rfl
  have r4 : W10.cell? ⟨g2, 4, none⟩ = some (.int .i64 536) := ((HB10.out.get 2 rfl).cell 4).trans rfl
  have r5 : W10.cell? ⟨g2, 5, none⟩ = some (.int .i64 2000) := ((HB10.out.get 2 rfl).cell 5).trans rfl
  have r6 : W10.cell? ⟨g2, 6, none⟩ = some (.int .i64 62000) := ((HB10.out.get 2 rfl).cell 6).trans rfl
  have r7 : W10.cell? ⟨g2, 7, none⟩ = some (.int .i64 1536) := ((HB10.out.get 2 rfl).cell 7).trans rfl
  have r8 : W10.cell? ⟨g2, 8, none⟩ = some (.int .i64 0) := ((HB10.out.get 2 rfl).cell 8).trans rfl
  have r9 : W10.cell? ⟨g2, 9, none⟩ = some (.int .i64 4000) := ((HB10.out.get 2 rfl).cell 9).trans rfl
  have r10 : W10.cell? ⟨g2, 10, none⟩ = some (.int .i64 61536) := ((HB10.out.get 2 rfl).cell 10).trans rfl
  go_wp2_with fail
  refine C.mono ?_
  rintro e w11 ⟨rfl, hb⟩
  clear C n0 n1 n3 s0 s1 s3 r0 r1 r2 r3 r4 r5 r6 r7 r8 r9 r10
  have HB11 := Lib.hid (HB10.out.below hb)
  clear hb HB10 HK0''''''''' HK1'''''''' HK2'''''''
  have q3 : ∀ W, (binOp .eql 34 (.agg #[.int .i64 7500, .int .i64 250, .int .i64 0]) (.agg #[.int .i64 7500, .int .i64 250, .int .i64 0])).run Try.prog W = .ok (.bool true) W := fun W => eql3l (l3 7500 250 0) (l3 7500 250 0) W
  have x1 : ∀ W, (binOp .eql 23 (.agg #[.int .i64 65535, .int .i64 0, .int .i64 5, .int .i64 65535]) (.agg #[.int .i64 65535, .int .i64 0, .int .i64 5, .int .i64 65535])).run Try.prog W = .ok (.bool true) W := fun W => eqlPx (65535, 0, 5, 65535) (65535, 0, 5, 65535) W
  have x2 : ∀ W, (binOp .eql 23 (.agg #[.int .i64 5, .int .i64 6, .int .i64 7, .int .i64 0]) (.agg #[.int .i64 5, .int .i64 6, .int .i64 7, .int .i64 0])).run Try.prog W = .ok (.bool true) W := fun W => eqlPx (5, 6, 7, 0) (5, 6, 7, 0) W
  have x3 : ∀ W, (binOp .eql 23 (.agg #[.int .i64 0, .int .i64 0, .int .i64 0, .int .i64 0]) (.agg #[.int .i64 0, .int .i64 0, .int .i64 0, .int .i64 0])).run Try.prog W = .ok (.bool true) W := fun W => eqlPx (0, 0, 0, 0) (0, 0, 0, 0) W
  obtain ⟨d0, d1, d2, d3, _⟩ := blk4 (show Blk w11 g4 23 #[.int .i64 65535, .int .i64 0, .int .i64 5, .int .i64 65535] from HB11.out.get 4 rfl)
  obtain ⟨e0, e1, e2, e3, _⟩ := blk4 (show Blk w11 g5 23 #[.int .i64 5, .int .i64 6, .int .i64 7, .int .i64 0] from HB11.out.get 5 rfl)
  obtain ⟨f0, f1, f2, f3, _⟩ := blk4 (show Blk w11 g6 23 #[.int .i64 0, .int .i64 0, .int .i64 0, .int .i64 0] from HB11.out.get 6 rfl)
  have hl : (bs eb0).size = 31 := by rw [bs_size]; exact HLN.out
  go_wp2_with (refine wpList_buildG 0 rfl 27 _ rfl rfl Pf.zero.cells builtP0 ?_)
  have C := Check_any Pf.zero w11 ⟨Reads.none_, by decide⟩
  unfold ChkC at C
  rw [ex_bad1] at C
  refine C.mono ?_
  rintro e w12 ⟨rfl, hb⟩
  have HBa := Lib.hid (HB11.out.below hb)
  clear C hb q3 x1 x2 x3 d0 d1 d2 d3 e0 e1 e2 e3 f0 f1 f2 f3 hl
  go_wp2_with (refine wpList_buildG 1 rfl 27 _ rfl rfl pfx.cells (by kernel_rfl) ?_)
  have C := Check_any pfx w12 ⟨Reads.none_, by decide⟩
  unfold ChkC at C
  rw [ex_bad2] at C
  refine C.mono ?_
  rintro e w13 ⟨rfl, hb⟩
  have HBb := Lib.hid (HBa.out.below hb)
  clear C hb
  go_wp2_with fail
  go_ret
  exact BolC.mk rfl HBb.out.b

end Go.Proofs.Ytcighjeiimjbiaa.Pro

/- ProOpen: Layer 9's laws: arguments that came in. -/
namespace Go.Proofs.Ytcighjeiimjbiaa.Pro
open Go.RowKit Go.Proofs.Ytcighjeiimjbiaa Go.Proofs.Ytcighjeiimjbiaa.NumPure
open Go.Proofs.Ytcighjeiimjbiaa.Mat (al ac invM invX appM info9 info3)
open Go.ChangeShapes Go.WideShapes Go.Deep

theorem cells1 : Try.prog.cellsOf 3 = 1 := by kernel_rfl
theorem cellsStr : Try.prog.cellsOf 9 = 1 := by kernel_rfl
theorem cellsKnot : Try.prog.cellsOf 72 = 2 := by kernel_rfl
theorem cellsPix : Try.prog.cellsOf 23 = 4 := by kernel_rfl
theorem cellsImg : Try.prog.cellsOf 39 = 3 := by kernel_rfl
theorem cellsPS : Try.prog.cellsOf 37 = 1 := by kernel_rfl
theorem cellsKS : Try.prog.cellsOf 24 = 1 := by kernel_rfl
theorem cellsM9 : Try.prog.cellsOf 25 = 9 := by kernel_rfl
theorem cellsV3 : Try.prog.cellsOf 34 = 3 := by kernel_rfl
theorem cellsPro : Try.prog.cellsOf 27 = 11 := by kernel_rfl
/-- All that is read through a datum is within the reach. -/
def Small {H : Type} (t : TypeId) (d : DataW H) : Prop := ∀ n ∈ d.weights Try.prog t, n ≤ reachBytes

section
variable {H : Type} {enc : TypeId × Value → H} {W : World} {base : Nat} {sp : Nat → Bool} {held : Bool}
set_option maxRecDepth 100000 in
theorem open_pix {fuel : Nat} {cs : List Value} {x : DataW H × List MemPlace} (h : DataW.trod enc Try.prog W base sp held fuel 23 cs = some x) : ∃ k : P4, cs = px4 k := by
  obtain ⟨ys, n, _, _, hlen, hyl, hf⟩ := DataW.trod_struct Try.underlying23 h
  rw [cellsPix] at hlen
  match cs, hlen with
  | [c0, c1, c2, c3], _ =>
    have hyl5 : ys.length = 4 := hyl
    match ys, hyl5 with
    | [y0, y1, y2, y3], _ =>
      obtain ⟨k0, e0, _, w0⟩ := DataW.trod_int (cs := [c0]) Try.underlying3 (by simpa [cells1] using hf 0 _ rfl)
      obtain ⟨k1, e1, _, w1⟩ := DataW.trod_int (cs := [c1]) Try.underlying3 (by simpa [cells1] using hf 1 _ rfl)
      obtain ⟨k2, e2, _, w2⟩ := DataW.trod_int (cs := [c2]) Try.underlying3 (by simpa [cells1] using hf 2 _ rfl)
      obtain ⟨k3, e3, _, w3⟩ := DataW.trod_int (cs := [c3]) Try.underlying3 (by simpa [cells1] using hf 3 _ rfl)
      simp only [List.cons.injEq, and_true] at e0 e1 e2 e3
      subst e0 e1 e2 e3
      exact ⟨(k0, k1, k2, k3), rfl⟩
set_option maxRecDepth 100000 in
theorem open_knot {fuel : Nat} {cs : List Value} {x : DataW H × List MemPlace} (h : DataW.trod enc Try.prog W base sp held fuel 72 cs = some x) : ∃ k : K2, cs = kn k := by
  obtain ⟨ys, n, _, _, hlen, hyl, hf⟩ := DataW.trod_struct Try.underlying72 h
  rw [cellsKnot] at hlen
  match cs, hlen with
  | [c0, c1], _ =>
    have hyl5 : ys.length = 2 := hyl
    match ys, hyl5 with
    | [y0, y1], _ =>
      obtain ⟨k0, e0, _, w0⟩ := DataW.trod_int (cs := [c0]) Try.underlying3 (by simpa [cells1] using hf 0 _ rfl)
      obtain ⟨k1, e1, _, w1⟩ := DataW.trod_int (cs := [c1]) Try.underlying3 (by simpa [cells1] using hf 1 _ rfl)
      simp only [List.cons.injEq, and_true] at e0 e1
      subst e0 e1
      exact ⟨(k0, k1), rfl⟩
theorem pxs_get (f : Nat → P4) : ∀ (n j : Nat) (u : Value), (pxs ((List.range n).map f))[j]? = some u → j / 4 < n ∧ (px4 (f (j / 4)))[j % 4]? = some u := fun n j u h => by
  have hl := (List.getElem?_eq_some_iff.1 h).1
  rw [pxs_len, List.length_map, List.length_range] at hl
  have hj : j / 4 < n := by omega
  refine ⟨hj, ?_⟩
  have := pxs_at ((List.range n).map f) (j / 4) (by simpa using hj) (j % 4) (by omega)
  rw [show j / 4 * 4 + j % 4 = j by omega, h] at this
  simpa using this.symm
theorem kns_get (f : Nat → K2) : ∀ (n j : Nat) (u : Value), (kns ((List.range n).map f))[j]? = some u → j / 2 < n ∧ (kn (f (j / 2)))[j % 2]? = some u := fun n j u h => by
  have hl := (List.getElem?_eq_some_iff.1 h).1
  rw [kns_len, List.length_map, List.length_range] at hl
  have hj : j / 2 < n := by omega
  refine ⟨hj, ?_⟩
  have := kns_at ((List.range n).map f) (j / 2) (by simpa using hj) (j % 2) (by omega)
  rw [show j / 2 * 2 + j % 2 = j by omega, h] at this
  simpa using this.symm
set_option maxRecDepth 100000 in
theorem open_pixels {fuel : Nat} {cs : List Value} {x : DataW H × List MemPlace} (h : DataW.trod enc Try.prog W base (fun _ => true) held fuel 37 cs = some x) :
    ∃ (A : Option Addr) (c : Nat) (px : List P4), cs = [.slice A px.length c] ∧ PxR W A px := by
  rcases open_slice Try.underlying37 h with ⟨rfl, rfl⟩ | ⟨a, len, cap, m, n, D, Pl, rfl, hb, hl, hm, hmm, rfl, hi⟩
  · exact ⟨none, 0, [], rfl, Reads.none_⟩
  · have hmm2 : m = cap := by simpa using hmm
    subst hmm2
    have hex : ∀ i, ∃ k : P4, i < len → ∀ j u, (px4 k)[j]? = some u → W.cell? ((a.add (i * 4)).add j) = some u := fun i => by
      by_cases hlt : i < len
      · obtain ⟨cs', hc, ht⟩ := hi i (by omega)
        obtain ⟨k, rfl⟩ := open_pix ht
        rw [cellsPix] at hc
        obtain ⟨_, _, hat⟩ := World.cells?_some hc
        exact ⟨k, fun _ j u hu => (hat j (by have := (List.getElem?_eq_some_iff.1 hu).1; exact this)).trans hu⟩
      · exact ⟨(0, 0, 0, 0), fun h => absurd h hlt⟩
    refine ⟨some a, m, (List.range len).map fun i => Classical.choose (hex i), by simp, ⟨by rw [pxs_len], fun h0 => ⟨a, rfl, ?_, fun j u hu => ?_⟩⟩⟩
    · simp only [List.length_map, List.length_range] at h0
      have := Classical.choose_spec (hex 0) h0 0 _ rfl
      exact World.block_lt_of_cell? W ((a.add (0 * 4)).add 0) this
    · obtain ⟨h1, h2⟩ := pxs_get _ _ _ _ hu
      have := Classical.choose_spec (hex (j / 4)) h1 (j % 4) u h2
      rw [add_of_add, show j / 4 * 4 + j % 4 = j by omega] at this
      exact this
set_option maxRecDepth 100000 in
theorem open_knots {fuel : Nat} {cs : List Value} {x : DataW H × List MemPlace} (h : DataW.trod enc Try.prog W base (fun _ => true) held fuel 24 cs = some x) :
    ∃ (A : Option Addr) (c : Nat) (k : List K2), cs = [.slice A k.length c] ∧ KnR W A k := by
  rcases open_slice Try.underlying24 h with ⟨rfl, rfl⟩ | ⟨a, len, cap, m, n, D, Pl, rfl, hb, hl, hm, hmm, rfl, hi⟩
  · exact ⟨none, 0, [], rfl, Reads.none_⟩
  · have hmm2 : m = cap := by simpa using hmm
    subst hmm2
    have hex : ∀ i, ∃ k : K2, i < len → ∀ j u, (kn k)[j]? = some u → W.cell? ((a.add (i * 2)).add j) = some u := fun i => by
      by_cases hlt : i < len
      · obtain ⟨cs', hc, ht⟩ := hi i (by omega)
        obtain ⟨k, rfl⟩ := open_knot ht
        rw [cellsKnot] at hc
        obtain ⟨_, _, hat⟩ := World.cells?_some hc
        exact ⟨k, fun _ j u hu => (hat j (by have := (List.getElem?_eq_some_iff.1 hu).1; exact this)).trans hu⟩
      · exact ⟨(0, 0), fun h => absurd h hlt⟩
    refine ⟨some a, m, (List.range len).map fun i => Classical.choose (hex i), by simp, ⟨by rw [kns_len], fun h0 => ⟨a, rfl, ?_, fun j u hu => ?_⟩⟩⟩
    · simp only [List.length_map, List.length_range] at h0
      have := Classical.choose_spec (hex 0) h0 0 _ rfl
      exact World.block_lt_of_cell? W ((a.add (0 * 2)).add 0) this
    · obtain ⟨h1, h2⟩ := kns_get _ _ _ _ hu
      have := Classical.choose_spec (hex (j / 2)) h1 (j % 2) u h2
      rw [add_of_add, show j / 2 * 2 + j % 2 = j by omega] at this
      exact this
set_option maxRecDepth 100000 in
theorem open_ints {t : TypeId} {n fuel : Nat} {cs : List Value} {x : DataW H × List MemPlace} (hu : Try.prog.underlying t = some (.array n 3)) (hc : Try.prog.cellsOf t = n) (h : DataW.trod enc Try.prog W base sp held fuel t cs = some x) : ∃ m : Nat → Int, cs = al n m := by
  obtain ⟨ys, m, _, _, hlen, hyl, hf⟩ := DataW.trod_array hu h
  rw [hc] at hlen
  refine ⟨fun i => match cs[i]? with | some (.int _ z) => z | _ => 0, ?_⟩
  apply List.ext_getElem (by rw [hlen, Mat.al_len])
  intro i h1 h2
  have hi : i < n := by omega
  have h3 := hf i hi
  rw [cells1, Nat.mul_one, List.getElem?_eq_getElem (by omega)] at h3
  have h4 : (cs.drop i).take 1 = [cs[i]] := by rw [List.drop_eq_getElem_cons h1]; rfl
  rw [h4] at h3
  obtain ⟨z, e, _, _⟩ := DataW.trod_int Try.underlying3 h3
  simp only [List.cons.injEq, and_true] at e
  simp [al, e, List.getElem?_eq_getElem h1]
set_option maxRecDepth 100000 in
theorem open_prof {fuel : Nat} {cs : List Value} {x : DataW H × List MemPlace} (h : DataW.trod enc Try.prog W base (fun _ => true) held fuel 27 cs = some x) : ∃ p : Pf, cs = p.lst ∧ PfR W p := by
  obtain ⟨ys, n, _, hx, hlen, hyl, hf⟩ := DataW.trod_struct Try.underlying27 h
  rw [cellsPro] at hlen
  match cs, hlen with
  | c0 :: c1 :: r, hr =>
    have hr : r.length = 9 := by simpa using hr
    have hyl5 : ys.length = 3 := hyl
    match ys, hyl5 with
    | [y0, y1, y2], _ =>
      obtain ⟨s, e0, _, w0⟩ := DataW.trod_string (cs := [c0]) Try.underlying9 (by simpa [cellsStr] using hf 0 _ rfl)
      obtain ⟨A, c, k, e1, hk⟩ := open_knots (cs := [c1]) (by simpa [cellsKS] using hf 1 _ rfl)
      obtain ⟨m, e2⟩ := open_ints (cs := r) Try.underlying25 cellsM9 (by
        have h2 : DataW.trod enc Try.prog W base (fun _ => true) held n 25 (r.take (Try.prog.cellsOf 25)) = some y2 := hf 2 _ rfl
        rwa [cellsM9, List.take_of_length_le (by omega)] at h2)
      simp only [List.cons.injEq, and_true] at e0 e1
      subst e0 e1 e2
      exact ⟨⟨s, A, c, k, m⟩, rfl, hk, by unfold maxLen at w0; omega⟩
set_option maxRecDepth 100000 in
theorem open_img {fuel : Nat} {cs : List Value} {x : DataW H × List MemPlace} (h : DataW.trod enc Try.prog W base (fun _ => true) held fuel 39 cs = some x) :
    ∃ (X Y : Int) (A : Option Addr) (c : Nat) (px : List P4), cs = [.int .i64 X, .int .i64 Y, .slice A px.length c] ∧ PxR W A px := by
  obtain ⟨ys, n, _, hx, hlen, hyl, hf⟩ := DataW.trod_struct Try.underlying39 h
  rw [cellsImg] at hlen
  match cs, hlen with
  | [c0, c1, c2], _ =>
    have hyl5 : ys.length = 3 := hyl
    match ys, hyl5 with
    | [y0, y1, y2], _ =>
      obtain ⟨k0, e0, _, w0⟩ := DataW.trod_int (cs := [c0]) Try.underlying3 (by simpa [cells1] using hf 0 _ rfl)
      obtain ⟨k1, e1, _, w1⟩ := DataW.trod_int (cs := [c1]) Try.underlying3 (by simpa [cells1] using hf 1 _ rfl)
      obtain ⟨A, c, px, e2, hr⟩ := open_pixels (cs := [c2]) (by simpa [cellsPS] using hf 2 _ rfl)
      simp only [List.cons.injEq, and_true] at e0 e1 e2
      subst e0 e1 e2
      exact ⟨k0, k1, A, c, px, rfl, hr⟩
variable {r : Reach} {b0 : Nat} {v : Value} {d : DataW H} {p : List MemPlace}
set_option maxRecDepth 100000 in
theorem agg_of {t : TypeId} {fs : Array Field} (hu : Try.prog.underlying t = some (.struct fs)) (hv : Value.okWide Try.prog W r b0 t v) : ∃ cs, v = .agg cs := by
  unfold Value.okWide at hv
  rw [hu] at hv
  obtain ⟨cs, rfl, _⟩ := hv
  exact ⟨cs, rfl⟩
set_option maxRecDepth 100000 in
theorem agg_arr {t e : TypeId} {n : Nat} (hu : Try.prog.underlying t = some (.array n e)) (hv : Value.okWide Try.prog W r b0 t v) : ∃ cs, v = .agg cs := by
  unfold Value.okWide at hv
  rw [hu] at hv
  obtain ⟨cs, rfl, _⟩ := hv
  exact ⟨cs, rfl⟩
set_option maxRecDepth 100000 in
theorem arg_prof (hv : Value.okWide Try.prog W r b0 27 v) (h : DataW.Trod enc Try.prog W 0 (fun _ => true) held 27 v d p) : ∃ p : Pf, v = p.val ∧ PfR W p := by
  obtain ⟨cs, rfl⟩ := agg_of Try.underlying27 hv
  obtain ⟨fuel, hf⟩ := h
  obtain ⟨q, e, hq⟩ := open_prof hf
  refine ⟨q, ?_, hq⟩
  have e : cs.toList = q.lst := e
  unfold Pf.val Pf.cells
  rw [← e]
set_option maxRecDepth 100000 in
theorem arg_pix (hv : Value.okWide Try.prog W r b0 23 v) (h : DataW.Trod enc Try.prog W 0 (fun _ => true) held 23 v d p) : ∃ x : P4, v = pagg x := by
  obtain ⟨cs, rfl⟩ := agg_of Try.underlying23 hv
  obtain ⟨fuel, hf⟩ := h
  obtain ⟨q, e⟩ := open_pix hf
  refine ⟨q, ?_⟩
  have e : cs.toList = px4 q := e
  have e2 : cs = (px4 q).toArray := by rw [← e]
  rw [e2]
  rfl
set_option maxRecDepth 100000 in
theorem arg_img (hv : Value.okWide Try.prog W r b0 39 v) (h : DataW.Trod enc Try.prog W 0 (fun _ => true) held 39 v d p) : ∃ (X Y : Int) (A : Option Addr) (c : Nat) (px : List P4), v = .agg #[.int .i64 X, .int .i64 Y, .slice A px.length c] ∧ PxR W A px := by
  obtain ⟨cs, rfl⟩ := agg_of Try.underlying39 hv
  obtain ⟨fuel, hf⟩ := h
  obtain ⟨X, Y, A, c, px, e, hq⟩ := open_img hf
  refine ⟨X, Y, A, c, px, ?_, hq⟩
  have e : cs.toList = [.int .i64 X, .int .i64 Y, .slice A px.length c] := e
  have e2 : cs = #[.int .i64 X, .int .i64 Y, .slice A px.length c] := by rw [← Array.toList_inj, e]
  rw [e2]
set_option maxRecDepth 100000 in
theorem arg_v3 (hv : Value.okWide Try.prog W r b0 34 v) (h : DataW.Trod enc Try.prog W 0 (fun _ => true) held 34 v d p) : ∃ m : Nat → Int, v = .agg (ac 3 m) := by
  obtain ⟨cs, rfl⟩ := agg_arr Try.underlying34 hv
  obtain ⟨fuel, hf⟩ := h
  obtain ⟨m, e⟩ := open_ints Try.underlying34 cellsV3 hf
  refine ⟨m, ?_⟩
  have e : cs.toList = al 3 m := e
  have e2 : cs = (al 3 m).toArray := by rw [← e]
  rw [e2]
  rfl
set_option maxRecDepth 100000 in
theorem arg_knots (hv : Value.okWide Try.prog W r b0 24 v) (h : DataW.Trod enc Try.prog W 0 (fun _ => true) held 24 v d p) : ∃ (A : Option Addr) (c : Nat) (k : List K2), v = .slice A k.length c ∧ KnR W A k := by
  obtain ⟨a0, l0, c0, rfl⟩ := okWide_slice Try.underlying24 hv
  obtain ⟨fuel, hf⟩ := h
  obtain ⟨A, c, k, e, hq⟩ := open_knots hf
  exact ⟨A, c, k, by simpa [Value.cells] using e, hq⟩
set_option maxRecDepth 100000 in
theorem arg_str (hv : Value.okWide Try.prog W r b0 9 v) (h : DataW.Trod enc Try.prog W 0 (fun _ => true) held 9 v d p) (hs : Small 9 d) : ∃ s : ByteArray, v = .string s ∧ s.size ≤ 140737488351232 := by
  obtain ⟨s, rfl⟩ := okWide_string Try.underlying9 hv
  obtain ⟨fuel, hf⟩ := h
  obtain ⟨s', e, e2, _⟩ := DataW.trod_string Try.underlying9 hf
  have e : s = s' := by simpa [Value.cells] using e
  subst e
  refine ⟨s, rfl, ?_⟩
  have e2 : d = .lit (.string s.data.toList) := congrArg Prod.fst e2
  subst e2
  have := hs s.data.toList.length (by simp [DataW.weights])
  have hreach : reachBytes = 140737488351232 := rfl
  simpa [hreach] using this
end
end Go.Proofs.Ytcighjeiimjbiaa.Pro

/- ProLw: Layer 9's laws: what they share. -/
namespace Go.Proofs.Ytcighjeiimjbiaa.Pro
open Go.RowKit Go.Proofs.Ytcighjeiimjbiaa Go.Proofs.Ytcighjeiimjbiaa.NumPure
open Go.Proofs.Ytcighjeiimjbiaa.Mat (al ac invM invX appM info9 info3)

def ParD (l : List UInt8) (w : World) (e : Ending) (w' : World) : Prop :=
  ∃ p : Pf, e = .returned (.tuple #[.agg p.cells, .int .i64 (paZ l)]) ∧ PfR w' p ∧ p.nm = (paR l).nm ∧ p.k = (paR l).k ∧ p.m = (paR l).m ∧ Below w.heap.size w w'
theorem paR_nm (l : List UInt8) : (paR l).nm.size ≤ 9223372036854775807 := by
  unfold paR
  split
  · show (bs (paN l)).size ≤ _
    rw [bs_size]
    have := paN_le l
    omega
  · exact (by decide : (0 : Nat) ≤ 9223372036854775807)
theorem ParC.d {l : List UInt8} {w w' : World} {e : Ending} (h : ParC l w e w') : ParD l w e w' := by
  obtain ⟨A, c, rfl, hk, hb⟩ := h
  exact ⟨⟨(paR l).nm, A, c, (paR l).k, (paR l).m⟩, rfl, ⟨hk, paR_nm l⟩, rfl, rfl, rfl, hb⟩
theorem Parse_d (s : ByteArray) (w : World) (hs : s.size ≤ 140737488355328) : Calls Try.prog 29 #[.string s] w (ParD s.data.toList w) := (Parse_any s w hs).mono fun _ _ h => h.d
theorem rParse_d (s : ByteArray) (w : World) (hs : s.size ≤ 140737488355328) : Calls Try.prog 30 #[.string s] w (ParD s.data.toList w) := (rParse_any s w hs).mono fun _ _ h => h.d
theorem sameB_of {a b : Pf} (h1 : a.nm = b.nm) (h2 : a.k = b.k) (h3 : ∀ j, j < 9 → a.m j = b.m j) : sameB a b = true := by
  unfold sameB
  rw [(eqS_iff _ _).2 h1, (eqM_iff _ _).2 h3, h2]
  simp
def StD (i : Int) (w : World) (e : Ending) (w' : World) : Prop :=
  ∃ p : Pf, e = .returned (.tuple #[.agg p.cells, .int .i64 (stZ i)]) ∧ PfR w' p ∧ p.nm = stN i ∧ p.k = stK i ∧ p.m = stM i ∧ Below w.heap.size w w'
theorem stN_nm (i : Int) : (stN i).size ≤ 9223372036854775807 := by
  unfold stN
  split
  · decide
  · split
    · decide
    · split
      · decide
      · split <;> decide
theorem stK_le (i : Int) : (stK i).length ≤ 1048576 := by
  unfold stK
  split
  · decide
  · split
    · decide
    · split
      · decide
      · split <;> decide
theorem StC.d {i : Int} {w w' : World} {e : Ending} (h : StC (stN i) (stK i) (stM i) (stZ i) w e w') : StD i w e w' := by
  obtain ⟨A, c, rfl, hk, hb⟩ := h
  exact ⟨⟨stN i, A, c, stK i, stM i⟩, rfl, ⟨hk, stN_nm i⟩, rfl, rfl, rfl, hb⟩
/-- A law's answer: true, and all that was there before is as it was. -/
def Yes (w : World) (e : Ending) (w' : World) : Prop := e = .returned (.bool true) ∧ Below w.heap.size w w'

open WirePure in
theorem nz_uint {a : A} (h : a ≠ .bad 0) : a.uint.2 ≠ .bad 0 := by
  cases a with
  | bad e => exact h
  | ready l =>
    simp only [A.uint]
    split
    · intro e; cases e
    · next hx => intro e; injection e with e; exact hx e
open WirePure in
theorem nz_count {a : A} (h : a ≠ .bad 0) (most : Int) : (a.count most).2 ≠ .bad 0 := by
  have hu := nz_uint h
  unfold A.count
  split
  · next e he => rw [he] at hu; exact hu
  · split
    · intro e; injection e with e; omega
    · intro e; cases e
open WirePure in
theorem nz_text {a : A} (h : a ≠ .bad 0) (most : Int) : (a.text most).2 ≠ .bad 0 := by
  have hu := nz_count h most
  unfold A.text
  split
  · next e he => rw [he] at hu; exact hu
  · split
    · intro e; injection e with e; omega
    · intro e; cases e
open WirePure in
theorem nz_sI {a : A} (h : a ≠ .bad 0) (n : Nat) : sI a n ≠ .bad 0 := by
  induction n with
  | zero => exact h
  | succ n ih => rw [sI]; exact nz_uint ih
open WirePure in
theorem pa_nz (l : List UInt8) (n : Nat) : sI (paB l) n ≠ .bad 0 := nz_sI (nz_count (nz_text (fun e => by cases e) 32) 16) n
theorem paZ_zero {l : List UInt8} (h : paZ l = 0) : paE l = 0 ∧ pErr (paP l) = 0 ∧ paR l = paP l := by
  have hr : paR l = paP l := by unfold paR; rw [if_pos h]
  unfold paZ at h
  by_cases he : paE l = 0
  · rw [if_pos he] at h; exact ⟨he, h, hr⟩
  · rw [if_neg he] at h; exact absurd h he
/-- What is parsed without a fault has the text as its encoding. -/
theorem pa_back {l : List UInt8} {p : Pf} (h : paZ l = 0) (h1 : p.nm = (paR l).nm) (h2 : p.k = (paR l).k) (h3 : p.m = (paR l).m) : pErr p = 0 ∧ encB p = l := by
  obtain ⟨e1, e2, e3⟩ := paZ_zero h
  rw [e3] at h1 h2 h3
  have hp : pErr p = 0 := by rw [pErr_congr h1 h2 fun j _ => by rw [h3], e2]
  refine ⟨hp, ?_⟩
  unfold encB
  rw [if_pos hp, h1, h2, h3]
  exact pa_dec l e1 (pa_nz l _)
theorem wpList_load_rowGX {ops : Array Oper} {rest : List Oper} {op : Oper} {a : Act} {w : World} {Q : Exit → Act → World → Prop} (hw : Region.wanted op (yielded ops a.tmps) = true) (x : Operand) (ho : op.op = .load 23 x)
    (g : Nat) (hx : a.eval x = .pointer (some ⟨g, 0, none⟩)) (p : P4) (hc : Blk w g 23 (pcs p))
    (h : wpList Try.prog ops Q rest (a.put op.dst (.agg (pcs p))) w) : wpList Try.prog ops Q (op :: rest) a w :=
  wpList_step fun K hK => by rw [if_pos hw]; exact wp_load_row _ x ho g hx 23 (pcs p) (0, 0) _ hc Try.underlying23 rfl (infoX p) (hK _ _ h)
theorem neqX (a b : P4) (W : World) : (binOp .neq 23 (.agg (pcs a)) (.agg (pcs b))).run Try.prog W = .ok (.bool (!decide (a = b))) W := neqPx a b W
theorem eqlX (a b : P4) (W : World) : (binOp .eql 23 (.agg (pcs a)) (.agg (pcs b))).run Try.prog W = .ok (.bool (decide (a = b))) W := eqlPx a b W
theorem unt_id {x : Int} (h0 : 0 ≤ x) (h1 : x ≤ 65535) : unt x = x := unt_ok.2 (by unfold uOk; rw [decide_eq_true_eq]; exact ⟨h0, h1⟩)
theorem cnv_alpha {a b : Pf} (h : cErr a b = 0) (x : P4) : (cnvV a b x).2.2.2 = unt x.2.2.2 := by
  rw [← cnvV_ok h]
  unfold cnv0
  by_cases hs : sameB a b = true
  · rw [if_pos hs]; rfl
  · rw [if_neg hs]
    unfold pixV
    by_cases h0 : unt x.2.2.2 = 0
    · rw [if_pos h0]; exact h0.symm
    · rw [if_neg h0]
end Go.Proofs.Ytcighjeiimjbiaa.Pro

/- ProDr: Layer 9's laws: what regions that draw yield. -/
namespace Go.Proofs.Ytcighjeiimjbiaa.Pro
open Go.RowKit Go.Proofs.Ytcighjeiimjbiaa Go.Proofs.Ytcighjeiimjbiaa.NumPure
open Go.Proofs.Ytcighjeiimjbiaa.Mat (al ac invM invX appM info9 info3)

theorem yLoadP {S : World → Prop} {ops : Array Oper} {o : Oper} {a : Act} (hw : Region.wanted o (yielded ops a.tmps) = true) (x : Operand) (ho : o.op = .load 27 x) (g : Nat) (hx : a.eval x = .pointer (some ⟨g, 0, none⟩)) (p : Pf)
    (hS : ∀ W, S W → Blk W g 27 p.cells) : YieldsIf Try.prog ops S o (.agg p.cells) a :=
  Or.inl ⟨hw, fun W h => by
    unfold execOp
    simp only [ho, hx, Instr.loadAt, Instr.sureAddr, Sem.run_bind, Sem.run_pure, Result.andThen_ok, run_loadVar_row W g 27 27 p.cells (0, 0) _ (hS W h) Try.underlying27 rfl p.info]⟩
theorem yLoadX {S : World → Prop} {ops : Array Oper} {o : Oper} {a : Act} (hw : Region.wanted o (yielded ops a.tmps) = true) (x : Operand) (ho : o.op = .load 23 x) (g : Nat) (hx : a.eval x = .pointer (some ⟨g, 0, none⟩)) (p : P4)
    (hS : ∀ W, S W → Blk W g 23 (pcs p)) : YieldsIf Try.prog ops S o (.agg (pcs p)) a :=
  Or.inl ⟨hw, fun W h => by
    unfold execOp
    simp only [ho, hx, Instr.loadAt, Instr.sureAddr, Sem.run_bind, Sem.run_pure, Result.andThen_ok, run_loadVar_row W g 23 23 (pcs p) (0, 0) _ (hS W h) Try.underlying23 rfl (infoX p)]⟩
theorem yBin {v : Value} {S : World → Prop} {ops : Array Oper} {o : Oper} {a : Act} (hw : Region.wanted o (yielded ops a.tmps) = true) (b : BinOp) (t u : TypeId) (x y : Operand) (ho : o.op = .binOp b t x y u)
    (he : ∀ W, (eqGuard b t x y (a.eval x) (a.eval y)).run Try.prog W = .ok () W) (hr : ∀ W, (binOp b t (a.eval x) (a.eval y)).run Try.prog W = .ok v W) : YieldsIf Try.prog ops S o v a :=
  Or.inl ⟨hw, fun W h => by
    unfold execOp
    simp [ho, Sem.run_bind, he, hr, Result.andThen_ok]⟩
theorem yBuild {cs : Array Value} {S : World → Prop} {ops : Array Oper} {o : Oper} {a : Act} (hw : Region.wanted o (yielded ops a.tmps) = true) (T : TypeId) (parts : Array (Nat × Operand)) (ho : o.op = .build T parts)
    (hb : Try.prog.built T (parts.map fun (i, x) => (i, a.eval x)).toList = some cs) : YieldsIf Try.prog ops S o (.agg cs) a :=
  Or.inl ⟨hw, fun W h => by
    unfold execOp
    simp only [ho, Sem.run_bind, run_build W T _ _ hb, Result.andThen_ok, Sem.run_pure]⟩
theorem eqlX_self (p : P4) (W : World) : (binOp .eql 23 (.agg (pcs p)) (.agg (pcs p))).run Try.prog W = .ok (.bool true) W := (eqlX p p W).trans (by rw [decide_eq_true rfl])
theorem neqX_self (p : P4) (W : World) : (binOp .neq 23 (.agg (pcs p)) (.agg (pcs p))).run Try.prog W = .ok (.bool false) W := (neqX p p W).trans (by rw [decide_eq_true rfl]; rfl)
theorem eql3_self (m : Nat → Int) (W : World) : (binOp .eql 34 (.agg (ac 3 m)) (.agg (ac 3 m))).run Try.prog W = .ok (.bool true) W := (eql3l m m W).trans (by rw [(eq3_iff m m).2 fun _ _ => rfl])
theorem neq3_of {m f : Nat → Int} (h : ∀ j, j < 3 → m j = f j) (W : World) : (binOp .neq 34 (.agg (ac 3 m)) (.agg (ac 3 f))).run Try.prog W = .ok (.bool false) W := (neq3l m f W).trans (by rw [(eq3_iff m f).2 h]; rfl)
end Go.Proofs.Ytcighjeiimjbiaa.Pro

/- ProId: Layer 9, plain: the profile linear, and grays. -/
namespace Go.Proofs.Ytcighjeiimjbiaa.Pro
open Go.RowKit Go.Proofs.Ytcighjeiimjbiaa Go.Proofs.Ytcighjeiimjbiaa.NumPure Go.Proofs.Ytcighjeiimjbiaa.MatPure
open Go.Proofs.Ytcighjeiimjbiaa.Mat (al ac invM invX appM info9 info3 okM app9 sameM lim)

theorem dvr_mul {b : Int} (h : 0 < b) (x : Int) : dvr (x * b) b = x := by
  have hf : (x * b).fdiv b = x := by rw [Int.fdiv_eq_ediv_of_nonneg _ (by omega), Int.mul_ediv_cancel _ (by omega)]
  have e : x * b - b * x = 0 := by rw [Int.mul_comm b x, Int.sub_self]
  have hu : up (x * b) b = false := by
    unfold up
    rw [hf, e]
    simp
    try omega
  unfold dvr
  rw [if_neg (by omega), hf, hu]
  by_cases hx : x * b = -9223372036854775808 ∧ b = -1
  · omega
  · rw [if_neg hx]
    simp
theorem same0 : sameM 0 = 65536 ∧ sameM 1 = 0 ∧ sameM 2 = 0 ∧ sameM 3 = 0 ∧ sameM 4 = 65536 ∧ sameM 5 = 0 ∧ sameM 6 = 0 ∧ sameM 7 = 0 ∧ sameM 8 = 65536 := by decide
theorem okM0 : okM sameM = true := by decide +kernel
theorem okI0 : okM (invM sameM) = true := by decide +kernel
theorem app_id {m : Nat → Int} (hm : okM m = true) (h : ∀ j, j < 9 → m j = sameM j) (v : Nat → Int) (n : Nat) (hn : n < 3) : appM m v n = lim (v n) := by
  obtain ⟨a0, a1, a2, a3, a4, a5, a6, a7, a8⟩ := same0
  unfold appM
  rw [hm]
  simp only [if_true, app9]
  rw [h _ (by omega), h _ (by omega), h _ (by omega)]
  obtain rfl | rfl | rfl : n = 0 ∨ n = 1 ∨ n = 2 := by omega
  all_goals simp only [Nat.reduceMul, Nat.reduceAdd, a0, a1, a2, a3, a4, a5, a6, a7, a8, Int.zero_mul, Int.add_zero, Int.zero_add]
  all_goals rw [Int.mul_comm]; exact dvr_mul (by omega) _
theorem kErr0 : kErr stK0 = 0 := by decide +kernel
theorem kInv0 : kInv stK0 = stK0 := by decide
theorem kAt0 {x : Int} (h0 : 0 ≤ x) (h1 : x ≤ 65535) : kAt stK0 x = x := by
  unfold kAt
  rw [if_pos kErr0]
  show (if x ≤ 0 then (0 : Int) else if x < 65535 then 0 + dvr ((65535 - 0) * (x - 0)) (65535 - 0) else 65535) = x
  split
  · omega
  · split
    · rw [Int.sub_zero, Int.sub_zero, Int.mul_comm, dvr_mul (by omega), Int.zero_add]
    · omega
theorem lim_u {x : Int} (h0 : 0 ≤ x) (h1 : x ≤ 65535) : lim x = x := by unfold lim clp; omega
theorem lin_id (A : Option Addr) (c : Nat) {x0 x1 x2 x3 : Int} (a0 : 0 ≤ x0) (a1 : x0 ≤ 65535) (b0 : 0 ≤ x1) (b1 : x1 ≤ 65535) (c0 : 0 ≤ x2) (c1 : x2 ≤ 65535) : ∀ j, j < 3 → linV (pf0 A c) (x0, x1, x2, x3) j = l3 x0 x1 x2 j := by
  intro j hj
  unfold linV
  rw [if_pos (ok0 A c)]
  show appM sameM (l3 (kAt stK0 (unt x0)) (kAt stK0 (unt x1)) (kAt stK0 (unt x2))) j = _
  rw [unt_id a0 a1, unt_id b0 b1, unt_id c0 c1, kAt0 a0 a1, kAt0 b0 b1, kAt0 c0 c1, app_id okM0 (fun _ _ => rfl) _ j hj]
  obtain rfl | rfl | rfl : j = 0 ∨ j = 1 ∨ j = 2 := by omega
  · exact lim_u a0 a1
  · exact lim_u b0 b1
  · exact lim_u c0 c1
theorem enc_id (A : Option Addr) (c : Nat) {x0 x1 x2 x3 : Int} (a0 : 0 ≤ x0) (a1 : x0 ≤ 65535) (b0 : 0 ≤ x1) (b1 : x1 ≤ 65535) (c0 : 0 ≤ x2) (c1 : x2 ≤ 65535) (d0 : 1 ≤ x3) (d1 : x3 ≤ 65535) {v : Nat → Int} (hv : ∀ j, j < 3 → v j = l3 x0 x1 x2 j) : encV (pf0 A c) v x3 = (x0, x1, x2, x3) := by
  have e0 : v 0 = x0 := hv 0 (by omega)
  have e1 : v 1 = x1 := hv 1 (by omega)
  have e2 : v 2 = x2 := hv 2 (by omega)
  rw [← encV_ok (ok0 A c)]
  show pixV (invM sameM) (kInv stK0) v x3 = _
  unfold pixV
  rw [unt_id (by omega) d1, if_neg (by omega), kInv0, app_id okI0 invM0 _ 0 (by omega), app_id okI0 invM0 _ 1 (by omega), app_id okI0 invM0 _ 2 (by omega), e0, e1, e2, lim_u a0 a1, lim_u b0 b1, lim_u c0 c1, unt_id a0 a1, unt_id b0 b1, unt_id c0 c1, kAt0 a0 a1, kAt0 b0 b1, kAt0 c0 c1]
theorem gray (p : Pf) (hm : p.m = stM0) (r a : Int) : linV p (r, r, r, a) 0 = linV p (r, r, r, a) 1 ∧ linV p (r, r, r, a) 1 = linV p (r, r, r, a) 2 := by
  unfold linV
  by_cases h : pErr p = 0
  · rw [if_pos h]
    unfold lin0
    rw [hm]
    show appM sameM _ 0 = appM sameM _ 1 ∧ appM sameM _ 1 = appM sameM _ 2
    rw [app_id okM0 (fun _ _ => rfl) _ 0 (by omega), app_id okM0 (fun _ _ => rfl) _ 1 (by omega), app_id okM0 (fun _ _ => rfl) _ 2 (by omega)]
    exact ⟨rfl, rfl⟩
  · rw [if_neg h]
    exact ⟨rfl, rfl⟩
end Go.Proofs.Ytcighjeiimjbiaa.Pro

/- ProSm: Layer 9's laws: equal images. -/
namespace Go.Proofs.Ytcighjeiimjbiaa.Pro
open Go.RowKit Go.Proofs.Ytcighjeiimjbiaa Go.Proofs.Ytcighjeiimjbiaa.NumPure
open Go.Proofs.Ytcighjeiimjbiaa.Mat (al ac invM invX appM info9 info3)

set_option maxRecDepth 100000 in
set_option maxHeartbeats 8000000 in
theorem same_any (x y : Int) (A A' : Option Addr) (c c' : Nat) (l : List P4) (w : World) (h : PxR w A l) (h' : PxR w A' l) (hmax : l.length ≤ 65536) : Calls Try.prog 16 #[.agg #[.int .i64 x, .int .i64 y, .slice A l.length c], .agg #[.int .i64 x, .int .i64 y, .slice A' l.length c']] w (BolC true w) := by
  obtain ⟨n, hn⟩ : ∃ n, l.length = n := ⟨_, rfl⟩
  rw [hn] at hmax ⊢
  have H0 := Bn.two w 39 39 (ics x y A n c) (ics x y A' n c')
  obtain ⟨W, hW⟩ : ∃ W, (w.alloc (.cells #[.int .i64 x, .int .i64 y, .slice A n c] 39)).alloc (.cells #[.int .i64 x, .int .i64 y, .slice A' n c'] 39) = W := ⟨_, rfl⟩
  unfold ics at H0
  rw [hW] at H0
  have HB := Lib.hid H0
  have HR := Lib.hid (h.below H0.b)
  have HR' := Lib.hid (h'.below H0.b)
  have HN := Lib.hid hn
  clear h h' H0 hn
  obtain ⟨f0, f1, f2, fr⟩ := blk3 (HB.out.get 0 rfl)
  obtain ⟨g0, g1, g2, gr⟩ := blk3 (HB.out.get 1 rfl)
  go_enter Try.func16, Try.ntmps16
  go_wp2_with fail
  clear f0 f1 f2 fr g0 g1 g2 gr
  go_loopw [30] (fun i wr => ∃ j : Nat, i = .int .i64 j ∧ j ≤ n ∧ Below W.heap.size W wr) (fun i _ => n - (intOf i).toNat)
  case atStart => exact ⟨0, rfl, by omega, Below.refl _ _⟩
  case round =>
    clear hW
    obtain ⟨j, rfl, hj, hb⟩ := hrel
    have HBB := Lib.hid (HB.out.below hb)
    have hr := HR.out.below hb
    have hr' := HR'.out.below hb
    have HB9 := Lib.hid hb
    clear hb
    obtain ⟨_, _, f2, _⟩ := blk3 (HBB.out.get 0 rfl)
    obtain ⟨_, _, g2, _⟩ := blk3 (HBB.out.get 1 rfl)
    by_cases hlt : j < n
    · have h1 : j < l.length := by have := HN.out; omega
      obtain ⟨ad, rfl, _⟩ := hr.addr (by omega)
      obtain ⟨ad', rfl, _⟩ := hr'.addr (by omega)
      obtain ⟨a0, a1, a2, a3⟩ := px_cells hr j h1
      obtain ⟨b0, b1, b2, b3⟩ := px_cells hr' j h1
      obtain ⟨f, hf⟩ : ∃ f, l[j] = f := ⟨_, rfl⟩
      rw [hf] at a0 a1 a2 a3 b0 b1 b2 b3
      obtain ⟨u0, u1, u2, u3⟩ := f
      dsimp only at a0 a1 a2 a3 b0 b1 b2 b3
      have q : ∀ W, (binOp .neq 23 (.agg #[.int .i64 u0, .int .i64 u1, .int .i64 u2, .int .i64 u3]) (.agg #[.int .i64 u0, .int .i64 u1, .int .i64 u2, .int .i64 u3])).run Try.prog W = .ok (.bool false) W := neqX_self (u0, u1, u2, u3)
      clear hf hr hr'
      go_wp2_with fail
      go_quiet (fail)
      go_wp2_with fail
      go_roundw
      case rel => exact ⟨j + 1, by go_num, by omega, drew_below HB9.out⟩
      case measure => simp [intOf]; omega
    · obtain rfl : j = n := by omega
      clear hr hr' f2 g2
      go_wp2_with fail
      go_ret
      exact BolC.mk rfl HBB.out.b

end Go.Proofs.Ytcighjeiimjbiaa.Pro
