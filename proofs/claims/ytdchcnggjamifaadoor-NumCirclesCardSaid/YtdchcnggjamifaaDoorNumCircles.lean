/-
  NumCircles: package num's sines and cosines: their squares, opposite angles and full turns.
-/
import Derived.Test.YtdchcnggjamifaaDoorNumFrame
import Derived.Test.YtdchcnggjamifaaDoorNumCirc
namespace Go.Proofs.YtdchcnggjamifaaDoor.NumCircles
open Go.RowKit Go.Proofs.YtdchcnggjamifaaDoor Go.Proofs.YtdchcnggjamifaaDoor.NumPure Go.Proofs.YtdchcnggjamifaaDoor.Num

theorem sq_bd {s : Int} (h0 : -65536 ≤ s) (h1 : s ≤ 65536) : 0 ≤ s * s ∧ s * s ≤ 4294967296 := by
  have e : s * s = ((s.natAbs * s.natAbs : Nat) : Int) := by rw [Int.natCast_mul, Int.natAbs_mul_self' s]
  have := Nat.mul_le_mul (show s.natAbs ≤ 65536 by omega) (show s.natAbs ≤ 65536 by omega)
  rw [e]
  omega

set_option maxHeartbeats 2000000 in
set_option maxRecDepth 100000 in
theorem walk (z : Int) (_h0 : -9223372036854775808 ≤ z) (_h1 : z ≤ 9223372036854775807) (w : World) (hT : Tab w) :
    Calls Tryd.prog 11 #[.int .i64 z] w fun e w' => e = .returned (.bool true) ∧ Below w.heap.size w w' := by
  have HT := Lib.hid hT
  clear hT
  obtain ⟨s, c, hs, hc, s0, s1, c0, c1, d0, d1, hneg, hfull⟩ := circles z
  obtain ⟨ss0, ss1⟩ := sq_bd s0 s1
  obtain ⟨cc0, cc1⟩ := sq_bd c0 c1
  obtain ⟨zn, hzn⟩ : ∃ x, IntKind.i64.wrap (-z) = x := ⟨_, rfl⟩
  obtain ⟨zf, hzf⟩ : ∃ x, IntKind.i64.wrap (z + 65536) = x := ⟨_, rfl⟩
  obtain ⟨n1, n2⟩ := hneg zn (by rw [← hzn, IntKind.wrap_i64]; omega)
  obtain ⟨f1, f2⟩ := hfull zf (by rw [← hzf, IntKind.wrap_i64]; omega)
  have hzn' : wrap64 (-z) = zn := (IntWalk.i64_left _).symm.trans hzn
  have hzf' : wrap64 (z + 65536) = zf := (IntWalk.i64_left _).symm.trans hzf
  obtain ⟨d, hd⟩ : ∃ d, s * s + c * c - 4294967296 = d := ⟨_, rfl⟩
  rw [hd] at d0 d1
  have HS := Lib.hid hs
  have HC := Lib.hid hc
  have N1 := Lib.hid n1
  have N2 := Lib.hid n2
  have F1 := Lib.hid f1
  have F2 := Lib.hid f2
  have X := Lib.hid hzn
  have Y := Lib.hid hzf
  have X' := Lib.hid hzn'
  have Y' := Lib.hid hzf'
  clear hs hc n1 n2 f1 f2 hneg hfull hzn hzf hzn' hzf' _h0 _h1
  go_enter Tryd.func11, Tryd.ntmps11
  go_wp2_with fail
  refine (turn_is z s c HS.out HC.out _ HT.out).mono ?_
  rintro e w' ⟨rfl, k1, rfl⟩
  go_wp2_with fail
  first | rw [X'.out] | rw [X.out]
  refine (turn_is zn (-s) c N1.out N2.out _ (HT.out.drewN _)).mono ?_
  rintro e w' ⟨rfl, k2, rfl⟩
  go_wp2_with fail
  first | rw [Y'.out] | rw [Y.out]
  refine (turn_is zf s c F1.out F2.out _ (HT.out.drewN _)).mono ?_
  rintro e w' ⟨rfl, k3, rfl⟩
  go_wp2_with fail
  all_goals
    refine (example_any _ (HT.out.drewN _)).mono ?_
    rintro e w' ⟨rfl, k4, rfl⟩
    go_wp2
    go_ret
    exact ⟨rfl, bdrew _⟩

open Go.ChangeShapes Go.WideShapes Go.ChangeAt Go.Joins

theorem contract (H : Type) (enc : TypeId × Value → H) (W : World) (base : Nat) (args : Array Value) (ds gs : List (DataW H)) (before : List MemPlace)
    (hval : ∀ (j : Nat) t v, Tryd.f11.params[j]? = some t → args[j]? = some v → Value.okWide Tryd.prog W .any base t v)
    (hW : DataW.Whole enc Tryd.prog Tryd.f11.params.toList Rows.numCirclesSpec.vars false W args.toList ds gs before) (hL : laidMetH Tryd.prog Rows.numCirclesRow.laid W) :
    Calls Tryd.prog 11 args W fun e W' => ∃ v, e = .returned v ∧ Rows.numCirclesSpec.post enc Tryd.prog Tryd.f11 false true false false W args v W' := by
  have hW' := hW
  obtain ⟨p, q, hA0, hV, rfl, hfz, hnd⟩ := hW
  have hA : DataW.TrodAll enc Tryd.prog W 0 (fun _ => true) true Tryd.f11.params.toList args.toList ds p := hA0
  rw [Tryd.params11] at hA hval
  obtain ⟨v0, vs0, d0, ds0, p0, q0, hargs, rfl, rfl, g0, r0⟩ := trodAll_cons hA
  obtain ⟨rfl, rfl, rfl⟩ := trodAll_nil r0
  obtain rfl : args = #[v0] := by cases args; simp_all
  obtain ⟨rfl, rfl⟩ := trodVars_none hV
  obtain ⟨z0, rfl, rfl, rfl, w0⟩ := open_int Tryd.underlying3 (hval 0 3 v0 rfl rfl) g0
  have b0 := bounds_i64 w0
  clear hA0
  refine (walk z0 b0.1 b0.2 W (tab_of_laid hL)).mono fun e W' ⟨he, hb⟩ => ?_
  subst he
  exact ⟨_, rfl, Frame.law_post Frame.laidOut (by kernel_rfl) Tryd.underlying4 (by kernel_rfl) rfl rfl hW' hb⟩

theorem laid_met (os : Os) : laidMet Tryd.prog Rows.numCirclesRow.laid ((laidWorld os).forCall (fun _ _ => 0) ⟨#[], #[Value.int .i64 0], []⟩).memory :=
  laidMet_of_run' 8 (by kernel_rfl) (by kernel_rfl)
theorem reads (os : Os) {H : Type} (enc : TypeId × Value → H) : ∃ places, DataW.whole enc Tryd.prog ((laidWorld os).forCall (fun _ _ => 0) ⟨#[], #[Value.int .i64 0], []⟩).memory Tryd.f11.params.toList Rows.numCirclesSpec.vars false #[Value.int .i64 0].toList 8 = some ([.lit (.int .i64 0)], [], places) :=
  ⟨[], by kernel_rfl⟩

set_option maxRecDepth 100000 in
theorem lifted (os : Os) (started : os.Started) (H : Type) (enc : TypeId × Value → H) (F : Stop.Interp) :
    ReturnsInHanded {} Tryd.checked os 11 .any ((OpenSpec.ofChange Rows.numCirclesSpec).preRow enc Tryd.prog Tryd.f11 Rows.numCirclesRow.domain false Rows.numCirclesRow.laid) (((OpenSpec.ofChange Rows.numCirclesSpec).at F).post enc Tryd.prog Tryd.f11 false true false false) := by
  obtain ⟨places, hx⟩ := reads os enc
  refine returnsInHanded_of_row (C := Tryd.checked) (s := OpenSpec.ofChange Rows.numCirclesSpec) Frame.own started (by kernel_rfl) Tryd.func11
    (witness_row_at (enc := enc) (C := Tryd.checked) false (laidWorld os) #[Value.int .i64 0] rfl (by kernel_rfl) (by kernel_rfl) (by kernel_rfl)
      (OpenSpec.preRow_of_cond 8 hx (by kernel_rfl) (fun k hk => by cases hk) (by kernel_rfl) (laid_met os))) ?_
  intro W base args ds gs before hval hW _ _ _ hL _ _
  exact contract H enc W base args ds gs before hval hW hL

theorem said : Rows.NumCirclesSaid :=
  OpenClaim.holds_of_cond 11 Tryd.f11 rfl rfl rfl rfl rfl rfl rfl ⟨rfl, rfl, rfl, rfl, rfl⟩ rfl rfl rfl rfl rfl (by kernel_rfl) Tryd.func11 (by kernel_rfl)
    (of_decide_eq_true (by kernel_rfl)) (by unfold Func.isWrapper; first | (rw [if_pos (by decide +kernel)]; kernel_rfl) | (rw [if_neg (by decide +kernel)]; exact ⟨rfl, rfl⟩))
    (fun os started H enc _ F => by rw [OpenClaim.pre_eq_preRow]; exact lifted os started H enc F)

theorem plain (f : FuncId) (fn : Func) (hf : Tryd.pinned.checked.prog.funcNamed "imageeditor/imageeditorlaw01.NumCircles" = some f) (hfn : Tryd.pinned.checked.prog.funcs[f]? = some fn) :
    false = Tryd.pinned.checked.prog.looks [] ∧ ∀ (j : Nat) t, fn.params[j]? = some t → Tryd.pinned.checked.prog.wantsStandIn t = false := by
  obtain rfl : f = 11 := Option.some.inj ((show Tryd.prog.funcNamed "imageeditor/imageeditorlaw01.NumCircles" = some 11 by kernel_rfl).symm.trans hf) |>.symm
  obtain rfl : fn = Tryd.f11 := (Option.some.inj (Tryd.func11.symm.trans hfn)).symm
  refine ⟨by kernel_rfl, fun j t ht => ?_⟩
  rw [Tryd.params11] at ht
  obtain rfl : t = 3 := by simpa using Array.mem_of_getElem? ht
  exact (show Tryd.prog.wantsStandIn 3 = false by kernel_rfl)

theorem card : Rows.NumCirclesCardSaid :=
  Claim7.holds_tied_plain_at .later [] _ _ _ _ said (fun _ h => by cases h) (by kernel_rfl) (fun _ h => by cases h) numCircles_row_tie rfl ⟨rfl, rfl⟩ (by kernel_rfl) rfl plain (by kernel_rfl)

end Go.Proofs.YtdchcnggjamifaaDoor.NumCircles
