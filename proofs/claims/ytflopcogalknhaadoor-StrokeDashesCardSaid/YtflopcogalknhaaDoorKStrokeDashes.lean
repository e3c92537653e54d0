/-
  Dash of layer 21 is as the document specifies it, for any polygons and patterns within the reach of the model.
-/
import Derived.Test.YtflopcogalknhaaDoorKStrAw
import Derived.Test.YtflopcogalknhaaDoorKStrFn
import Derived.Test.YtflopcogalknhaaDoorKStrRg
set_option linter.unusedVariables false
set_option linter.unusedSimpArgs false
namespace Go.Proofs.YtflopcogalknhaaDoor.StrokeDashes
open Go.RowKit Go.Proofs.YtflopcogalknhaaDoor Go.Proofs.YtflopcogalknhaaDoor.NumPure Go.Proofs.YtflopcogalknhaaDoor.Str

set_option maxRecDepth 100000 in
set_option maxHeartbeats 2000000 in
theorem walk (A0 : Option Addr) (c0 : Nat) (x0 : List (List P2)) (A1 : Option Addr) (c1 : Nat) (x1 : List Bool) (A2 : Option Addr) (c2 : Nat) (x2 : List Int) (x3 : Int) (W : World) (hx0 : PlA W A0 x0) (hx1 : BoR W A1 x1) (hn1 : x1.length ≤ 140737488351232) (hx2 : InR W A2 x2) (hn2 : x2.length ≤ 140737488351232)
    (_ : -9223372036854775808 ≤ x3 ∧ x3 ≤ 9223372036854775807) (hT : Num.Tab W) :
    Calls Tryd.prog 4 #[.slice A0 x0.length c0, .slice A1 x1.length c1, .slice A2 x2.length c2, .int .i64 x3] W fun e w' => e = .returned (.bool true) ∧ Below W.heap.size W w' := by
  have hnl : x0.length ≤ 140737488355328 := by have := hx0.n; omega
  have hne : ∀ l ∈ x0, l.length ≤ 140737488355328 := fun l hl => by have := hx0.e l hl; omega
  have HG := dasF_good x0 x1 x2 x3
  have HC1 := Dash_any A0 c0 x0 A1 c1 x1 A2 c2 x2 x3 W hx0.r hnl hne hx1 (by omega) hx2 (by omega)
  have HC2 := fun W' (hW : Below W.heap.size W W') => rDash_any A0 c0 x0 A1 c1 x1 A2 c2 x2 x3 W' (hx0.r.below hW) hnl hne (BoR.below hx1 hW) (by omega) (InR.below hx2 hW) (by omega)
  have HT := Lib.hid fun W' (hW : Below W.heap.size W W') => tab_below hT hW
  obtain ⟨⟨z, D⟩, hF⟩ : ∃ F, dasF x0 x1 x2 x3 = F := ⟨_, rfl⟩
  rw [hF] at HG HC1 HC2
  unfold OuC at HC2
  unfold OuK at HC1
  dsimp only at HG HC1 HC2
  have HAL := Lib.hid fun A B ca cb W' (hA : PolR W' A D) (hB : PolR W' B D) => alike_any A B ca cb (0, 0) D W' (by rw [mov_zero]; exact hA) hB (fun l hl p hp => ((HG.1 l hl) p hp).mono (by omega)) ⟨⟨by dsimp only; omega, by dsimp only; omega⟩, by dsimp only; omega, by dsimp only; omega⟩ (by omega) (fun l hl => by have := len_le hl; omega)
  obtain ⟨n, hn⟩ : ∃ n, x0.length = n := ⟨_, rfl⟩
  obtain ⟨m, hm⟩ : ∃ n, x1.length = n := ⟨_, rfl⟩
  obtain ⟨k, hk⟩ : ∃ n, x2.length = n := ⟨_, rfl⟩
  obtain ⟨u, hu⟩ : ∃ n, D.length = n := ⟨_, rfl⟩
  rw [hn, hm, hk, hu] at HC1 HC2
  rw [hu] at HAL
  rw [hn, hm, hk]
  have H1 := Lib.hid HC1
  have H2 := Lib.hid HC2
  clear hF HG HC1 HC2 hx0 hx1 hn1 hx2 hn2 hT hnl hne hn hm hk hu
  go_enter Tryd.func4, Tryd.ntmps4
  go_wp2_with fail
  refine H1.out.mono ?_
  rintro e1 w1 ⟨Aa, ca, rfl, hp1, hb1, _⟩
  have HP1 := Lib.hid hp1
  have HB1 := Lib.hid hb1
  clear hp1 hb1 H1
  go_wp2_with fail
  refine (H2.out _ HB1.out).mono ?_
  rintro e2 w2 ⟨Ab, cb, rfl, hp2, hb2⟩
  have HP2 := Lib.hid hp2
  have HQ2 := Lib.hid (HP1.out.below hb2)
  have HB2 := Lib.hid (HB1.out.trans (hb2.mono HB1.out.size))
  clear hp2 hb2 H2
  go_wp2_with fail
  refine (HAL.out Aa Ab ca cb _ HQ2.out HP2.out).mono ?_
  rintro e5 w5 ⟨rfl, hb5⟩
  have HB5 := Lib.hid (HB2.out.trans (hb5.mono HB2.out.size))
  clear hb5 HAL
  go_wp2_with fail
  refine (awake_any _ (HT.out _ HB5.out)).mono ?_
  rintro e6 w6 ⟨rfl, hb6⟩
  have HB6 := Lib.hid (HB5.out.trans (hb6.mono HB5.out.size))
  clear hb6
  go_wp2_with fail
  go_ret
  exact ⟨rfl, HB6.out⟩

open Go.ChangeShapes Go.WideShapes Go.ChangeAt Go.Joins Go.Deep

set_option maxRecDepth 100000 in
theorem contract (H : Type) (enc : TypeId × Value → H) (W : World) (base : Nat) (args : Array Value) (ds gs : List (DataW H)) (before : List MemPlace)
    (hval : ∀ (j : Nat) t v, Tryd.f4.params[j]? = some t → args[j]? = some v → Value.okWide Tryd.prog W .any base t v)
    (hW : DataW.Whole enc Tryd.prog Tryd.f4.params.toList Rows.strokeDashesSpec.vars false W args.toList ds gs before) (hL : laidMetH Tryd.prog Rows.strokeDashesRow.laid W)
    (hsz : (DataW.weightsEach Tryd.prog (Tryd.f4.params.toList ++ (OpenSpec.ofChange Rows.strokeDashesSpec).bare.plain.varTypes Tryd.prog) (ds ++ gs)).all (· ≤ reachBytes) = true) :
    Calls Tryd.prog 4 args W fun e W' => ∃ v, e = .returned v ∧ Rows.strokeDashesSpec.post enc Tryd.prog Tryd.f4 false true false false W args v W' := by
  have hW' := hW
  obtain ⟨p, q, hA0, hV, rfl, hfz, hnd⟩ := hW
  have hA : DataW.TrodAll enc Tryd.prog W 0 (fun _ => true) true Tryd.f4.params.toList args.toList ds p := hA0
  rw [Tryd.params4] at hA hval
  obtain ⟨v0, vs0, d0, ds0, p0, q0, hargs, rfl, rfl, g0, r0⟩ := trodAll_cons hA
  obtain ⟨v1, vs1, d1, ds1, p1, q1, rfl, rfl, rfl, g1, r1⟩ := trodAll_cons r0
  obtain ⟨v2, vs2, d2, ds2, p2, q2, rfl, rfl, rfl, g2, r2⟩ := trodAll_cons r1
  obtain ⟨v3, vs3, d3, ds3, p3, q3, rfl, rfl, rfl, g3, r3⟩ := trodAll_cons r2
  obtain ⟨rfl, rfl, rfl⟩ := trodAll_nil r3
  obtain rfl : args = #[v0, v1, v2, v3] := by cases args; simp_all
  obtain ⟨rfl, rfl⟩ := trodVars_none hV
  have s0 : Small 22 d0 := fun n hn => by simpa using List.all_eq_true.1 hsz n (DataW.weights_mem_each (j := 0) (t := 22) rfl rfl n hn)
  obtain ⟨A0, c0, x0, rfl, hx0⟩ := arg_pls (hval 0 22 v0 rfl rfl) g0 s0
  have s1 : Small 23 d1 := fun n hn => by simpa using List.all_eq_true.1 hsz n (DataW.weights_mem_each (j := 1) (t := 23) rfl rfl n hn)
  obtain ⟨A1, c1, x1, rfl, hx1, hn1⟩ := arg_bools (hval 1 23 v1 rfl rfl) g1 s1
  have s2 : Small 33 d2 := fun n hn => by simpa using List.all_eq_true.1 hsz n (DataW.weights_mem_each (j := 2) (t := 33) rfl rfl n hn)
  obtain ⟨A2, c2, x2, rfl, hx2, hn2, hb2⟩ := arg_ints (hval 2 33 v2 rfl rfl) g2 s2
  obtain ⟨x3, rfl, rfl, rfl, w3⟩ := open_int Tryd.underlying3 (hval 3 3 v3 rfl rfl) g3
  have b3 := bounds_i64 w3
  clear hA0
  refine (walk A0 c0 x0 A1 c1 x1 A2 c2 x2 x3 W hx0 hx1 hn1 hx2 hn2 b3 (Num.tab_of_laid hL)).mono fun e W' ⟨he, hb⟩ => ?_
  subst he
  exact ⟨_, rfl, Frame.law_post Frame.laidOut (by kernel_rfl) Tryd.underlying4 (by kernel_rfl) rfl rfl hW' hb⟩

theorem laid_met (os : Os) : laidMet Tryd.prog Rows.strokeDashesRow.laid ((Num.laidWorld os).forCall (fun _ _ => 0) ⟨#[], #[Value.slice none 0 0, Value.slice none 0 0, Value.slice none 0 0, Value.int .i64 0], []⟩).memory :=
  laidMet_of_run' 8 (by kernel_rfl) (by kernel_rfl)
theorem reads (os : Os) {H : Type} (enc : TypeId × Value → H) : ∃ places, DataW.whole enc Tryd.prog ((Num.laidWorld os).forCall (fun _ _ => 0) ⟨#[], #[Value.slice none 0 0, Value.slice none 0 0, Value.slice none 0 0, Value.int .i64 0], []⟩).memory Tryd.f4.params.toList Rows.strokeDashesSpec.vars false #[Value.slice none 0 0, Value.slice none 0 0, Value.slice none 0 0, Value.int .i64 0].toList 8 = some ([.nil, .nil, .nil, .lit (.int .i64 0)], [], places) :=
  ⟨[], by kernel_rfl⟩

set_option maxRecDepth 100000 in
theorem lifted (os : Os) (started : os.Started) (H : Type) (enc : TypeId × Value → H) (F : Stop.Interp) :
    ReturnsInHanded {} Tryd.checked os 4 .any ((OpenSpec.ofChange Rows.strokeDashesSpec).preRow enc Tryd.prog Tryd.f4 Rows.strokeDashesRow.domain false Rows.strokeDashesRow.laid) (((OpenSpec.ofChange Rows.strokeDashesSpec).at F).post enc Tryd.prog Tryd.f4 false true false false) := by
  obtain ⟨places, hx⟩ := reads os enc
  refine returnsInHanded_of_row (C := Tryd.checked) (s := OpenSpec.ofChange Rows.strokeDashesSpec) Frame.own started (by kernel_rfl) Tryd.func4
    (witness_row_at (enc := enc) (C := Tryd.checked) false (Num.laidWorld os) #[Value.slice none 0 0, Value.slice none 0 0, Value.slice none 0 0, Value.int .i64 0] rfl (by kernel_rfl) (by kernel_rfl) (by kernel_rfl)
      (OpenSpec.preRow_of_cond 8 hx (by kernel_rfl) (fun k hk => by cases hk) (by kernel_rfl) (laid_met os))) ?_
  intro W base args ds gs before hval hW _ _ hsz hL _ _
  exact contract H enc W base args ds gs before hval hW hL hsz

theorem said : Rows.StrokeDashesSaid :=
  OpenClaim.holds_of_cond 4 Tryd.f4 rfl rfl rfl rfl rfl rfl rfl ⟨rfl, rfl, rfl, rfl, rfl⟩ rfl rfl rfl rfl rfl (by kernel_rfl) Tryd.func4 (by kernel_rfl)
    (of_decide_eq_true (by kernel_rfl)) (by unfold Func.isWrapper; first | (rw [if_pos (by decide +kernel)]; kernel_rfl) | (rw [if_neg (by decide +kernel)]; exact ⟨rfl, rfl⟩))
    (fun os started H enc _ F => by rw [OpenClaim.pre_eq_preRow]; exact lifted os started H enc F)

theorem plain (f : FuncId) (fn : Func) (hf : Tryd.pinned.checked.prog.funcNamed "imageeditor/imageeditorlaw21.StrokeDashes" = some f) (hfn : Tryd.pinned.checked.prog.funcs[f]? = some fn) :
    false = Tryd.pinned.checked.prog.looks [] ∧ ∀ (j : Nat) t, fn.params[j]? = some t → Tryd.pinned.checked.prog.wantsStandIn t = false := by
  obtain rfl : f = 4 := Option.some.inj ((show Tryd.prog.funcNamed "imageeditor/imageeditorlaw21.StrokeDashes" = some 4 by kernel_rfl).symm.trans hf) |>.symm
  obtain rfl : fn = Tryd.f4 := (Option.some.inj (Tryd.func4.symm.trans hfn)).symm
  refine ⟨by kernel_rfl, fun j t ht => ?_⟩
  rw [Tryd.params4] at ht
  have hm : t = 22 ∨ t = 23 ∨ t = 33 ∨ t = 3 := by simpa using Array.mem_of_getElem? ht
  rcases hm with rfl | rfl | rfl | rfl
  · exact (show Tryd.prog.wantsStandIn 22 = false by kernel_rfl)
  · exact (show Tryd.prog.wantsStandIn 23 = false by kernel_rfl)
  · exact (show Tryd.prog.wantsStandIn 33 = false by kernel_rfl)
  · exact (show Tryd.prog.wantsStandIn 3 = false by kernel_rfl)

theorem card : Rows.StrokeDashesCardSaid :=
  Claim7.holds_tied_plain_at .later [] _ _ _ _ said (fun _ h => by cases h) (by kernel_rfl) (fun _ h => by cases h) strokeDashes_row_tie rfl ⟨rfl, rfl⟩ (by kernel_rfl) rfl plain (by kernel_rfl)

end Go.Proofs.YtflopcogalknhaaDoor.StrokeDashes
