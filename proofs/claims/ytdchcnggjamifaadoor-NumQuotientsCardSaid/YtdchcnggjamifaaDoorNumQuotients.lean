/-
  NumQuotients: what package num's quotient rounded down leaves has the sign of the divisor and is less than it, and the quotient rounded to the nearest integer is that one or the next.
-/
import Derived.Test.YtdchcnggjamifaaDoorNumFrame
namespace Go.Proofs.YtdchcnggjamifaaDoor.NumQuotients
open Go.RowKit Go.Proofs.YtdchcnggjamifaaDoor Go.Proofs.YtdchcnggjamifaaDoor.NumPure Go.Proofs.YtdchcnggjamifaaDoor.Num

set_option maxHeartbeats 2000000 in
set_option maxRecDepth 100000 in
theorem walk (a b : Int) (h0 : -9223372036854775808 ≤ a) (h1 : a ≤ 9223372036854775807) (g0 : -9223372036854775808 ≤ b) (g1 : b ≤ 9223372036854775807) (w : World) (hT : Tab w) :
    Calls Tryd.prog 8 #[.int .i64 a, .int .i64 b] w fun e w' => e = .returned (.bool true) ∧ Below w.heap.size w w' := by
  have HT := Lib.hid hT
  clear hT
  by_cases hb : b = 0
  · subst hb
    go_enter Tryd.func8, Tryd.ntmps8
    go_wp2_with fail
    refine (example_any _ HT.out).mono ?_
    rintro e w' ⟨rfl, n1, rfl⟩
    go_wp2
    go_ret
    exact ⟨rfl, bdrew _⟩
  have tb : (b == 0) = false := by simpa using hb
  by_cases hx : a = -9223372036854775808 ∧ b = -1
  · obtain ⟨rfl, rfl⟩ := hx
    go_enter Tryd.func8, Tryd.ntmps8
    go_wp2_with fail
    refine (example_any _ HT.out).mono ?_
    rintro e w' ⟨rfl, n1, rfl⟩
    go_wp2
    go_ret
    exact ⟨rfl, bdrew _⟩
  have hmin : ((b == -1) = true ∧ (a == -9223372036854775808) = false) ∨ (b == -1) = false := by
    by_cases e : b = -1
    · exact .inl ⟨by simp [e], by simp; intro e2; exact hx ⟨e2, e⟩⟩
    · exact .inr (by simpa using e)
  obtain ⟨q, r, hq, hr, q0, q1, hs, hc⟩ := div_parts a b h0 h1 g0 g1 hb hx
  have HQ := Lib.hid hq
  obtain ⟨d, hd⟩ : ∃ d, d = dvr a b := ⟨_, rfl⟩
  have hdq : ((d == q) = true) ∨ ((d == q) = false ∧ (d == q + 1) = true ∧ q + 1 ≤ 9223372036854775807) := by
    rcases hc with ⟨h, h2, _⟩ | ⟨h, _⟩
    · exact .inr ⟨by simp; omega, by simp; omega, h2⟩
    · exact .inl (by simp; omega)
  have HD := Lib.hid hd
  clear hq hx hc hd
  rcases hs with ⟨hp, r0, r1⟩ | ⟨hp, r0, r1⟩
  all_goals
    rcases hdq with t1 | ⟨t1, t2, q2⟩
    all_goals
      rcases hmin with ⟨t3, t4⟩ | t3
      all_goals
        go_enter Tryd.func8, Tryd.ntmps8
        go_wp2_with fail
        refine (floor_is a b q h0 h1 HQ.out _).mono ?_
        rintro e w' ⟨rfl, rfl⟩
        go_wp2_with fail
        refine (div_is a b d HD.out h0 h1 g0 g1 _).mono ?_
        rintro e w' ⟨rfl, rfl⟩
        go_wp2_with fail
        refine (example_any _ HT.out).mono ?_
        rintro e w' ⟨rfl, n1, rfl⟩
        go_wp2
        go_ret
        exact ⟨rfl, bdrew _⟩

open Go.ChangeShapes Go.WideShapes Go.ChangeAt Go.Joins

theorem contract (H : Type) (enc : TypeId × Value → H) (W : World) (base : Nat) (args : Array Value) (ds gs : List (DataW H)) (before : List MemPlace)
    (hval : ∀ (j : Nat) t v, Tryd.f8.params[j]? = some t → args[j]? = some v → Value.okWide Tryd.prog W .any base t v)
    (hW : DataW.Whole enc Tryd.prog Tryd.f8.params.toList Rows.numQuotientsSpec.vars false W args.toList ds gs before) (hL : laidMetH Tryd.prog Rows.numQuotientsRow.laid W) :
    Calls Tryd.prog 8 args W fun e W' => ∃ v, e = .returned v ∧ Rows.numQuotientsSpec.post enc Tryd.prog Tryd.f8 false true false false W args v W' := by
  have hW' := hW
  obtain ⟨p, q, hA0, hV, rfl, hfz, hnd⟩ := hW
  have hA : DataW.TrodAll enc Tryd.prog W 0 (fun _ => true) true Tryd.f8.params.toList args.toList ds p := hA0
  rw [Tryd.params8] at hA hval
  obtain ⟨v0, vs0, d0, ds0, p0, q0, hargs, rfl, rfl, g0, r0⟩ := trodAll_cons hA
  obtain ⟨v1, vs1, d1, ds1, p1, q1, rfl, rfl, rfl, g1, r1⟩ := trodAll_cons r0
  obtain ⟨rfl, rfl, rfl⟩ := trodAll_nil r1
  obtain rfl : args = #[v0, v1] := by cases args; simp_all
  obtain ⟨rfl, rfl⟩ := trodVars_none hV
  obtain ⟨z0, rfl, rfl, rfl, w0⟩ := open_int Tryd.underlying3 (hval 0 3 v0 rfl rfl) g0
  have b0 := bounds_i64 w0
  obtain ⟨z1, rfl, rfl, rfl, w1⟩ := open_int Tryd.underlying3 (hval 1 3 v1 rfl rfl) g1
  have b1 := bounds_i64 w1
  clear hA0
  refine (walk z0 z1 b0.1 b0.2 b1.1 b1.2 W (tab_of_laid hL)).mono fun e W' ⟨he, hb⟩ => ?_
  subst he
  exact ⟨_, rfl, Frame.law_post Frame.laidOut (by kernel_rfl) Tryd.underlying4 (by kernel_rfl) rfl rfl hW' hb⟩

theorem laid_met (os : Os) : laidMet Tryd.prog Rows.numQuotientsRow.laid ((laidWorld os).forCall (fun _ _ => 0) ⟨#[], #[Value.int .i64 0, Value.int .i64 0], []⟩).memory :=
  laidMet_of_run' 8 (by kernel_rfl) (by kernel_rfl)
theorem reads (os : Os) {H : Type} (enc : TypeId × Value → H) : ∃ places, DataW.whole enc Tryd.prog ((laidWorld os).forCall (fun _ _ => 0) ⟨#[], #[Value.int .i64 0, Value.int .i64 0], []⟩).memory Tryd.f8.params.toList Rows.numQuotientsSpec.vars false #[Value.int .i64 0, Value.int .i64 0].toList 8 = some ([.lit (.int .i64 0), .lit (.int .i64 0)], [], places) :=
  ⟨[], by kernel_rfl⟩

set_option maxRecDepth 100000 in
theorem lifted (os : Os) (started : os.Started) (H : Type) (enc : TypeId × Value → H) (F : Stop.Interp) :
    ReturnsInHanded {} Tryd.checked os 8 .any ((OpenSpec.ofChange Rows.numQuotientsSpec).preRow enc Tryd.prog Tryd.f8 Rows.numQuotientsRow.domain false Rows.numQuotientsRow.laid) (((OpenSpec.ofChange Rows.numQuotientsSpec).at F).post enc Tryd.prog Tryd.f8 false true false false) := by
  obtain ⟨places, hx⟩ := reads os enc
  refine returnsInHanded_of_row (C := Tryd.checked) (s := OpenSpec.ofChange Rows.numQuotientsSpec) Frame.own started (by kernel_rfl) Tryd.func8
    (witness_row_at (enc := enc) (C := Tryd.checked) false (laidWorld os) #[Value.int .i64 0, Value.int .i64 0] rfl (by kernel_rfl) (by kernel_rfl) (by kernel_rfl)
      (OpenSpec.preRow_of_cond 8 hx (by kernel_rfl) (fun k hk => by cases hk) (by kernel_rfl) (laid_met os))) ?_
  intro W base args ds gs before hval hW _ _ _ hL _ _
  exact contract H enc W base args ds gs before hval hW hL

theorem said : Rows.NumQuotientsSaid :=
  OpenClaim.holds_of_cond 8 Tryd.f8 rfl rfl rfl rfl rfl rfl rfl ⟨rfl, rfl, rfl, rfl, rfl⟩ rfl rfl rfl rfl rfl (by kernel_rfl) Tryd.func8 (by kernel_rfl)
    (of_decide_eq_true (by kernel_rfl)) (by unfold Func.isWrapper; first | (rw [if_pos (by decide +kernel)]; kernel_rfl) | (rw [if_neg (by decide +kernel)]; exact ⟨rfl, rfl⟩))
    (fun os started H enc _ F => by rw [OpenClaim.pre_eq_preRow]; exact lifted os started H enc F)

theorem plain (f : FuncId) (fn : Func) (hf : Tryd.pinned.checked.prog.funcNamed "imageeditor/imageeditorlaw01.NumQuotients" = some f) (hfn : Tryd.pinned.checked.prog.funcs[f]? = some fn) :
    false = Tryd.pinned.checked.prog.looks [] ∧ ∀ (j : Nat) t, fn.params[j]? = some t → Tryd.pinned.checked.prog.wantsStandIn t = false := by
  obtain rfl : f = 8 := Option.some.inj ((show Tryd.prog.funcNamed "imageeditor/imageeditorlaw01.NumQuotients" = some 8 by kernel_rfl).symm.trans hf) |>.symm
  obtain rfl : fn = Tryd.f8 := (Option.some.inj (Tryd.func8.symm.trans hfn)).symm
  refine ⟨by kernel_rfl, fun j t ht => ?_⟩
  rw [Tryd.params8] at ht
  obtain rfl : t = 3 := by simpa using Array.mem_of_getElem? ht
  exact (show Tryd.prog.wantsStandIn 3 = false by kernel_rfl)

theorem card : Rows.NumQuotientsCardSaid :=
  Claim7.holds_tied_plain_at .later [] _ _ _ _ said (fun _ h => by cases h) (by kernel_rfl) (fun _ h => by cases h) numQuotients_row_tie rfl ⟨rfl, rfl⟩ (by kernel_rfl) rfl plain (by kernel_rfl)

end Go.Proofs.YtdchcnggjamifaaDoor.NumQuotients
