/-
  All polygons of an outline of layer 21 have at least three points and a positive shoelace sum, for any polygons and parameters within the reach of the model.
-/
import Derived.Test.YtflopcogalknhaaDoorKStrAw
import Derived.Test.YtflopcogalknhaaDoorKStrGd
set_option linter.unusedVariables false
set_option linter.unusedSimpArgs false
namespace Go.Proofs.YtflopcogalknhaaDoor.StrokePositive
open Go.RowKit Go.Proofs.YtflopcogalknhaaDoor Go.Proofs.YtflopcogalknhaaDoor.NumPure Go.Proofs.YtflopcogalknhaaDoor.Str

set_option maxRecDepth 100000 in
set_option maxHeartbeats 4000000 in
theorem walk (A0 : Option Addr) (c0 : Nat) (x0 : List (List P2)) (A1 : Option Addr) (c1 : Nat) (x1 : List Bool) (x2 x3 x4 : Int) (W : World) (hx0 : PlA W A0 x0) (hx1 : BoR W A1 x1) (hn1 : x1.length ≤ 140737488351232)
    (_ : -9223372036854775808 ≤ x2 ∧ x2 ≤ 9223372036854775807) (_ : -9223372036854775808 ≤ x3 ∧ x3 ≤ 9223372036854775807) (_ : -9223372036854775808 ≤ x4 ∧ x4 ≤ 9223372036854775807) (hT : Num.Tab W) :
    Calls Tryd.prog 5 #[.slice A0 x0.length c0, .slice A1 x1.length c1, .int .i64 x2, .int .i64 x3, .int .i64 x4] W fun e w' => e = .returned (.bool true) ∧ Below W.heap.size W w' := by
  have hnl : x0.length ≤ 140737488355328 := by have := hx0.n; omega
  have hne : ∀ l ∈ x0, l.length ≤ 140737488355328 := fun l hl => by have := hx0.e l hl; omega
  have HG := outF_good x2 x3 x4 x0 x1
  have HER := outF_err (wd := x2) (j := x3) (e := x4) (ls := x0) (ob := x1)
  have HC1 := Outline_any A0 c0 x0 A1 c1 x1 x2 x3 x4 W hx0.r hnl hne hx1 (by omega) hT
  have HT := Lib.hid fun W' (hW : Below W.heap.size W W') => tab_below hT hW
  obtain ⟨⟨z, D⟩, hF⟩ : ∃ F, outF x2 x3 x4 x0 x1 = F := ⟨_, rfl⟩
  rw [hF] at HG HER HC1
  unfold OuC at HC1
  dsimp only at HG HER HC1
  obtain ⟨n, hn⟩ : ∃ n, x0.length = n := ⟨_, rfl⟩
  obtain ⟨m, hm⟩ : ∃ n, x1.length = n := ⟨_, rfl⟩
  obtain ⟨u, hu⟩ : ∃ n, D.length = n := ⟨_, rfl⟩
  rw [hn, hm, hu] at HC1
  rw [hn, hm]
  have H1 := Lib.hid HC1
  have HGD := Lib.hid HG.1
  have HU : Hid (u ≤ 4096) := Lib.hid (by rw [← hu]; exact HG.2.2)
  have HUU := Lib.hid hu
  have HER := Lib.hid HER
  clear hF HG HC1 hx0 hx1 hn1 hT hnl hne hn hm hu
  go_enter Tryd.func5, Tryd.ntmps5
  go_wp2_with fail
  refine H1.out.mono ?_
  rintro e1 w1 ⟨Aa, ca, rfl, hp1, hb1⟩
  have HP1 := Lib.hid hp1
  have HB1 := Lib.hid hb1
  clear hp1 hb1 H1
  by_cases hz : z = 0
  rotate_left
  · have hz' : (z == 0) = false := by simpa using hz
    have hu0 : u = 0 := by rw [← HUU.out, HER.out hz]; rfl
    subst hu0
    clear hz
    go_wp2_with fail
    refine (awake_any _ (HT.out _ HB1.out)).mono ?_
    rintro e6 w6 ⟨rfl, hb6⟩
    have HB6 := Lib.hid (HB1.out.trans (hb6.mono HB1.out.size))
    clear hb6
    go_wp2_with fail
    go_ret
    exact ⟨rfl, HB6.out⟩
  subst hz
  go_wp2_with fail
  go_loopw [35] (fun i wr => ∃ k : Nat, i = .int .i64 (k : Int) ∧ k ≤ u ∧ Below w1.heap.size w1 wr) (fun i _ => u - (intOf i).toNat)
  case atStart => exact ⟨0, rfl, by omega, Below.refl _ _⟩
  case round =>
    obtain ⟨k, rfl, hk, hbw⟩ := hrel
    obtain ⟨Wk, rfl⟩ : ∃ W, W = wr := ⟨_, rfl⟩
    have HBw := Lib.hid hbw
    have HBr : Hid (Below W.heap.size W Wk) := Lib.hid (HB1.out.trans (hbw.mono HB1.out.size))
    clear hbw
    by_cases hlt : k < u
    · have hkl : k < D.length := by rw [HUU.out]; exact hlt
      have hP := HP1.out.below HBw.out
      obtain ⟨ad, rfl, _⟩ := hP.addr (by omega)
      obtain ⟨A2, c2, d0, hp2⟩ := hP.cell k hkl
      obtain ⟨⟨h3, h16⟩, hin, har⟩ := HGD.out _ (mem_getD hkl)
      obtain ⟨l, hl⟩ : ∃ l, D.getD k [] = l := ⟨_, rfl⟩
      rw [hl] at d0 hp2 h3 h16 hin har
      have HC := Lib.hid fun W' (hW : Below Wk.heap.size Wk W') => rArea_any A2 l c2 W' (hp2.below hW) hin h16
      have SP : Hid (∀ W', Below Wk.heap.size Wk W' → W'.cell? (ad.add k) = some (.slice A2 l.length c2)) := Lib.hid fun W' hW => (hW.cell (World.block_lt_of_cell? Wk _ d0)).trans d0
      have HP2 := Lib.hid hp2
      have HIN := Lib.hid hin
      obtain ⟨a, ha⟩ : ∃ a, area l = a := ⟨_, rfl⟩
      obtain ⟨m, hm⟩ : ∃ n, l.length = n := ⟨_, rfl⟩
      unfold NmC at HC
      rw [ha, hm] at HC
      rw [hm] at SP d0 h3 h16
      rw [ha] at har
      have HM := Lib.hid hm
      have HKU : Hid (k < u) := Lib.hid hlt
      have HM16 : Hid (3 ≤ m ∧ m ≤ 16) := Lib.hid ⟨h3, h16⟩
      have k2 : (k : Int) < (u : Int) := by omega
      have k3 : (0 : Int) ≤ (k : Int) := by omega
      have k5 : decide ((m : Int) < 3) = false := decide_eq_false (by omega)
      have k6 : decide ((16 : Int) < (m : Int)) = false := decide_eq_false (by omega)
      have HAR : Hid (¬ a ≤ 0) := Lib.hid (by omega)
      have HS0 : Hid (Below Wk.heap.size Wk Wk) := Lib.hid (Below.refl _ _)
      clear hkl hP hp2 h3 h16 hin har hl ha hm hk hlt
      go_wp2_with fail
      clear k5 k6 d0
      go_loopw [57] (fun i wr => ∃ j : Nat, i = .int .i64 (j : Int) ∧ j ≤ m ∧ Below Wk.heap.size Wk wr) (fun i _ => m - (intOf i).toNat)
      case atStart => exact ⟨0, rfl, by omega, HS0.out⟩
      case round =>
        obtain ⟨j, rfl, hj, hbq⟩ := hrel
        have HBQ := Lib.hid hbq
        clear hbq HS0
        by_cases hlt2 : j < m
        · have hjl : j < l.length := by have := HM.out; omega
          have hq := HP2.out.below HBQ.out
          obtain ⟨a1, rfl, _⟩ := hq.addr (by omega)
          have hin := HIN.out _ (List.getElem_mem hjl)
          have p1 := pt_cells hq j hjl
          obtain ⟨⟨x, y⟩, hx⟩ : ∃ p, l[j] = p := ⟨_, rfl⟩
          rw [hx] at p1 hin
          obtain ⟨p2, p3⟩ := p1
          unfold Inb at hin
          dsimp only at p2 p3 hin
          have j2 : (j : Int) < (m : Int) := by omega
          have j3 : (0 : Int) ≤ (j : Int) := by omega
          have t1 : decide (x < -33554432) = false := decide_eq_false (by omega)
          have t2 : decide (33554432 < x) = false := decide_eq_false (by omega)
          have t3 : decide (y < -33554432) = false := decide_eq_false (by omega)
          have t4 : decide (33554432 < y) = false := decide_eq_false (by omega)
          have HB3 : Hid (Below Wk.heap.size Wk (wr.alloc (.cells #[.int .i64 x, .int .i64 y] 30))) := Lib.hid (HBQ.out.alloc HBQ.out.size _)
          have x7 : IntKind.i64.wrap ((j : Int) + 1) = (j : Int) + 1 := i64w (by omega) (by have := HM16.out; omega)
          clear hjl hq hin hx
          go_wp2_with fail
          clear t1 t2 t3 t4 p2 p3 x7
          go_roundw
          case rel => exact ⟨j + 1, by have := HM16.out; go_num, by omega, HB3.out⟩
          case measure => first | (simp [intOf]; done) | (simp [intOf]; omega)
        · have j2 : ¬ (j : Int) < (m : Int) := by omega
          have s1 := SP.out _ HBQ.out
          have k9 := HAR.out
          go_wp2_with fail
          refine (HC.out _ HBQ.out).mono ?_
          rintro e6 w6 ⟨rfl, hb6⟩
          have HB6 := Lib.hid (HBw.out.trans ((HBQ.out.trans (hb6.mono HBQ.out.size)).mono HBw.out.size))
          have x7 : IntKind.i64.wrap ((k : Int) + 1) = (k : Int) + 1 := i64w (by omega) (by have := HU.out; have := HKU.out; omega)
          clear hb6
          go_wp2_with fail
          clear x7
          go_roundw
          case rel => exact ⟨k + 1, by have := HU.out; have := HKU.out; go_num, by have := HKU.out; omega, HB6.out⟩
          case measure => first | (have := HKU.out; simp [intOf]; done) | (have := HKU.out; simp [intOf]; omega)
    · have k2 : ¬ (k : Int) < (u : Int) := by omega
      go_wp2_with fail
      refine (awake_any _ (HT.out _ HBr.out)).mono ?_
      rintro e6 w6 ⟨rfl, hb6⟩
      have HB6 := Lib.hid (HBr.out.trans (hb6.mono HBr.out.size))
      clear hb6
      go_wp2_with fail
      go_ret
      exact ⟨rfl, HB6.out⟩

open Go.ChangeShapes Go.WideShapes Go.ChangeAt Go.Joins Go.Deep

set_option maxRecDepth 100000 in
theorem contract (H : Type) (enc : TypeId × Value → H) (W : World) (base : Nat) (args : Array Value) (ds gs : List (DataW H)) (before : List MemPlace)
    (hval : ∀ (j : Nat) t v, Tryd.f5.params[j]? = some t → args[j]? = some v → Value.okWide Tryd.prog W .any base t v)
    (hW : DataW.Whole enc Tryd.prog Tryd.f5.params.toList Rows.strokePositiveSpec.vars false W args.toList ds gs before) (hL : laidMetH Tryd.prog Rows.strokePositiveRow.laid W)
    (hsz : (DataW.weightsEach Tryd.prog (Tryd.f5.params.toList ++ (OpenSpec.ofChange Rows.strokePositiveSpec).bare.plain.varTypes Tryd.prog) (ds ++ gs)).all (· ≤ reachBytes) = true) :
    Calls Tryd.prog 5 args W fun e W' => ∃ v, e = .returned v ∧ Rows.strokePositiveSpec.post enc Tryd.prog Tryd.f5 false true false false W args v W' := by
  have hW' := hW
  obtain ⟨p, q, hA0, hV, rfl, hfz, hnd⟩ := hW
  have hA : DataW.TrodAll enc Tryd.prog W 0 (fun _ => true) true Tryd.f5.params.toList args.toList ds p := hA0
  rw [Tryd.params5] at hA hval
  obtain ⟨v0, vs0, d0, ds0, p0, q0, hargs, rfl, rfl, g0, r0⟩ := trodAll_cons hA
  obtain ⟨v1, vs1, d1, ds1, p1, q1, rfl, rfl, rfl, g1, r1⟩ := trodAll_cons r0
  obtain ⟨v2, vs2, d2, ds2, p2, q2, rfl, rfl, rfl, g2, r2⟩ := trodAll_cons r1
  obtain ⟨v3, vs3, d3, ds3, p3, q3, rfl, rfl, rfl, g3, r3⟩ := trodAll_cons r2
  obtain ⟨v4, vs4, d4, ds4, p4, q4, rfl, rfl, rfl, g4, r4⟩ := trodAll_cons r3
  obtain ⟨rfl, rfl, rfl⟩ := trodAll_nil r4
  obtain rfl : args = #[v0, v1, v2, v3, v4] := by cases args; simp_all
  obtain ⟨rfl, rfl⟩ := trodVars_none hV
  have s0 : Small 22 d0 := fun n hn => by simpa using List.all_eq_true.1 hsz n (DataW.weights_mem_each (j := 0) (t := 22) rfl rfl n hn)
  obtain ⟨A0, c0, x0, rfl, hx0⟩ := arg_pls (hval 0 22 v0 rfl rfl) g0 s0
  have s1 : Small 23 d1 := fun n hn => by simpa using List.all_eq_true.1 hsz n (DataW.weights_mem_each (j := 1) (t := 23) rfl rfl n hn)
  obtain ⟨A1, c1, x1, rfl, hx1, hn1⟩ := arg_bools (hval 1 23 v1 rfl rfl) g1 s1
  obtain ⟨x2, rfl, rfl, rfl, w2⟩ := open_int Tryd.underlying3 (hval 2 3 v2 rfl rfl) g2
  have b2 := bounds_i64 w2
  obtain ⟨x3, rfl, rfl, rfl, w3⟩ := open_int Tryd.underlying3 (hval 3 3 v3 rfl rfl) g3
  have b3 := bounds_i64 w3
  obtain ⟨x4, rfl, rfl, rfl, w4⟩ := open_int Tryd.underlying3 (hval 4 3 v4 rfl rfl) g4
  have b4 := bounds_i64 w4
  clear hA0
  refine (walk A0 c0 x0 A1 c1 x1 x2 x3 x4 W hx0 hx1 hn1 b2 b3 b4 (Num.tab_of_laid hL)).mono fun e W' ⟨he, hb⟩ => ?_
  subst he
  exact ⟨_, rfl, Frame.law_post Frame.laidOut (by kernel_rfl) Tryd.underlying4 (by kernel_rfl) rfl rfl hW' hb⟩

theorem laid_met (os : Os) : laidMet Tryd.prog Rows.strokePositiveRow.laid ((Num.laidWorld os).forCall (fun _ _ => 0) ⟨#[], #[Value.slice none 0 0, Value.slice none 0 0, Value.int .i64 0, Value.int .i64 0, Value.int .i64 0], []⟩).memory :=
  laidMet_of_run' 8 (by kernel_rfl) (by kernel_rfl)
theorem reads (os : Os) {H : Type} (enc : TypeId × Value → H) : ∃ places, DataW.whole enc Tryd.prog ((Num.laidWorld os).forCall (fun _ _ => 0) ⟨#[], #[Value.slice none 0 0, Value.slice none 0 0, Value.int .i64 0, Value.int .i64 0, Value.int .i64 0], []⟩).memory Tryd.f5.params.toList Rows.strokePositiveSpec.vars false #[Value.slice none 0 0, Value.slice none 0 0, Value.int .i64 0, Value.int .i64 0, Value.int .i64 0].toList 8 = some ([.nil, .nil, .lit (.int .i64 0), .lit (.int .i64 0), .lit (.int .i64 0)], [], places) :=
  ⟨[], by kernel_rfl⟩

set_option maxRecDepth 100000 in
theorem lifted (os : Os) (started : os.Started) (H : Type) (enc : TypeId × Value → H) (F : Stop.Interp) :
    ReturnsInHanded {} Tryd.checked os 5 .any ((OpenSpec.ofChange Rows.strokePositiveSpec).preRow enc Tryd.prog Tryd.f5 Rows.strokePositiveRow.domain false Rows.strokePositiveRow.laid) (((OpenSpec.ofChange Rows.strokePositiveSpec).at F).post enc Tryd.prog Tryd.f5 false true false false) := by
  obtain ⟨places, hx⟩ := reads os enc
  refine returnsInHanded_of_row (C := Tryd.checked) (s := OpenSpec.ofChange Rows.strokePositiveSpec) Frame.own started (by kernel_rfl) Tryd.func5
    (witness_row_at (enc := enc) (C := Tryd.checked) false (Num.laidWorld os) #[Value.slice none 0 0, Value.slice none 0 0, Value.int .i64 0, Value.int .i64 0, Value.int .i64 0] rfl (by kernel_rfl) (by kernel_rfl) (by kernel_rfl)
      (OpenSpec.preRow_of_cond 8 hx (by kernel_rfl) (fun k hk => by cases hk) (by kernel_rfl) (laid_met os))) ?_
  intro W base args ds gs before hval hW _ _ hsz hL _ _
  exact contract H enc W base args ds gs before hval hW hL hsz

theorem said : Rows.StrokePositiveSaid :=
  OpenClaim.holds_of_cond 5 Tryd.f5 rfl rfl rfl rfl rfl rfl rfl ⟨rfl, rfl, rfl, rfl, rfl⟩ rfl rfl rfl rfl rfl (by kernel_rfl) Tryd.func5 (by kernel_rfl)
    (of_decide_eq_true (by kernel_rfl)) (by unfold Func.isWrapper; first | (rw [if_pos (by decide +kernel)]; kernel_rfl) | (rw [if_neg (by decide +kernel)]; exact ⟨rfl, rfl⟩))
    (fun os started H enc _ F => by rw [OpenClaim.pre_eq_preRow]; exact lifted os started H enc F)

theorem plain (f : FuncId) (fn : Func) (hf : Tryd.pinned.checked.prog.funcNamed "imageeditor/imageeditorlaw21.StrokePositive" = some f) (hfn : Tryd.pinned.checked.prog.funcs[f]? = some fn) :
    false = Tryd.pinned.checked.prog.looks [] ∧ ∀ (j : Nat) t, fn.params[j]? = some t → Tryd.pinned.checked.prog.wantsStandIn t = false := by
  obtain rfl : f = 5 := Option.some.inj ((show Tryd.prog.funcNamed "imageeditor/imageeditorlaw21.StrokePositive" = some 5 by kernel_rfl).symm.trans hf) |>.symm
  obtain rfl : fn = Tryd.f5 := (Option.some.inj (Tryd.func5.symm.trans hfn)).symm
  refine ⟨by kernel_rfl, fun j t ht => ?_⟩
  rw [Tryd.params5] at ht
  have hm : t = 22 ∨ t = 23 ∨ t = 3 ∨ t = 3 ∨ t = 3 := by simpa using Array.mem_of_getElem? ht
  rcases hm with rfl | rfl | rfl | rfl | rfl
  · exact (show Tryd.prog.wantsStandIn 22 = false by kernel_rfl)
  · exact (show Tryd.prog.wantsStandIn 23 = false by kernel_rfl)
  · exact (show Tryd.prog.wantsStandIn 3 = false by kernel_rfl)
  · exact (show Tryd.prog.wantsStandIn 3 = false by kernel_rfl)
  · exact (show Tryd.prog.wantsStandIn 3 = false by kernel_rfl)

theorem card : Rows.StrokePositiveCardSaid :=
  Claim7.holds_tied_plain_at .later [] _ _ _ _ said (fun _ h => by cases h) (by kernel_rfl) (fun _ h => by cases h) strokePositive_row_tie rfl ⟨rfl, rfl⟩ (by kernel_rfl) rfl plain (by kernel_rfl)

end Go.Proofs.YtflopcogalknhaaDoor.StrokePositive
