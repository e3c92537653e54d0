/-
  NumSquares: the squares about package num's roots, and the bounds of its lengths.
-/
import Derived.Test.YtdchcnggjamifaaDoorNumFrame
import Derived.Test.YtdchcnggjamifaaDoorRef01Fx
namespace Go.Proofs.YtdchcnggjamifaaDoor.NumSquares
open Go.RowKit Go.Proofs.YtdchcnggjamifaaDoor Go.Proofs.YtdchcnggjamifaaDoor.NumPure Go.Proofs.YtdchcnggjamifaaDoor.Num

theorem root_of (N : Nat) (h : N ≤ 9223372036854775807) : ∃ r : Nat, sqrtU (N : Int) = r ∧ r ≤ 3037000499 ∧ r * r ≤ N ∧ N < (r + 1) * (r + 1) := by
  have hs := sqGo_spec N 32 0 (by omega) (by simp; omega)
  refine ⟨sqGo N 32 0, by rw [sqrtU, if_neg (by omega)]; rfl, ?_, hs.1, hs.2⟩
  rcases Nat.lt_or_ge 3037000499 (sqGo N 32 0) with hc | hc
  · have := Nat.mul_le_mul (show 3037000500 ≤ sqGo N 32 0 by omega) (show 3037000500 ≤ sqGo N 32 0 by omega)
    omega
  · exact hc

theorem len_of (a b : Int) (x y : Nat) (ha : a.natAbs = x) (hb : b.natAbs = y) (hx : x ≤ 9223372036854775808) (hy : y ≤ 9223372036854775808) :
    ∃ h : Nat, hypU a b = h ∧ h ≤ 9223372036854775807 ∧ (h = 9223372036854775807 ∨ x ≤ h ∧ y ≤ h) ∧ h ≤ x + y := by
  have hxx := Nat.mul_le_mul hx hx
  have hyy := Nat.mul_le_mul hy hy
  have hs := sqGo_spec (x * x + y * y) 64 0 (by omega) (by simp; omega)
  obtain ⟨R, hR⟩ : ∃ R, sqGo (x * x + y * y) 64 0 = R := ⟨_, rfl⟩
  rw [hR] at hs
  have e : hypU a b = min 9223372036854775807 (R : Int) := by rw [hypU, ha, hb, hR]
  have h1 : x ≤ R := by
    rcases Nat.lt_or_ge R x with h | h
    · have := Nat.mul_le_mul (show R + 1 ≤ x by omega) (show R + 1 ≤ x by omega)
      omega
    · exact h
  have h2 : y ≤ R := by
    rcases Nat.lt_or_ge R y with h | h
    · have := Nat.mul_le_mul (show R + 1 ≤ y by omega) (show R + 1 ≤ y by omega)
      omega
    · exact h
  have h3 : R ≤ x + y := by
    rcases Nat.lt_or_ge (x + y) R with h | h
    · have h4 := Nat.mul_le_mul (show x + y + 1 ≤ R by omega) (show x + y + 1 ≤ R by omega)
      have h5 : (x + y + 1) * (x + y + 1) = x * x + y * y + 2 * (x * y) + 2 * x + 2 * y + 1 := by
        rw [Nat.add_mul, Nat.mul_add, Nat.add_mul, Nat.mul_add, Nat.mul_add, Nat.mul_comm y x]
        omega
      omega
    · exact h
  refine ⟨min 9223372036854775807 R, by rw [e]; omega, by omega, ?_, by omega⟩
  by_cases h : 9223372036854775807 ≤ R
  · exact .inl (by omega)
  · exact .inr (by omega)

theorem abs_neg (x : Int) (h0 : -9223372036854775808 ≤ x) (h1 : x ≤ 9223372036854775807) : ∃ z, wrap64 (-x) = z ∧ z.natAbs = x.natAbs ∧ -9223372036854775808 ≤ z ∧ z ≤ 9223372036854775807 := by
  refine ⟨_, rfl, ?_⟩
  unfold wrap64
  omega

theorem hyp_same (a b c d : Int) (h : (a.natAbs = c.natAbs ∧ b.natAbs = d.natAbs) ∨ (a.natAbs = d.natAbs ∧ b.natAbs = c.natAbs)) : hypU a b = hypU c d := by
  unfold hypU
  rcases h with ⟨h1, h2⟩ | ⟨h1, h2⟩
  · rw [h1, h2]
  · rw [h1, h2, Nat.add_comm]

theorem product_z (X Y : Int) (x y hi lo : Nat) (hX : X = x) (hY : Y = y) (hx : x < 18446744073709551616) (hy : y < 18446744073709551616) (hh : x * y / 18446744073709551616 = hi) (hl : x * y % 18446744073709551616 = lo) (w : World) :
    Calls Tryd.prog 36 #[.int .u64 X, .int .u64 Y] w fun e w' => e = .returned (.tuple #[.int .u64 (hi : Int), .int .u64 (lo : Int)]) ∧ w = w' := by
  subst hX hY
  exact Ref01.product_is x y hi lo hx hy hh hl w

set_option maxHeartbeats 4000000 in
set_option maxRecDepth 100000 in
theorem walk (n a b : Int) (_h2 : -9223372036854775808 ≤ n) (g2 : n ≤ 9223372036854775807) (h0 : -9223372036854775808 ≤ a) (h1 : a ≤ 9223372036854775807) (g0 : -9223372036854775808 ≤ b) (g1 : b ≤ 9223372036854775807) (w : World) (hT : Tab w) :
    Calls Tryd.prog 10 #[.int .i64 n, .int .i64 a, .int .i64 b] w fun e w' => e = .returned (.bool true) ∧ Below w.heap.size w w' := by
  have HT := Lib.hid hT
  clear hT _h2
  obtain ⟨x, ha⟩ : ∃ x, a.natAbs = x := ⟨_, rfl⟩
  obtain ⟨y, hb⟩ : ∃ y, b.natAbs = y := ⟨_, rfl⟩
  have hx : x ≤ 9223372036854775808 := by omega
  have hy : y ≤ 9223372036854775808 := by omega
  obtain ⟨h, hh, hm, hlow, hup⟩ := len_of a b x y ha hb hx hy
  obtain ⟨na, hna, ena, na0, na1⟩ := abs_neg a h0 h1
  obtain ⟨nb, hnb, enb, nb0, nb1⟩ := abs_neg b g0 g1
  have HA := Lib.hid ha
  have HB := Lib.hid hb
  have H1 := Lib.hid hh
  have H2 : Hid ((h : Int) = hypU b a) := Lib.hid (by rw [← hh]; exact hyp_same _ _ _ _ (.inr ⟨rfl, rfl⟩))
  have H3 : Hid ((h : Int) = hypU na b) := Lib.hid (by rw [← hh]; exact hyp_same _ _ _ _ (.inl ⟨ena.symm, rfl⟩))
  have H4 : Hid ((h : Int) = hypU a nb) := Lib.hid (by rw [← hh]; exact hyp_same _ _ _ _ (.inl ⟨rfl, enb.symm⟩))
  have HNA := Lib.hid hna
  have HNB := Lib.hid hnb
  clear ha hb hh ena enb hna hnb
  have hmx : (((h : Int) != 9223372036854775807) = false) ∨ (((h : Int) != 9223372036854775807) = true ∧ x ≤ h ∧ y ≤ h) := by
    rcases hlow with e | e
    · exact .inl (by subst e; rfl)
    · by_cases e2 : h = 9223372036854775807
      · exact .inl (by subst e2; rfl)
      · exact .inr ⟨by simp; omega, e⟩
  have hsum : (x + y < 18446744073709551616 ∧ decide ((h : Int) ≤ (x : Int) + (y : Int)) = true) ∨ (IntKind.u64.wrap ((x : Int) + (y : Int)) = 0 ∧ 0 < x) := by
    by_cases e : x + y < 18446744073709551616
    · exact .inl ⟨e, by simp; omega⟩
    · exact .inr ⟨by rw [IntKind.wrap_u64]; omega, by omega⟩
  clear hlow
  rcases Int.lt_or_le n 0 with hn | hn
  · have HR : Hid (0 = sqrtU n) := Lib.hid (by rw [sqrtU, if_pos hn])
    rcases hmx with t1 | ⟨t1, hxh, hyh⟩
    all_goals
      rcases hsum with ⟨hsum, t5⟩ | ⟨hsum, hx0⟩
      all_goals
        go_enter Tryd.func10, Tryd.ntmps10
        go_wp2_with fail
        refine (sqrt_is n 0 HR.out g2 _).mono ?_
        rintro e w' ⟨rfl, rfl⟩
        go_wp2_with fail
        refine (hypot_is a b h H1.out.symm h0 h1 g0 g1 _).mono ?_
        rintro e w' ⟨rfl, rfl⟩
        go_wp2_with fail
        refine (Ref01.abs_is a x HA.out h0 h1 _).mono ?_
        rintro e w' ⟨rfl, rfl⟩
        go_wp2_with fail
        refine (Ref01.abs_is b y HB.out g0 g1 _).mono ?_
        rintro e w' ⟨rfl, rfl⟩
        go_wp2_with fail
        refine (hypot_is b a h H2.out g0 g1 h0 h1 _).mono ?_
        rintro e w' ⟨rfl, rfl⟩
        go_wp2_with fail
        rw [HNA.out]
        refine (hypot_is na b h H3.out na0 na1 g0 g1 _).mono ?_
        rintro e w' ⟨rfl, rfl⟩
        go_wp2_with fail
        rw [HNB.out]
        refine (hypot_is a nb h H4.out h0 h1 nb0 nb1 _).mono ?_
        rintro e w' ⟨rfl, rfl⟩
        go_wp2_with fail
        all_goals
          refine (example_any _ HT.out).mono ?_
          rintro e w' ⟨rfl, k4, rfl⟩
          go_wp2
          go_ret
          exact ⟨rfl, bdrew _⟩
  · obtain ⟨N, rfl⟩ := Int.eq_ofNat_of_zero_le hn
    obtain ⟨r, hr, br, r1, r2⟩ := root_of N (by omega)
    have HR := Lib.hid hr
    obtain ⟨rr, hrr⟩ : ∃ v, r * r = v := ⟨_, rfl⟩
    obtain ⟨rs, hrs⟩ : ∃ v, (r + 1) * (r + 1) = v := ⟨_, rfl⟩
    have brs := Nat.mul_le_mul (show r + 1 ≤ 3037000500 by omega) (show r + 1 ≤ 3037000500 by omega)
    rw [hrr] at r1
    rw [hrs] at r2 brs
    have E1 : Hid (r * r / 18446744073709551616 = 0) := Lib.hid (by rw [hrr]; omega)
    have E2 : Hid (r * r % 18446744073709551616 = rr) := Lib.hid (by rw [hrr]; omega)
    have E3 : Hid ((r + 1) * (r + 1) / 18446744073709551616 = 0) := Lib.hid (by rw [hrs]; omega)
    have E4 : Hid ((r + 1) * (r + 1) % 18446744073709551616 = rs) := Lib.hid (by rw [hrs]; omega)
    clear hr hrr hrs brs
    rcases hmx with t1 | ⟨t1, hxh, hyh⟩
    all_goals
      rcases hsum with ⟨hsum, t5⟩ | ⟨hsum, hx0⟩
      all_goals
        go_enter Tryd.func10, Tryd.ntmps10
        go_wp2_with fail
        refine (sqrt_is (N : Int) r HR.out.symm g2 _).mono ?_
        rintro e w' ⟨rfl, rfl⟩
        go_wp2_with fail
        refine (Ref01.abs_is (r : Int) r (by omega) (by omega) (by omega) _).mono ?_
        rintro e w' ⟨rfl, rfl⟩
        go_wp2_with fail
        refine (Ref01.abs_is (r : Int) r (by omega) (by omega) (by omega) _).mono ?_
        rintro e w' ⟨rfl, rfl⟩
        go_wp2_with fail
        refine (product_z _ _ r r 0 rr rfl rfl (by omega) (by omega) E1.out E2.out _).mono ?_
        rintro e w' ⟨rfl, rfl⟩
        go_wp2_with fail
        refine (Ref01.abs_is (r : Int) r (by omega) (by omega) (by omega) _).mono ?_
        rintro e w' ⟨rfl, rfl⟩
        go_wp2_with fail
        refine (Ref01.abs_is (r : Int) r (by omega) (by omega) (by omega) _).mono ?_
        rintro e w' ⟨rfl, rfl⟩
        go_wp2_with fail
        refine (product_z _ _ (r + 1) (r + 1) 0 rs (by omega) (by omega) (by omega) (by omega) E3.out E4.out _).mono ?_
        rintro e w' ⟨rfl, rfl⟩
        go_wp2_with fail
        refine (hypot_is a b h H1.out.symm h0 h1 g0 g1 _).mono ?_
        rintro e w' ⟨rfl, rfl⟩
        go_wp2_with fail
        refine (Ref01.abs_is a x HA.out h0 h1 _).mono ?_
        rintro e w' ⟨rfl, rfl⟩
        go_wp2_with fail
        refine (Ref01.abs_is b y HB.out g0 g1 _).mono ?_
        rintro e w' ⟨rfl, rfl⟩
        go_wp2_with fail
        refine (hypot_is b a h H2.out g0 g1 h0 h1 _).mono ?_
        rintro e w' ⟨rfl, rfl⟩
        go_wp2_with fail
        rw [HNA.out]
        refine (hypot_is na b h H3.out na0 na1 g0 g1 _).mono ?_
        rintro e w' ⟨rfl, rfl⟩
        go_wp2_with fail
        rw [HNB.out]
        refine (hypot_is a nb h H4.out h0 h1 nb0 nb1 _).mono ?_
        rintro e w' ⟨rfl, rfl⟩
        go_wp2_with fail
        all_goals
          refine (example_any _ HT.out).mono ?_
          rintro e w' ⟨rfl, k4, rfl⟩
          go_wp2
          go_ret
          exact ⟨rfl, bdrew _⟩

open Go.ChangeShapes Go.WideShapes Go.ChangeAt Go.Joins

theorem contract (H : Type) (enc : TypeId × Value → H) (W : World) (base : Nat) (args : Array Value) (ds gs : List (DataW H)) (before : List MemPlace)
    (hval : ∀ (j : Nat) t v, Tryd.f10.params[j]? = some t → args[j]? = some v → Value.okWide Tryd.prog W .any base t v)
    (hW : DataW.Whole enc Tryd.prog Tryd.f10.params.toList Rows.numSquaresSpec.vars false W args.toList ds gs before) (hL : laidMetH Tryd.prog Rows.numSquaresRow.laid W) :
    Calls Tryd.prog 10 args W fun e W' => ∃ v, e = .returned v ∧ Rows.numSquaresSpec.post enc Tryd.prog Tryd.f10 false true false false W args v W' := by
  have hW' := hW
  obtain ⟨p, q, hA0, hV, rfl, hfz, hnd⟩ := hW
  have hA : DataW.TrodAll enc Tryd.prog W 0 (fun _ => true) true Tryd.f10.params.toList args.toList ds p := hA0
  rw [Tryd.params10] at hA hval
  obtain ⟨v0, vs0, d0, ds0, p0, q0, hargs, rfl, rfl, g0, r0⟩ := trodAll_cons hA
  obtain ⟨v1, vs1, d1, ds1, p1, q1, rfl, rfl, rfl, g1, r1⟩ := trodAll_cons r0
  obtain ⟨v2, vs2, d2, ds2, p2, q2, rfl, rfl, rfl, g2, r2⟩ := trodAll_cons r1
  obtain ⟨rfl, rfl, rfl⟩ := trodAll_nil r2
  obtain rfl : args = #[v0, v1, v2] := by cases args; simp_all
  obtain ⟨rfl, rfl⟩ := trodVars_none hV
  obtain ⟨z0, rfl, rfl, rfl, w0⟩ := open_int Tryd.underlying3 (hval 0 3 v0 rfl rfl) g0
  have b0 := bounds_i64 w0
  obtain ⟨z1, rfl, rfl, rfl, w1⟩ := open_int Tryd.underlying3 (hval 1 3 v1 rfl rfl) g1
  have b1 := bounds_i64 w1
  obtain ⟨z2, rfl, rfl, rfl, w2⟩ := open_int Tryd.underlying3 (hval 2 3 v2 rfl rfl) g2
  have b2 := bounds_i64 w2
  clear hA0
  refine (walk z0 z1 z2 b0.1 b0.2 b1.1 b1.2 b2.1 b2.2 W (tab_of_laid hL)).mono fun e W' ⟨he, hb⟩ => ?_
  subst he
  exact ⟨_, rfl, Frame.law_post Frame.laidOut (by kernel_rfl) Tryd.underlying4 (by kernel_rfl) rfl rfl hW' hb⟩

theorem laid_met (os : Os) : laidMet Tryd.prog Rows.numSquaresRow.laid ((laidWorld os).forCall (fun _ _ => 0) ⟨#[], #[Value.int .i64 0, Value.int .i64 0, Value.int .i64 0], []⟩).memory :=
  laidMet_of_run' 8 (by kernel_rfl) (by kernel_rfl)
theorem reads (os : Os) {H : Type} (enc : TypeId × Value → H) : ∃ places, DataW.whole enc Tryd.prog ((laidWorld os).forCall (fun _ _ => 0) ⟨#[], #[Value.int .i64 0, Value.int .i64 0, Value.int .i64 0], []⟩).memory Tryd.f10.params.toList Rows.numSquaresSpec.vars false #[Value.int .i64 0, Value.int .i64 0, Value.int .i64 0].toList 8 = some ([.lit (.int .i64 0), .lit (.int .i64 0), .lit (.int .i64 0)], [], places) :=
  ⟨[], by kernel_rfl⟩

set_option maxRecDepth 100000 in
theorem lifted (os : Os) (started : os.Started) (H : Type) (enc : TypeId × Value → H) (F : Stop.Interp) :
    ReturnsInHanded {} Tryd.checked os 10 .any ((OpenSpec.ofChange Rows.numSquaresSpec).preRow enc Tryd.prog Tryd.f10 Rows.numSquaresRow.domain false Rows.numSquaresRow.laid) (((OpenSpec.ofChange Rows.numSquaresSpec).at F).post enc Tryd.prog Tryd.f10 false true false false) := by
  obtain ⟨places, hx⟩ := reads os enc
  refine returnsInHanded_of_row (C := Tryd.checked) (s := OpenSpec.ofChange Rows.numSquaresSpec) Frame.own started (by kernel_rfl) Tryd.func10
    (witness_row_at (enc := enc) (C := Tryd.checked) false (laidWorld os) #[Value.int .i64 0, Value.int .i64 0, Value.int .i64 0] rfl (by kernel_rfl) (by kernel_rfl) (by kernel_rfl)
      (OpenSpec.preRow_of_cond 8 hx (by kernel_rfl) (fun k hk => by cases hk) (by kernel_rfl) (laid_met os))) ?_
  intro W base args ds gs before hval hW _ _ _ hL _ _
  exact contract H enc W base args ds gs before hval hW hL

theorem said : Rows.NumSquaresSaid :=
  OpenClaim.holds_of_cond 10 Tryd.f10 rfl rfl rfl rfl rfl rfl rfl ⟨rfl, rfl, rfl, rfl, rfl⟩ rfl rfl rfl rfl rfl (by kernel_rfl) Tryd.func10 (by kernel_rfl)
    (of_decide_eq_true (by kernel_rfl)) (by unfold Func.isWrapper; first | (rw [if_pos (by decide +kernel)]; kernel_rfl) | (rw [if_neg (by decide +kernel)]; exact ⟨rfl, rfl⟩))
    (fun os started H enc _ F => by rw [OpenClaim.pre_eq_preRow]; exact lifted os started H enc F)

theorem plain (f : FuncId) (fn : Func) (hf : Tryd.pinned.checked.prog.funcNamed "imageeditor/imageeditorlaw01.NumSquares" = some f) (hfn : Tryd.pinned.checked.prog.funcs[f]? = some fn) :
    false = Tryd.pinned.checked.prog.looks [] ∧ ∀ (j : Nat) t, fn.params[j]? = some t → Tryd.pinned.checked.prog.wantsStandIn t = false := by
  obtain rfl : f = 10 := Option.some.inj ((show Tryd.prog.funcNamed "imageeditor/imageeditorlaw01.NumSquares" = some 10 by kernel_rfl).symm.trans hf) |>.symm
  obtain rfl : fn = Tryd.f10 := (Option.some.inj (Tryd.func10.symm.trans hfn)).symm
  refine ⟨by kernel_rfl, fun j t ht => ?_⟩
  rw [Tryd.params10] at ht
  obtain rfl : t = 3 := by simpa using Array.mem_of_getElem? ht
  exact (show Tryd.prog.wantsStandIn 3 = false by kernel_rfl)

theorem card : Rows.NumSquaresCardSaid :=
  Claim7.holds_tied_plain_at .later [] _ _ _ _ said (fun _ h => by cases h) (by kernel_rfl) (fun _ h => by cases h) numSquares_row_tie rfl ⟨rfl, rfl⟩ (by kernel_rfl) rfl plain (by kernel_rfl)

end Go.Proofs.YtdchcnggjamifaaDoor.NumSquares
