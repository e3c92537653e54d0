/-
  NumInverts: a quotient of unit values undoes a product up to rounding; a mixture lies between its ends.
-/
import Derived.Test.YtdchcnggjamifaaDoorNumFrame
import Derived.Test.YtdchcnggjamifaaDoorNumInv
import Derived.Test.YtdchcnggjamifaaDoorRef01Un
namespace Go.Proofs.YtdchcnggjamifaaDoor.NumInverts
open Go.RowKit Go.Proofs.YtdchcnggjamifaaDoor Go.Proofs.YtdchcnggjamifaaDoor.NumPure Go.Proofs.YtdchcnggjamifaaDoor.Num

set_option maxHeartbeats 8000000 in
set_option maxRecDepth 100000 in
theorem big_pos (a b t x y m q : Int) (h0 : -9223372036854775808 ≤ a) (h1 : a ≤ 9223372036854775807) (g0 : -9223372036854775808 ≤ b) (g1 : b ≤ 9223372036854775807) (HX : Hid (x = unt a)) (HY : Hid (y = unt b)) (HM : Hid (m = mulU a b)) (HM2 : Hid (m = mulU b a)) (HM3 : Hid (x = mulU a 65535)) (_x0 : 0 ≤ x) (_x1 : x ≤ 65535) (y0 : 0 ≤ y) (y1 : y ≤ 65535) (m0 : 0 ≤ m) (mx : m ≤ x) (my : m ≤ y) (HQ : Hid (q = quoU m b)) (yp : 0 < y) (k0 : 0 ≤ 65535 / (2 * y)) (k1 : 65535 / (2 * y) ≤ 65535) (q0 : -9223372036854775807 ≤ q - x) (q1 : q - x ≤ 65535) (c0 : q - x ≤ 65535 / (2 * y) + 1) (c1 : x - q ≤ 65535 / (2 * y) + 1) (hc : (a ≤ b ∧ 1099511627776 < b) ∨ (a ≤ b ∧ b ≤ 1099511627776 ∧ a < -1099511627776) ∨ (b ≤ a ∧ 1099511627776 < a) ∨ (b ≤ a ∧ a ≤ 1099511627776 ∧ b < -1099511627776)) (w : World) (HT : Hid (Tab w)) :
    Calls Tryd.prog 9 #[.int .i64 a, .int .i64 b, .int .i64 t] w fun e w' => e = .returned (.bool true) ∧ Below w.heap.size w w' := by
  rcases hc with ⟨hab, hb⟩ | ⟨hab, hb, hb'⟩ | ⟨hab, hb⟩ | ⟨hab, hb, hb'⟩
  all_goals
    go_enter Tryd.func9, Tryd.ntmps9
    go_wp2_with fail
    all_goals (refine (Ref01.unit_is a x HX.out _).mono ?_; rintro e w' ⟨rfl, rfl⟩; go_wp2_with fail)
    all_goals (refine (Ref01.unit_is b y HY.out _).mono ?_; rintro e w' ⟨rfl, rfl⟩; go_wp2_with fail)
    all_goals (refine (mul_is a b m HM.out _).mono ?_; rintro e w' ⟨rfl, rfl⟩; go_wp2_with fail)
    all_goals (refine (mul_is b a m HM2.out _).mono ?_; rintro e w' ⟨rfl, rfl⟩; go_wp2_with fail)
    all_goals (refine (mul_is a 65535 x HM3.out _).mono ?_; rintro e w' ⟨rfl, rfl⟩; go_wp2_with fail)
    all_goals (refine (quo_is m b q HQ.out _).mono ?_; rintro e w' ⟨rfl, rfl⟩; go_wp2_with fail)
    all_goals (refine (example_any _ HT.out).mono ?_; rintro e w' ⟨rfl, k4, rfl⟩; go_wp2)
    all_goals (go_ret; exact ⟨rfl, bdrew _⟩)

set_option maxHeartbeats 8000000 in
set_option maxRecDepth 100000 in
theorem big_zero (a b t x y m : Int) (h0 : -9223372036854775808 ≤ a) (h1 : a ≤ 9223372036854775807) (g0 : -9223372036854775808 ≤ b) (g1 : b ≤ 9223372036854775807) (HX : Hid (x = unt a)) (HY : Hid (y = unt b)) (HM : Hid (m = mulU a b)) (HM2 : Hid (m = mulU b a)) (HM3 : Hid (x = mulU a 65535)) (_x0 : 0 ≤ x) (_x1 : x ≤ 65535) (y0 : 0 ≤ y) (y1 : y ≤ 65535) (m0 : 0 ≤ m) (mx : m ≤ x) (my : m ≤ y) (yz : y ≤ 0) (hc : (a ≤ b ∧ 1099511627776 < b) ∨ (a ≤ b ∧ b ≤ 1099511627776 ∧ a < -1099511627776) ∨ (b ≤ a ∧ 1099511627776 < a) ∨ (b ≤ a ∧ a ≤ 1099511627776 ∧ b < -1099511627776)) (w : World) (HT : Hid (Tab w)) :
    Calls Tryd.prog 9 #[.int .i64 a, .int .i64 b, .int .i64 t] w fun e w' => e = .returned (.bool true) ∧ Below w.heap.size w w' := by
  rcases hc with ⟨hab, hb⟩ | ⟨hab, hb, hb'⟩ | ⟨hab, hb⟩ | ⟨hab, hb, hb'⟩
  all_goals
    go_enter Tryd.func9, Tryd.ntmps9
    go_wp2_with fail
    all_goals (refine (Ref01.unit_is a x HX.out _).mono ?_; rintro e w' ⟨rfl, rfl⟩; go_wp2_with fail)
    all_goals (refine (Ref01.unit_is b y HY.out _).mono ?_; rintro e w' ⟨rfl, rfl⟩; go_wp2_with fail)
    all_goals (refine (mul_is a b m HM.out _).mono ?_; rintro e w' ⟨rfl, rfl⟩; go_wp2_with fail)
    all_goals (refine (mul_is b a m HM2.out _).mono ?_; rintro e w' ⟨rfl, rfl⟩; go_wp2_with fail)
    all_goals (refine (mul_is a 65535 x HM3.out _).mono ?_; rintro e w' ⟨rfl, rfl⟩; go_wp2_with fail)
    all_goals (refine (example_any _ HT.out).mono ?_; rintro e w' ⟨rfl, k4, rfl⟩; go_wp2)
    all_goals (go_ret; exact ⟨rfl, bdrew _⟩)

set_option maxHeartbeats 8000000 in
set_option maxRecDepth 100000 in
theorem in_pos (a b t x y m q l : Int) (h0 : -9223372036854775808 ≤ a) (h1 : a ≤ 9223372036854775807) (g0 : -9223372036854775808 ≤ b) (g1 : b ≤ 9223372036854775807) (HX : Hid (x = unt a)) (HY : Hid (y = unt b)) (HM : Hid (m = mulU a b)) (HM2 : Hid (m = mulU b a)) (HM3 : Hid (x = mulU a 65535)) (_x0 : 0 ≤ x) (_x1 : x ≤ 65535) (y0 : 0 ≤ y) (y1 : y ≤ 65535) (m0 : 0 ≤ m) (mx : m ≤ x) (my : m ≤ y) (HQ : Hid (q = quoU m b)) (yp : 0 < y) (k0 : 0 ≤ 65535 / (2 * y)) (k1 : 65535 / (2 * y) ≤ 65535) (q0 : -9223372036854775807 ≤ q - x) (q1 : q - x ≤ 65535) (c0 : q - x ≤ 65535 / (2 * y) + 1) (c1 : x - q ≤ 65535 / (2 * y) + 1) (HL : Hid (l = lerpU a b t)) (HL0 : Hid (a = lerpU a b 0)) (HL1 : Hid (b = lerpU a b 65535)) (hc : (a ≤ b ∧ b ≤ 1099511627776 ∧ -1099511627776 ≤ a ∧ a ≤ l ∧ l ≤ b) ∨ (b ≤ a ∧ a ≤ 1099511627776 ∧ -1099511627776 ≤ b ∧ b ≤ l ∧ l ≤ a)) (w : World) (HT : Hid (Tab w)) :
    Calls Tryd.prog 9 #[.int .i64 a, .int .i64 b, .int .i64 t] w fun e w' => e = .returned (.bool true) ∧ Below w.heap.size w w' := by
  rcases hc with ⟨hab, hb, hb', l0, l1⟩ | ⟨hab, hb, hb', l0, l1⟩
  all_goals
    go_enter Tryd.func9, Tryd.ntmps9
    go_wp2_with fail
    all_goals (refine (Ref01.unit_is a x HX.out _).mono ?_; rintro e w' ⟨rfl, rfl⟩; go_wp2_with fail)
    all_goals (refine (Ref01.unit_is b y HY.out _).mono ?_; rintro e w' ⟨rfl, rfl⟩; go_wp2_with fail)
    all_goals (refine (mul_is a b m HM.out _).mono ?_; rintro e w' ⟨rfl, rfl⟩; go_wp2_with fail)
    all_goals (refine (mul_is b a m HM2.out _).mono ?_; rintro e w' ⟨rfl, rfl⟩; go_wp2_with fail)
    all_goals (refine (mul_is a 65535 x HM3.out _).mono ?_; rintro e w' ⟨rfl, rfl⟩; go_wp2_with fail)
    all_goals (refine (quo_is m b q HQ.out _).mono ?_; rintro e w' ⟨rfl, rfl⟩; go_wp2_with fail)
    all_goals (refine (lerp_is a b t l HL.out _).mono ?_; rintro e w' ⟨rfl, rfl⟩; go_wp2_with fail)
    all_goals (refine (lerp_is a b 0 a HL0.out _).mono ?_; rintro e w' ⟨rfl, rfl⟩; go_wp2_with fail)
    all_goals (refine (lerp_is a b 65535 b HL1.out _).mono ?_; rintro e w' ⟨rfl, rfl⟩; go_wp2_with fail)
    all_goals (refine (example_any _ HT.out).mono ?_; rintro e w' ⟨rfl, k4, rfl⟩; go_wp2)
    all_goals (go_ret; exact ⟨rfl, bdrew _⟩)

set_option maxHeartbeats 8000000 in
set_option maxRecDepth 100000 in
theorem in_zero (a b t x y m l : Int) (h0 : -9223372036854775808 ≤ a) (h1 : a ≤ 9223372036854775807) (g0 : -9223372036854775808 ≤ b) (g1 : b ≤ 9223372036854775807) (HX : Hid (x = unt a)) (HY : Hid (y = unt b)) (HM : Hid (m = mulU a b)) (HM2 : Hid (m = mulU b a)) (HM3 : Hid (x = mulU a 65535)) (_x0 : 0 ≤ x) (_x1 : x ≤ 65535) (y0 : 0 ≤ y) (y1 : y ≤ 65535) (m0 : 0 ≤ m) (mx : m ≤ x) (my : m ≤ y) (yz : y ≤ 0) (HL : Hid (l = lerpU a b t)) (HL0 : Hid (a = lerpU a b 0)) (HL1 : Hid (b = lerpU a b 65535)) (hc : (a ≤ b ∧ b ≤ 1099511627776 ∧ -1099511627776 ≤ a ∧ a ≤ l ∧ l ≤ b) ∨ (b ≤ a ∧ a ≤ 1099511627776 ∧ -1099511627776 ≤ b ∧ b ≤ l ∧ l ≤ a)) (w : World) (HT : Hid (Tab w)) :
    Calls Tryd.prog 9 #[.int .i64 a, .int .i64 b, .int .i64 t] w fun e w' => e = .returned (.bool true) ∧ Below w.heap.size w w' := by
  rcases hc with ⟨hab, hb, hb', l0, l1⟩ | ⟨hab, hb, hb', l0, l1⟩
  all_goals
    go_enter Tryd.func9, Tryd.ntmps9
    go_wp2_with fail
    all_goals (refine (Ref01.unit_is a x HX.out _).mono ?_; rintro e w' ⟨rfl, rfl⟩; go_wp2_with fail)
    all_goals (refine (Ref01.unit_is b y HY.out _).mono ?_; rintro e w' ⟨rfl, rfl⟩; go_wp2_with fail)
    all_goals (refine (mul_is a b m HM.out _).mono ?_; rintro e w' ⟨rfl, rfl⟩; go_wp2_with fail)
    all_goals (refine (mul_is b a m HM2.out _).mono ?_; rintro e w' ⟨rfl, rfl⟩; go_wp2_with fail)
    all_goals (refine (mul_is a 65535 x HM3.out _).mono ?_; rintro e w' ⟨rfl, rfl⟩; go_wp2_with fail)
    all_goals (refine (lerp_is a b t l HL.out _).mono ?_; rintro e w' ⟨rfl, rfl⟩; go_wp2_with fail)
    all_goals (refine (lerp_is a b 0 a HL0.out _).mono ?_; rintro e w' ⟨rfl, rfl⟩; go_wp2_with fail)
    all_goals (refine (lerp_is a b 65535 b HL1.out _).mono ?_; rintro e w' ⟨rfl, rfl⟩; go_wp2_with fail)
    all_goals (refine (example_any _ HT.out).mono ?_; rintro e w' ⟨rfl, k4, rfl⟩; go_wp2)
    all_goals (go_ret; exact ⟨rfl, bdrew _⟩)

theorem walk (a b t : Int) (h0 : -9223372036854775808 ≤ a) (h1 : a ≤ 9223372036854775807) (g0 : -9223372036854775808 ≤ b) (g1 : b ≤ 9223372036854775807) (w : World) (hT : Tab w) :
    Calls Tryd.prog 9 #[.int .i64 a, .int .i64 b, .int .i64 t] w fun e w' => e = .returned (.bool true) ∧ Below w.heap.size w w' := by
  have HT := Lib.hid hT
  obtain ⟨x, hx⟩ : ∃ x, x = unt a := ⟨_, rfl⟩
  obtain ⟨y, hy⟩ : ∃ y, y = unt b := ⟨_, rfl⟩
  obtain ⟨m, hm⟩ : ∃ m, m = mulU a b := ⟨_, rfl⟩
  obtain ⟨q, hq⟩ : ∃ q, q = quoU m b := ⟨_, rfl⟩
  obtain ⟨l, hl⟩ : ∃ l, l = lerpU a b t := ⟨_, rfl⟩
  have bx := unt_in a
  have byy := unt_in b
  have bm := mulU_in a b
  have hqc : 0 < y → q - x ≤ 65535 / (2 * y) + 1 ∧ x - q ≤ 65535 / (2 * y) + 1 := by
    intro h
    have := quo_close a b (by omega)
    rw [hq, hm, hx, hy]
    exact this
  have bq : 0 ≤ q ∧ q ≤ 65535 := by
    have e : q = min 65535 (dvr (unt m * 65535) (unt b)) := hq
    have h3 := unt_in m
    have h4 : 0 ≤ dvr (unt m * 65535) (unt b) := by
      by_cases hz : unt b = 0
      · rw [hz, dvr_zero]; omega
      · exact dvr_ge (by omega) (by omega)
    omega
  have HM2 : Hid (m = mulU b a) := Lib.hid (by rw [hm, mulU_comm])
  have HM3 : Hid (x = mulU a 65535) := Lib.hid (by rw [mulU_one, hx])
  rw [← hx] at bx bm
  rw [← hy] at byy bm
  rw [← hm] at bm
  have hk : 0 < y → 0 ≤ 65535 / (2 * y) ∧ 65535 / (2 * y) ≤ 65535 := fun h => ⟨Int.ediv_nonneg (by omega) (by omega), Int.ediv_le_self _ (by omega)⟩
  by_cases hbig : 1099511627776 < max a b ∨ min a b < -1099511627776
  · by_cases hyp : 0 < y
    · exact big_pos a b t x y m q h0 h1 g0 g1 (Lib.hid hx) (Lib.hid hy) (Lib.hid hm) HM2 HM3 bx.1 bx.2 byy.1 byy.2 bm.1 bm.2.1 bm.2.2 (Lib.hid hq) hyp (hk hyp).1 (hk hyp).2 (by omega) (by omega) (hqc hyp).1 (hqc hyp).2 (by omega) w HT
    · exact big_zero a b t x y m h0 h1 g0 g1 (Lib.hid hx) (Lib.hid hy) (Lib.hid hm) HM2 HM3 bx.1 bx.2 byy.1 byy.2 bm.1 bm.2.1 bm.2.2 (by omega) (by omega) w HT
  · have a0 : -1099511627776 ≤ a := by omega
    have a1 : a ≤ 1099511627776 := by omega
    have b0 : -1099511627776 ≤ b := by omega
    have b1 : b ≤ 1099511627776 := by omega
    have bl := lerp_between a b t a0 a1 b0 b1
    rw [← hl] at bl
    have HL0 : Hid (a = lerpU a b 0) := Lib.hid (lerp_zero a b a0 a1).symm
    have HL1 : Hid (b = lerpU a b 65535) := Lib.hid (lerp_one a b b0 b1).symm
    by_cases hyp : 0 < y
    · exact in_pos a b t x y m q l h0 h1 g0 g1 (Lib.hid hx) (Lib.hid hy) (Lib.hid hm) HM2 HM3 bx.1 bx.2 byy.1 byy.2 bm.1 bm.2.1 bm.2.2 (Lib.hid hq) hyp (hk hyp).1 (hk hyp).2 (by omega) (by omega) (hqc hyp).1 (hqc hyp).2 (Lib.hid hl) HL0 HL1 (by omega) w HT
    · exact in_zero a b t x y m l h0 h1 g0 g1 (Lib.hid hx) (Lib.hid hy) (Lib.hid hm) HM2 HM3 bx.1 bx.2 byy.1 byy.2 bm.1 bm.2.1 bm.2.2 (by omega) (Lib.hid hl) HL0 HL1 (by omega) w HT

open Go.ChangeShapes Go.WideShapes Go.ChangeAt Go.Joins

theorem contract (H : Type) (enc : TypeId × Value → H) (W : World) (base : Nat) (args : Array Value) (ds gs : List (DataW H)) (before : List MemPlace)
    (hval : ∀ (j : Nat) t v, Tryd.f9.params[j]? = some t → args[j]? = some v → Value.okWide Tryd.prog W .any base t v)
    (hW : DataW.Whole enc Tryd.prog Tryd.f9.params.toList Rows.numInvertsSpec.vars false W args.toList ds gs before) (hL : laidMetH Tryd.prog Rows.numInvertsRow.laid W) :
    Calls Tryd.prog 9 args W fun e W' => ∃ v, e = .returned v ∧ Rows.numInvertsSpec.post enc Tryd.prog Tryd.f9 false true false false W args v W' := by
  have hW' := hW
  obtain ⟨p, q, hA0, hV, rfl, hfz, hnd⟩ := hW
  have hA : DataW.TrodAll enc Tryd.prog W 0 (fun _ => true) true Tryd.f9.params.toList args.toList ds p := hA0
  rw [Tryd.params9] at hA hval
  obtain ⟨v0, vs0, d0, ds0, p0, q0, hargs, rfl, rfl, g0, r0⟩ := trodAll_cons hA
  obtain ⟨v1, vs1, d1, ds1, p1, q1, rfl, rfl, rfl, g1, r1⟩ := trodAll_cons r0
  obtain ⟨v2, vs2, d2, ds2, p2, q2, rfl, rfl, rfl, g2, r2⟩ := trodAll_cons r1
  obtain ⟨rfl, rfl, rfl⟩ := trodAll_nil r2
  obtain rfl : args = #[v0, v1, v2] := by cases args; simp_all
  obtain ⟨rfl, rfl⟩ := trodVars_none hV
  obtain ⟨z0, rfl, rfl, rfl, w0⟩ := open_int Tryd.underlying3 (hval 0 3 v0 rfl rfl) g0
  have b0 := bounds_i64 w0
  obtain ⟨z1, rfl, rfl, rfl, w1⟩ := open_int Tryd.underlying3 (hval 1 3 v1 rfl rfl) g1
  have b1 := bounds_i64 w1
  obtain ⟨z2, rfl, rfl, rfl, w2⟩ := open_int Tryd.underlying3 (hval 2 3 v2 rfl rfl) g2
  have b2 := bounds_i64 w2
  clear hA0
  refine (walk z0 z1 z2 b0.1 b0.2 b1.1 b1.2 W (tab_of_laid hL)).mono fun e W' ⟨he, hb⟩ => ?_
  subst he
  exact ⟨_, rfl, Frame.law_post Frame.laidOut (by kernel_rfl) Tryd.underlying4 (by kernel_rfl) rfl rfl hW' hb⟩

theorem laid_met (os : Os) : laidMet Tryd.prog Rows.numInvertsRow.laid ((laidWorld os).forCall (fun _ _ => 0) ⟨#[], #[Value.int .i64 0, Value.int .i64 0, Value.int .i64 0], []⟩).memory :=
  laidMet_of_run' 8 (by kernel_rfl) (by kernel_rfl)
theorem reads (os : Os) {H : Type} (enc : TypeId × Value → H) : ∃ places, DataW.whole enc Tryd.prog ((laidWorld os).forCall (fun _ _ => 0) ⟨#[], #[Value.int .i64 0, Value.int .i64 0, Value.int .i64 0], []⟩).memory Tryd.f9.params.toList Rows.numInvertsSpec.vars false #[Value.int .i64 0, Value.int .i64 0, Value.int .i64 0].toList 8 = some ([.lit (.int .i64 0), .lit (.int .i64 0), .lit (.int .i64 0)], [], places) :=
  ⟨[], by kernel_rfl⟩

set_option maxRecDepth 100000 in
theorem lifted (os : Os) (started : os.Started) (H : Type) (enc : TypeId × Value → H) (F : Stop.Interp) :
    ReturnsInHanded {} Tryd.checked os 9 .any ((OpenSpec.ofChange Rows.numInvertsSpec).preRow enc Tryd.prog Tryd.f9 Rows.numInvertsRow.domain false Rows.numInvertsRow.laid) (((OpenSpec.ofChange Rows.numInvertsSpec).at F).post enc Tryd.prog Tryd.f9 false true false false) := by
  obtain ⟨places, hx⟩ := reads os enc
  refine returnsInHanded_of_row (C := Tryd.checked) (s := OpenSpec.ofChange Rows.numInvertsSpec) Frame.own started (by kernel_rfl) Tryd.func9
    (witness_row_at (enc := enc) (C := Tryd.checked) false (laidWorld os) #[Value.int .i64 0, Value.int .i64 0, Value.int .i64 0] rfl (by kernel_rfl) (by kernel_rfl) (by kernel_rfl)
      (OpenSpec.preRow_of_cond 8 hx (by kernel_rfl) (fun k hk => by cases hk) (by kernel_rfl) (laid_met os))) ?_
  intro W base args ds gs before hval hW _ _ _ hL _ _
  exact contract H enc W base args ds gs before hval hW hL

theorem said : Rows.NumInvertsSaid :=
  OpenClaim.holds_of_cond 9 Tryd.f9 rfl rfl rfl rfl rfl rfl rfl ⟨rfl, rfl, rfl, rfl, rfl⟩ rfl rfl rfl rfl rfl (by kernel_rfl) Tryd.func9 (by kernel_rfl)
    (of_decide_eq_true (by kernel_rfl)) (by unfold Func.isWrapper; first | (rw [if_pos (by decide +kernel)]; kernel_rfl) | (rw [if_neg (by decide +kernel)]; exact ⟨rfl, rfl⟩))
    (fun os started H enc _ F => by rw [OpenClaim.pre_eq_preRow]; exact lifted os started H enc F)

theorem plain (f : FuncId) (fn : Func) (hf : Tryd.pinned.checked.prog.funcNamed "imageeditor/imageeditorlaw01.NumInverts" = some f) (hfn : Tryd.pinned.checked.prog.funcs[f]? = some fn) :
    false = Tryd.pinned.checked.prog.looks [] ∧ ∀ (j : Nat) t, fn.params[j]? = some t → Tryd.pinned.checked.prog.wantsStandIn t = false := by
  obtain rfl : f = 9 := Option.some.inj ((show Tryd.prog.funcNamed "imageeditor/imageeditorlaw01.NumInverts" = some 9 by kernel_rfl).symm.trans hf) |>.symm
  obtain rfl : fn = Tryd.f9 := (Option.some.inj (Tryd.func9.symm.trans hfn)).symm
  refine ⟨by kernel_rfl, fun j t ht => ?_⟩
  rw [Tryd.params9] at ht
  obtain rfl : t = 3 := by simpa using Array.mem_of_getElem? ht
  exact (show Tryd.prog.wantsStandIn 3 = false by kernel_rfl)

theorem card : Rows.NumInvertsCardSaid :=
  Claim7.holds_tied_plain_at .later [] _ _ _ _ said (fun _ h => by cases h) (by kernel_rfl) (fun _ h => by cases h) numInverts_row_tie rfl ⟨rfl, rfl⟩ (by kernel_rfl) rfl plain (by kernel_rfl)

end Go.Proofs.YtdchcnggjamifaaDoor.NumInverts
