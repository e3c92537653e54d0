/-
  MatrixProducts: package matrix's Check, Mul and Turned are the reference's.
-/
import Derived.Test.YtcmaoomcdmjimaaMatLw
import Derived.SizedLaws
namespace Go.Proofs.Ytcmaoomcdmjimaa.MatrixProducts
open Go.RowKit Go.Proofs.Ytcmaoomcdmjimaa Go.Proofs.Ytcmaoomcdmjimaa.NumPure Go.Proofs.Ytcmaoomcdmjimaa.MatPure Go.Proofs.Ytcmaoomcdmjimaa.Mat

theorem Two.drew {B g1 g2 : Nat} {w wr : World} {A1 A2 : Array Value} (h : Two B g1 g2 w A1 A2 wr) : Two B g1 g2 w A1 A2 wr.drew :=
  ⟨h.1.drew, h.2.1.drew, h.2.2.1.drew, h.2.2.2⟩
def chk (m : Nat → Int) : Int := if okM m then 0 else 2
theorem check_any (m : Nat → Int) (w : World) : Calls Try.prog 18 #[.agg (ac 9 m)] w fun e w' => e = .returned (.int .i64 (chk m)) ∧ Below w.heap.size w w' := by
  unfold chk
  cases h : okM m with
  | true => exact check_ok m h w
  | false => exact check_bad m h w
theorem rCheck_any (m : Nat → Int) (w : World) : Calls Try.prog 21 #[.agg (ac 9 m)] w fun e w' => e = .returned (.int .i64 (chk m)) ∧ Below w.heap.size w w' := by
  unfold chk
  cases h : okM m with
  | true => exact rCheck_ok m h w
  | false => exact rCheck_bad m h w

set_option maxHeartbeats 4000000 in
set_option maxRecDepth 100000 in
theorem walk (a b : Nat → Int) (w : World) : Calls Try.prog 8 #[.agg (ac 9 a), .agg (ac 9 b)] w fun e w' => e = .returned (.bool true) ∧ Below w.heap.size w w' := by
  obtain ⟨B, hB⟩ : ∃ B, B = w.heap.size := ⟨_, rfl⟩
  rw [← hB]
  have T0 := Two.new (B := B) (w := w) (w2 := w) (by rw [hB]; exact Below.refl _ _) (by omega) a b
  obtain ⟨c, hc⟩ : ∃ c, chk a = c := ⟨_, rfl⟩
  have ck1 := fun W => check_any a W
  have ck2 := fun W => rCheck_any a W
  rw [hc] at ck1 ck2
  clear hc
  go_enter Try.func8, Try.ntmps8
  go_wp2_with fail
  obtain ⟨W1, hW1⟩ : ∃ W, W = (w.alloc (.cells (ac 9 a) 22)).alloc (.cells (ac 9 b) 22) := ⟨_, rfl⟩
  obtain ⟨g2, e2⟩ : ∃ g, g = w.heap.size + 1 := ⟨_, rfl⟩
  obtain ⟨g1, e1⟩ : ∃ g, g = w.heap.size := ⟨_, rfl⟩
  rw [← hW1, ← e2, ← e1]
  rw [← hW1, ← e2, ← e1] at T0
  clear hW1 hB e1 e2
  have KK : Hid (∀ W1 W' : World, Two B g1 g2 w (ac 9 a) (ac 9 b) W1 → Below W1.heap.size W1 W' → Two B g1 g2 w (ac 9 a) (ac 9 b) W') := Lib.hid (fun W1 W' h hq => h.below hq)
  refine wp_region_held_drew (S := fun w' => Two B g1 g2 w (ac 9 a) (ac 9 b) w') (by kernel_rfl) (Two.drew T0) (fun hHeld => ?_)
  refine wpAnyH_ready (rs := [0]) (by kernel_rfl) (by simp) ?_
  refine AllReadyH.cons (o := _) rfl (fun K hK => ?_) AllReadyH.nil
  go_simp
  go_at_call 10
  refine (awake_any _).mono ?_
  rintro e w2 ⟨rfl, hbq⟩
  go_wp2_with fail
  refine hK.out _ _ (KK.out _ _ (by assumption) hbq) (fun hHeld => ?_)
  clear hK hbq
  try simp only [Act.put, List.setIfInBounds_toArray, List.set_cons_zero, List.set_cons_succ]
  refine wpAnyH_take (i := 1) (oi := _) (v := .bool true) rfl (by kernel_rfl) (by kernel_rfl) (by kernel_rfl) (fun _ _ _ h => h) (Or.inl ⟨by rfl, fun W1 _ => by go_simp⟩) (by assumption) ?_
  go_simp
  refine wpAnyH_take (i := 2) (oi := _) (v := _) rfl (by kernel_rfl) (by kernel_rfl) (by kernel_rfl) (fun _ _ _ h => h) (yLoad9 rfl _ rfl g1 rfl a (fun _ h => h.1)) (by assumption) ?_
  go_simp
  refine wpAnyH_take (i := 4) (oi := _) (v := _) rfl (by kernel_rfl) (by kernel_rfl) (by kernel_rfl) (fun _ _ _ h => h) (yLoad9 rfl _ rfl g1 rfl a (fun _ h => h.1)) (by assumption) ?_
  go_simp
  refine wpAnyH_ready (rs := [3]) (by kernel_rfl) (by simp) ?_
  refine AllReadyH.cons (o := _) rfl (fun K hK => ?_) AllReadyH.nil
  go_simp
  go_at_call 18
  refine (ck1 _).mono ?_
  rintro e w3 ⟨rfl, hbq⟩
  go_wp2_with fail
  refine hK.out _ _ (KK.out _ _ (by assumption) hbq) (fun hHeld => ?_)
  clear hK hbq
  try simp only [Act.put, List.setIfInBounds_toArray, List.set_cons_zero, List.set_cons_succ]
  refine wpAnyH_ready (rs := [5]) (by kernel_rfl) (by simp) ?_
  refine AllReadyH.cons (o := _) rfl (fun K hK => ?_) AllReadyH.nil
  go_simp
  go_at_call 21
  refine (ck2 _).mono ?_
  rintro e w4 ⟨rfl, hbq⟩
  go_wp2_with fail
  refine hK.out _ _ (KK.out _ _ (by assumption) hbq) (fun hHeld => ?_)
  clear hK hbq
  try simp only [Act.put, List.setIfInBounds_toArray, List.set_cons_zero, List.set_cons_succ]
  refine wpAnyH_take (i := 6) (oi := _) (v := .bool true) rfl (by kernel_rfl) (by kernel_rfl) (by kernel_rfl) (fun _ _ _ h => h) (Or.inl ⟨by rfl, fun W1 _ => by go_simp⟩) (by assumption) ?_
  go_simp
  refine wpAnyH_take (i := 7) (oi := _) (v := .bool true) rfl (by kernel_rfl) (by kernel_rfl) (by kernel_rfl) (fun _ _ _ h => h) (Or.inl ⟨by rfl, fun W1 _ => by go_simp⟩) (by assumption) ?_
  go_simp
  refine wpAnyH_take (i := 8) (oi := _) (v := .bool true) rfl (by kernel_rfl) (by kernel_rfl) (by kernel_rfl) (fun _ _ _ h => h) (Or.inl ⟨by rfl, fun W1 _ => by go_simp⟩) (by assumption) ?_
  go_simp
  refine wpAnyH_take (i := 9) (oi := _) (v := _) rfl (by kernel_rfl) (by kernel_rfl) (by kernel_rfl) (fun _ _ _ h => h) (yLoad9 rfl _ rfl g1 rfl a (fun _ h => h.1)) (by assumption) ?_
  go_simp
  refine wpAnyH_take (i := 10) (oi := _) (v := _) rfl (by kernel_rfl) (by kernel_rfl) (by kernel_rfl) (fun _ _ _ h => h) (yLoad9 rfl _ rfl g2 rfl b (fun _ h => h.2.1)) (by assumption) ?_
  go_simp
  refine wpAnyH_take (i := 12) (oi := _) (v := _) rfl (by kernel_rfl) (by kernel_rfl) (by kernel_rfl) (fun _ _ _ h => h) (yLoad9 rfl _ rfl g1 rfl a (fun _ h => h.1)) (by assumption) ?_
  go_simp
  refine wpAnyH_take (i := 13) (oi := _) (v := _) rfl (by kernel_rfl) (by kernel_rfl) (by kernel_rfl) (fun _ _ _ h => h) (yLoad9 rfl _ rfl g2 rfl b (fun _ h => h.2.1)) (by assumption) ?_
  go_simp
  refine wpAnyH_ready (rs := [11]) (by kernel_rfl) (by simp) ?_
  refine AllReadyH.cons (o := _) rfl (fun K hK => ?_) AllReadyH.nil
  go_simp
  go_at_call 19
  refine (mul_any a b _).mono ?_
  rintro e w5 ⟨rfl, hbq⟩
  go_wp2_with fail
  refine hK.out _ _ (KK.out _ _ (by assumption) hbq) (fun hHeld => ?_)
  clear hK hbq
  try simp only [Act.put, List.setIfInBounds_toArray, List.set_cons_zero, List.set_cons_succ]
  refine wpAnyH_ready (rs := [14]) (by kernel_rfl) (by simp) ?_
  refine AllReadyH.cons (o := _) rfl (fun K hK => ?_) AllReadyH.nil
  go_simp
  go_at_call 22
  refine (rMul_any a b _).mono ?_
  rintro e w6 ⟨rfl, hbq⟩
  go_wp2_with fail
  refine hK.out _ _ (KK.out _ _ (by assumption) hbq) (fun hHeld => ?_)
  clear hK hbq
  try simp only [Act.put, List.setIfInBounds_toArray, List.set_cons_zero, List.set_cons_succ]
  refine wpAnyH_take (i := 15) (oi := _) (v := .bool true) rfl (by kernel_rfl) (by kernel_rfl) (by kernel_rfl) (fun _ _ _ h => h) (yBin rfl _ _ _ _ _ rfl (fun _ => by kernel_rfl) (fun W => eql9_self (mulM a b) W)) (by assumption) ?_
  go_simp
  refine wpAnyH_take (i := 16) (oi := _) (v := .bool true) rfl (by kernel_rfl) (by kernel_rfl) (by kernel_rfl) (fun _ _ _ h => h) (Or.inl ⟨by rfl, fun W1 _ => by go_simp⟩) (by assumption) ?_
  go_simp
  refine wpAnyH_take (i := 17) (oi := _) (v := .bool true) rfl (by kernel_rfl) (by kernel_rfl) (by kernel_rfl) (fun _ _ _ h => h) (Or.inl ⟨by rfl, fun W1 _ => by go_simp⟩) (by assumption) ?_
  go_simp
  refine wpAnyH_take (i := 18) (oi := _) (v := _) rfl (by kernel_rfl) (by kernel_rfl) (by kernel_rfl) (fun _ _ _ h => h) (yLoad9 rfl _ rfl g1 rfl a (fun _ h => h.1)) (by assumption) ?_
  go_simp
  refine wpAnyH_take (i := 20) (oi := _) (v := _) rfl (by kernel_rfl) (by kernel_rfl) (by kernel_rfl) (fun _ _ _ h => h) (yLoad9 rfl _ rfl g1 rfl a (fun _ h => h.1)) (by assumption) ?_
  go_simp
  refine wpAnyH_ready (rs := [19]) (by kernel_rfl) (by simp) ?_
  refine AllReadyH.cons (o := _) rfl (fun K hK => ?_) AllReadyH.nil
  go_simp
  go_at_call 23
  refine (turned_any a _).mono ?_
  rintro e w7 ⟨rfl, hbq⟩
  go_wp2_with fail
  refine hK.out _ _ (KK.out _ _ (by assumption) hbq) (fun hHeld => ?_)
  clear hK hbq
  try simp only [Act.put, List.setIfInBounds_toArray, List.set_cons_zero, List.set_cons_succ]
  refine wpAnyH_ready (rs := [21]) (by kernel_rfl) (by simp) ?_
  refine AllReadyH.cons (o := _) rfl (fun K hK => ?_) AllReadyH.nil
  go_simp
  go_at_call 24
  refine (rTurned_any a _).mono ?_
  rintro e w8 ⟨rfl, hbq⟩
  go_wp2_with fail
  refine hK.out _ _ (KK.out _ _ (by assumption) hbq) (fun hHeld => ?_)
  clear hK hbq
  try simp only [Act.put, List.setIfInBounds_toArray, List.set_cons_zero, List.set_cons_succ]
  refine wpAnyH_take (i := 22) (oi := _) (v := .bool true) rfl (by kernel_rfl) (by kernel_rfl) (by kernel_rfl) (fun _ _ _ h => h) (yBin rfl _ _ _ _ _ rfl (fun _ => by kernel_rfl) (fun W => eql9_self (turnM a) W)) (by assumption) ?_
  go_simp
  refine wpAnyH_take (i := 23) (oi := _) (v := .bool true) rfl (by kernel_rfl) (by kernel_rfl) (by kernel_rfl) (fun _ _ _ h => h) (Or.inl ⟨by rfl, fun W1 _ => by go_simp⟩) (by assumption) ?_
  go_simp
  refine wpAnyH_take (i := 24) (oi := _) (v := .bool true) rfl (by kernel_rfl) (by kernel_rfl) (by kernel_rfl) (fun _ _ _ h => h) (Or.inl ⟨by rfl, fun W1 _ => by go_simp⟩) (by assumption) ?_
  go_simp
  refine wpAnyH_done (by kernel_rfl) ?_ _
  have HF : Hid (∀ W1 : World, Two B g1 g2 w (ac 9 a) (ac 9 b) W1 → Below B w W1) := Lib.hid (fun _ h => h.2.2.1)
  go_wp2_with fail
  go_ret
  exact ⟨rfl, HF.out _ (by assumption)⟩

open Go.ChangeShapes Go.WideShapes Go.ChangeAt Go.Joins

theorem contract (H : Type) (enc : TypeId × Value → H) (W : World) (base : Nat) (args : Array Value) (ds gs : List (DataW H)) (before : List MemPlace)
    (hval : ∀ (j : Nat) t v, Try.f8.params[j]? = some t → args[j]? = some v → Value.okWide Try.prog W .any base t v)
    (hW : DataW.Whole enc Try.prog Try.f8.params.toList Rows.matrixProductsSpec.vars false W args.toList ds gs before) :
    Calls Try.prog 8 args W fun e W' => ∃ v, e = .returned v ∧ Rows.matrixProductsSpec.post enc Try.prog Try.f8 false true false false W args v W' := by
  have hW' := hW
  obtain ⟨p, q, hA0, hV, rfl, hfz, hnd⟩ := hW
  have hA : DataW.TrodAll enc Try.prog W 0 (fun _ => true) true Try.f8.params.toList args.toList ds p := hA0
  rw [Try.params8] at hA hval
  obtain ⟨v0, vs0, d0, ds0, p0, q0, hargs, rfl, rfl, g0, r0⟩ := trodAll_cons hA
  obtain ⟨v1, vs1, d1, ds1, p1, q1, rfl, rfl, rfl, g1, r1⟩ := trodAll_cons r0
  obtain ⟨rfl, rfl, rfl⟩ := trodAll_nil r1
  obtain rfl : args = #[v0, v1] := by cases args; simp_all
  obtain ⟨rfl, rfl⟩ := trodVars_none hV
  obtain ⟨m0, rfl⟩ := open9 (hval 0 22 v0 rfl rfl)
  obtain ⟨m1, rfl⟩ := open9 (hval 1 22 v1 rfl rfl)
  clear hA0
  refine (walk m0 m1 W).mono fun e W' ⟨he, hb⟩ => ?_
  subst he
  exact ⟨_, rfl, Frame.law_post Frame.laidOut (by kernel_rfl) Try.underlying4 (by kernel_rfl) rfl rfl hW' hb⟩

set_option maxRecDepth 100000 in
theorem lifted (os : Os) (started : os.Started) (H : Type) (enc : TypeId × Value → H) :
    ReturnsInHanded {} Try.checked os 8 .any (Rows.matrixProductsSpec.pre6 enc Try.prog Try.f8 Rows.matrixProductsRow.domain false) (Rows.matrixProductsSpec.post enc Try.prog Try.f8 false true false false) := by
  refine returnsInHanded_of_change (C := Try.checked) Frame.own started (by kernel_rfl) Try.func8
    (ChangeSpec.witness6 (enc := enc) (C := Try.checked) false ⟨#[], #[.agg (Array.replicate 9 (.int .i64 0)), .agg (Array.replicate 9 (.int .i64 0))], []⟩ 8 (by kernel_rfl) (by kernel_rfl) (by kernel_rfl) (by kernel_rfl)) ?_
  intro W base args ds gs before hval hW _ _
  exact contract H enc W base args ds gs before hval hW

theorem proved : Rows.MatrixProductsSaid :=
  OpenClaim.holds_of_wide 8 Try.f8 rfl rfl rfl rfl rfl rfl rfl ⟨rfl, rfl, rfl, rfl, rfl⟩ rfl rfl rfl rfl rfl (by kernel_rfl) Try.func8 (by kernel_rfl)
    (of_decide_eq_true (by kernel_rfl)) (by unfold Func.isWrapper; first | (rw [if_pos (by decide +kernel)]; kernel_rfl) | (rw [if_neg (by decide +kernel)]; exact ⟨rfl, rfl⟩))
    (fun os started H enc _ => lifted os started H enc)

end Go.Proofs.Ytcmaoomcdmjimaa.MatrixProducts
