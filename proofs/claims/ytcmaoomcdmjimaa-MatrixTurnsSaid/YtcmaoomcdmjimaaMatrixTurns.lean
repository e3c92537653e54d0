/-
  MatrixTurns: transposes of transposes, of products and their determinants.
-/
import Derived.Test.YtcmaoomcdmjimaaMatLw
import Derived.SizedLaws
namespace Go.Proofs.Ytcmaoomcdmjimaa.MatrixTurns
open Go.RowKit Go.Proofs.Ytcmaoomcdmjimaa Go.Proofs.Ytcmaoomcdmjimaa.NumPure Go.Proofs.Ytcmaoomcdmjimaa.MatPure Go.Proofs.Ytcmaoomcdmjimaa.Mat

theorem Three.drew {B g1 g2 g3 : Nat} {w wr : World} {A1 A2 A3 : Array Value} (h : Three B g1 g2 g3 w A1 A2 A3 wr) : Three B g1 g2 g3 w A1 A2 A3 wr.drew :=
  ⟨h.1.drew, h.2.1.drew, h.2.2.1.drew, h.2.2.2.1.drew, h.2.2.2.2⟩

theorem turn_turn (m : Nat → Int) (n : Nat) (hn : n < 9) : turnM (turnM m) n = m n := by
  unfold turnM
  congr 1
  omega
theorem ok_turn (m : Nat → Int) : okM (turnM m) = okM m := by
  rw [Bool.eq_iff_iff, okM_iff, okM_iff]
  constructor
  · intro h j hj
    have := h (3 * (j % 3) + j / 3) (by omega)
    unfold turnM at this
    rw [show 3 * ((3 * (j % 3) + j / 3) % 3) + (3 * (j % 3) + j / 3) / 3 = j by omega] at this
    exact this
  · intro h j hj
    exact h _ (by omega)
theorem turn_mul (a b : Nat → Int) (n : Nat) (hn : n < 9) : turnM (mulM a b) n = mulM (turnM b) (turnM a) n := by
  unfold mulM
  rw [ok_turn, ok_turn, Bool.and_comm]
  cases h : okM b && okM a with
  | false => rfl
  | true =>
    simp only [if_true]
    unfold turnM mul9
    dsimp only
    rw [show (3 * (n % 3) + n / 3) / 3 = n % 3 by omega, show (3 * (n % 3) + n / 3) % 3 = n / 3 by omega]
    rw [show 3 * (3 * (n / 3) % 3) + 3 * (n / 3) / 3 = n / 3 by omega, show 3 * ((3 * (n / 3) + 1) % 3) + (3 * (n / 3) + 1) / 3 = 3 + n / 3 by omega, show 3 * ((3 * (n / 3) + 2) % 3) + (3 * (n / 3) + 2) / 3 = 6 + n / 3 by omega]
    rw [show 3 * (n % 3 % 3) + n % 3 / 3 = 3 * (n % 3) by omega, show 3 * ((3 + n % 3) % 3) + (3 + n % 3) / 3 = 3 * (n % 3) + 1 by omega, show 3 * ((6 + n % 3) % 3) + (6 + n % 3) / 3 = 3 * (n % 3) + 2 by omega]
    congr 1
    rw [Int.mul_comm (b _) (a _), Int.mul_comm (b _) (a _), Int.mul_comm (b _) (a _)]
theorem det_turn (m : Nat → Int) : detM (turnM m) = detM m := by
  unfold detM
  rw [ok_turn]
  have h : det9 (turnM m) = det9 m := by
    simp only [det9, esum, cof, turnM, Int.zero_add, Nat.reduceAdd, Nat.reduceMod, Nat.reduceMul, Nat.reduceDiv]
    grind
  rw [h]

set_option maxHeartbeats 4000000 in
set_option maxRecDepth 100000 in
theorem walk (a b : Nat → Int) (w : World) : Calls Try.prog 9 #[.agg (ac 9 a), .agg (ac 9 b)] w fun e w' => e = .returned (.bool true) ∧ Below w.heap.size w w' := by
  obtain ⟨B, hB⟩ : ∃ B, B = w.heap.size := ⟨_, rfl⟩
  rw [← hB]
  have N0 := Two.new (B := B) (w := w) (w2 := w) (by rw [hB]; exact Below.refl _ _) (by omega) a b
  have ct0 := fun W => turned_any a W
  have ct1 := fun W => turned_any (turnM a) W
  rw [ac_ext (turn_turn a)] at ct1
  have ct2 := fun W => turned_any (mulM a b) W
  rw [ac_ext (turn_mul a b)] at ct2
  have ct3 := fun W => turned_any b W
  have dt1 := fun W => det_any (turnM a) W
  have dt2 := fun W => det_any a W
  rw [det_turn] at dt1
  obtain ⟨d, hd⟩ : ∃ d, detM a = d := ⟨_, rfl⟩
  rw [hd] at dt1 dt2
  have cm1 := fun W => mul_any a b W
  have cm2 := fun W => mul_any (turnM b) (turnM a) W
  obtain ⟨p, hp⟩ : ∃ p, mulM a b = p := ⟨_, rfl⟩
  obtain ⟨q, hq⟩ : ∃ q, mulM (turnM b) (turnM a) = q := ⟨_, rfl⟩
  obtain ⟨ta, hta⟩ : ∃ t, turnM a = t := ⟨_, rfl⟩
  obtain ⟨tb, htb⟩ : ∃ t, turnM b = t := ⟨_, rfl⟩
  rw [hp] at cm1 ct2
  rw [hq] at cm2 ct2
  rw [hta] at ct0 ct1 cm2 dt1
  rw [htb] at ct3 cm2
  clear hd hp hq hta htb
  go_enter Try.func9, Try.ntmps9
  go_wp2_with (refine wpList_load_row rfl _ _ rfl w.heap.size rfl 22 (ac 9 a) (0, 0) _ N0.1 Try.underlying22 rfl info9 ?_)
  obtain ⟨W0, hW0⟩ : ∃ W, W = (w.alloc (.cells (ac 9 a) 22)).alloc (.cells (ac 9 b) 22) := ⟨_, rfl⟩
  obtain ⟨g2, e2⟩ : ∃ g, g = w.heap.size + 1 := ⟨_, rfl⟩
  obtain ⟨g1, e1⟩ : ∃ g, g = w.heap.size := ⟨_, rfl⟩
  rw [← hW0, ← e2, ← e1]
  rw [← hW0, ← e2, ← e1] at N0
  clear hW0 hB e1 e2
  refine (ct0 _).mono ?_
  rintro e w4 ⟨rfl, hb4⟩
  have N1 := N0.below hb4
  clear N0 hb4 ct0
  obtain ⟨H4, D4, hb5, g12, hg1⟩ := N1
  obtain ⟨g3, e3⟩ : ∃ g, w4.heap.size = g := ⟨_, rfl⟩
  have g23 : g2 < g3 := by rw [← e3]; exact D4.lt
  have E0 : Blk (w4.alloc (.cells (ac 9 fun _ => 0) 22)) g3 22 (ac 9 fun _ => 0) := by rw [← e3]; exact Blk.new _ _ _
  have T0 : Three B g1 g2 g3 w (ac 9 a) (ac 9 b) (ac 9 ta) ((w4.alloc (.cells (ac 9 fun _ => 0) 22)).setRow g3 (ac 9 ta)) :=
    ⟨(setRow_other _ _ _ _ (by omega)).trans (H4.alloc _), (setRow_other _ _ _ _ (by omega)).trans (D4.alloc _), setRow_heap _ _ (ac 9 fun _ => 0) _ _ _ E0, below_setRow (hb5.alloc (by omega) _) (by omega) _, g12, g23, hg1⟩
  go_wp2_with (first
    | (refine wpList_alloc9g rfl rfl g3 e3 ?_)
    | (refine wpList_store_row rfl _ _ _ rfl g3 (ac 9 ta) rfl rfl 22 (ac 9 fun _ => 0) E0 info9 ac_same (ac_one 9 _) ?_))
  obtain ⟨W5, hW5⟩ : ∃ W, W = (w4.alloc (.cells (ac 9 fun _ => 0) 22)).setRow g3 (ac 9 ta) := ⟨_, rfl⟩
  rw [← hW5] at T0 ⊢
  clear hW5 E0 e3 H4 D4 hb5
  have KK : Hid (∀ W1 W' : World, Three B g1 g2 g3 w (ac 9 a) (ac 9 b) (ac 9 ta) W1 → Below W1.heap.size W1 W' → Three B g1 g2 g3 w (ac 9 a) (ac 9 b) (ac 9 ta) W') := Lib.hid (fun W1 W' h hq => h.below hq)
  refine wp_region_held_drew (S := fun w' => Three B g1 g2 g3 w (ac 9 a) (ac 9 b) (ac 9 ta) w') (by kernel_rfl) (Three.drew T0) (fun hHeld => ?_)
  refine wpAnyH_ready (rs := [0]) (by kernel_rfl) (by simp) ?_
  refine AllReadyH.cons (o := _) rfl (fun K hK => ?_) AllReadyH.nil
  go_simp
  go_at_call 10
  refine (awake_any _).mono ?_
  rintro e w6 ⟨rfl, hbq⟩
  go_wp2_with fail
  refine hK.out _ _ (KK.out _ _ (by assumption) hbq) (fun hHeld => ?_)
  clear hK hbq
  try simp only [Act.put, List.setIfInBounds_toArray, List.set_cons_zero, List.set_cons_succ]
  refine wpAnyH_take (i := 1) (oi := _) (v := .bool true) rfl (by kernel_rfl) (by kernel_rfl) (by kernel_rfl) (fun _ _ _ h => h) (Or.inl ⟨by rfl, fun W1 _ => by go_simp⟩) (by assumption) ?_
  go_simp
  refine wpAnyH_take (i := 2) (oi := _) (v := _) rfl (by kernel_rfl) (by kernel_rfl) (by kernel_rfl) (fun _ _ _ h => h) (yLoad9 rfl _ rfl g3 rfl ta (fun _ h => h.2.2.1)) (by assumption) ?_
  go_simp
  refine wpAnyH_take (i := 4) (oi := _) (v := _) rfl (by kernel_rfl) (by kernel_rfl) (by kernel_rfl) (fun _ _ _ h => h) (yLoad9 rfl _ rfl g1 rfl a (fun _ h => h.1)) (by assumption) ?_
  go_simp
  refine wpAnyH_ready (rs := [3]) (by kernel_rfl) (by simp) ?_
  refine AllReadyH.cons (o := _) rfl (fun K hK => ?_) AllReadyH.nil
  go_simp
  go_at_call 23
  refine (ct1 _).mono ?_
  rintro e w7 ⟨rfl, hbq⟩
  go_wp2_with fail
  refine hK.out _ _ (KK.out _ _ (by assumption) hbq) (fun hHeld => ?_)
  clear hK hbq
  try simp only [Act.put, List.setIfInBounds_toArray, List.set_cons_zero, List.set_cons_succ]
  refine wpAnyH_take (i := 5) (oi := _) (v := .bool true) rfl (by kernel_rfl) (by kernel_rfl) (by kernel_rfl) (fun _ _ _ h => h) (yBin rfl _ _ _ _ _ rfl (fun _ => by kernel_rfl) (fun W => eql9_self a W)) (by assumption) ?_
  go_simp
  refine wpAnyH_take (i := 6) (oi := _) (v := .bool true) rfl (by kernel_rfl) (by kernel_rfl) (by kernel_rfl) (fun _ _ _ h => h) (Or.inl ⟨by rfl, fun W1 _ => by go_simp⟩) (by assumption) ?_
  go_simp
  refine wpAnyH_take (i := 7) (oi := _) (v := .bool true) rfl (by kernel_rfl) (by kernel_rfl) (by kernel_rfl) (fun _ _ _ h => h) (Or.inl ⟨by rfl, fun W1 _ => by go_simp⟩) (by assumption) ?_
  go_simp
  refine wpAnyH_take (i := 8) (oi := _) (v := _) rfl (by kernel_rfl) (by kernel_rfl) (by kernel_rfl) (fun _ _ _ h => h) (yLoad9 rfl _ rfl g1 rfl a (fun _ h => h.1)) (by assumption) ?_
  go_simp
  refine wpAnyH_take (i := 9) (oi := _) (v := _) rfl (by kernel_rfl) (by kernel_rfl) (by kernel_rfl) (fun _ _ _ h => h) (yLoad9 rfl _ rfl g2 rfl b (fun _ h => h.2.1)) (by assumption) ?_
  go_simp
  refine wpAnyH_take (i := 12) (oi := _) (v := _) rfl (by kernel_rfl) (by kernel_rfl) (by kernel_rfl) (fun _ _ _ h => h) (yLoad9 rfl _ rfl g2 rfl b (fun _ h => h.2.1)) (by assumption) ?_
  go_simp
  refine wpAnyH_take (i := 14) (oi := _) (v := _) rfl (by kernel_rfl) (by kernel_rfl) (by kernel_rfl) (fun _ _ _ h => h) (yLoad9 rfl _ rfl g3 rfl ta (fun _ h => h.2.2.1)) (by assumption) ?_
  go_simp
  refine wpAnyH_ready (rs := [10]) (by kernel_rfl) (by simp) ?_
  refine AllReadyH.cons (o := _) rfl (fun K hK => ?_) AllReadyH.nil
  go_simp
  go_at_call 19
  refine (cm1 _).mono ?_
  rintro e w8 ⟨rfl, hbq⟩
  go_wp2_with fail
  refine hK.out _ _ (KK.out _ _ (by assumption) hbq) (fun hHeld => ?_)
  clear hK hbq
  try simp only [Act.put, List.setIfInBounds_toArray, List.set_cons_zero, List.set_cons_succ]
  refine wpAnyH_ready (rs := [11]) (by kernel_rfl) (by simp) ?_
  refine AllReadyH.cons (o := _) rfl (fun K hK => ?_) AllReadyH.nil
  go_simp
  go_at_call 23
  refine (ct2 _).mono ?_
  rintro e w9 ⟨rfl, hbq⟩
  go_wp2_with fail
  refine hK.out _ _ (KK.out _ _ (by assumption) hbq) (fun hHeld => ?_)
  clear hK hbq
  try simp only [Act.put, List.setIfInBounds_toArray, List.set_cons_zero, List.set_cons_succ]
  refine wpAnyH_ready (rs := [13]) (by kernel_rfl) (by simp) ?_
  refine AllReadyH.cons (o := _) rfl (fun K hK => ?_) AllReadyH.nil
  go_simp
  go_at_call 23
  refine (ct3 _).mono ?_
  rintro e w10 ⟨rfl, hbq⟩
  go_wp2_with fail
  refine hK.out _ _ (KK.out _ _ (by assumption) hbq) (fun hHeld => ?_)
  clear hK hbq
  try simp only [Act.put, List.setIfInBounds_toArray, List.set_cons_zero, List.set_cons_succ]
  refine wpAnyH_ready (rs := [15]) (by kernel_rfl) (by simp) ?_
  refine AllReadyH.cons (o := _) rfl (fun K hK => ?_) AllReadyH.nil
  go_simp
  go_at_call 19
  refine (cm2 _).mono ?_
  rintro e w11 ⟨rfl, hbq⟩
  go_wp2_with fail
  refine hK.out _ _ (KK.out _ _ (by assumption) hbq) (fun hHeld => ?_)
  clear hK hbq
  try simp only [Act.put, List.setIfInBounds_toArray, List.set_cons_zero, List.set_cons_succ]
  refine wpAnyH_take (i := 16) (oi := _) (v := .bool true) rfl (by kernel_rfl) (by kernel_rfl) (by kernel_rfl) (fun _ _ _ h => h) (yBin rfl _ _ _ _ _ rfl (fun _ => by kernel_rfl) (fun W => eql9_self q W)) (by assumption) ?_
  go_simp
  refine wpAnyH_take (i := 17) (oi := _) (v := .bool true) rfl (by kernel_rfl) (by kernel_rfl) (by kernel_rfl) (fun _ _ _ h => h) (Or.inl ⟨by rfl, fun W1 _ => by go_simp⟩) (by assumption) ?_
  go_simp
  refine wpAnyH_take (i := 18) (oi := _) (v := .bool true) rfl (by kernel_rfl) (by kernel_rfl) (by kernel_rfl) (fun _ _ _ h => h) (Or.inl ⟨by rfl, fun W1 _ => by go_simp⟩) (by assumption) ?_
  go_simp
  refine wpAnyH_take (i := 19) (oi := _) (v := _) rfl (by kernel_rfl) (by kernel_rfl) (by kernel_rfl) (fun _ _ _ h => h) (yLoad9 rfl _ rfl g3 rfl ta (fun _ h => h.2.2.1)) (by assumption) ?_
  go_simp
  refine wpAnyH_take (i := 21) (oi := _) (v := _) rfl (by kernel_rfl) (by kernel_rfl) (by kernel_rfl) (fun _ _ _ h => h) (yLoad9 rfl _ rfl g1 rfl a (fun _ h => h.1)) (by assumption) ?_
  go_simp
  refine wpAnyH_ready (rs := [20]) (by kernel_rfl) (by simp) ?_
  refine AllReadyH.cons (o := _) rfl (fun K hK => ?_) AllReadyH.nil
  go_simp
  go_at_call 15
  refine (dt1 _).mono ?_
  rintro e w12 ⟨rfl, hbq⟩
  go_wp2_with fail
  refine hK.out _ _ (KK.out _ _ (by assumption) hbq) (fun hHeld => ?_)
  clear hK hbq
  try simp only [Act.put, List.setIfInBounds_toArray, List.set_cons_zero, List.set_cons_succ]
  refine wpAnyH_ready (rs := [22]) (by kernel_rfl) (by simp) ?_
  refine AllReadyH.cons (o := _) rfl (fun K hK => ?_) AllReadyH.nil
  go_simp
  go_at_call 15
  refine (dt2 _).mono ?_
  rintro e w13 ⟨rfl, hbq⟩
  go_wp2_with fail
  refine hK.out _ _ (KK.out _ _ (by assumption) hbq) (fun hHeld => ?_)
  clear hK hbq
  try simp only [Act.put, List.setIfInBounds_toArray, List.set_cons_zero, List.set_cons_succ]
  refine wpAnyH_take (i := 23) (oi := _) (v := .bool true) rfl (by kernel_rfl) (by kernel_rfl) (by kernel_rfl) (fun _ _ _ h => h) (Or.inl ⟨by rfl, fun W1 _ => by go_simp⟩) (by assumption) ?_
  go_simp
  refine wpAnyH_take (i := 24) (oi := _) (v := .bool true) rfl (by kernel_rfl) (by kernel_rfl) (by kernel_rfl) (fun _ _ _ h => h) (Or.inl ⟨by rfl, fun W1 _ => by go_simp⟩) (by assumption) ?_
  go_simp
  refine wpAnyH_take (i := 25) (oi := _) (v := .bool true) rfl (by kernel_rfl) (by kernel_rfl) (by kernel_rfl) (fun _ _ _ h => h) (Or.inl ⟨by rfl, fun W1 _ => by go_simp⟩) (by assumption) ?_
  go_simp
  refine wpAnyH_done (by kernel_rfl) ?_ _
  have HF : Hid (∀ W1 : World, Three B g1 g2 g3 w (ac 9 a) (ac 9 b) (ac 9 ta) W1 → Below B w W1) := Lib.hid (fun _ h => h.2.2.2.1)
  go_wp2_with fail
  go_ret
  exact ⟨rfl, HF.out _ (by assumption)⟩

open Go.ChangeShapes Go.WideShapes Go.ChangeAt Go.Joins

theorem contract (H : Type) (enc : TypeId × Value → H) (W : World) (base : Nat) (args : Array Value) (ds gs : List (DataW H)) (before : List MemPlace)
    (hval : ∀ (j : Nat) t v, Try.f9.params[j]? = some t → args[j]? = some v → Value.okWide Try.prog W .any base t v)
    (hW : DataW.Whole enc Try.prog Try.f9.params.toList Rows.matrixTurnsSpec.vars false W args.toList ds gs before) :
    Calls Try.prog 9 args W fun e W' => ∃ v, e = .returned v ∧ Rows.matrixTurnsSpec.post enc Try.prog Try.f9 false true false false W args v W' := by
  have hW' := hW
  obtain ⟨p, q, hA0, hV, rfl, hfz, hnd⟩ := hW
  have hA : DataW.TrodAll enc Try.prog W 0 (fun _ => true) true Try.f9.params.toList args.toList ds p := hA0
  rw [Try.params9] at hA hval
  obtain ⟨v0, vs0, d0, ds0, p0, q0, hargs, rfl, rfl, g0, r0⟩ := trodAll_cons hA
  obtain ⟨v1, vs1, d1, ds1, p1, q1, rfl, rfl, rfl, g1, r1⟩ := trodAll_cons r0
  obtain ⟨rfl, rfl, rfl⟩ := trodAll_nil r1
  obtain rfl : args = #[v0, v1] := by cases args; simp_all
  obtain ⟨rfl, rfl⟩ := trodVars_none hV
  obtain ⟨m0, rfl⟩ := open9 (hval 0 22 v0 rfl rfl)
  obtain ⟨m1, rfl⟩ := open9 (hval 1 22 v1 rfl rfl)
  clear hA0
  refine (walk m0 m1 W).mono fun e W' ⟨he, hb⟩ => ?_
  subst he
  exact ⟨_, rfl, Frame.law_post Frame.laidOut (by kernel_rfl) Try.underlying4 (by kernel_rfl) rfl rfl hW' hb⟩

set_option maxRecDepth 100000 in
theorem lifted (os : Os) (started : os.Started) (H : Type) (enc : TypeId × Value → H) :
    ReturnsInHanded {} Try.checked os 9 .any (Rows.matrixTurnsSpec.pre6 enc Try.prog Try.f9 Rows.matrixTurnsRow.domain false) (Rows.matrixTurnsSpec.post enc Try.prog Try.f9 false true false false) := by
  refine returnsInHanded_of_change (C := Try.checked) Frame.own started (by kernel_rfl) Try.func9
    (ChangeSpec.witness6 (enc := enc) (C := Try.checked) false ⟨#[], #[.agg (Array.replicate 9 (.int .i64 0)), .agg (Array.replicate 9 (.int .i64 0))], []⟩ 8 (by kernel_rfl) (by kernel_rfl) (by kernel_rfl) (by kernel_rfl)) ?_
  intro W base args ds gs before hval hW _ _
  exact contract H enc W base args ds gs before hval hW

theorem proved : Rows.MatrixTurnsSaid :=
  OpenClaim.holds_of_wide 9 Try.f9 rfl rfl rfl rfl rfl rfl rfl ⟨rfl, rfl, rfl, rfl, rfl⟩ rfl rfl rfl rfl rfl (by kernel_rfl) Try.func9 (by kernel_rfl)
    (of_decide_eq_true (by kernel_rfl)) (by unfold Func.isWrapper; first | (rw [if_pos (by decide +kernel)]; kernel_rfl) | (rw [if_neg (by decide +kernel)]; exact ⟨rfl, rfl⟩))
    (fun os started H enc _ => lifted os started H enc)

end Go.Proofs.Ytcmaoomcdmjimaa.MatrixTurns
