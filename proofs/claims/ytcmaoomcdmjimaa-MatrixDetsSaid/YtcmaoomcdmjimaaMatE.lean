/-
  Package matrix: Det and Inverse.
-/
import Derived.Test.YtcmaoomcdmjimaaMatD
import Derived.Test.YtcmaoomcdmjimaaNumRt
namespace Go.Proofs.Ytcmaoomcdmjimaa.Mat
open Go.RowKit Go.Proofs.Ytcmaoomcdmjimaa Go.Proofs.Ytcmaoomcdmjimaa.NumPure Go.Proofs.Ytcmaoomcdmjimaa.MatPure

set_option maxHeartbeats 2000000 in
theorem det_any (m : Nat → Int) (w : World) : Calls Try.prog 15 #[.agg (ac 9 m)] w fun e w' => e = .returned (.int .i64 (detM m)) ∧ Below w.heap.size w w' := by
  obtain ⟨B, hB⟩ : ∃ B, B = w.heap.size := ⟨_, rfl⟩
  rw [← hB]
  go_enter Try.func15, Try.ntmps15
  go_wp2_with (refine wpList_load_row rfl _ _ rfl w.heap.size rfl 22 (ac 9 m) (0, 0) _ (heap_alloc_new _ _) Try.underlying22 rfl info9 ?_)
  have H0 := Blk.new w 22 (ac 9 m)
  have hb0 : Below B w (w.alloc (.cells (ac 9 m) 22)) := by rw [hB]; exact (Below.refl _ _).alloc (Nat.le_refl _) _
  obtain ⟨W, hW⟩ : ∃ W, W = w.alloc (.cells (ac 9 m) 22) := ⟨_, rfl⟩
  obtain ⟨g, eg⟩ : ∃ g, g = w.heap.size := ⟨_, rfl⟩
  rw [← hW, ← eg] at H0 ⊢
  rw [← hW] at hb0
  have hg : B ≤ g := by omega
  clear hW hB eg
  cases hm : okM m with
  | false =>
    have HD : Hid (detM m = 0) := Lib.hid (by unfold detM; rw [hm]; rfl)
    refine (check_bad m hm _).mono ?_
    rintro e w1 ⟨rfl, hb1⟩
    clear hm
    go_wp2_with fail
    go_ret
    exact ⟨by rw [HD.out]; rfl, hb0.trans (hb1.mono (by have := H0.lt; omega))⟩
  | true =>
    have HD : Hid (dvr (det9 m) 4294967296 = detM m) := Lib.hid (by unfold detM; rw [hm]; rfl)
    have hd := det9_in m hm
    refine (check_ok m hm _).mono ?_
    rintro e w1 ⟨rfl, hb1⟩
    have H1 := H0.below hb1 H0.lt
    have hb2 := hb0.trans (hb1.mono (by have := H0.lt; omega))
    have HE := Lib.hid (fun W => exact_any m hm W)
    clear hm H0 hb0 hb1
    go_wp2_with (refine wpList_load_row rfl _ _ rfl g rfl 22 (ac 9 m) (0, 0) _ H1 Try.underlying22 rfl info9 ?_)
    refine (HE.out _).mono ?_
    rintro e w2 ⟨rfl, hb3⟩
    have hb4 := hb2.trans (hb3.mono (by have := H1.lt; omega))
    clear H1 hb2 hb3
    go_wp2_with fail
    refine (Num.div_is (det9 m) 4294967296 _ rfl (by omega) (by omega) (by omega) (by omega) _).mono ?_
    rintro e w3 ⟨rfl, rfl⟩
    go_wp2_with fail
    go_ret
    exact ⟨by rw [← HD.out]; rfl, hb4⟩

def invE (m : Nat → Int) (n : Nat) : Int := ratU (cof m (n % 3) (n / 3) * 65536) (det9 m)
/-- What Inverse answers: the matrix and the error. -/
def invM (m : Nat → Int) : Nat → Int := if okM m then if det9 m = 0 then fun _ => 0 else if okM (invE m) then invE m else fun _ => 0 else fun _ => 0
def invX (m : Nat → Int) : Int := if okM m then if det9 m = 0 then 17 else if okM (invE m) then 0 else 17 else 2

theorem results_two9 {fn : Func} {p t : Tmp} (h : fn.results = #[.cell p 22, .tmp t]) (tmps : Array Value) (w : World) (g : Nat) (m : Nat → Int)
    (hp : tmps.getD p undef = .pointer (some ⟨g, 0, none⟩)) (x : Value) (hx : tmps.getD t undef = x) (hg : w.heap[g]? = some (.cells (ac 9 m) 22 (0, 0))) :
    (results fn tmps).run Try.prog w = .ok (.tuple #[.agg (ac 9 m), x]) w := by
  subst hx
  have hp' : tmps[p]?.getD undef = .pointer (some ⟨g, 0, none⟩) := by simpa using hp
  simp [results, h, hp', asAddr, run_loadVar_row w g 22 22 (ac 9 m) (0, 0) _ hg Try.underlying22 rfl info9]

theorem built9 : Try.prog.built 22 [] = some (ac 9 fun _ => 0) := by kernel_rfl
theorem wpList_build9 {ops : Array Oper} {rest : List Oper} {o : Oper} {a : Act} {w : World} {Q : Exit → Act → World → Prop} (hg : o.guard = none) (ho : o.op = .build 22 #[])
    (h : wpList Try.prog ops Q rest (a.put o.dst (.agg (ac 9 fun _ => 0))) w) : wpList Try.prog ops Q (o :: rest) a w := by
  refine wpList_build hg 22 #[] ho (by simp [built9]) ?_
  simp only [List.map_toArray, List.map_nil, built9, Option.getD_some]
  exact h

/-- Three blocks: the argument's, the result's, the array that is filled. -/
def Three (B g1 g2 g3 : Nat) (w : World) (A1 A2 A3 : Array Value) (wr : World) : Prop :=
  Blk wr g1 22 A1 ∧ Blk wr g2 22 A2 ∧ Blk wr g3 22 A3 ∧ Below B w wr ∧ g1 < g2 ∧ g2 < g3 ∧ B ≤ g1
section
variable {B g1 g2 g3 : Nat} {w wr w' : World} {A1 A2 A3 : Array Value}
theorem Three.below (h : Three B g1 g2 g3 w A1 A2 A3 wr) (hb : Below wr.heap.size wr w') : Three B g1 g2 g3 w A1 A2 A3 w' :=
  ⟨h.1.below hb h.1.lt, h.2.1.below hb h.2.1.lt, h.2.2.1.below hb h.2.2.1.lt, h.2.2.2.1.trans (hb.mono (by have := h.1.lt; have := h.2.2.2.2.2.2; omega)), h.2.2.2.2⟩
theorem Three.drewN (h : Three B g1 g2 g3 w A1 A2 A3 wr) (n : Nat) : Three B g1 g2 g3 w A1 A2 A3 (wr.drewN n) :=
  ⟨h.1, h.2.1, h.2.2.1, below_drewN h.2.2.2.1 n, h.2.2.2.2⟩
theorem Three.set3 (h : Three B g1 g2 g3 w A1 A2 A3 wr) (k : Nat) (u : Value) : Three B g1 g2 g3 w A1 A2 (A3.setIfInBounds k u) (wr.setCell ⟨g3, k, none⟩ u) := by
  obtain ⟨h1, h2, h3, hb, d1, d2, d3⟩ := h
  exact ⟨h1.far (p := ⟨g3, k, none⟩) (by simp; omega) u, h2.far (p := ⟨g3, k, none⟩) (by simp; omega) u, h3.set_ k u, hb.setCell (by simp; omega) u, d1, d2, d3⟩
end

set_option maxHeartbeats 4000000 in
set_option maxRecDepth 100000 in
theorem inverse_any (m : Nat → Int) (w : World) : Calls Try.prog 13 #[.agg (ac 9 m)] w fun e w' => e = .returned (.tuple #[.agg (ac 9 (invM m)), .int .i64 (invX m)]) ∧ Below w.heap.size w w' := by
  obtain ⟨B, hB⟩ : ∃ B, B = w.heap.size := ⟨_, rfl⟩
  rw [← hB]
  go_enter Try.func13, Try.ntmps13
  go_wp2_with (first | (refine wpList_alloc9 rfl rfl ?_) | (refine wpList_load_row rfl _ _ rfl w.heap.size rfl 22 (ac 9 m) (0, 0) _ (heap_alloc2_old _ _ _) Try.underlying22 rfl info9 ?_))
  have H0 : Blk ((w.alloc (.cells (ac 9 m) 22)).alloc (.cells (ac 9 fun _ => 0) 22)) w.heap.size 22 (ac 9 m) := heap_alloc2_old _ _ _
  have Z0 : Blk ((w.alloc (.cells (ac 9 m) 22)).alloc (.cells (ac 9 fun _ => 0) 22)) (w.heap.size + 1) 22 (ac 9 fun _ => 0) := heap_alloc2_new _ _ _
  have hb0 : Below B w ((w.alloc (.cells (ac 9 m) 22)).alloc (.cells (ac 9 fun _ => 0) 22)) := by rw [hB]; exact ((Below.refl _ _).alloc (Nat.le_refl _) _).alloc (by simp) _
  obtain ⟨W, hW⟩ : ∃ W, W = (w.alloc (.cells (ac 9 m) 22)).alloc (.cells (ac 9 fun _ => 0) 22) := ⟨_, rfl⟩
  obtain ⟨g2, e2⟩ : ∃ g, g = w.heap.size + 1 := ⟨_, rfl⟩
  obtain ⟨g1, e1⟩ : ∃ g, g = w.heap.size := ⟨_, rfl⟩
  rw [← hW, ← e2, ← e1]
  rw [← hW, ← e1] at H0
  rw [← hW, ← e2] at Z0
  rw [← hW] at hb0
  have hg1 : B ≤ g1 := by omega
  have hg2 : g1 < g2 := by omega
  clear hW hB e1 e2
  cases hm : okM m with
  | false =>
    have hM : invM m = fun _ => 0 := by unfold invM; rw [hm]; rfl
    have hX : invX m = 2 := by unfold invX; rw [hm]; rfl
    refine (check_bad m hm _).mono ?_
    rintro e w1 ⟨rfl, hb1⟩
    have H1 := Z0.below hb1 Z0.lt
    have hb2 := hb0.trans (hb1.mono (by have := H0.lt; omega))
    have HM : Hid (Value.tuple #[.agg (ac 9 fun _ => 0), .int .i64 2] = .tuple #[.agg (ac 9 (invM m)), .int .i64 (invX m)]) := Lib.hid (by rw [hM, hX])
    clear H0 Z0 hb0 hb1 hM hX hm
    go_wp2_with (first
      | (refine wpList_build9 rfl rfl ?_)
      | (refine wpList_store_row rfl _ _ _ rfl g2 (ac 9 fun _ => 0) rfl rfl 22 (ac 9 fun _ => 0) H1 info9 ac_same (ac_one 9 _) ?_))
    refine bodyPost_ret (v := .tuple #[.agg (ac 9 fun _ => 0), .int .i64 2]) (results_two9 rfl _ _ g2 (fun _ => 0) rfl _ rfl (setRow_heap _ _ (ac 9 fun _ => 0) _ _ _ H1)) rfl ⟨by rw [HM.out], ?_⟩
    exact below_setRow hb2 (by omega) _
  | true =>
    refine (check_ok m hm _).mono ?_
    rintro e w1 ⟨rfl, hb1⟩
    have H1 := H0.below hb1 H0.lt
    have Z1 := Z0.below hb1 Z0.lt
    have hb2 := hb0.trans (hb1.mono (by have := H0.lt; omega))
    have HA := Lib.hid hm
    have hd := det9_in m hm
    obtain ⟨d, hdd⟩ : ∃ d, d = det9 m := ⟨_, rfl⟩
    have HE := fun W => exact_any m hm W
    rw [← hdd] at hd HE
    clear H0 Z0 hb0 hb1 hm
    go_wp2_with (refine wpList_load_row rfl _ _ rfl g1 rfl 22 (ac 9 m) (0, 0) _ H1 Try.underlying22 rfl info9 ?_)
    refine (HE _).mono ?_
    rintro e w2 ⟨rfl, hb3⟩
    have H2 := H1.below hb3 H1.lt
    have Z2 := Z1.below hb3 Z1.lt
    have hb4 := hb2.trans (hb3.mono (by have := H1.lt; omega))
    clear H1 Z1 hb2 hb3 HE
    by_cases hz : d = 0
    · have hM : invM m = fun _ => 0 := by unfold invM; rw [HA.out, ← hdd, if_pos hz]; rfl
      have hX : invX m = 17 := by unfold invX; rw [HA.out, ← hdd, if_pos hz]; rfl
      have HM : Hid (Value.tuple #[.agg (ac 9 fun _ => 0), .int .i64 17] = .tuple #[.agg (ac 9 (invM m)), .int .i64 (invX m)]) := Lib.hid (by rw [hM, hX])
      clear hM hX hdd
      subst hz
      go_wp2_with (first
        | (refine wpList_build9 rfl rfl ?_)
        | (refine wpList_store_row rfl _ _ _ rfl g2 (ac 9 fun _ => 0) rfl rfl 22 (ac 9 fun _ => 0) Z2 info9 ac_same (ac_one 9 _) ?_))
      refine bodyPost_ret (v := .tuple #[.agg (ac 9 fun _ => 0), .int .i64 17]) (results_two9 rfl _ _ g2 (fun _ => 0) rfl _ rfl (setRow_heap _ _ (ac 9 fun _ => 0) _ _ _ Z2)) rfl ⟨by rw [HM.out], ?_⟩
      exact below_setRow hb4 (by omega) _
    · have tz : (d == 0) = false := by simpa using hz
      have HZ := Lib.hid hz
      have HD := Lib.hid hdd
      clear hz hdd
      go_wp2_with (refine wpList_alloc9 rfl rfl ?_)
      have T0 : Three B g1 g2 w2.heap.size w (ac 9 m) (ac 9 fun _ => 0) (ac 9 (upTo (invE m) 0)) (w2.alloc (.cells (ac 9 (upTo (invE m) 0)) 22)) :=
        ⟨H2.alloc _, Z2.alloc _, Blk.new _ _ _, hb4.alloc (by have := H2.lt; omega) _, hg2, Z2.lt, hg1⟩
      rw [← upTo_none 9 (invE m)]
      obtain ⟨g3, e3⟩ : ∃ g, g = w2.heap.size := ⟨_, rfl⟩
      obtain ⟨W3, hW3⟩ : ∃ W3, W3 = w2.alloc (.cells (ac 9 (upTo (invE m) 0)) 22) := ⟨_, rfl⟩
      rw [← hW3, ← e3] at T0 ⊢
      clear hW3 e3 H2 Z2 hb4
      go_loopw [20] (fun v20 wr => ∃ i : Nat, i ≤ 3 ∧ v20 = .int .i64 i ∧ Three B g1 g2 g3 w (ac 9 m) (ac 9 fun _ => 0) (ac 9 (upTo (invE m) (3 * i))) wr) (fun v20 _ => 3 - (intOf v20).toNat)
      case atStart => exact ⟨0, by omega, rfl, T0⟩
      case round =>
        clear T0
        obtain ⟨i, hi, rfl, H3⟩ := hrel
        by_cases hlt : i < 3
        · have ti : decide ((i : Int) < 3) = true := by simp; omega
          go_wp2_with fail
          go_loopw [23] (fun v23 wr => ∃ j : Nat, j ≤ 3 ∧ v23 = .int .i64 j ∧ Three B g1 g2 g3 w (ac 9 m) (ac 9 fun _ => 0) (ac 9 (upTo (invE m) (3 * i + j))) wr) (fun v23 _ => 3 - (intOf v23).toNat)
          case atStart => exact ⟨0, by omega, rfl, H3⟩
          case round =>
            clear H3
            obtain ⟨j, hj, rfl, H4⟩ := hrel
            by_cases hlt2 : j < 3
            · have tj : decide ((j : Int) < 3) = true := by simp; omega
              have bc := cof_in m HA.out j i
              have HF : Hid (ratU (cof m j i * 65536) d = invE m (3 * i + j)) := Lib.hid (by unfold invE; rw [← HD.out, show (3 * i + j) % 3 = j by omega, show (3 * i + j) / 3 = i by omega])
              have hc := fun W => cof_any m HA.out j i hlt2 hlt W
              have HS := Lib.hid (upTo_set 9 (invE m) (3 * i + j))
              go_wp2_with (refine wpList_load_row rfl _ _ rfl g1 rfl 22 (ac 9 m) (0, 0) _ H4.1 Try.underlying22 rfl info9 ?_)
              refine (hc _).mono ?_
              rintro e w4 ⟨rfl, hb5⟩
              have H5 := H4.below hb5
              clear H4 hb5
              go_wp2_with fail
              refine (Num.ratio_any (cof m j i * 65536) d (by omega) (by omega) (by omega) (by omega) _).mono ?_
              rintro e w5 ⟨rfl, n5, rfl⟩
              rw [HF.out]
              have H6 := H5.drewN n5
              have c4 := H6.2.2.1.cell (3 * i + j)
              rw [ac_at _ (by omega)] at c4
              have f4 := H6.2.2.1.frozen (3 * i + j)
              clear H5
              go_wp2_with fail
              go_roundw
              case rel =>
                refine ⟨j + 1, by omega, by go_num, ?_⟩
                have := H6.set3 (3 * i + j) (.int .i64 (invE m (3 * i + j)))
                rw [HS.out] at this
                exact this
              case measure => simp [intOf]; omega
            · obtain rfl : j = 3 := by omega
              go_wp2_with fail
              go_roundw
              case rel => exact ⟨i + 1, by omega, by go_num, by rw [show 3 * (i + 1) = 3 * i + 3 by omega]; exact H4⟩
              case measure => simp [intOf]; omega
        · obtain rfl : i = 3 := by omega
          rw [show 3 * 3 = 9 from rfl, upTo_all] at H3
          go_wp2_with (refine wpList_load_row rfl _ _ rfl g3 rfl 22 (ac 9 (invE m)) (0, 0) _ H3.2.2.1 Try.underlying22 rfl info9 ?_)
          cases he : okM (invE m) with
          | false =>
            have hM : invM m = fun _ => 0 := by unfold invM; rw [HA.out, ← HD.out, if_neg HZ.out, he]; rfl
            have hX : invX m = 17 := by unfold invX; rw [HA.out, ← HD.out, if_neg HZ.out, he]; rfl
            have HM : Hid (Value.tuple #[.agg (ac 9 fun _ => 0), .int .i64 17] = .tuple #[.agg (ac 9 (invM m)), .int .i64 (invX m)]) := Lib.hid (by rw [hM, hX])
            clear hM hX
            refine (check_bad _ he _).mono ?_
            rintro e w6 ⟨rfl, hb6⟩
            have H7 := H3.below hb6
            clear H3 hb6 he
            go_wp2_with (first
              | (refine wpList_build9 rfl rfl ?_)
              | (refine wpList_store_row rfl _ _ _ rfl g2 (ac 9 fun _ => 0) rfl rfl 22 (ac 9 fun _ => 0) H7.2.1 info9 ac_same (ac_one 9 _) ?_))
            refine bodyPost_ret (v := .tuple #[.agg (ac 9 fun _ => 0), .int .i64 17]) (results_two9 rfl _ _ g2 (fun _ => 0) rfl _ rfl (setRow_heap _ _ (ac 9 fun _ => 0) _ _ _ H7.2.1)) rfl ⟨by rw [HM.out], ?_⟩
            exact below_setRow H7.2.2.2.1 (by omega) _
          | true =>
            have hM : invM m = invE m := by unfold invM; rw [HA.out, ← HD.out, if_neg HZ.out, he]; rfl
            have hX : invX m = 0 := by unfold invX; rw [HA.out, ← HD.out, if_neg HZ.out, he]; rfl
            have HM : Hid (Value.tuple #[.agg (ac 9 (invE m)), .int .i64 0] = .tuple #[.agg (ac 9 (invM m)), .int .i64 (invX m)]) := Lib.hid (by rw [hM, hX])
            clear hM hX
            refine (check_ok _ he _).mono ?_
            rintro e w6 ⟨rfl, hb6⟩
            have H7 := H3.below hb6
            clear H3 hb6 he
            go_wp2_with (first
              | (refine wpList_load_row rfl _ _ rfl g3 rfl 22 (ac 9 (invE m)) (0, 0) _ H7.2.2.1 Try.underlying22 rfl info9 ?_)
              | (refine wpList_store_row rfl _ _ _ rfl g2 (ac 9 (invE m)) rfl rfl 22 (ac 9 fun _ => 0) H7.2.1 info9 ac_same (ac_one 9 _) ?_))
            refine bodyPost_ret (v := .tuple #[.agg (ac 9 (invE m)), .int .i64 0]) (results_two9 rfl _ _ g2 (invE m) rfl _ rfl (setRow_heap _ _ (ac 9 fun _ => 0) _ _ _ H7.2.1)) rfl ⟨by rw [HM.out], ?_⟩
            exact below_setRow H7.2.2.2.1 (by omega) _

end Go.Proofs.Ytcmaoomcdmjimaa.Mat
