/-
  CacheBudgets: there are never more keys than the budget, each once.
-/
import Derived.Test.YtkdokipgakncjaaCacLw
namespace Go.Proofs.Ytkdokipgakncjaa.CacheBudgets
open Go.RowKit Go.Proofs.Ytkdokipgakncjaa Go.Proofs.Ytkdokipgakncjaa.Cac

set_option maxHeartbeats 4000000 in
theorem walk (b : Int) (A : Option Addr) (n c : Nat) (f : Nat → CallV × Value) (w : World) (hC : Calls_ w w.heap.size A n f) (hn : n ≤ 1759218604441) :
    Calls Try.prog 4 #[.int .i64 b, .slice A n c] w (Yes w) := by
  obtain ⟨B, hBw⟩ : ∃ B, w.heap.size = B := ⟨_, rfl⟩
  rw [hBw] at hC
  have hnew := one_new B b w w (Below.refl _ _) (by omega)
  have HC := Lib.hid hC
  have HB := Lib.hid hBw
  clear hC hBw
  go_enter Try.func4, Try.ntmps4
  go_wp2_with (go_at_call 9; refine hnew.mono ?_; rintro e w1 ⟨g, rfl, h1⟩)
  go_loopw [0, 6] (fun z i wr => ∃ (j : Nat) (zz : Int), i = .int .i64 j ∧ j ≤ n ∧ z = .int .i64 zz ∧ (runS b f j).b = clampN zz ∧ One B g j (runS b f j) w wr) (fun _ i _ => n - (intOf i).toNat)
  case atStart => exact ⟨0, b, rfl, by omega, rfl, rfl, h1⟩
  case round =>
    clear h1
    obtain ⟨j, zz, rfl, hj, rfl, hz, h⟩ := hrel
    by_cases hlt : j < n
    · obtain ⟨ad, rfl, hlb, hcell, hcr⟩ := (HC.out.below h.below).at_ j hlt
      have hdo := one_do h (f j).1 (f j).2 (hcr.more h.size) (by omega)
      have hcl := fun (W : World) (hb : Below B w W) => call_cells ((HC.out.below hb).cells j hlt).1
      have hst : (runS b f j).step (f j).1 = runS b f (j + 1) := rfl
      rw [hst] at hdo
      have HST := Lib.hid (step_b (runS b f j) (f j).1)
      have hst' := hst
      obtain ⟨x, hx⟩ : ∃ x, (f j).1 = x := ⟨_, rfl⟩
      obtain ⟨r, hr⟩ : ∃ r, (f j).2 = r := ⟨_, rfl⟩
      rw [hx, hr] at hcell hdo
      rw [hx] at HST hcl hst'
      have HZ := Lib.hid hz
      have H := Lib.hid h
      have HX := Lib.hid hx
      have HR := Lib.hid hr
      have HCL := Lib.hid hcl
      clear hst hx hr hz h hcl hcr
      go_wp2_with (refine wpList_load_call rfl _ rfl (ad.add (j * 10)) rfl x r hcell ?_)
      refine hdo.mono ?_
      rintro e w2 ⟨rfl, h2⟩
      obtain ⟨c0, c1⟩ := HCL.out w2 h2.below
      have hkeys := one_keys h2
      obtain ⟨q, hq⟩ : ∃ q, (runS b f (j + 1)).l.length = q := ⟨_, rfl⟩
      have hql := h2.ok.len
      have hnd := h2.ok.nodup
      rw [hq] at hkeys hql
      have H2 := Lib.hid h2
      obtain ⟨zn, hzn⟩ : ∃ zn, (if x.kind = 4 then x.n else zz) = zn := ⟨_, rfl⟩
      have hbz : (runS b f (j + 1)).b = clampN zn := by
        have := HST.out
        rw [hst'] at this
        rw [this, ← hzn, HZ.out]
        split <;> rfl
      have hqm : (q : Int) ≤ max zn 0 ∧ (q : Int) ≤ 1024 := by
        rw [hbz] at hql
        unfold clampN at hql
        omega
      have HBZ := Lib.hid hbz
      have HKE := Lib.hid hkeys
      have HQ := Lib.hid hq
      have HND := Lib.hid hnd
      clear h2 hq hkeys hnd hbz hql hdo hcell hst'
      by_cases hk4 : x.kind = 4
      · rw [if_pos hk4] at hzn
        subst hzn
        have hk : (x.kind == 4) = true := by simpa using hk4
        clear hk4
        go_wp2_with (go_at_call 13; refine HKE.out.mono ?_; rintro e w3 ⟨A3, c3, rfl, hA3, hb3⟩)
        all_goals
          have H3 := Lib.hid (H2.out.later hb3)
          have HA := Lib.hid hA3
          clear hA3 hb3
          go_loopw [8] (fun i wr => ∃ a : Nat, i = .int .i64 a ∧ a ≤ q ∧ Below w3.heap.size w3 wr) (fun i _ => q - (intOf i).toNat)
          case atStart => exact ⟨0, rfl, by omega, Below.refl _ _⟩
          case round =>
            obtain ⟨a, rfl, ha, hb4⟩ := hrel
            have HB4 := Lib.hid hb4
            clear hb4
            by_cases hla : a < q
            · go_wp2_with fail
              go_loopw [9] (fun i wr => ∃ b : Nat, i = .int .i64 b ∧ b ≤ a ∧ Below w3.heap.size w3 wr) (fun i _ => a - (intOf i).toNat)
              case atStart => exact ⟨0, rfl, by omega, HB4.out⟩
              case round =>
                obtain ⟨b1, rfl, hb1, hb5⟩ := hrel
                by_cases hlb : b1 < a
                · have ha1 : a < (keys (runS b f (j + 1)).l).length := by rw [keys_len, HQ.out]; exact hla
                  have hb2 : b1 < (keys (runS b f (j + 1)).l).length := by omega
                  have hko := HA.out.below hb5
                  obtain ⟨o1, hA1, ho1, y0, y1, y2, y3, y4⟩ := hko.at_ a ha1
                  obtain ⟨o2, hA2, ho2, z0, z1, z2, z3, z4⟩ := hko.at_ b1 hb2
                  subst hA1
                  have hoo : o1 = o2 := by injection hA2 with hA2; injection hA2
                  subst hoo
                  have hne : (keys (runS b f (j + 1)).l)[a] ≠ (keys (runS b f (j + 1)).l)[b1] := fun e => by
                    have := (List.getElem_inj HND.out).1 e
                    omega
                  obtain ⟨y, hy⟩ : ∃ y, (keys (runS b f (j + 1)).l)[a]'ha1 = y := ⟨_, rfl⟩
                  obtain ⟨z, hz⟩ : ∃ z, (keys (runS b f (j + 1)).l)[b1]'hb2 = z := ⟨_, rfl⟩
                  rw [hy] at y0 y1 y2 y3 y4 hne
                  rw [hz] at z0 z1 z2 z3 z4 hne
                  have hq := fun W => eqlKey y z W
                  unfold kagg at hq
                  rw [decide_eq_false hne] at hq
                  have HB5 := Lib.hid hb5
                  clear hb5 hko hA2 hne hy hz
                  go_wp2_with fail
                  go_quiet (fail)
                  go_wp2_with fail
                  go_roundw
                  case rel => exact ⟨b1 + 1, by go_num, by omega, HB5.out.trans ⟨rfl, rfl, rfl, Nat.le_refl _, fun _ _ => rfl⟩⟩
                  case measure => simp [intOf]; omega
                · obtain rfl : b1 = a := by omega
                  have HB5 := Lib.hid hb5
                  clear hb5
                  go_wp2_with fail
                  go_roundw
                  case rel => exact ⟨b1 + 1, by go_num, by omega, HB5.out⟩
                  case measure => simp [intOf]; omega
            · obtain rfl : a = q := by omega
              go_wp2_with fail
              go_roundw
              case rel => exact ⟨j + 1, _, by go_num, by omega, rfl, HBZ.out, H3.out.later HB4.out⟩
              case measure => simp [intOf]; omega
      · rw [if_neg hk4] at hzn
        subst hzn
        have hk : (x.kind == 4) = false := by simpa using hk4
        clear hk4
        go_wp2_with (go_at_call 13; refine HKE.out.mono ?_; rintro e w3 ⟨A3, c3, rfl, hA3, hb3⟩)
        all_goals
          have H3 := Lib.hid (H2.out.later hb3)
          have HA := Lib.hid hA3
          clear hA3 hb3
          go_loopw [8] (fun i wr => ∃ a : Nat, i = .int .i64 a ∧ a ≤ q ∧ Below w3.heap.size w3 wr) (fun i _ => q - (intOf i).toNat)
          case atStart => exact ⟨0, rfl, by omega, Below.refl _ _⟩
          case round =>
            obtain ⟨a, rfl, ha, hb4⟩ := hrel
            have HB4 := Lib.hid hb4
            clear hb4
            by_cases hla : a < q
            · go_wp2_with fail
              go_loopw [9] (fun i wr => ∃ b : Nat, i = .int .i64 b ∧ b ≤ a ∧ Below w3.heap.size w3 wr) (fun i _ => a - (intOf i).toNat)
              case atStart => exact ⟨0, rfl, by omega, HB4.out⟩
              case round =>
                obtain ⟨b1, rfl, hb1, hb5⟩ := hrel
                by_cases hlb : b1 < a
                · have ha1 : a < (keys (runS b f (j + 1)).l).length := by rw [keys_len, HQ.out]; exact hla
                  have hb2 : b1 < (keys (runS b f (j + 1)).l).length := by omega
                  have hko := HA.out.below hb5
                  obtain ⟨o1, hA1, ho1, y0, y1, y2, y3, y4⟩ := hko.at_ a ha1
                  obtain ⟨o2, hA2, ho2, z0, z1, z2, z3, z4⟩ := hko.at_ b1 hb2
                  subst hA1
                  have hoo : o1 = o2 := by injection hA2 with hA2; injection hA2
                  subst hoo
                  have hne : (keys (runS b f (j + 1)).l)[a] ≠ (keys (runS b f (j + 1)).l)[b1] := fun e => by
                    have := (List.getElem_inj HND.out).1 e
                    omega
                  obtain ⟨y, hy⟩ : ∃ y, (keys (runS b f (j + 1)).l)[a]'ha1 = y := ⟨_, rfl⟩
                  obtain ⟨z, hz⟩ : ∃ z, (keys (runS b f (j + 1)).l)[b1]'hb2 = z := ⟨_, rfl⟩
                  rw [hy] at y0 y1 y2 y3 y4 hne
                  rw [hz] at z0 z1 z2 z3 z4 hne
                  have hq := fun W => eqlKey y z W
                  unfold kagg at hq
                  rw [decide_eq_false hne] at hq
                  have HB5 := Lib.hid hb5
                  clear hb5 hko hA2 hne hy hz
                  go_wp2_with fail
                  go_quiet (fail)
                  go_wp2_with fail
                  go_roundw
                  case rel => exact ⟨b1 + 1, by go_num, by omega, HB5.out.trans ⟨rfl, rfl, rfl, Nat.le_refl _, fun _ _ => rfl⟩⟩
                  case measure => simp [intOf]; omega
                · obtain rfl : b1 = a := by omega
                  have HB5 := Lib.hid hb5
                  clear hb5
                  go_wp2_with fail
                  go_roundw
                  case rel => exact ⟨b1 + 1, by go_num, by omega, HB5.out⟩
                  case measure => simp [intOf]; omega
            · obtain rfl : a = q := by omega
              go_wp2_with fail
              go_roundw
              case rel => exact ⟨j + 1, _, by go_num, by omega, rfl, HBZ.out, H3.out.later HB4.out⟩
              case measure => simp [intOf]; omega
    · obtain rfl : j = n := by omega
      have hb := h.below
      clear h
      go_wp2_with (go_at_call 17; refine (example_any wr).mono ?_; rintro e w3 ⟨rfl, hb3⟩)
      go_ret
      exact ⟨rfl, by have := HB.out; exact (hb.trans (hb3.mono (by have := hb.size; omega))).mono (by omega)⟩

open Go.ChangeShapes Go.WideShapes Go.ChangeAt Go.Joins Go.Deep

theorem contract (H : Type) (enc : TypeId × Value → H) (W : World) (base : Nat) (args : Array Value) (ds gs : List (DataW H)) (before : List MemPlace)
    (hval : ∀ (j : Nat) t v, Try.f4.params[j]? = some t → args[j]? = some v → Value.okWide Try.prog W .any base t v)
    (hW : DataW.Whole enc Try.prog Try.f4.params.toList Rows.cacheBudgetsSpec.vars false W args.toList ds gs before) (hsz : (DataW.weightsEach Try.prog (Try.f4.params.toList ++ Rows.cacheBudgetsSpec.plain.varTypes Try.prog) (ds ++ gs)).all (· ≤ reachBytes) = true) :
    Calls Try.prog 4 args W fun e W' => ∃ v, e = .returned v ∧ Rows.cacheBudgetsSpec.post enc Try.prog Try.f4 false true false false W args v W' := by
  have hW' := hW
  obtain ⟨p, q, hA0, hV, rfl, hfz, hnd⟩ := hW
  have hA : DataW.TrodAll enc Try.prog W 0 (fun _ => true) true Try.f4.params.toList args.toList ds p := hA0
  rw [Try.params4] at hA hval
  obtain ⟨v0, vs0, d0, ds0, p0, q0, hargs, rfl, rfl, g0, r0⟩ := trodAll_cons hA
  obtain ⟨v1, vs1, d1, ds1, p1, q1, rfl, rfl, rfl, g1, r1⟩ := trodAll_cons r0
  obtain ⟨rfl, rfl, rfl⟩ := trodAll_nil r1
  obtain rfl : args = #[v0, v1] := by cases args; simp_all
  obtain ⟨rfl, rfl⟩ := trodVars_none hV
  obtain ⟨z0, rfl, rfl, rfl, w0⟩ := open_int Try.underlying3 (hval 0 3 v0 rfl rfl) g0
  clear hA0
  simp only [List.append_nil] at hsz
  have s1 : Small 22 d1 := fun n hn => by simpa using List.all_eq_true.1 hsz n (DataW.weights_mem_each (j := 1) (t := 22) rfl rfl n hn)
  obtain ⟨A1, n1, c1, f1, rfl, hC1, hn1⟩ := open_calls (hval 1 22 v1 rfl rfl) g1 s1
  refine (walk z0 A1 n1 c1 f1 W hC1 hn1).mono fun e W' ⟨he, hb⟩ => ?_
  subst he
  exact ⟨_, rfl, Frame.law_post Frame.laidOut (by kernel_rfl) Try.underlying4 (by kernel_rfl) rfl rfl hW' hb⟩

set_option maxRecDepth 100000 in
theorem lifted (os : Os) (started : os.Started) (H : Type) (enc : TypeId × Value → H) :
    ReturnsInHanded {} Try.checked os 4 .any (Rows.cacheBudgetsSpec.pre6 enc Try.prog Try.f4 Rows.cacheBudgetsRow.domain false) (Rows.cacheBudgetsSpec.post enc Try.prog Try.f4 false true false false) := by
  refine returnsInHanded_of_change_sized (C := Try.checked) Frame.own started (by kernel_rfl) Try.func4
    (ChangeSpec.witness6 (enc := enc) (C := Try.checked) false ⟨#[], #[.int .i64 0, .slice none 0 0], []⟩ 8 (by kernel_rfl) (by kernel_rfl) (by kernel_rfl) (by kernel_rfl)) ?_
  intro W base args ds gs before hval hW _ hsz _
  exact contract H enc W base args ds gs before hval hW hsz

theorem proved : Rows.CacheBudgetsSaid :=
  OpenClaim.holds_of_wide 4 Try.f4 rfl rfl rfl rfl rfl rfl rfl ⟨rfl, rfl, rfl, rfl, rfl⟩ rfl rfl rfl rfl rfl (by kernel_rfl) Try.func4 (by kernel_rfl)
    (of_decide_eq_true (by kernel_rfl)) (by unfold Func.isWrapper; first | (rw [if_pos (by decide +kernel)]; kernel_rfl) | (rw [if_neg (by decide +kernel)]; exact ⟨rfl, rfl⟩))
    (fun os started H enc _ => lifted os started H enc)


end Go.Proofs.Ytkdokipgakncjaa.CacheBudgets
