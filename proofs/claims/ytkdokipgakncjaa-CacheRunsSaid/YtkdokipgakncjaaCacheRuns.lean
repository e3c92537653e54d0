/-
  CacheRuns: any calls of a cache with any budget.
-/
import Derived.Test.YtkdokipgakncjaaCacPair
namespace Go.Proofs.Ytkdokipgakncjaa.CacheRuns
open Go.RowKit Go.Proofs.Ytkdokipgakncjaa Go.Proofs.Ytkdokipgakncjaa.Cac

set_option maxRecDepth 100000 in
set_option maxHeartbeats 4000000 in
theorem walk (b : Int) (A : Option Addr) (n c : Nat) (f : Nat → CallV × Value) (w : World) (hC : Calls_ w w.heap.size A n f) (hn : n ≤ 1759218604441) :
    Calls Try.prog 3 #[.int .i64 b, .slice A n c] w (Yes w) := by
  obtain ⟨B, hBw⟩ : ∃ B, w.heap.size = B := ⟨_, rfl⟩
  rw [hBw] at hC
  have hnew := hold_new B b w w (Below.refl _ _) (by omega)
  have HC := Lib.hid hC
  have HB := Lib.hid hBw
  clear hC hBw
  go_enter Try.func3, Try.ntmps3
  go_wp2_with fail
  refine hnew.mono ?_
  rintro e w1 ⟨g, rfl, h1⟩
  have hnew2 := hold_rnew h1 (obC _ _ _ _) b
  clear hnew h1
  go_wp2_with fail
  refine hnew2.mono ?_
  rintro e w2 ⟨g2, rfl, h2⟩
  clear hnew2
  go_wp2_with fail
  go_loopw [7] (fun i wr => ∃ j : Nat, i = .int .i64 j ∧ j ≤ n ∧ Hold (PairC B g g2 j (runF (St.new b) f j)) B w wr) (fun i _ => n - (intOf i).toNat)
  case atStart => exact ⟨0, rfl, by omega, h2⟩
  case round =>
    clear h2
    obtain ⟨j, rfl, hj, h⟩ := hrel
    by_cases hlt : j < n
    · obtain ⟨ad, rfl, hlb, hcell, hcr⟩ := (HC.out.below h.below).at_ j hlt
      have hdo := h.call (obP _ _ _ _ _) (fun M hM => pair_step hM (f j).1 (f j).2 hcr (by omega) h.size)
      have hst : (runF (St.new b) f j).step (f j).1 = runF (St.new b) f (j + 1) := rfl
      rw [hst] at hdo
      obtain ⟨x, hx⟩ : ∃ x, (f j).1 = x := ⟨_, rfl⟩
      obtain ⟨r, hr⟩ : ∃ r, (f j).2 = r := ⟨_, rfl⟩
      rw [hx, hr] at hcell hdo
      clear hst hx hr h hcr
      go_wp2_with (refine wpList_load_call rfl _ rfl (ad.add (j * 10)) rfl x r hcell ?_)
      refine hdo.mono ?_
      rintro e w3 ⟨rfl, h3⟩
      have H3 := Lib.hid h3
      clear hdo hcell h3
      go_wp2_with fail
      go_roundw
      case rel => exact ⟨j + 1, by go_num, by omega, H3.out⟩
      case measure => simp [intOf]; omega
    · obtain rfl : j = n := by omega
      obtain ⟨M, hM⟩ := h.st
      obtain ⟨q, hq⟩ : ∃ q, (runF (St.new b) f j).l.length = q := ⟨_, rfl⟩
      obtain ⟨z, hz⟩ : ∃ z, (runF (St.new b) f j).e = z := ⟨_, rfl⟩
      obtain ⟨L, hL⟩ : ∃ L, keys (runF (St.new b) f j).l = L := ⟨_, rfl⟩
      obtain ⟨hq1, hql, k1, k2, e1, e2⟩ := PairC.facts hM q z hq hz L hL
      have k1 := k1 wr (Below.refl _ _)
      have K2 := Lib.hid k2
      have E1 := Lib.hid e1
      have E2 := Lib.hid e2
      have HQL := Lib.hid hql
      have HBL := Lib.hid h.below
      clear h hM hq hz hL k2 e1 e2 hql
      go_wp2_with fail
      refine k1.mono ?_
      rintro e w5 ⟨A5, c5, rfl, k5, b5⟩
      have k2 := K2.out w5 b5
      have KA := Lib.hid k5
      have B5 := Lib.hid b5
      clear k5 k1 b5
      go_wp2_with fail
      refine k2.mono ?_
      rintro e w6 ⟨A6, c6, rfl, k6, b6⟩
      have k3 := same_yes A5 A6 q c5 c6 L w6 (KA.out.below b6) k6 HQL.out (by omega)
      have B6 := Lib.hid (B5.out.trans (b6.mono B5.out.size))
      clear k6 b6 k2
      go_wp2_with fail
      refine k3.mono ?_
      rintro e w7 ⟨rfl, b7⟩
      have B7 := Lib.hid (B6.out.trans (b7.mono B6.out.size))
      clear b7 k3
      have e1 := E1.out w7 B7.out
      have e2 := E2.out w7 B7.out
      go_wp2_with fail
      refine e1.mono ?_
      rintro e w8 ⟨rfl, rfl⟩
      go_wp2_with fail
      refine e2.mono ?_
      rintro e w8 ⟨rfl, rfl⟩
      go_wp2_with fail
      refine (example_any w7).mono ?_
      rintro e w9 ⟨rfl, hb9⟩
      go_wp2_with fail
      go_ret
      refine ⟨rfl, ?_⟩
      have h1 := HBL.out
      have h2 := B7.out
      have h3 := HB.out
      exact ((h1.trans (h2.mono (by have := h1.size; omega))).trans (hb9.mono (by have := h1.size; have := h2.size; omega))).mono (by omega)

open Go.ChangeShapes Go.WideShapes Go.ChangeAt Go.Joins Go.Deep

theorem contract (H : Type) (enc : TypeId × Value → H) (W : World) (base : Nat) (args : Array Value) (ds gs : List (DataW H)) (before : List MemPlace)
    (hval : ∀ (j : Nat) t v, Try.f3.params[j]? = some t → args[j]? = some v → Value.okWide Try.prog W .any base t v)
    (hW : DataW.Whole enc Try.prog Try.f3.params.toList Rows.cacheRunsSpec.vars false W args.toList ds gs before) (hsz : (DataW.weightsEach Try.prog (Try.f3.params.toList ++ Rows.cacheRunsSpec.plain.varTypes Try.prog) (ds ++ gs)).all (· ≤ reachBytes) = true) :
    Calls Try.prog 3 args W fun e W' => ∃ v, e = .returned v ∧ Rows.cacheRunsSpec.post enc Try.prog Try.f3 false true false false W args v W' := by
  have hW' := hW
  obtain ⟨p, q, hA0, hV, rfl, hfz, hnd⟩ := hW
  have hA : DataW.TrodAll enc Try.prog W 0 (fun _ => true) true Try.f3.params.toList args.toList ds p := hA0
  rw [Try.params3] at hA hval
  obtain ⟨v0, vs0, d0, ds0, p0, q0, hargs, rfl, rfl, g0, r0⟩ := trodAll_cons hA
  obtain ⟨v1, vs1, d1, ds1, p1, q1, rfl, rfl, rfl, g1, r1⟩ := trodAll_cons r0
  obtain ⟨rfl, rfl, rfl⟩ := trodAll_nil r1
  obtain rfl : args = #[v0, v1] := by cases args; simp_all
  obtain ⟨rfl, rfl⟩ := trodVars_none hV
  obtain ⟨z0, rfl, rfl, rfl, w0⟩ := open_int Try.underlying3 (hval 0 3 v0 rfl rfl) g0
  clear hA0
  simp only [List.append_nil] at hsz
  have s1 : Small 22 d1 := fun n hn => by simpa using List.all_eq_true.1 hsz n (DataW.weights_mem_each (j := 1) (t := 22) rfl rfl n hn)
  obtain ⟨A1, n1, c1, f1, rfl, hC1, hn1⟩ := open_calls (hval 1 22 v1 rfl rfl) g1 s1
  refine (walk z0 A1 n1 c1 f1 W hC1 hn1).mono fun e W' ⟨he, hb⟩ => ?_
  subst he
  exact ⟨_, rfl, Frame.law_post Frame.laidOut (by kernel_rfl) Try.underlying4 (by kernel_rfl) rfl rfl hW' hb⟩

set_option maxRecDepth 100000 in
theorem lifted (os : Os) (started : os.Started) (H : Type) (enc : TypeId × Value → H) :
    ReturnsInHanded {} Try.checked os 3 .any (Rows.cacheRunsSpec.pre6 enc Try.prog Try.f3 Rows.cacheRunsRow.domain false) (Rows.cacheRunsSpec.post enc Try.prog Try.f3 false true false false) := by
  refine returnsInHanded_of_change_sized (C := Try.checked) Frame.own started (by kernel_rfl) Try.func3
    (ChangeSpec.witness6 (enc := enc) (C := Try.checked) false ⟨#[], #[.int .i64 0, .slice none 0 0], []⟩ 8 (by kernel_rfl) (by kernel_rfl) (by kernel_rfl) (by kernel_rfl)) ?_
  intro W base args ds gs before hval hW _ hsz _
  exact contract H enc W base args ds gs before hval hW hsz

theorem proved : Rows.CacheRunsSaid :=
  OpenClaim.holds_of_wide 3 Try.f3 rfl rfl rfl rfl rfl rfl rfl ⟨rfl, rfl, rfl, rfl, rfl⟩ rfl rfl rfl rfl rfl (by kernel_rfl) Try.func3 (by kernel_rfl)
    (of_decide_eq_true (by kernel_rfl)) (by unfold Func.isWrapper; first | (rw [if_pos (by decide +kernel)]; kernel_rfl) | (rw [if_neg (by decide +kernel)]; exact ⟨rfl, rfl⟩))
    (fun os started H enc _ => lifted os started H enc)


end Go.Proofs.Ytkdokipgakncjaa.CacheRuns
