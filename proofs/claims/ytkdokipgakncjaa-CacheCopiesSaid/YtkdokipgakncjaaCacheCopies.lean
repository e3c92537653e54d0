/-
  CacheCopies: a copy is equal and independent.
-/
import Derived.Test.YtkdokipgakncjaaCacPair
namespace Go.Proofs.Ytkdokipgakncjaa.CacheCopies
open Go.RowKit Go.Proofs.Ytkdokipgakncjaa Go.Proofs.Ytkdokipgakncjaa.Cac

theorem Both.assoc {P Q R : Cac.Obj} {W : World} {M : List Nat} (h : Both (Both P Q) R W M) : Both P (Both Q R) W M := by
  obtain ⟨M1, M3, rfl, ⟨N1, N2, rfl, p, q, d1⟩, r, d2⟩ := h
  refine ⟨N1, N2 ++ M3, by simp, p, ⟨N2, M3, rfl, q, r, fun k hk => d2 k (by simp [hk])⟩, fun k hk hm => ?_⟩
  rcases List.mem_append.1 hm with h | h
  · exact d1 k hk h
  · exact d2 k (by simp [hk]) h
theorem Hold.assoc {P Q R : Cac.Obj} {B : Nat} {w0 W : World} (h : Hold (Both (Both P Q) R) B w0 W) : Hold (Both P (Both Q R)) B w0 W := by
  obtain ⟨M, hM⟩ := h.st
  exact ⟨⟨M, Both.assoc hM⟩, h.below, h.low⟩
theorem copy1 {B g h m : Nat} {s : St} {w0 W : World} (hP : Hold (PairC B g h m s) B w0 W) : Calls Try.prog 21 #[.pointer (some ⟨g, 0, none⟩)] W fun e w' => ∃ d, e = .returned (.pointer (some ⟨d, 0, none⟩)) ∧ Hold (Both (PairC B g h m s) (CP B d m s)) B w0 w' := by
  obtain ⟨M, hM⟩ := hP.st
  obtain ⟨M1, h1⟩ := hM.one
  have hok := h1.2
  have hlen := hok.len
  have hmost := hok.most
  have hev := hok.evict
  refine (copy_any B g m s M1 W h1.1 (by omega) hmost hP.size (fun p hp => by have := hok.px p hp; omega)).mono ?_
  rintro e w' ⟨d, N, rfl, k1, k2, k3⟩
  exact ⟨d, rfl, hP.join (obP _ _ _ _ _) ⟨k1.more (by omega), hok⟩ k3 k2⟩
theorem copy2 {B g h m d : Nat} {s : St} {w0 W : World} (hP : Hold (Both (PairC B g h m s) (CP B d m s)) B w0 W) : Calls Try.prog 22 #[.pointer (some ⟨h, 0, none⟩)] W fun e w' => ∃ d2, e = .returned (.pointer (some ⟨d2, 0, none⟩)) ∧ Hold (Both (PairC B g h m s) (PairC B d d2 m s)) B w0 w' := by
  obtain ⟨M, hM⟩ := hP.st
  obtain ⟨M1, h1⟩ := hM.one
  obtain ⟨M2, h2⟩ := h1.two
  obtain ⟨M3, h3⟩ := h1.one
  have hok := h3.2
  have hlen := hok.len
  have hmost := hok.most
  refine (rcopy_any B h s M2 W h2 (by omega) hP.size (fun p hp => by have := hok.px p hp; omega)).mono ?_
  rintro e w' ⟨d2, N, rfl, k1, k2, k3⟩
  exact ⟨d2, rfl, Hold.assoc (hP.join ((obP _ _ _ _ _).both (obC _ _ _ _)) (Q := RPo B d2 s) k1 k2 k3)⟩
abbrev Quad (B g h d d2 m m2 : Nat) (s s2 : St) : Cac.Obj := Both (PairC B g h m s) (PairC B d d2 m2 s2)
theorem obQ (B g h d d2 m m2 : Nat) (s s2 : St) : Ob (Quad B g h d d2 m m2 s s2) B := (obP _ _ _ _ _).both (obP _ _ _ _ _)

set_option maxRecDepth 100000 in
set_option maxHeartbeats 8000000 in
theorem walk (b : Int) (A1 : Option Addr) (n1 c1 : Nat) (f1 : Nat → CallV × Value) (A2 : Option Addr) (n2 c2 : Nat) (f2 : Nat → CallV × Value) (w : World) (hC1 : Calls_ w w.heap.size A1 n1 f1) (hn1 : n1 ≤ 1759218604441) (hC2 : Calls_ w w.heap.size A2 n2 f2) (hn2 : n2 ≤ 1759218604441) :
    Calls Try.prog 8 #[.int .i64 b, .slice A1 n1 c1, .slice A2 n2 c2] w (Yes w) := by
  obtain ⟨B, hBw⟩ : ∃ B, w.heap.size = B := ⟨_, rfl⟩
  rw [hBw] at hC1 hC2
  have hnew := hold_new B b w w (Below.refl _ _) (by omega)
  have HC1 := Lib.hid hC1
  have HC2 := Lib.hid hC2
  have HB := Lib.hid hBw
  clear hC1 hC2 hBw
  go_enter Try.func8, Try.ntmps8
  go_wp2_with fail
  refine hnew.mono ?_
  rintro e w1 ⟨g, rfl, h1⟩
  have hnew2 := hold_rnew h1 (obC _ _ _ _) b
  clear hnew h1
  go_wp2_with fail
  refine hnew2.mono ?_
  rintro e w2 ⟨g2, rfl, h2⟩
  clear hnew2
  go_wp2_with fail
  go_loopw [9] (fun i wr => ∃ j : Nat, i = .int .i64 j ∧ j ≤ n1 ∧ Hold (PairC B g g2 j (runF (St.new b) f1 j)) B w wr) (fun i _ => n1 - (intOf i).toNat)
  case atStart => exact ⟨0, rfl, by omega, h2⟩
  case round =>
    clear h2
    obtain ⟨j, rfl, hj, h⟩ := hrel
    by_cases hlt : j < n1
    · obtain ⟨ad, rfl, hlb, hcell, hcr⟩ := (HC1.out.below h.below).at_ j hlt
      have hdo := h.call (obP _ _ _ _ _) (fun M hM => pair_step hM (f1 j).1 (f1 j).2 hcr (by omega) h.size)
      have hst : (runF (St.new b) f1 j).step (f1 j).1 = runF (St.new b) f1 (j + 1) := rfl
      rw [hst] at hdo
      obtain ⟨x, hx⟩ : ∃ x, (f1 j).1 = x := ⟨_, rfl⟩
      obtain ⟨r, hr⟩ : ∃ r, (f1 j).2 = r := ⟨_, rfl⟩
      rw [hx, hr] at hcell hdo
      clear hst hx hr h hcr
      go_wp2_with (refine wpList_load_call rfl _ rfl (ad.add (j * 10)) rfl x r hcell ?_)
      refine hdo.mono ?_
      rintro e w3 ⟨rfl, h3⟩
      have H3 := Lib.hid h3
      clear hdo hcell h3
      go_wp2_with fail
      go_roundw
      case rel => exact ⟨j + 1, by go_num, by omega, H3.out⟩
      case measure => simp [intOf]; omega
    · obtain rfl : j = n1 := by omega
      obtain ⟨s, hs⟩ : ∃ s, runF (St.new b) f1 j = s := ⟨_, rfl⟩
      rw [hs] at h
      clear hs
      have hcp := copy1 h
      clear h
      go_wp2_with fail
      refine hcp.mono ?_
      rintro e w3 ⟨d, rfl, h3⟩
      have hcp2 := copy2 h3
      clear hcp h3
      go_wp2_with fail
      refine hcp2.mono ?_
      rintro e w4 ⟨d2, rfl, h4⟩
      clear hcp2
      obtain ⟨M, hM⟩ := h4.st
      obtain ⟨MM, hMM⟩ := hM.two
      obtain ⟨q, hq⟩ : ∃ q, s.l.length = q := ⟨_, rfl⟩
      obtain ⟨z, hz⟩ : ∃ z, s.e = z := ⟨_, rfl⟩
      obtain ⟨L, hL⟩ : ∃ L, keys s.l = L := ⟨_, rfl⟩
      obtain ⟨hq1, hql, k1, k2, e1, e2⟩ := PairC.facts hMM q z hq hz L hL
      have k1 := k1 w4 (Below.refl _ _)
      have K2 := Lib.hid k2
      have E1 := Lib.hid e1
      have E2 := Lib.hid e2
      have HQL := Lib.hid hql
      have HQ := Lib.hid hq
      have HZ := Lib.hid hz
      have HL := Lib.hid hL
      have H4 := Lib.hid h4
      clear h4 hM hMM hq hz hL k2 e1 e2 hql
      go_wp2_with fail
      refine k1.mono ?_
      rintro e w5 ⟨A5, c5, rfl, k5, b5⟩
      have k2 := K2.out w5 b5
      have KA := Lib.hid k5
      have B5 := Lib.hid b5
      clear k5 k1 b5
      go_wp2_with fail
      refine k2.mono ?_
      rintro e w6 ⟨A6, c6, rfl, k6, b6⟩
      have k3 := same_yes A5 A6 q c5 c6 L w6 (KA.out.below b6) k6 HQL.out (by omega)
      have B6 := Lib.hid (B5.out.trans (b6.mono B5.out.size))
      clear k6 b6 k2
      go_wp2_with fail
      refine k3.mono ?_
      rintro e w7 ⟨rfl, b7⟩
      have B7 := Lib.hid (B6.out.trans (b7.mono B6.out.size))
      clear b7 k3
      have e1 := E1.out w7 B7.out
      have e2 := E2.out w7 B7.out
      go_wp2_with fail
      refine e1.mono ?_
      rintro e w8 ⟨rfl, rfl⟩
      go_wp2_with fail
      refine e2.mono ?_
      rintro e w8 ⟨rfl, rfl⟩
      have H7 := Lib.hid (H4.out.later (obQ _ _ _ _ _ _ _ _ _) B7.out)
      clear e1 e2 K2 E1 E2 KA B5 B6 B7 H4
      go_wp2_with fail
      go_loopw [12] (fun i wr => ∃ k : Nat, i = .int .i64 k ∧ k ≤ n2 ∧ Hold (Quad B g g2 d d2 j (j + k) s (runF s f2 k)) B w wr) (fun i _ => n2 - (intOf i).toNat)
      case atStart => exact ⟨0, rfl, by omega, H7.out⟩
      case round =>
        clear H7
        obtain ⟨k, rfl, hk, h⟩ := hrel
        by_cases hlt2 : k < n2
        · obtain ⟨ad, rfl, hlb, hcell, hcr⟩ := (HC2.out.below h.below).at_ k hlt2
          have hdo := h.call (obQ _ _ _ _ _ _ _ _ _) (fun M hM => both_second (obP _ _ _ _ _) (obP _ _ _ _ _) hM fun M1 h1 => pair_step h1 (f2 k).1 (f2 k).2 hcr (by omega) h.size)
          have hst : (runF s f2 k).step (f2 k).1 = runF s f2 (k + 1) := rfl
          rw [hst] at hdo
          obtain ⟨x, hx⟩ : ∃ x, (f2 k).1 = x := ⟨_, rfl⟩
          obtain ⟨r, hr⟩ : ∃ r, (f2 k).2 = r := ⟨_, rfl⟩
          rw [hx, hr] at hcell hdo
          clear hst hx hr h hcr
          go_wp2_with (refine wpList_load_call rfl _ rfl (ad.add (k * 10)) rfl x r hcell ?_)
          refine hdo.mono ?_
          rintro e w3 ⟨rfl, h3⟩
          have H3 := Lib.hid h3
          clear hdo hcell h3
          go_wp2_with fail
          go_roundw
          case rel => exact ⟨k + 1, by go_num, by omega, H3.out⟩
          case measure => simp [intOf]; omega
        · obtain rfl : k = n2 := by omega
          obtain ⟨M, hM⟩ := h.st
          obtain ⟨MM, hMM⟩ := hM.one
          obtain ⟨hqa, hqb, k1, k2, e1, e2⟩ := PairC.facts hMM q z HQ.out HZ.out L HL.out
          clear hqa hqb
          have k1 := k1 wr (Below.refl _ _)
          have K2 := Lib.hid k2
          have E1 := Lib.hid e1
          have E2 := Lib.hid e2
          have HBL := Lib.hid h.below
          clear h hM hMM k2 e1 e2
          go_wp2_with fail
          refine k1.mono ?_
          rintro e w5 ⟨A5, c5, rfl, k5, b5⟩
          have k2 := K2.out w5 b5
          have KA := Lib.hid k5
          have B5 := Lib.hid b5
          clear k5 k1 b5
          go_wp2_with fail
          refine k2.mono ?_
          rintro e w6 ⟨A6, c6, rfl, k6, b6⟩
          have k3 := same_yes A5 A6 q c5 c6 L w6 (KA.out.below b6) k6 HQL.out (by omega)
          have B6 := Lib.hid (B5.out.trans (b6.mono B5.out.size))
          clear k6 b6 k2
          go_wp2_with fail
          refine k3.mono ?_
          rintro e w7 ⟨rfl, b7⟩
          have B7 := Lib.hid (B6.out.trans (b7.mono B6.out.size))
          clear b7 k3
          have e1 := E1.out w7 B7.out
          have e2 := E2.out w7 B7.out
          go_wp2_with fail
          refine e1.mono ?_
          rintro e w8 ⟨rfl, rfl⟩
          go_wp2_with fail
          refine e2.mono ?_
          rintro e w8 ⟨rfl, rfl⟩
          go_wp2_with fail
          refine (example_any w7).mono ?_
          rintro e w9 ⟨rfl, hb9⟩
          go_wp2_with fail
          go_ret
          refine ⟨rfl, ?_⟩
          have h1 := HBL.out
          have h2 := B7.out
          have h3 := HB.out
          exact ((h1.trans (h2.mono (by have := h1.size; omega))).trans (hb9.mono (by have := h1.size; have := h2.size; omega))).mono (by omega)

open Go.ChangeShapes Go.WideShapes Go.ChangeAt Go.Joins Go.Deep

theorem contract (H : Type) (enc : TypeId × Value → H) (W : World) (base : Nat) (args : Array Value) (ds gs : List (DataW H)) (before : List MemPlace)
    (hval : ∀ (j : Nat) t v, Try.f8.params[j]? = some t → args[j]? = some v → Value.okWide Try.prog W .any base t v)
    (hW : DataW.Whole enc Try.prog Try.f8.params.toList Rows.cacheCopiesSpec.vars false W args.toList ds gs before) (hsz : (DataW.weightsEach Try.prog (Try.f8.params.toList ++ Rows.cacheCopiesSpec.plain.varTypes Try.prog) (ds ++ gs)).all (· ≤ reachBytes) = true) :
    Calls Try.prog 8 args W fun e W' => ∃ v, e = .returned v ∧ Rows.cacheCopiesSpec.post enc Try.prog Try.f8 false true false false W args v W' := by
  have hW' := hW
  obtain ⟨p, q, hA0, hV, rfl, hfz, hnd⟩ := hW
  have hA : DataW.TrodAll enc Try.prog W 0 (fun _ => true) true Try.f8.params.toList args.toList ds p := hA0
  rw [Try.params8] at hA hval
  obtain ⟨v0, vs0, d0, ds0, p0, q0, hargs, rfl, rfl, g0, r0⟩ := trodAll_cons hA
  obtain ⟨v1, vs1, d1, ds1, p1, q1, rfl, rfl, rfl, g1, r1⟩ := trodAll_cons r0
  obtain ⟨v2, vs2, d2, ds2, p2, q2, rfl, rfl, rfl, g2, r2⟩ := trodAll_cons r1
  obtain ⟨rfl, rfl, rfl⟩ := trodAll_nil r2
  obtain rfl : args = #[v0, v1, v2] := by cases args; simp_all
  obtain ⟨rfl, rfl⟩ := trodVars_none hV
  obtain ⟨z0, rfl, rfl, rfl, w0⟩ := open_int Try.underlying3 (hval 0 3 v0 rfl rfl) g0
  clear hA0
  simp only [List.append_nil] at hsz
  have s1 : Small 22 d1 := fun n hn => by simpa using List.all_eq_true.1 hsz n (DataW.weights_mem_each (j := 1) (t := 22) rfl rfl n hn)
  obtain ⟨A1, n1, c1, f1, rfl, hC1, hn1⟩ := open_calls (hval 1 22 v1 rfl rfl) g1 s1
  have s2 : Small 22 d2 := fun n hn => by simpa using List.all_eq_true.1 hsz n (DataW.weights_mem_each (j := 2) (t := 22) rfl rfl n hn)
  obtain ⟨A2, n2, c2, f2, rfl, hC2, hn2⟩ := open_calls (hval 2 22 v2 rfl rfl) g2 s2
  refine (walk z0 A1 n1 c1 f1 A2 n2 c2 f2 W hC1 hn1 hC2 hn2).mono fun e W' ⟨he, hb⟩ => ?_
  subst he
  exact ⟨_, rfl, Frame.law_post Frame.laidOut (by kernel_rfl) Try.underlying4 (by kernel_rfl) rfl rfl hW' hb⟩

set_option maxRecDepth 100000 in
theorem lifted (os : Os) (started : os.Started) (H : Type) (enc : TypeId × Value → H) :
    ReturnsInHanded {} Try.checked os 8 .any (Rows.cacheCopiesSpec.pre6 enc Try.prog Try.f8 Rows.cacheCopiesRow.domain false) (Rows.cacheCopiesSpec.post enc Try.prog Try.f8 false true false false) := by
  refine returnsInHanded_of_change_sized (C := Try.checked) Frame.own started (by kernel_rfl) Try.func8
    (ChangeSpec.witness6 (enc := enc) (C := Try.checked) false ⟨#[], #[.int .i64 0, .slice none 0 0, .slice none 0 0], []⟩ 8 (by kernel_rfl) (by kernel_rfl) (by kernel_rfl) (by kernel_rfl)) ?_
  intro W base args ds gs before hval hW _ hsz _
  exact contract H enc W base args ds gs before hval hW hsz

theorem proved : Rows.CacheCopiesSaid :=
  OpenClaim.holds_of_wide 8 Try.f8 rfl rfl rfl rfl rfl rfl rfl ⟨rfl, rfl, rfl, rfl, rfl⟩ rfl rfl rfl rfl rfl (by kernel_rfl) Try.func8 (by kernel_rfl)
    (of_decide_eq_true (by kernel_rfl)) (by unfold Func.isWrapper; first | (rw [if_pos (by decide +kernel)]; kernel_rfl) | (rw [if_neg (by decide +kernel)]; exact ⟨rfl, rfl⟩))
    (fun os started H enc _ => lifted os started H enc)


end Go.Proofs.Ytkdokipgakncjaa.CacheCopies
