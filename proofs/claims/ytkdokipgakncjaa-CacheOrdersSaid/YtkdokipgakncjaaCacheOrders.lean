/-
  CacheOrders: images have no influence on which keys are there.
-/
import Derived.Test.YtkdokipgakncjaaCacBoth
namespace Go.Proofs.Ytkdokipgakncjaa.CacheOrders
open Go.RowKit Go.Proofs.Ytkdokipgakncjaa Go.Proofs.Ytkdokipgakncjaa.Cac

/-- Two states with the same keys. -/
structure Alike (s t : St) : Prop where
  b : s.b = t.b
  k : keys s.l = keys t.l
  e : s.e = t.e
theorem Alike.len {s t : St} (h : Alike s t) : s.l.length = t.l.length := by rw [← keys_len s.l, h.k, keys_len]
theorem keys_rem_eq (l : List Ent) (k : K5) : keys (rem l k) = (keys l).filter fun p => decide (p ≠ k) := by
  unfold keys rem
  rw [List.filter_map]
  rfl
theorem keys_dropE (l : List Ent) (n : Int) : keys (dropE l n) = (keys l).filter fun p => decide (p.1 ≠ n) := by
  unfold keys dropE
  rw [List.filter_map]
  rfl
theorem Alike.shrink {s t : St} (h : Alike s t) : Alike s.shrink t.shrink := by
  have hl := h.len
  refine ⟨h.b, ?_, ?_⟩
  · show keys (s.l.drop _) = keys (t.l.drop _)
    rw [keys_drop, keys_drop, h.k, hl, h.b]
  · show s.e + _ = t.e + _
    rw [h.e, hl, h.b]
theorem Alike.back {s t : St} (h : Alike s t) (k : K5) (i j : Img) : Alike { s with l := rem s.l k ++ [(k, i)] } { t with l := rem t.l k ++ [(k, j)] } := by
  refine ⟨h.b, ?_, h.e⟩
  show keys (_ ++ _) = keys (_ ++ _)
  rw [keys_app, keys_app, keys_rem_eq, keys_rem_eq, h.k]
  rfl
theorem Alike.step {s t : St} (h : Alike s t) (x : CallV) : Alike (s.step x) (t.step { x with i := img0 }) := by
  unfold St.step
  by_cases h0 : x.kind = 0
  · rw [if_pos h0, if_pos h0]
    unfold St.get
    cases h1 : Cac.look s.l x.k with
    | none =>
      have h2 : Cac.look t.l x.k = none := look_none.2 (by rw [← h.k]; exact look_none.1 h1)
      simp only [h2]
      exact h
    | some i =>
      cases h2 : Cac.look t.l x.k with
      | none =>
        have h3 : Cac.look s.l x.k = none := look_none.2 (by rw [h.k]; exact look_none.1 h2)
        rw [h1] at h3
        cases h3
      | some j => exact h.back x.k i j
  rw [if_neg h0, if_neg h0]
  by_cases h1 : x.kind = 1
  · rw [if_pos h1, if_pos h1]
    unfold St.put
    rw [h.b]
    split
    · exact h
    · have := (h.back x.k x.i img0).shrink
      rw [h.b] at this
      exact this
  rw [if_neg h1, if_neg h1]
  by_cases h2 : x.kind = 2
  · rw [if_pos h2, if_pos h2]
    refine ⟨h.b, ?_, h.e⟩
    show keys (dropE _ _) = keys (dropE _ _)
    rw [keys_dropE, keys_dropE, h.k]
  rw [if_neg h2, if_neg h2]
  by_cases h3 : x.kind = 3
  · rw [if_pos h3, if_pos h3]
    refine ⟨h.b, ?_, h.e⟩
    show keys (rem _ _) = keys (rem _ _)
    rw [keys_rem_eq, keys_rem_eq, h.k]
  rw [if_neg h3, if_neg h3]
  by_cases h4 : x.kind = 4
  · rw [if_pos h4, if_pos h4]
    exact Alike.shrink ⟨rfl, h.k, h.e⟩
  rw [if_neg h4, if_neg h4]
  exact h
def bare (x : CallV) : CallV := { x with i := img0 }
/-- The state behind j calls without images. -/
def runB (b : Int) (f : Nat → CallV × Value) : Nat → St
  | 0 => St.new b
  | j + 1 => (runB b f j).step (bare (f j).1)
theorem alike (b : Int) (f : Nat → CallV × Value) : ∀ j, Alike (runS b f j) (runB b f j)
  | 0 => ⟨rfl, rfl, rfl⟩
  | j + 1 => (alike b f j).step _
theorem CallR.shape {W : World} {B : Nat} {x : CallV} {r : Value} (h : CallR W B r x) : ∃ A q c, r = .slice A q c := by
  obtain ⟨⟨A, c, he, _⟩, _⟩ := h
  simp only [Value.agg.injEq, Array.mk.injEq, List.cons.injEq, true_and, and_true] at he
  exact ⟨A, _, c, he⟩
theorem bareR {W : World} {B : Nat} {x : CallV} {r : Value} (h : CallR W B r x) : CallR W B (.slice none 0 0) (bare x) := ⟨img0R W B, h.2.1, by simp [bare, img0]⟩
abbrev PA (B g h : Nat) (b : Int) (f : Nat → CallV × Value) (j : Nat) : Cac.Obj := Both (CP B g j (runS b f j)) (CP B h j (runB b f j))
theorem obA (B g h : Nat) (b : Int) (f : Nat → CallV × Value) (j : Nat) : Ob (PA B g h b f j) B := (obC _ _ _ _).both (obC _ _ _ _)

set_option maxHeartbeats 4000000 in
theorem walk (b : Int) (A : Option Addr) (n c : Nat) (f : Nat → CallV × Value) (w : World) (hC : Calls_ w w.heap.size A n f) (hn : n ≤ 1759218604441) :
    Calls Try.prog 6 #[.int .i64 b, .slice A n c] w (Yes w) := by
  obtain ⟨B, hBw⟩ : ∃ B, w.heap.size = B := ⟨_, rfl⟩
  rw [hBw] at hC
  have hnew := hold_new B b w w (Below.refl _ _) (by omega)
  have HC := Lib.hid hC
  have HB := Lib.hid hBw
  clear hC hBw
  go_enter Try.func6, Try.ntmps6
  go_wp2_with (go_at_call 9; first | (refine hnew.mono ?_; rintro e w1 ⟨g, rfl, h1⟩; clear hnew; have hnew2 := h1.new_ (obC _ _ _ _) b) | (refine hnew2.mono ?_; rintro e w2 ⟨g2, rfl, h2⟩; clear hnew2))
  clear h1
  go_loopw [7] (fun i wr => ∃ j : Nat, i = .int .i64 j ∧ j ≤ n ∧ Hold (PA B g g2 b f j) B w wr) (fun i _ => n - (intOf i).toNat)
  case atStart => exact ⟨0, rfl, by omega, h2⟩
  case round =>
    clear h2
    obtain ⟨j, rfl, hj, h⟩ := hrel
    by_cases hlt : j < n
    · obtain ⟨ad, rfl, hlb, hcell, hcr⟩ := (HC.out.below h.below).at_ j hlt
      have hcr1 := fun (W : World) (hb : Below B w W) (hs : B ≤ W.heap.size) => ((HC.out.below hb).cells j hlt).2.more hs
      have hdo := h.call (obA _ _ _ _ _ _) (fun M hM => both_first (obC _ _ _ _) (obC _ _ _ _) hM fun M1 h1 => cp_do h1 (f j).1 (f j).2 (hcr1 _ h.below h.size) (by omega) h.size)
      have hcells := fun (W : World) (hb : Below B w W) => ((HC.out.below hb).cells j hlt).1
      obtain ⟨x, hx⟩ : ∃ x, (f j).1 = x := ⟨_, rfl⟩
      obtain ⟨r, hr⟩ : ∃ r, (f j).2 = r := ⟨_, rfl⟩
      have hst1 : (runS b f j).step x = runS b f (j + 1) := by rw [← hx]; rfl
      have hst2 : (runB b f j).step (bare x) = runB b f (j + 1) := by rw [← hx]; rfl
      rw [hx, hr] at hcell hcr1 hcells hdo
      rw [hst1] at hdo
      have HST := Lib.hid hst2
      obtain ⟨A2, q2, c2, rfl⟩ := CallR.shape (hcr1 wr h.below h.size)
      have HCR := Lib.hid hcr1
      have HCE := Lib.hid hcells
      clear hx hr h hcr hcr1 hcells hst1 hst2
      go_wp2_with (refine wpList_load_call rfl _ rfl (ad.add (j * 10)) rfl x (.slice A2 q2 c2) hcell ?_)
      refine hdo.mono ?_
      rintro e w3 ⟨rfl, h3⟩
      clear hdo hcell
      have hcell3 := HCE.out w3 h3.below
      have H3 := Lib.hid h3
      clear h3
      go_wp2_with (refine wpList_load_call rfl _ rfl (ad.add (j * 10)) rfl x (.slice A2 q2 c2) hcell3 ?_; unfold cagg)
      have hdo2 := fun (W : World) (hb : Below w3.heap.size w3 W) => (H3.out.later ((obC _ _ _ _).both (obC _ _ _ _)) hb).call ((obC _ _ _ _).both (obC _ _ _ _)) (fun M hM => both_second (obC _ _ _ _) (obC _ _ _ _) hM fun M1 h1 =>
        cp_do h1 (bare x) (.slice none 0 0) (bareR (HCR.out _ (H3.out.below.trans (hb.mono H3.out.size)) (Nat.le_trans H3.out.size hb.size))) (by omega) (Nat.le_trans H3.out.size hb.size))
      rw [HST.out] at hdo2
      unfold cagg at hdo2
      refine (hdo2 _ ?_).mono ?_
      · exact Below.alloc (Below.refl _ _) (Nat.le_refl _) _
      rintro e w4 ⟨rfl, h4⟩
      clear hdo2 hcell3
      have hal := alike b f (j + 1)
      obtain ⟨q, hq⟩ : ∃ q, (runS b f (j + 1)).l.length = q := ⟨_, rfl⟩
      obtain ⟨z, hz⟩ : ∃ z, (runS b f (j + 1)).e = z := ⟨_, rfl⟩
      have hq2 : (runB b f (j + 1)).l.length = q := by rw [← hal.len, hq]
      have hz2 : (runB b f (j + 1)).e = z := by rw [← hal.e, hz]
      have hq1 : q ≤ 1024 := by have := h4.len1; omega
      have hk1 := h4.keys1 q hq
      have hk2 := fun (W : World) (hb : Below w4.heap.size w4 W) => (h4.later (obA _ _ _ _ _ _) hb).keys2 q hq2
      have he1 := fun (W : World) (hb : Below w4.heap.size w4 W) => (h4.later (obA _ _ _ _ _ _) hb).ev1 z hz
      have he2 := fun (W : World) (hb : Below w4.heap.size w4 W) => (h4.later (obA _ _ _ _ _ _) hb).ev2 z hz2
      rw [← hal.k] at hk2
      have HKL := Lib.hid (keys_len (runS b f (j + 1)).l)
      have HQ := Lib.hid hq
      obtain ⟨L, hL⟩ : ∃ L, keys (runS b f (j + 1)).l = L := ⟨_, rfl⟩
      rw [hL] at hk1 hk2
      have HL := Lib.hid hL
      have HQL : Hid (q = L.length) := Lib.hid (by rw [← HL.out, HKL.out, HQ.out])
      have H4 := Lib.hid h4
      have K2 := Lib.hid hk2
      have E1 := Lib.hid he1
      have E2 := Lib.hid he2
      clear h4 hq hz hq2 hz2 hal hk2 he1 he2 hL
      go_wp2_with fail
      refine hk1.mono ?_
      rintro e w5 ⟨A5, c5, rfl, k5, b5⟩
      have k2 := K2.out w5 b5
      have KA := Lib.hid k5
      have B5 := Lib.hid b5
      clear k5 hk1 b5
      go_wp2_with fail
      refine k2.mono ?_
      rintro e w6 ⟨A6, c6, rfl, k6, b6⟩
      have k3 := same_yes A5 A6 q c5 c6 L w6 (KA.out.below b6) k6 HQL.out (by omega)
      have B6 := Lib.hid (B5.out.trans (b6.mono B5.out.size))
      clear k6 b6 k2
      go_wp2_with fail
      refine k3.mono ?_
      rintro e w7 ⟨rfl, b7⟩
      have B7 := Lib.hid (B6.out.trans (b7.mono B6.out.size))
      clear b7 k3
      have e1 := E1.out w7 B7.out
      have e2 := E2.out w7 B7.out
      go_wp2_with fail
      refine e1.mono ?_
      rintro e w8 ⟨rfl, rfl⟩
      go_wp2_with fail
      refine e2.mono ?_
      rintro e w8 ⟨rfl, rfl⟩
      go_wp2_with fail
      go_roundw
      case rel => exact ⟨j + 1, by go_num, by omega, H4.out.later (obA _ _ _ _ _ _) B7.out⟩
      case measure => simp [intOf]; omega
    · obtain rfl : j = n := by omega
      have hb := h.below
      clear h
      go_wp2_with (go_at_call 17; refine (example_any wr).mono ?_; rintro e w3 ⟨rfl, hb3⟩)
      go_ret
      exact ⟨rfl, by have := HB.out; exact (hb.trans (hb3.mono (by have := hb.size; omega))).mono (by omega)⟩

open Go.ChangeShapes Go.WideShapes Go.ChangeAt Go.Joins Go.Deep

theorem contract (H : Type) (enc : TypeId × Value → H) (W : World) (base : Nat) (args : Array Value) (ds gs : List (DataW H)) (before : List MemPlace)
    (hval : ∀ (j : Nat) t v, Try.f6.params[j]? = some t → args[j]? = some v → Value.okWide Try.prog W .any base t v)
    (hW : DataW.Whole enc Try.prog Try.f6.params.toList Rows.cacheOrdersSpec.vars false W args.toList ds gs before) (hsz : (DataW.weightsEach Try.prog (Try.f6.params.toList ++ Rows.cacheOrdersSpec.plain.varTypes Try.prog) (ds ++ gs)).all (· ≤ reachBytes) = true) :
    Calls Try.prog 6 args W fun e W' => ∃ v, e = .returned v ∧ Rows.cacheOrdersSpec.post enc Try.prog Try.f6 false true false false W args v W' := by
  have hW' := hW
  obtain ⟨p, q, hA0, hV, rfl, hfz, hnd⟩ := hW
  have hA : DataW.TrodAll enc Try.prog W 0 (fun _ => true) true Try.f6.params.toList args.toList ds p := hA0
  rw [Try.params6] at hA hval
  obtain ⟨v0, vs0, d0, ds0, p0, q0, hargs, rfl, rfl, g0, r0⟩ := trodAll_cons hA
  obtain ⟨v1, vs1, d1, ds1, p1, q1, rfl, rfl, rfl, g1, r1⟩ := trodAll_cons r0
  obtain ⟨rfl, rfl, rfl⟩ := trodAll_nil r1
  obtain rfl : args = #[v0, v1] := by cases args; simp_all
  obtain ⟨rfl, rfl⟩ := trodVars_none hV
  obtain ⟨z0, rfl, rfl, rfl, w0⟩ := open_int Try.underlying3 (hval 0 3 v0 rfl rfl) g0
  clear hA0
  simp only [List.append_nil] at hsz
  have s1 : Small 22 d1 := fun n hn => by simpa using List.all_eq_true.1 hsz n (DataW.weights_mem_each (j := 1) (t := 22) rfl rfl n hn)
  obtain ⟨A1, n1, c1, f1, rfl, hC1, hn1⟩ := open_calls (hval 1 22 v1 rfl rfl) g1 s1
  refine (walk z0 A1 n1 c1 f1 W hC1 hn1).mono fun e W' ⟨he, hb⟩ => ?_
  subst he
  exact ⟨_, rfl, Frame.law_post Frame.laidOut (by kernel_rfl) Try.underlying4 (by kernel_rfl) rfl rfl hW' hb⟩

set_option maxRecDepth 100000 in
theorem lifted (os : Os) (started : os.Started) (H : Type) (enc : TypeId × Value → H) :
    ReturnsInHanded {} Try.checked os 6 .any (Rows.cacheOrdersSpec.pre6 enc Try.prog Try.f6 Rows.cacheOrdersRow.domain false) (Rows.cacheOrdersSpec.post enc Try.prog Try.f6 false true false false) := by
  refine returnsInHanded_of_change_sized (C := Try.checked) Frame.own started (by kernel_rfl) Try.func6
    (ChangeSpec.witness6 (enc := enc) (C := Try.checked) false ⟨#[], #[.int .i64 0, .slice none 0 0], []⟩ 8 (by kernel_rfl) (by kernel_rfl) (by kernel_rfl) (by kernel_rfl)) ?_
  intro W base args ds gs before hval hW _ hsz _
  exact contract H enc W base args ds gs before hval hW hsz

theorem proved : Rows.CacheOrdersSaid :=
  OpenClaim.holds_of_wide 6 Try.f6 rfl rfl rfl rfl rfl rfl rfl ⟨rfl, rfl, rfl, rfl, rfl⟩ rfl rfl rfl rfl rfl (by kernel_rfl) Try.func6 (by kernel_rfl)
    (of_decide_eq_true (by kernel_rfl)) (by unfold Func.isWrapper; first | (rw [if_pos (by decide +kernel)]; kernel_rfl) | (rw [if_neg (by decide +kernel)]; exact ⟨rfl, rfl⟩))
    (fun os started H enc _ => lifted os started H enc)


end Go.Proofs.Ytkdokipgakncjaa.CacheOrders
