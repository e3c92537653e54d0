/-
  CacheNone: caches that are nil or were not made.
-/
import Derived.Test.YtkdokipgakncjaaCacNone
namespace Go.Proofs.Ytkdokipgakncjaa.CacheNone
open Go.RowKit Go.Proofs.Ytkdokipgakncjaa Go.Proofs.Ytkdokipgakncjaa.Cac

def ZCo (B g : Nat) : Cac.Obj := fun W M => M = [g] ∧ Blk W g 47 #[.int .i64 0, .map none, .slice none 0 0, .int .i64 0] ∧ B ≤ g
def ZRo (B g : Nat) : Cac.Obj := fun W M => M = [g] ∧ Blk W g 50 #[.int .i64 0, .int .i64 0, .slice none 0 0, .slice none 0 0, .bool false] ∧ B ≤ g
theorem obZC (B g : Nat) : Ob (ZCo B g) B where
  tch := fun ⟨e, h, hl⟩ ht _ hm => ⟨e, ht.blk h (hm g (by rw [e]; simp)), hl⟩
  noPix := fun ⟨e, h, _⟩ k hk => by
    rw [e] at hk
    simp only [List.mem_singleton] at hk
    subst hk
    exact NoPix.cells h (by decide)
  size := fun ⟨e, h, _⟩ k hk => by
    rw [e] at hk
    simp only [List.mem_singleton] at hk
    subst hk
    exact h.lt
  lows := fun ⟨e, _, hl⟩ k hk => by
    rw [e] at hk
    simp only [List.mem_singleton] at hk
    subst hk
    exact hl
theorem obZR (B g : Nat) : Ob (ZRo B g) B where
  tch := fun ⟨e, h, hl⟩ ht _ hm => ⟨e, ht.blk h (hm g (by rw [e]; simp)), hl⟩
  noPix := fun ⟨e, h, _⟩ k hk => by
    rw [e] at hk
    simp only [List.mem_singleton] at hk
    subst hk
    exact NoPix.cells h (by decide)
  size := fun ⟨e, h, _⟩ k hk => by
    rw [e] at hk
    simp only [List.mem_singleton] at hk
    subst hk
    exact h.lt
  lows := fun ⟨e, _, hl⟩ k hk => by
    rw [e] at hk
    simp only [List.mem_singleton] at hk
    subst hk
    exact hl
theorem Hold.fst {P Q : Cac.Obj} {B : Nat} {w0 W : World} (h : Hold (Both P Q) B w0 W) : Hold P B w0 W := by
  obtain ⟨M, hM⟩ := h.st
  exact ⟨hM.one, h.below, h.low⟩
theorem shape {W : World} {B : Nat} {x : CallV} {r : Value} (h : CallR W B r x) : ∃ A q c, r = .slice A q c := by
  obtain ⟨⟨A, c, he, _⟩, _⟩ := h
  simp only [Value.agg.injEq, Array.mk.injEq, List.cons.injEq, true_and, and_true] at he
  exact ⟨A, _, c, he⟩
theorem zc_made {B g : Nat} {W : World} {M : List Nat} (h : ZCo B g W M) : Calls Try.prog 34 #[.pointer (some ⟨g, 0, none⟩)] W fun e w' => e = .returned (.bool false) ∧ W = w' := made_zero g _ _ _ W h.2.1
theorem zr_made {B g : Nat} {W : World} {M : List Nat} (h : ZRo B g W M) : Calls Try.prog 36 #[.pointer (some ⟨g, 0, none⟩)] W fun e w' => e = .returned (.bool false) ∧ W = w' := rmade_zero g _ _ _ _ W h.2.1
theorem zero_new {B : Nat} {w0 W : World} {P : Cac.Obj} (h : Hold P B w0 W) (hP : Ob P B) : Hold (Both P (ZRo B W.heap.size)) B w0 (W.alloc (.cells #[.int .i64 0, .int .i64 0, .slice none 0 0, .slice none 0 0, .bool false] 50)) :=
  h.join hP (N := [W.heap.size]) ⟨rfl, Blk.new _ _ _, h.size⟩ (by simp) ((Below.refl _ _).alloc (Nat.le_refl _) _)

theorem call_c {w : World} {a : Addr} {x : CallV} {r : Value} (h : ∀ c u, (xcs x r)[c]? = some u → w.cell? (a.add c) = some u) (c : Nat) (hc : 0 < c) (u : Value) (hu : (xcs x r)[c]? = some u) : w.cell? ⟨a.block, a.off + c, none⟩ = some u := by
  have := h c u hu
  unfold Addr.add at this
  rwa [if_neg (by omega)] at this
theorem call_all {w : World} {a : Addr} {x : CallV} {r : Value} (h : ∀ c u, (xcs x r)[c]? = some u → w.cell? (a.add c) = some u) : w.cell? a = some (.int .i64 x.kind) ∧ w.cell? ⟨a.block, a.off + 1, none⟩ = some (.int .i64 x.n) ∧ w.cell? ⟨a.block, a.off + 2, none⟩ = some (.int .i64 x.k.1) ∧ w.cell? ⟨a.block, a.off + 3, none⟩ = some (.int .i64 x.k.2.1) ∧ w.cell? ⟨a.block, a.off + 4, none⟩ = some (.int .i64 x.k.2.2.1) ∧ w.cell? ⟨a.block, a.off + 5, none⟩ = some (.int .i64 x.k.2.2.2.1) ∧ w.cell? ⟨a.block, a.off + 6, none⟩ = some (.int .i64 x.k.2.2.2.2) ∧ w.cell? ⟨a.block, a.off + 7, none⟩ = some (.int .i64 x.i.W) ∧ w.cell? ⟨a.block, a.off + 8, none⟩ = some (.int .i64 x.i.H) ∧ w.cell? ⟨a.block, a.off + 9, none⟩ = some r :=
  ⟨(call_cells h).1, call_c h 1 (by omega) _ rfl, call_c h 2 (by omega) _ rfl, call_c h 3 (by omega) _ rfl, call_c h 4 (by omega) _ rfl, call_c h 5 (by omega) _ rfl, call_c h 6 (by omega) _ rfl, call_c h 7 (by omega) _ rfl, call_c h 8 (by omega) _ rfl, call_c h 9 (by omega) _ rfl⟩

set_option maxRecDepth 100000 in
set_option maxHeartbeats 4000000 in
theorem walk (A : Option Addr) (n c : Nat) (f : Nat → CallV × Value) (w : World) (hC : Calls_ w w.heap.size A n f) (hn : n ≤ 1759218604441) :
    Calls Try.prog 7 #[.slice A n c] w (Yes w) := by
  obtain ⟨B, hBw⟩ : ∃ B, w.heap.size = B := ⟨_, rfl⟩
  have h1 : Hold (ZCo w.heap.size w.heap.size) w.heap.size w (w.alloc (.cells #[.int .i64 0, .map none, .slice none 0 0, .int .i64 0] 47)) := ⟨⟨[w.heap.size], rfl, Blk.new _ _ _, Nat.le_refl _⟩, (Below.refl _ _).alloc (Nat.le_refl _) _, Nat.le_refl _⟩
  rw [hBw] at hC h1
  have HC := Lib.hid hC
  have HB := Lib.hid hBw
  have H1 := Lib.hid h1
  clear hC h1
  go_enter Try.func7, Try.ntmps7
  go_wp2_with fail
  go_loopw [4] (fun i wr => ∃ j : Nat, i = .int .i64 j ∧ j ≤ n ∧ Hold (ZCo B B) B w wr) (fun i _ => n - (intOf i).toNat)
  case atStart => exact ⟨0, rfl, by omega, H1.out⟩
  case round =>
    clear H1 hBw
    obtain ⟨j, rfl, hj, h⟩ := hrel
    by_cases hlt : j < n
    · obtain ⟨ad, rfl, hlb, hcell, hcr⟩ := (HC.out.below h.below).at_ j hlt
      have hcl := fun (W : World) (hb : Below B w W) => (HC.out.below hb).cells j hlt
      obtain ⟨x, hx⟩ : ∃ x, (f j).1 = x := ⟨_, rfl⟩
      obtain ⟨r, hr⟩ : ∃ r, (f j).2 = r := ⟨_, rfl⟩
      rw [hx, hr] at hcell hcr hcl
      obtain ⟨Ar, nr, cr, rfl⟩ := shape hcr
      have hdo := h.call (obZC _ _) (fun M hM => step_any (.pointer none) (.pointer none) B _ _ _ s00 x (.slice Ar nr cr) (steps_none _ _ B (ZCo B B) (obZC _ _) (fun W _ _ => made_nil W) (fun W _ _ => rmade_nil W) x Ar nr cr) M wr hM hcr.1 h.size)
      have HCL := Lib.hid hcl
      clear hx hr h hcr hcl
      go_wp2_with (refine wpList_load_call rfl _ rfl (ad.add (j * 10)) rfl x (.slice Ar nr cr) hcell ?_)
      refine hdo.mono ?_
      rintro e w3 ⟨rfl, h3⟩
      clear hdo hcell
      have h4 := zero_new h3 (obZC _ _)
      obtain ⟨hcell4, hcr4⟩ := HCL.out _ h4.below
      have hdo2 := h4.call ((obZC _ _).both (obZR _ _)) (fun M hM => step_any (.pointer (some ⟨B, 0, none⟩)) (.pointer (some ⟨w3.heap.size, 0, none⟩)) B _ _ _ s00 x (.slice Ar nr cr)
        (steps_none _ _ B (Both (ZCo B B) (ZRo B w3.heap.size)) ((obZC _ _).both (obZR _ _)) (fun W M hM => by obtain ⟨M1, h1⟩ := hM.one; exact zc_made h1) (fun W M hM => by obtain ⟨M1, h1⟩ := hM.two; exact zr_made h1) x Ar nr cr) M _ hM hcr4.1 h4.size)
      obtain ⟨e0, e1, e2, e3, e4, e5, e6, e7, e8, e9⟩ := call_all hcell4
      unfold cagg at hdo2
      clear h3 h4 hcr4 hcell4
      go_wp2_with fail
      refine hdo2.mono ?_
      rintro e w5 ⟨rfl, h5⟩
      have H5 := Lib.hid (Hold.fst h5)
      clear hdo2 h5 e0 e1 e2 e3 e4 e5 e6 e7 e8 e9
      go_wp2_with fail
      go_roundw
      case rel => exact ⟨j + 1, by go_num, by omega, H5.out⟩
      case measure => simp [intOf]; omega
    · obtain rfl : j = n := by omega
      have k1 := none_Copy (.pointer none) wr (fun W' _ => made_nil W')
      have H := Lib.hid h
      clear h
      go_wp2_with fail
      refine k1.mono ?_
      rintro e w3 ⟨rfl, b3⟩
      have h3 := H.out.later (obZC _ _) b3
      have hmz : ∀ W', Below w3.heap.size w3 W' → Calls Try.prog 34 #[.pointer (some ⟨B, 0, none⟩)] W' fun e w' => e = .returned (.bool false) ∧ W' = w' := fun W' hb => by
        obtain ⟨M, hM⟩ := (h3.later (obZC _ _) hb).st
        exact zc_made hM
      have k2 := none_Copy (.pointer (some ⟨B, 0, none⟩)) w3 hmz
      have H3 := Lib.hid h3
      have HMZ := Lib.hid hmz
      clear k1 b3 h3 hmz
      go_wp2_with fail
      refine k2.mono ?_
      rintro e w4 ⟨rfl, b4⟩
      have k3 := none_Keys (.pointer (some ⟨B, 0, none⟩)) w4 (fun W' hb => HMZ.out W' (b4.trans (hb.mono b4.size)))
      have B4 := Lib.hid b4
      clear k2 b4
      go_wp2_with fail
      refine k3.mono ?_
      rintro e w5 ⟨rfl, b5⟩
      have B5 := Lib.hid (B4.out.trans (b5.mono B4.out.size))
      clear k3 b5
      go_wp2_with fail
      refine (example_any w5).mono ?_
      rintro e w9 ⟨rfl, hb9⟩
      go_wp2_with fail
      go_ret
      refine ⟨rfl, ?_⟩
      have h1 := H3.out.below
      have h2 := B5.out
      have h3 := HB.out
      exact ((h1.trans (h2.mono (by have := h1.size; omega))).trans (hb9.mono (by have := h1.size; have := h2.size; omega))).mono (by omega)

open Go.ChangeShapes Go.WideShapes Go.ChangeAt Go.Joins Go.Deep

theorem contract (H : Type) (enc : TypeId × Value → H) (W : World) (base : Nat) (args : Array Value) (ds gs : List (DataW H)) (before : List MemPlace)
    (hval : ∀ (j : Nat) t v, Try.f7.params[j]? = some t → args[j]? = some v → Value.okWide Try.prog W .any base t v)
    (hW : DataW.Whole enc Try.prog Try.f7.params.toList Rows.cacheNoneSpec.vars false W args.toList ds gs before) (hsz : (DataW.weightsEach Try.prog (Try.f7.params.toList ++ Rows.cacheNoneSpec.plain.varTypes Try.prog) (ds ++ gs)).all (· ≤ reachBytes) = true) :
    Calls Try.prog 7 args W fun e W' => ∃ v, e = .returned v ∧ Rows.cacheNoneSpec.post enc Try.prog Try.f7 false true false false W args v W' := by
  have hW' := hW
  obtain ⟨p, q, hA0, hV, rfl, hfz, hnd⟩ := hW
  have hA : DataW.TrodAll enc Try.prog W 0 (fun _ => true) true Try.f7.params.toList args.toList ds p := hA0
  rw [Try.params7] at hA hval
  obtain ⟨v0, vs0, d0, ds0, p0, q0, hargs, rfl, rfl, g0, r0⟩ := trodAll_cons hA
  obtain ⟨rfl, rfl, rfl⟩ := trodAll_nil r0
  obtain rfl : args = #[v0] := by cases args; simp_all
  obtain ⟨rfl, rfl⟩ := trodVars_none hV
  clear hA0
  simp only [List.append_nil] at hsz
  have s0 : Small 22 d0 := fun n hn => by simpa using List.all_eq_true.1 hsz n (DataW.weights_mem_each (j := 0) (t := 22) rfl rfl n hn)
  obtain ⟨A0, n0, c0, f0, rfl, hC0, hn0⟩ := open_calls (hval 0 22 v0 rfl rfl) g0 s0
  refine (walk A0 n0 c0 f0 W hC0 hn0).mono fun e W' ⟨he, hb⟩ => ?_
  subst he
  exact ⟨_, rfl, Frame.law_post Frame.laidOut (by kernel_rfl) Try.underlying4 (by kernel_rfl) rfl rfl hW' hb⟩

set_option maxRecDepth 100000 in
theorem lifted (os : Os) (started : os.Started) (H : Type) (enc : TypeId × Value → H) :
    ReturnsInHanded {} Try.checked os 7 .any (Rows.cacheNoneSpec.pre6 enc Try.prog Try.f7 Rows.cacheNoneRow.domain false) (Rows.cacheNoneSpec.post enc Try.prog Try.f7 false true false false) := by
  refine returnsInHanded_of_change_sized (C := Try.checked) Frame.own started (by kernel_rfl) Try.func7
    (ChangeSpec.witness6 (enc := enc) (C := Try.checked) false ⟨#[], #[.slice none 0 0], []⟩ 8 (by kernel_rfl) (by kernel_rfl) (by kernel_rfl) (by kernel_rfl)) ?_
  intro W base args ds gs before hval hW _ hsz _
  exact contract H enc W base args ds gs before hval hW hsz

theorem proved : Rows.CacheNoneSaid :=
  OpenClaim.holds_of_wide 7 Try.f7 rfl rfl rfl rfl rfl rfl rfl ⟨rfl, rfl, rfl, rfl, rfl⟩ rfl rfl rfl rfl rfl (by kernel_rfl) Try.func7 (by kernel_rfl)
    (of_decide_eq_true (by kernel_rfl)) (by unfold Func.isWrapper; first | (rw [if_pos (by decide +kernel)]; kernel_rfl) | (rw [if_neg (by decide +kernel)]; exact ⟨rfl, rfl⟩))
    (fun os started H enc _ => lifted os started H enc)


end Go.Proofs.Ytkdokipgakncjaa.CacheNone
