/-
  WireNone: readers that are nil, and readers that were not made: package wire's answer as the reference's do, and have the error ErrState. No condition.
-/
import Derived.Test.YtmnlijeflcedcaaWireStep2
import Derived.Test.YtmnlijeflcedcaaPairs
import Derived.SizedLaws
namespace Go.Proofs.Ytmnlijeflcedcaa.WireNoneP
open Go.RowKit Go.Proofs.Ytmnlijeflcedcaa Go.Proofs.Ytmnlijeflcedcaa.WirePure Go.Proofs.Ytmnlijeflcedcaa.WireRd Go.Proofs.Ytmnlijeflcedcaa.WireShortest

theorem step_none (kind most : Int) (w : World) (hm : most ≤ 9223372036854775807) :
    Calls Try.prog 28 #[.pointer none, .pointer none, .agg #[.int .i64 kind, .int .i64 most]] w (SP w.heap.size none none (.bad 14) w) := by
  have h := step_any w.heap.size none none (.bad 14) kind most w (.inl ⟨rfl, rfl⟩) (.inl ⟨rfl, rfl⟩) (by intro b h; cases h) (Nat.le_refl _) (by intro b h; cases h) (by intro b h; cases h) hm (by simp [A.left])
  rw [stepA_bad] at h
  exact h

theorem step_unmade (B b b' : Nat) (kind most : Int) (w : World) (hi : Is w (some b) (.bad 14)) (hr : Ref04Rd.Is w (some b') (.bad 14)) (hne : b ≠ b') (hB : B ≤ w.heap.size) (h1 : B ≤ b) (h2 : B ≤ b') (hm : most ≤ 9223372036854775807) :
    Calls Try.prog 28 #[.pointer (some ⟨b, 0, none⟩), .pointer (some ⟨b', 0, none⟩), .agg #[.int .i64 kind, .int .i64 most]] w (SP B (some b) (some b') (.bad 14) w) := by
  have h := step_any B (some b) (some b') (.bad 14) kind most w hi hr (by intro x e1 e2; cases e1; cases e2; exact hne rfl) hB (by intro x e; cases e; exact h1) (by intro x e; cases e; exact h2) hm (by simp [A.left])
  rw [stepA_bad] at h
  exact h

theorem i64w {x : Int} (h0 : -9223372036854775808 ≤ x) (h1 : x ≤ 9223372036854775807) : IntKind.i64.wrap x = x := by
  exact IntWalk.i64_in _ (by omega)
theorem pairs_len {H : Type} {enc : TypeId × Value → H} {P : Program} {w : World} {t e : TypeId} {f0 f1 : Field} {fuel : Nat} {v : Value} {x : DataW H × List MemPlace} (ht : P.underlying t = some (.slice e)) (he : P.underlying e = some (.struct #[f0, f1]))
    (ce : P.cellsOf e = 2) (o0 : f0.offset = 0) (o1 : f1.offset = 1) (c0 : P.cellsOf f0.type = 1) (c1 : P.cellsOf f1.type = 1)
    (h : DataW.trod enc P w 0 (fun _ => true) true fuel t [v] = some x) {A : Option Addr} {n cap : Nat} (hv : v = .slice A n cap) : n ≤ 9223372036854775807 := by
  rcases Go.Deep.open_slice_pairs ht he ce o0 o1 c0 c1 h with ⟨hcs, _⟩ | ⟨a, len, cap', m, n', V0, V1, D0, D1, P0, P1, hcs, _, hl, hm, _, _, _⟩
  · simp only [List.cons.injEq, and_true] at hcs
    rw [hv] at hcs
    injection hcs with _ h2 _
    omega
  · simp only [List.cons.injEq, and_true] at hcs
    rw [hv] at hcs
    injection hcs with _ h2 _
    unfold maxLen at hm
    omega
set_option maxHeartbeats 2000000 in
set_option maxRecDepth 100000 in
theorem walk (A : Option Addr) (cap : Nat) (ps : List (Int × Int)) (w : World) (hl : ps.length ≤ 9223372036854775807) (hps : ∀ p ∈ ps, p.2 ≤ 9223372036854775807) (hr : Reads w w.heap.size 2 A ps.length (pairCells ps)) :
    Calls Try.prog 8 #[.slice A ps.length cap] w fun e w' => e = .returned (.bool true) ∧ Below w.heap.size w w' := by
  have HL := Lib.hid hl
  have HP := Lib.hid hps
  have HR := Lib.hid hr
  clear hps hr hl
  have hi0 : Is (w.alloc (.cells (rdCells false .empty 0 0) 52)) (some w.heap.size) (.bad 14) := .inr (.inl ⟨_, _, _, _, rfl, rfl, Blk.new w _ _⟩)
  have hb0 : Below w.heap.size w (w.alloc (.cells (rdCells false .empty 0 0) 52)) := (Below.refl _ _).alloc (Nat.le_refl _) _
  go_enter Try.func8, Try.ntmps8
  go_wp2_with fail
  go_loopw [4] (fun vi wr => ∃ k : Nat, vi = .int .i64 k ∧ k ≤ ps.length ∧ Is wr (some w.heap.size) (.bad 14) ∧ Below w.heap.size w wr ∧ w.heap.size < wr.heap.size) (fun vi _ => ps.length - (intOf vi).toNat)
  case atStart => exact ⟨0, rfl, Nat.zero_le _, hi0, hb0, by simp⟩
  case round =>
    obtain ⟨k, rfl, hk, hir, hB, hlt⟩ := hrel
    clear hi0 hb0
    by_cases hkn : k < ps.length
    · obtain ⟨ad, rfl, hbk, c0, c1⟩ := (HR.out.below hB).pair hkn
      go_wp2_with fail
      refine (step_none _ _ wr (HP.out _ (List.getElem_mem hkn))).mono ?_
      rintro e w1 ⟨rfl, _, _, hb1⟩
      have hir1 := hir.below hb1 (fun b hb => hir.lt b hb)
      have hB1 := hB.trans (hb1.mono hB.size)
      have hlt1 := Nat.lt_of_lt_of_le hlt hb1.size
      obtain ⟨ad', he, _, c0', c1'⟩ := (HR.out.below (hB1.alloc hB1.size (.cells #[.string ⟨#[]⟩, .int .i64 0, .int .i64 0, .bool false] 54))).pair hkn
      cases he
      clear c0 c1 hir hB hb1 hlt
      go_wp2_with fail
      have hir2 : Is (w1.alloc (.cells (Ref04Rd.rdCells false .empty 0 0) 54)) (some w.heap.size) (.bad 14) := hir1.alloc _
      have hrr2 : Ref04Rd.Is (w1.alloc (.cells (Ref04Rd.rdCells false .empty 0 0) 54)) (some w1.heap.size) (.bad 14) := .inr (.inl ⟨_, _, _, _, rfl, rfl, Blk.new w1 _ _⟩)
      have hB2 := hB1.alloc hB1.size (.cells (Ref04Rd.rdCells false .empty 0 0) 54)
      refine (step_unmade w.heap.size w.heap.size w1.heap.size _ _ _ hir2 hrr2 (Nat.ne_of_lt hlt1) hB2.size (Nat.le_refl _) (Nat.le_of_lt hlt1) (HP.out _ (List.getElem_mem hkn))).mono ?_
      rintro e w3 ⟨rfl, hi3, _, hb3⟩
      have hB3 := hB2.trans hb3
      have hlt3 : w.heap.size < w3.heap.size := hi3.lt _ rfl
      clear hir1 hB1 hlt1 c0' c1' hir2 hrr2 hB2 hb3
      have x7 : IntKind.i64.wrap ((k : Int) + 1) = (k : Int) + 1 := i64w (by omega) (by have := HL.out; omega)
      go_wp2_with fail
      clear x7
      go_roundw
      case rel => exact ⟨k + 1, by have := HL.out; go_num, by omega, hi3, hB3, hlt3⟩
      case measure => first | (simp [intOf]; done) | (simp [intOf]; omega)
    · go_wp2_with fail
      refine (err_is hir 14 rfl).mono ?_
      rintro e w3 ⟨rfl, rfl⟩
      go_wp2_with fail
      refine (fin_is hir 14 rfl).mono ?_
      rintro e w3 ⟨rfl, n3, rfl⟩
      go_wp2_with fail
      refine (example_any _).mono ?_
      rintro e w3 ⟨rfl, hb3⟩
      go_wp2
      go_ret
      exact ⟨rfl, (bdN hB _).trans (hb3.mono hB.size)⟩

open Go.ChangeShapes Go.WideShapes Go.ChangeAt Go.Joins

theorem contract (H : Type) (enc : TypeId × Value → H) (W : World) (base : Nat) (args : Array Value) (ds gs : List (DataW H)) (before : List MemPlace)
    (hval : ∀ (j : Nat) t v, Try.f8.params[j]? = some t → args[j]? = some v → Value.okWide Try.prog W .any base t v)
    (hW : DataW.Whole enc Try.prog Try.f8.params.toList Rows.wireNoneSpec.vars false W args.toList ds gs before) :
    Calls Try.prog 8 args W fun e W' => ∃ v, e = .returned v ∧ Rows.wireNoneSpec.post enc Try.prog Try.f8 false true false false W args v W' := by
  have hW' := hW
  obtain ⟨p, q, hA0, hV, rfl, hfz, hnd⟩ := hW
  have hA : DataW.TrodAll enc Try.prog W 0 (fun _ => true) true Try.f8.params.toList args.toList ds p := hA0
  rw [Try.params8] at hA hval
  obtain ⟨v0, vs0, d0, ds0, p0, q0, hargs, rfl, rfl, g0, r0⟩ := trodAll_cons hA
  obtain ⟨rfl, rfl, rfl⟩ := trodAll_nil r0
  obtain rfl : args = #[v0] := by cases args; simp_all
  obtain ⟨rfl, rfl⟩ := trodVars_none hV
  obtain ⟨sa, sl, sc, rfl⟩ := okWide_slice Try.underlying44 (hval 0 44 v0 rfl rfl)
  obtain ⟨fuel, g0'⟩ := g0
  obtain ⟨A, cap, ps, hv, _, hr, hp, hbk⟩ := reads_pairs Try.underlying44 Try.underlying49 (by kernel_rfl) rfl rfl (by kernel_rfl) (by kernel_rfl) Try.underlying3 Try.underlying3 g0'
  cases hv
  clear hA0
  have k2 := pairs_len Try.underlying44 Try.underlying49 (by kernel_rfl) rfl rfl (by kernel_rfl) (by kernel_rfl) g0' rfl
  refine (walk _ _ ps W k2 (fun p h => (hp p h).2.2) hr).mono fun e W' ⟨he, hb⟩ => ?_
  subst he
  exact ⟨_, rfl, Frame.law_post Frame.laidOut (by kernel_rfl) Try.underlying4 (by kernel_rfl) rfl rfl hW' hb⟩

set_option maxRecDepth 100000 in
theorem lifted (os : Os) (started : os.Started) (H : Type) (enc : TypeId × Value → H) :
    ReturnsInHanded {} Try.checked os 8 .any (Rows.wireNoneSpec.pre6 enc Try.prog Try.f8 Rows.wireNoneRow.domain false) (Rows.wireNoneSpec.post enc Try.prog Try.f8 false true false false) := by
  refine returnsInHanded_of_change (C := Try.checked) Frame.own started (by kernel_rfl) Try.func8
    (ChangeSpec.witness6 (enc := enc) (C := Try.checked) false ⟨#[], #[.slice none 0 0], []⟩ 8 (by kernel_rfl) (by kernel_rfl) (by kernel_rfl) (by kernel_rfl)) ?_
  intro W base args ds gs before hval hW _ _
  exact contract H enc W base args ds gs before hval hW

theorem proved : Rows.WireNoneSaid :=
  OpenClaim.holds_of_wide 8 Try.f8 rfl rfl rfl rfl rfl rfl rfl ⟨rfl, rfl, rfl, rfl, rfl⟩ rfl rfl rfl rfl rfl (by kernel_rfl) Try.func8 (by kernel_rfl)
    (of_decide_eq_true (by kernel_rfl)) (by unfold Func.isWrapper; first | (rw [if_pos (by decide +kernel)]; kernel_rfl) | (rw [if_neg (by decide +kernel)]; exact ⟨rfl, rfl⟩))
    (fun os started H enc _ => lifted os started H enc)

end Go.Proofs.Ytmnlijeflcedcaa.WireNoneP
