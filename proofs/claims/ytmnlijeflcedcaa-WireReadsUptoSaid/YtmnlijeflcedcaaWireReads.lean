/-
  WireReads: any calls of a reader of any bytes: package wire's reader answers as the reference's does. No condition beyond the bound of the statement.
-/
import Derived.Test.YtmnlijeflcedcaaWireStep2
import Derived.Test.YtmnlijeflcedcaaPairs
namespace Go.Proofs.Ytmnlijeflcedcaa.WireReads
open Go.RowKit Go.Proofs.Ytmnlijeflcedcaa Go.Proofs.Ytmnlijeflcedcaa.WirePure Go.Proofs.Ytmnlijeflcedcaa.WireRd Go.Proofs.Ytmnlijeflcedcaa.WireShortest

set_option maxHeartbeats 2000000 in
set_option maxRecDepth 100000 in
theorem walk (s : ByteArray) (A : Option Addr) (cap : Nat) (ps : List (Int × Int)) (w : World) (hs : s.size ≤ 1048576) (hl : ps.length ≤ 1048576) (hps : ∀ p ∈ ps, p.2 ≤ 9223372036854775807) (hr : Reads w w.heap.size 2 A ps.length (pairCells ps)) :
    Calls Try.prog 7 #[.string s, .slice A ps.length cap] w fun e w' => e = .returned (.bool true) ∧ Below w.heap.size w w' := by
  have HP := Lib.hid hps
  have HR := Lib.hid hr
  clear hps hr
  go_enter Try.func7, Try.ntmps7
  go_wp2_with fail
  refine (new_any _ _ (by omega)).mono ?_
  rintro e w1 ⟨rfl, hb1, hi1⟩
  go_wp2_with fail
  refine (Ref04Rd.new_any _ _ (by omega)).mono ?_
  rintro e w2 ⟨rfl, hb2, hr2⟩
  have hi2 := hi1.below hb2 (fun b hb => hi1.lt b hb)
  have hB2 := hb1.trans (hb2.mono hb1.size)
  have hlt : w.heap.size < w1.heap.size := hi1.lt _ rfl
  have hpn : pt (some w.heap.size) = .pointer (some ⟨w.heap.size, 0, none⟩) := rfl
  clear hb1 hb2 hi1
  go_wp2_with fail
  obtain ⟨g', hg'⟩ : ∃ g', g' = w1.heap.size := ⟨_, rfl⟩
  rw [← hg'] at hr2 hlt ⊢
  clear hg' hpn
  go_loopw [7] (fun vi wr => ∃ (k : Nat) (a : WirePure.A), vi = .int .i64 k ∧ k ≤ ps.length ∧ Is wr (some w.heap.size) a ∧ Ref04Rd.Is wr (some g') a ∧ a.left ≤ 1048586 ∧ Below w.heap.size w wr) (fun vi _ => ps.length - (intOf vi).toNat)
  case atStart => exact ⟨0, _, rfl, Nat.zero_le _, hi2, hr2, Nat.le_trans (show s.data.toList.length ≤ 1048576 by simpa using hs) (by decide), hB2⟩
  case round =>
    obtain ⟨k, a, rfl, hk, hir, hrr, hroom, hB⟩ := hrel
    by_cases hkn : k < ps.length
    · obtain ⟨ad, rfl, hbk, c0, c1⟩ := (HR.out.below hB).pair hkn
      go_wp2_with fail
      refine (step_any w.heap.size (some w.heap.size) (some g') a _ _ wr hir hrr (by intro b h1 h2; cases h1; cases h2; omega) hB.size (by intro b h1; cases h1; exact Nat.le_refl _) (by intro b h1; cases h1; omega) (HP.out _ (List.getElem_mem hkn)) hroom).mono ?_
      rintro e w3 ⟨rfl, hi3, hr3, hb3⟩
      have hroom3 := Nat.le_trans (stepA_left ps[k].1 ps[k].2 a) hroom
      have hB3 := hB.trans hb3
      clear hir hrr hroom hb3 c0 c1
      generalize stepA ps[k].1 ps[k].2 a = a3 at *
      go_wp2
      go_roundw
      case rel => exact ⟨k + 1, a3, by go_num, by omega, hi3, hr3, hroom3, hB3⟩
      case measure => simp [intOf]; omega
    · go_wp2_with fail
      refine (left_any (some w.heap.size) _ _ hir).mono ?_
      rintro e w3 ⟨rfl, n1, rfl⟩
      go_wp2_with fail
      refine (Ref04Rd.left_any (some g') _ _ (hrr.drewN _)).mono ?_
      rintro e w3 ⟨rfl, n2, rfl⟩
      go_wp2_with fail
      refine (err_any (some w.heap.size) _ _ (hir.drewN _)).mono ?_
      rintro e w3 ⟨rfl, rfl⟩
      go_wp2_with fail
      refine (Ref04Rd.err_any (some g') _ _ (hrr.drewN _)).mono ?_
      rintro e w3 ⟨rfl, rfl⟩
      go_wp2_with fail
      refine (fin_any (some w.heap.size) _ _ (hir.drewN _)).mono ?_
      rintro e w3 ⟨rfl, n3, rfl⟩
      go_wp2_with fail
      refine (Ref04Rd.fin_any (some g') _ _ (hrr.drewN _)).mono ?_
      rintro e w3 ⟨rfl, n4, rfl⟩
      go_wp2_with fail
      refine (example_any _).mono ?_
      rintro e w3 ⟨rfl, hb3⟩
      go_wp2
      go_ret
      exact ⟨rfl, (bdN hB _).trans (hb3.mono hB.size)⟩

open Go.ChangeShapes Go.WideShapes Go.ChangeAt Go.Joins
open Go.ChangeMaps (open_string shut_string)

theorem small {H : Type} {s : ByteArray} {d : DataW H} (hk : Rows.uptoSmall H [.lit (.string s.data.toList), d] = true) : s.size ≤ 1048576 ∧ Rows.uptoBulk d ≤ 1048576 := by
  have h : Rows.uptoBulkAll [DataW.lit (.string s.data.toList), d] ≤ 1048576 := of_decide_eq_true hk
  simp only [Rows.uptoBulkAll, Rows.uptoBulk] at h
  have e : s.data.toList.length = s.size := by rw [Array.length_toList]; rfl
  exact ⟨by omega, by omega⟩

theorem contract (H : Type) (enc : TypeId × Value → H) (W : World) (base : Nat) (args : Array Value) (ds gs : List (DataW H)) (before : List MemPlace)
    (hval : ∀ (j : Nat) t v, Try.f7.params[j]? = some t → args[j]? = some v → Value.okWide Try.prog W .any base t v)
    (hW : DataW.Whole enc Try.prog Try.f7.params.toList Rows.wireReadsSpec.vars false W args.toList ds gs before) (hk : Rows.uptoSmall H (ds ++ gs) = true) :
    Calls Try.prog 7 args W fun e W' => ∃ v, e = .returned v ∧ Rows.wireReadsSpec.post enc Try.prog Try.f7 false true false false W args v W' := by
  have hW' := hW
  obtain ⟨p, q, hA0, hV, rfl, hfz, hnd⟩ := hW
  have hA : DataW.TrodAll enc Try.prog W 0 (fun _ => true) true Try.f7.params.toList args.toList ds p := hA0
  rw [Try.params7] at hA hval
  obtain ⟨v0, vs0, d0, ds0, p0, q0, hargs, rfl, rfl, g0, r0⟩ := trodAll_cons hA
  obtain ⟨v1, vs1, d1, ds1, p1, q1, rfl, rfl, rfl, g1, r1⟩ := trodAll_cons r0
  obtain ⟨rfl, rfl, rfl⟩ := trodAll_nil r1
  obtain rfl : args = #[v0, v1] := by cases args; simp_all
  obtain ⟨rfl, rfl⟩ := trodVars_none hV
  obtain ⟨s, rfl, rfl, rfl, ws⟩ := open_string Try.underlying9 (hval 0 9 v0 rfl rfl) g0
  obtain ⟨sa, sl, sc, rfl⟩ := okWide_slice Try.underlying44 (hval 1 44 v1 rfl rfl)
  obtain ⟨fuel, g1'⟩ := g1
  obtain ⟨A, cap, ps, hv, _, hr, hp, hbk⟩ := reads_pairs Try.underlying44 Try.underlying49 (by kernel_rfl) rfl rfl (by kernel_rfl) (by kernel_rfl) Try.underlying3 Try.underlying3 g1'
  cases hv
  clear hA0
  simp only [List.append_nil] at hk
  obtain ⟨k1, k2⟩ := small hk
  refine (walk s _ _ ps W k1 (Nat.le_trans hbk k2) (fun p h => (hp p h).2.2) hr).mono fun e W' ⟨he, hb⟩ => ?_
  subst he
  exact ⟨_, rfl, Frame.law_post Frame.laidOut (by kernel_rfl) Try.underlying4 (by kernel_rfl) rfl rfl hW' hb⟩

set_option maxRecDepth 100000 in
theorem lifted (os : Os) (started : os.Started) (H : Type) (enc : TypeId × Value → H) (F : Stop.Interp) :
    ReturnsInHanded {} Try.checked os 7 .any ((Rows.OpenSpec.upto Rows.wireReadsSpec).pre6 enc Try.prog Try.f7 Rows.wireReadsUptoRow.domain false) (((Rows.OpenSpec.upto Rows.wireReadsSpec).at F).post enc Try.prog Try.f7 false true false false) := by
  refine returnsInHanded_of_cond (C := Try.checked) (s := Rows.OpenSpec.upto Rows.wireReadsSpec) (k := Rows.uptoSmall) rfl Frame.own started (by kernel_rfl) Try.func7
    (OpenSpec.witness (enc := enc) (C := Try.checked) (s := Rows.OpenSpec.upto Rows.wireReadsSpec) (k := Rows.uptoSmall) rfl false ⟨#[], #[.string .empty, .slice none 0 0], []⟩ 8 (by kernel_rfl) (by kernel_rfl) (by kernel_rfl)
      (x := ([.lit (.string []), .nil], [], [])) (by kernel_rfl) rfl (by kernel_rfl)) ?_
  intro W base args ds gs before hval hW _ hk _
  exact contract H enc W base args ds gs before hval hW hk

theorem proved : Rows.WireReadsUptoSaid :=
  OpenClaim.holds_of_cond 7 Try.f7 rfl rfl rfl rfl rfl rfl rfl ⟨rfl, rfl, rfl, rfl, rfl⟩ rfl rfl rfl rfl rfl (by kernel_rfl) Try.func7 (by kernel_rfl)
    (of_decide_eq_true (by kernel_rfl)) (by unfold Func.isWrapper; first | (rw [if_pos (by decide +kernel)]; kernel_rfl) | (rw [if_neg (by decide +kernel)]; exact ⟨rfl, rfl⟩))
    (fun os started H enc _ F => lifted os started H enc F)

end Go.Proofs.Ytmnlijeflcedcaa.WireReads
