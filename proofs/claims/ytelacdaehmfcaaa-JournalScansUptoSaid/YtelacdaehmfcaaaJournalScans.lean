/-
  JournalScans: package journal's Scan and Whole are the reference's, for any text (within the statement's bound).
-/
import Derived.Test.YtelacdaehmfcaaaJouSame
namespace Go.Proofs.Ytelacdaehmfcaaa.JournalScans
open Go.RowKit Go.Proofs.Ytelacdaehmfcaaa Go.Proofs.Ytelacdaehmfcaaa.WirePure Go.Proofs.Ytelacdaehmfcaaa.DigPure Go.Proofs.Ytelacdaehmfcaaa.JouPure Go.Proofs.Ytelacdaehmfcaaa.JouC Go.Proofs.Ytelacdaehmfcaaa.JouL

set_option maxHeartbeats 2000000 in
theorem walk (j : ByteArray) (w : World) (hj : j.size ≤ 1048576) : Calls Try.prog 5 #[.string j] w fun e w' => e = .returned (.bool true) ∧ Below w.heap.size w w' := by
  have h1 := fun W => Jou.scan_any j W (by omega)
  have h2 := fun W => RJou.scan_any j W (by omega)
  have h3 := fun W => Jou.whole_any j W (by omega)
  obtain ⟨g, l, m, x, hJ⟩ : ∃ g l m x, scanJ j.data.toList = (g, l, m, x) := ⟨_, _, _, _, rfl⟩
  have hll := scanJ_len j.data.toList
  rw [hJ, cond_len] at hll
  simp only at hll
  rw [hJ] at h3
  simp only at h3
  have HJ := Lib.hid hJ
  clear hJ
  go_enter Try.func5, Try.ntmps5
  go_wp2_with fail
  refine (h1 _).mono ?_
  intro e w1 hsp1
  obtain ⟨A1, c1, rfl, o1, b1⟩ := SP_of HJ.out hsp1
  go_wp2_with fail
  refine (h2 _).mono ?_
  intro e w2 hsp2
  obtain ⟨A2, c2, rfl, o2, b2⟩ := SP_of HJ.out hsp2
  have r1 := (Reads.of_own (o1.kept (grown_below b2) (Classical.em _)))
  have r2 := (Reads.of_own o2)
  have b12 := b1.trans (b2.mono b1.size)
  clear hsp1 hsp2 h1 h2 o1 o2
  go_wp2_with fail
  refine (same_yes A1 A2 c1 c2 l.length 1 l _ rfl (by omega) r1 r2).mono ?_
  rintro e w3 ⟨rfl, k3, rfl⟩
  have b3 := WireRd.bdN b12 k3
  go_wp2_with fail
  refine (h3 _).mono ?_
  rintro e w4 ⟨rfl, b4⟩
  have b4 := b3.trans (b4.mono b3.size)
  go_wp2_with fail
  refine (example_any _).mono ?_
  rintro e w5 ⟨rfl, b5⟩
  go_wp2_with fail
  go_ret
  exact ⟨rfl, b4.trans (b5.mono b4.size)⟩

open Go.ChangeShapes Go.WideShapes Go.ChangeAt Go.Joins

theorem contract (H : Type) (enc : TypeId × Value → H) (W : World) (base : Nat) (args : Array Value) (ds gs : List (DataW H)) (before : List MemPlace)
    (hval : ∀ (j : Nat) t v, Try.f5.params[j]? = some t → args[j]? = some v → Value.okWide Try.prog W .any base t v)
    (hW : DataW.Whole enc Try.prog Try.f5.params.toList Rows.journalScansSpec.vars false W args.toList ds gs before) (hk : Rows.uptoSmall H (ds ++ gs) = true) :
    Calls Try.prog 5 args W fun e W' => ∃ v, e = .returned v ∧ Rows.journalScansSpec.post enc Try.prog Try.f5 false true false false W args v W' := by
  have hW' := hW
  obtain ⟨p, q, hA0, hV, rfl, hfz, hnd⟩ := hW
  have hA : DataW.TrodAll enc Try.prog W 0 (fun _ => true) true Try.f5.params.toList args.toList ds p := hA0
  rw [Try.params5] at hA hval
  obtain ⟨v0, vs0, d0, ds0, p0, q0, hargs, rfl, rfl, g0, r0⟩ := trodAll_cons hA
  obtain ⟨rfl, rfl, rfl⟩ := trodAll_nil r0
  obtain rfl : args = #[v0] := by cases args; simp_all
  obtain ⟨rfl, rfl⟩ := trodVars_none hV
  obtain ⟨s0, rfl, rfl, rfl, w0⟩ := Go.ChangeMaps.open_string Try.underlying9 (hval 0 9 v0 rfl rfl) g0
  clear hA0
  simp only [List.append_nil] at hk
  have hkk : Rows.uptoBulkAll [DataW.lit (H := H) (.string s0.data.toList)] ≤ 1048576 := of_decide_eq_true hk
  simp only [Rows.uptoBulkAll, Rows.uptoBulk, cond_len] at hkk
  refine (walk s0 W (by omega)).mono fun e W' ⟨he, hb⟩ => ?_
  subst he
  exact ⟨_, rfl, Frame.law_post Frame.laidOut (by kernel_rfl) Try.underlying4 (by kernel_rfl) rfl rfl hW' hb⟩

set_option maxRecDepth 100000 in
theorem lifted (os : Os) (started : os.Started) (H : Type) (enc : TypeId × Value → H) (F : Stop.Interp) :
    ReturnsInHanded {} Try.checked os 5 .any ((Rows.OpenSpec.upto Rows.journalScansSpec).pre6 enc Try.prog Try.f5 Rows.journalScansUptoRow.domain false) (((Rows.OpenSpec.upto Rows.journalScansSpec).at F).post enc Try.prog Try.f5 false true false false) := by
  refine returnsInHanded_of_cond (C := Try.checked) (s := Rows.OpenSpec.upto Rows.journalScansSpec) (k := Rows.uptoSmall) rfl Frame.own started (by kernel_rfl) Try.func5
    (OpenSpec.witness (enc := enc) (C := Try.checked) (s := Rows.OpenSpec.upto Rows.journalScansSpec) (k := Rows.uptoSmall) rfl false ⟨#[], #[.string .empty], []⟩ 8 (by kernel_rfl) (by kernel_rfl) (by kernel_rfl)
      (x := ([.lit (.string [])], [], [])) (by kernel_rfl) rfl (by kernel_rfl)) ?_
  intro W base args ds gs before hval hW _ hk _
  exact contract H enc W base args ds gs before hval hW hk

theorem proved : Rows.JournalScansUptoSaid :=
  OpenClaim.holds_of_cond 5 Try.f5 rfl rfl rfl rfl rfl rfl rfl ⟨rfl, rfl, rfl, rfl, rfl⟩ rfl rfl rfl rfl rfl (by kernel_rfl) Try.func5 (by kernel_rfl)
    (of_decide_eq_true (by kernel_rfl)) (by unfold Func.isWrapper; first | (rw [if_pos (by decide +kernel)]; kernel_rfl) | (rw [if_neg (by decide +kernel)]; exact ⟨rfl, rfl⟩))
    (fun os started H enc _ F => lifted os started H enc F)

end Go.Proofs.Ytelacdaehmfcaaa.JournalScans
