/-
  JournalAppends: package journal's Append is the reference's, for any journal and any record (within the statement's bound).
-/
import Derived.Test.YtelacdaehmfcaaaJouOp
namespace Go.Proofs.Ytelacdaehmfcaaa.JournalAppends
open Go.RowKit Go.Proofs.Ytelacdaehmfcaaa Go.Proofs.Ytelacdaehmfcaaa.WirePure Go.Proofs.Ytelacdaehmfcaaa.DigPure Go.Proofs.Ytelacdaehmfcaaa.JouPure Go.Proofs.Ytelacdaehmfcaaa.JouC Go.Proofs.Ytelacdaehmfcaaa.JouL

set_option maxHeartbeats 2000000 in
theorem walk (j : ByteArray) (k q : Int) (d : ByteArray) (w : World) (hj : j.size ≤ 1048576) (hk : k ≤ 9223372036854775807) (hd : d.size ≤ 1048576) : Calls Try.prog 4 #[.string j, .agg #[.int .i64 k, .int .i64 q, .string d]] w fun e w' => e = .returned (.bool true) ∧ Below w.heap.size w w' := by
  have h1 := fun W => Jou.append_any j k q hk d W (by omega) (by omega)
  have h2 := fun W => RJou.append_any j k q hk d W (by omega) (by omega)
  obtain ⟨a, x, hax⟩ : ∃ (a : ByteArray) (x : Int), erV (appJ j.data.toList k q d.data.toList) = .tuple #[.string a, .int .i64 x] := ⟨_, _, rfl⟩
  rw [hax] at h1 h2
  clear hax
  go_enter Try.func4, Try.ntmps4
  go_wp2_with fail
  refine (h1 _).mono ?_
  rintro e w1 ⟨rfl, b1⟩
  have s1 := keepS (startS w k q d 23) b1
  obtain ⟨c0, c1, c2, _, _⟩ := s1
  go_wp2_with fail
  clear c0 c1 c2
  refine (h2 _).mono ?_
  rintro e w2 ⟨rfl, b2⟩
  have s2 := keepS (keepS (startS w k q d 23) b1) b2
  go_wp2_with fail
  refine (example_any _).mono ?_
  rintro e w3 ⟨rfl, b3⟩
  go_wp2_with fail
  go_ret
  exact ⟨rfl, belowS (keepS s2 b3)⟩

open Go.ChangeShapes Go.WideShapes Go.ChangeAt Go.Joins

theorem contract (H : Type) (enc : TypeId × Value → H) (W : World) (base : Nat) (args : Array Value) (ds gs : List (DataW H)) (before : List MemPlace)
    (hval : ∀ (j : Nat) t v, Try.f4.params[j]? = some t → args[j]? = some v → Value.okWide Try.prog W .any base t v)
    (hW : DataW.Whole enc Try.prog Try.f4.params.toList Rows.journalAppendsSpec.vars false W args.toList ds gs before) (hk : Rows.uptoSmall H (ds ++ gs) = true) :
    Calls Try.prog 4 args W fun e W' => ∃ v, e = .returned v ∧ Rows.journalAppendsSpec.post enc Try.prog Try.f4 false true false false W args v W' := by
  have hW' := hW
  obtain ⟨p, q, hA0, hV, rfl, hfz, hnd⟩ := hW
  have hA : DataW.TrodAll enc Try.prog W 0 (fun _ => true) true Try.f4.params.toList args.toList ds p := hA0
  rw [Try.params4] at hA hval
  obtain ⟨v0, vs0, d0, ds0, p0, q0, hargs, rfl, rfl, g0, r0⟩ := trodAll_cons hA
  obtain ⟨v1, vs1, d1, ds1, p1, q1, rfl, rfl, rfl, g1, r1⟩ := trodAll_cons r0
  obtain ⟨rfl, rfl, rfl⟩ := trodAll_nil r1
  obtain rfl : args = #[v0, v1] := by cases args; simp_all
  obtain ⟨rfl, rfl⟩ := trodVars_none hV
  obtain ⟨s0, rfl, rfl, rfl, w0⟩ := Go.ChangeMaps.open_string Try.underlying9 (hval 0 9 v0 rfl rfl) g0
  obtain ⟨k1, q1, t1, x1, y1, rfl, rfl, ka1, kb1, qa1, qb1⟩ := openRec (hval 1 23 v1 rfl rfl) g1
  clear hA0
  simp only [List.append_nil] at hk
  have hkk : Rows.uptoBulkAll [DataW.lit (H := H) (.string s0.data.toList), .agg [x1, y1, .lit (.string t1.data.toList)]] ≤ 1048576 := of_decide_eq_true hk
  simp only [Rows.uptoBulkAll, Rows.uptoBulk, cond_len] at hkk
  refine (walk s0 k1 q1 t1 W (by omega) kb1 (by omega)).mono fun e W' ⟨he, hb⟩ => ?_
  subst he
  exact ⟨_, rfl, Frame.law_post Frame.laidOut (by kernel_rfl) Try.underlying4 (by kernel_rfl) rfl rfl hW' hb⟩

set_option maxRecDepth 100000 in
theorem lifted (os : Os) (started : os.Started) (H : Type) (enc : TypeId × Value → H) (F : Stop.Interp) :
    ReturnsInHanded {} Try.checked os 4 .any ((Rows.OpenSpec.upto Rows.journalAppendsSpec).pre6 enc Try.prog Try.f4 Rows.journalAppendsUptoRow.domain false) (((Rows.OpenSpec.upto Rows.journalAppendsSpec).at F).post enc Try.prog Try.f4 false true false false) := by
  refine returnsInHanded_of_cond (C := Try.checked) (s := Rows.OpenSpec.upto Rows.journalAppendsSpec) (k := Rows.uptoSmall) rfl Frame.own started (by kernel_rfl) Try.func4
    (OpenSpec.witness (enc := enc) (C := Try.checked) (s := Rows.OpenSpec.upto Rows.journalAppendsSpec) (k := Rows.uptoSmall) rfl false ⟨#[], #[.string .empty, .agg #[.int .i64 0, .int .i64 0, .string .empty]], []⟩ 8 (by kernel_rfl) (by kernel_rfl) (by kernel_rfl)
      (x := ([.lit (.string []), .agg [.lit (.int .i64 0), .lit (.int .i64 0), .lit (.string [])]], [], [])) (by kernel_rfl) rfl (by kernel_rfl)) ?_
  intro W base args ds gs before hval hW _ hk _
  exact contract H enc W base args ds gs before hval hW hk

theorem proved : Rows.JournalAppendsUptoSaid :=
  OpenClaim.holds_of_cond 4 Try.f4 rfl rfl rfl rfl rfl rfl rfl ⟨rfl, rfl, rfl, rfl, rfl⟩ rfl rfl rfl rfl rfl (by kernel_rfl) Try.func4 (by kernel_rfl)
    (of_decide_eq_true (by kernel_rfl)) (by unfold Func.isWrapper; first | (rw [if_pos (by decide +kernel)]; kernel_rfl) | (rw [if_neg (by decide +kernel)]; exact ⟨rfl, rfl⟩))
    (fun os started H enc _ F => lifted os started H enc F)

end Go.Proofs.Ytelacdaehmfcaaa.JournalAppends
