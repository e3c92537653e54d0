/-
  JournalHeads: package journal's Head and Encode are the reference's, for any header and any record.
-/
import Derived.Test.YtelacdaehmfcaaaJouOp
namespace Go.Proofs.Ytelacdaehmfcaaa.JournalHeads
open Go.RowKit Go.Proofs.Ytelacdaehmfcaaa Go.Proofs.Ytelacdaehmfcaaa.WirePure Go.Proofs.Ytelacdaehmfcaaa.DigPure Go.Proofs.Ytelacdaehmfcaaa.JouPure Go.Proofs.Ytelacdaehmfcaaa.JouC Go.Proofs.Ytelacdaehmfcaaa.JouL

set_option maxHeartbeats 2000000 in
theorem walk (g k q : Int) (d : ByteArray) (w : World) (hk : k ≤ 9223372036854775807) (hd : d.size ≤ 140737488355328) : Calls Try.prog 3 #[.int .i64 g, .agg #[.int .i64 k, .int .i64 q, .string d]] w fun e w' => e = .returned (.bool true) ∧ Below w.heap.size w w' := by
  have h1 := fun W => Jou.head_any g W
  have h2 := fun W => RJou.head_any g W
  have h3 := fun W => Jou.encode_any k q hk d W hd
  have h4 := fun W => RJou.encode_any k q hk d W hd
  obtain ⟨a, x, hax⟩ : ∃ (a : ByteArray) (x : Int), erV (headR g) = .tuple #[.string a, .int .i64 x] := ⟨_, _, rfl⟩
  obtain ⟨b, y, hby⟩ : ∃ (a : ByteArray) (x : Int), erV (encR k q d.data.toList) = .tuple #[.string a, .int .i64 x] := ⟨_, _, rfl⟩
  rw [hax] at h1 h2
  rw [hby] at h3 h4
  clear hax hby
  go_enter Try.func3, Try.ntmps3
  go_wp2_with fail
  refine (h1 _).mono ?_
  rintro e w1 ⟨rfl, b1⟩
  have s1 := keepS (startS w k q d 23) b1
  go_wp2_with fail
  refine (h2 _).mono ?_
  rintro e w2 ⟨rfl, b2⟩
  have s2 := keepS s1 b2
  obtain ⟨c0, c1, c2, _, _⟩ := s2
  go_wp2_with fail
  clear c0 c1 c2
  refine (h3 _).mono ?_
  rintro e w3 ⟨rfl, b3⟩
  have s3 := keepS (keepS s1 b2) b3
  obtain ⟨c0, c1, c2, _, _⟩ := s3
  go_wp2_with fail
  clear c0 c1 c2
  refine (h4 _).mono ?_
  rintro e w4 ⟨rfl, b4⟩
  have s4 := keepS (keepS (keepS s1 b2) b3) b4
  go_wp2_with fail
  refine (example_any _).mono ?_
  rintro e w5 ⟨rfl, b5⟩
  go_wp2_with fail
  go_ret
  exact ⟨rfl, belowS (keepS s4 b5)⟩

open Go.ChangeShapes Go.WideShapes Go.ChangeAt Go.Joins

theorem contract (H : Type) (enc : TypeId × Value → H) (W : World) (base : Nat) (args : Array Value) (ds gs : List (DataW H)) (before : List MemPlace)
    (hval : ∀ (j : Nat) t v, Try.f3.params[j]? = some t → args[j]? = some v → Value.okWide Try.prog W .any base t v)
    (hW : DataW.Whole enc Try.prog Try.f3.params.toList Rows.journalHeadsSpec.vars false W args.toList ds gs before) (hsz : (DataW.weightsEach Try.prog (Try.f3.params.toList ++ Rows.journalHeadsSpec.plain.varTypes Try.prog) (ds ++ gs)).all (· ≤ reachBytes) = true) :
    Calls Try.prog 3 args W fun e W' => ∃ v, e = .returned v ∧ Rows.journalHeadsSpec.post enc Try.prog Try.f3 false true false false W args v W' := by
  have hW' := hW
  obtain ⟨p, q, hA0, hV, rfl, hfz, hnd⟩ := hW
  have hA : DataW.TrodAll enc Try.prog W 0 (fun _ => true) true Try.f3.params.toList args.toList ds p := hA0
  rw [Try.params3] at hA hval
  obtain ⟨v0, vs0, d0, ds0, p0, q0, hargs, rfl, rfl, g0, r0⟩ := trodAll_cons hA
  obtain ⟨v1, vs1, d1, ds1, p1, q1, rfl, rfl, rfl, g1, r1⟩ := trodAll_cons r0
  obtain ⟨rfl, rfl, rfl⟩ := trodAll_nil r1
  obtain rfl : args = #[v0, v1] := by cases args; simp_all
  obtain ⟨rfl, rfl⟩ := trodVars_none hV
  obtain ⟨z0, rfl, rfl, rfl, w0⟩ := open_int Try.underlying3 (hval 0 3 v0 rfl rfl) g0
  have b0 := bounds_i64 w0
  obtain ⟨k1, q1, t1, x1, y1, rfl, rfl, ka1, kb1, qa1, qb1⟩ := openRec (hval 1 23 v1 rfl rfl) g1
  clear hA0
  simp only [List.append_nil] at hsz
  have z1 : t1.size ≤ 140737488351232 := by
    have h := List.all_eq_true.1 hsz _ (DataW.weights_mem_each (j := 1) (t := 23) rfl rfl t1.size (by simp [DataW.weights, DataW.weightsEach, Try.underlying23]))
    simpa [reachBytes] using of_decide_eq_true h
  refine (walk z0 k1 q1 t1 W kb1 (by omega)).mono fun e W' ⟨he, hb⟩ => ?_
  subst he
  exact ⟨_, rfl, Frame.law_post Frame.laidOut (by kernel_rfl) Try.underlying4 (by kernel_rfl) rfl rfl hW' hb⟩

set_option maxRecDepth 100000 in
theorem lifted (os : Os) (started : os.Started) (H : Type) (enc : TypeId × Value → H) :
    ReturnsInHanded {} Try.checked os 3 .any (Rows.journalHeadsSpec.pre6 enc Try.prog Try.f3 Rows.journalHeadsRow.domain false) (Rows.journalHeadsSpec.post enc Try.prog Try.f3 false true false false) := by
  refine returnsInHanded_of_change_sized (C := Try.checked) Frame.own started (by kernel_rfl) Try.func3
    (ChangeSpec.witness6 (enc := enc) (C := Try.checked) false ⟨#[], #[.int .i64 0, .agg #[.int .i64 0, .int .i64 0, .string .empty]], []⟩ 8 (by kernel_rfl) (by kernel_rfl) (by kernel_rfl) (by kernel_rfl)) ?_
  intro W base args ds gs before hval hW _ hsz _
  exact contract H enc W base args ds gs before hval hW hsz

theorem proved : Rows.JournalHeadsSaid :=
  OpenClaim.holds_of_wide 3 Try.f3 rfl rfl rfl rfl rfl rfl rfl ⟨rfl, rfl, rfl, rfl, rfl⟩ rfl rfl rfl rfl rfl (by kernel_rfl) Try.func3 (by kernel_rfl)
    (of_decide_eq_true (by kernel_rfl)) (by unfold Func.isWrapper; first | (rw [if_pos (by decide +kernel)]; kernel_rfl) | (rw [if_neg (by decide +kernel)]; exact ⟨rfl, rfl⟩))
    (fun os started H enc _ => lifted os started H enc)

end Go.Proofs.Ytelacdaehmfcaaa.JournalHeads
