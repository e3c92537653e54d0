/-
  DigestBack: package digest's Open returns what was framed, whatever follows the frame. (Any strings within the model's reach.)
-/
import Derived.Test.YtokdbpalkfghaaaDigEx
import Derived.Test.YtokdbpalkfghaaaFrame
import Derived.SizedLaws
import Derived.ChangeMaps5
namespace Go.Proofs.Ytokdbpalkfghaaa.DigestBackP
open Go.RowKit Go.Proofs.Ytokdbpalkfghaaa Go.Proofs.Ytokdbpalkfghaaa.DigPure Go.Proofs.Ytokdbpalkfghaaa.WirePure Go.Proofs.Ytokdbpalkfghaaa.Dig

theorem back (s u m : ByteArray) (hs : s.size ≤ 1048576) (hu : (⟨(frame s.data.toList).toArray⟩ : ByteArray) = u) : openV (u ++ m).data.toList = .tuple #[.string s, .int .i64 (u.size : Int), .int .i64 0] := by
  have e1 : (u ++ m).data.toList = frame s.data.toList ++ m.data.toList := by rw [← hu]; simp
  have e2 : u.size = (frame s.data.toList).length := by rw [← hu]; rfl
  rw [e1, e2]
  have h := openV_of (opn_frame s.data.toList m.data.toList (by simpa using hs))
  rw [h]

theorem frame_size (s : ByteArray) (hs : s.size ≤ 1048576) : (frame s.data.toList).length ≤ s.size + 14 := by
  have hul := Lib.uvarint_length64 (x := s.data.toList.length) (by rw [Array.length_toList]; show s.size < _; omega)
  have e : s.data.toList.length = s.size := by simp
  unfold frame enc
  rw [List.length_append, List.length_append, le4_length]
  omega

set_option maxHeartbeats 2000000 in
theorem walk (s m : ByteArray) (w : World) (hs0 : s.size ≤ 140737488351232) (hm : m.size ≤ 140737488351232) : Calls Try.prog 6 #[.string s, .string m] w fun e w' => e = .returned (.bool true) ∧ Below w.heap.size w w' := by
  rcases Nat.lt_or_ge 1048576 s.size with hb | hs
  · go_enter Try.func6, Try.ntmps6
    go_wp2_with fail
    refine (awake_any _).mono ?_
    rintro e w1 ⟨rfl, hb1⟩
    go_wp2_with fail
    refine (frame_big s _ (by omega) hb).mono ?_
    rintro e w2 ⟨rfl, rfl⟩
    go_wp2_with fail
    go_ret
    exact ⟨rfl, hb1⟩
  obtain ⟨u, hu⟩ : ∃ u : ByteArray, (⟨(frame s.data.toList).toArray⟩ : ByteArray) = u := ⟨_, rfl⟩
  have h1 := fun W => frame_is s u hu W (by omega)
  have hus : u.size ≤ s.size + 14 := by rw [← hu]; exact frame_size s (by omega)
  have hum : u.size + m.size ≤ 281474976710656 := by omega
  have h2 := fun W => open_is (u ++ m) _ (back s u m (by omega) hu) W (by rw [ByteArray.size_append]; exact hum)
  have hlim : u.size + m.size ≤ 9223372036854775807 := by omega
  have hadd := fun W : World => run_string_add_sum (P := Try.prog) (w := W) u m hlim
  clear hu hum
  go_enter Try.func6, Try.ntmps6
  go_wp2_with fail
  refine (awake_any _).mono ?_
  rintro e w1 ⟨rfl, hb1⟩
  go_wp2_with fail
  refine (h1 _).mono ?_
  rintro e w2 ⟨rfl, hb2⟩
  have hb2 := hb1.trans (hb2.mono hb1.size)
  go_wp2_with fail
  refine (h2 _).mono ?_
  rintro e w3 ⟨rfl, hb3⟩
  go_wp2_with fail
  go_ret
  exact ⟨rfl, hb2.trans (hb3.mono hb2.size)⟩

open Go.ChangeShapes Go.WideShapes Go.ChangeAt Go.Joins

theorem contract (H : Type) (enc : TypeId × Value → H) (W : World) (base : Nat) (args : Array Value) (ds gs : List (DataW H)) (before : List MemPlace)
    (hval : ∀ (j : Nat) t v, Try.f6.params[j]? = some t → args[j]? = some v → Value.okWide Try.prog W .any base t v)
    (hW : DataW.Whole enc Try.prog Try.f6.params.toList Rows.digestBackSpec.vars false W args.toList ds gs before) (hsz : (DataW.weightsEach Try.prog (Try.f6.params.toList ++ Rows.digestBackSpec.plain.varTypes Try.prog) (ds ++ gs)).all (· ≤ reachBytes) = true) :
    Calls Try.prog 6 args W fun e W' => ∃ v, e = .returned v ∧ Rows.digestBackSpec.post enc Try.prog Try.f6 false true false false W args v W' := by
  have hW' := hW
  obtain ⟨p, q, hA0, hV, rfl, hfz, hnd⟩ := hW
  have hA : DataW.TrodAll enc Try.prog W 0 (fun _ => true) true Try.f6.params.toList args.toList ds p := hA0
  rw [Try.params6] at hA hval
  obtain ⟨v0, vs0, d0, ds0, p0, q0, hargs, rfl, rfl, g0, r0⟩ := trodAll_cons hA
  obtain ⟨v1, vs1, d1, ds1, p1, q1, rfl, rfl, rfl, g1, r1⟩ := trodAll_cons r0
  obtain ⟨rfl, rfl, rfl⟩ := trodAll_nil r1
  obtain rfl : args = #[v0, v1] := by cases args; simp_all
  obtain ⟨rfl, rfl⟩ := trodVars_none hV
  obtain ⟨s0, rfl, rfl, rfl, w0⟩ := Go.ChangeMaps.open_string Try.underlying9 (hval 0 9 v0 rfl rfl) g0
  obtain ⟨s1, rfl, rfl, rfl, w1⟩ := Go.ChangeMaps.open_string Try.underlying9 (hval 1 9 v1 rfl rfl) g1
  clear hA0
  simp only [List.append_nil] at hsz
  have z0 : s0.size ≤ 140737488351232 := sized_string hsz (j := 0) (t := 9) rfl rfl
  have z1 : s1.size ≤ 140737488351232 := sized_string hsz (j := 1) (t := 9) rfl rfl
  refine (walk s0 s1 W z0 z1).mono fun e W' ⟨he, hb⟩ => ?_
  subst he
  exact ⟨_, rfl, Frame.law_post Frame.laidOut (by kernel_rfl) Try.underlying4 (by kernel_rfl) rfl rfl hW' hb⟩

set_option maxRecDepth 100000 in
theorem lifted (os : Os) (started : os.Started) (H : Type) (enc : TypeId × Value → H) :
    ReturnsInHanded {} Try.checked os 6 .any (Rows.digestBackSpec.pre6 enc Try.prog Try.f6 Rows.digestBackRow.domain false) (Rows.digestBackSpec.post enc Try.prog Try.f6 false true false false) := by
  refine returnsInHanded_of_change_sized (C := Try.checked) Frame.own started (by kernel_rfl) Try.func6
    (ChangeSpec.witness6 (enc := enc) (C := Try.checked) false ⟨#[], #[.string .empty, .string .empty], []⟩ 8 (by kernel_rfl) (by kernel_rfl) (by kernel_rfl) (by kernel_rfl)) ?_
  intro W base args ds gs before hval hW _ hsz _
  exact contract H enc W base args ds gs before hval hW hsz

theorem proved : Rows.DigestBackSaid :=
  OpenClaim.holds_of_wide 6 Try.f6 rfl rfl rfl rfl rfl rfl rfl ⟨rfl, rfl, rfl, rfl, rfl⟩ rfl rfl rfl rfl rfl (by kernel_rfl) Try.func6 (by kernel_rfl)
    (of_decide_eq_true (by kernel_rfl)) (by unfold Func.isWrapper; first | (rw [if_pos (by decide +kernel)]; kernel_rfl) | (rw [if_neg (by decide +kernel)]; exact ⟨rfl, rfl⟩))
    (fun os started H enc _ => lifted os started H enc)

end Go.Proofs.Ytokdbpalkfghaaa.DigestBackP
