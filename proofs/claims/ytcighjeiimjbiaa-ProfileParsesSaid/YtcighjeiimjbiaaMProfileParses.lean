/-
  ProfileParses: Parse is as specified, and what it returns is encoded as the text that was parsed.
-/
import Derived.Test.YtcighjeiimjbiaaAll8
namespace Go.Proofs.Ytcighjeiimjbiaa.ProfileParses
open Go.RowKit Go.Proofs.Ytcighjeiimjbiaa Go.Proofs.Ytcighjeiimjbiaa.Pro

set_option maxRecDepth 100000 in
set_option maxHeartbeats 8000000 in
theorem walk (s : ByteArray) (w : World) (hs : s.size ≤ 140737488351232) : Calls Try.prog 8 #[.string s] w (Yes w) := by
  obtain ⟨l, hl⟩ : ∃ l, s.data.toList = l := ⟨_, rfl⟩
  have C1 := fun W => Parse_d s W (by omega)
  have C2 := fun W => rParse_d s W (by omega)
  rw [hl] at C1 C2
  obtain ⟨z, hz⟩ : ∃ z, paZ l = z := ⟨_, rfl⟩
  unfold ParD at C1 C2
  rw [hz] at C1 C2
  have HL := Lib.hid hl
  have HZ := Lib.hid hz
  clear hl hz
  go_enter Try.func8, Try.ntmps8
  go_wp2_with fail
  refine (C1 _).mono ?_
  rintro e w1 ⟨p, rfl, hp, p1, p2, p3, hb⟩
  have hB := ((Bn.nil w).below hb).push _ rfl 27 p.cells
  have HB : Hid (Bn w _ [(w1.heap.size, 27, p.cells)]) := Lib.hid hB
  have HP := Lib.hid (hp.below ((Below.refl w1.heap.size _).alloc (Nat.le_refl _) (.cells p.cells 27)))
  have P1 := Lib.hid p1
  have P2 := Lib.hid p2
  have P3 := Lib.hid p3
  clear hp p1 p2 p3 hb hB C1
  go_wp2_with (first
    | (refine wpList_allocC runP rfl rfl ?_)
    | (refine wpList_store_row rfl _ _ _ rfl w1.heap.size p.cells rfl rfl 27 Pf.zero.cells (heap_alloc_new _ _) p.info (by rw [Pf.size, Pf.size]) p.one ?_; rw [World.setRow_alloc_new]))
  obtain ⟨g0, hg⟩ : ∃ g, w1.heap.size = g := ⟨_, rfl⟩
  obtain ⟨W1, hW⟩ : ∃ W, w1.alloc (.cells p.cells 27) = W := ⟨_, rfl⟩
  rw [hW, hg] at HB
  rw [hW] at HP
  rw [hW, hg]
  clear hW hg
  refine (C2 _).mono ?_
  rintro e w2 ⟨q, rfl, hq, q1, q2, q3, hb⟩
  have hB := (HB.out.below hb).push _ rfl 27 q.cells
  have HB2 : Hid (Bn w _ [(g0, 27, p.cells), (w2.heap.size, 27, q.cells)]) := Lib.hid hB
  have HQ := Lib.hid (hq.below ((Below.refl w2.heap.size _).alloc (Nat.le_refl _) (.cells q.cells 27)))
  have HP2 := Lib.hid ((HP.out.below hb).below ((Below.refl w2.heap.size _).alloc (Nat.le_refl _) (.cells q.cells 27)))
  have Q1 := Lib.hid q1
  have Q2 := Lib.hid q2
  have Q3 := Lib.hid q3
  clear hq q1 q2 q3 hb hB C2 HP HB
  go_upto_region 3 with (first
    | (refine wpList_allocC runP rfl rfl ?_)
    | (refine wpList_store_row rfl _ _ _ rfl w2.heap.size q.cells rfl rfl 27 Pf.zero.cells (heap_alloc_new _ _) q.info (by rw [Pf.size, Pf.size]) q.one ?_; rw [World.setRow_alloc_new]))
  obtain ⟨g1, hg⟩ : ∃ g, w2.heap.size = g := ⟨_, rfl⟩
  obtain ⟨W2, hW⟩ : ∃ W, w2.alloc (.cells q.cells 27) = W := ⟨_, rfl⟩
  rw [hW, hg] at HB2
  rw [hW] at HQ HP2
  rw [hW, hg]
  clear hW hg
  have hsm : sameB p q = true := sameB_of (by rw [P1.out, Q1.out]) (by rw [P2.out, Q2.out]) (fun j _ => by rw [P3.out, Q3.out])
  have hk16 : p.k.length ≤ 1048576 := by
    rw [P2.out]
    unfold paR
    split
    · show (paK l).length ≤ _
      rw [show (paK l).length = paC l from knI_len _ _]
      have := paC_le l
      omega
    · exact (by decide : (0 : Nat) ≤ 1048576)
  have C3 := rSame_any p q W2 HP2.out HQ.out hk16
  unfold BolC at C3
  rw [hsm] at C3
  unfold Pf.val at C3
  go_wp2_with (first
    | (refine wpList_load_rowG rfl _ rfl g0 rfl p (HB2.out.get 0 rfl) ?_)
    | (refine wpList_load_rowG rfl _ rfl g1 rfl q (HB2.out.get 1 rfl) ?_))
  refine C3.mono ?_
  rintro e w3 ⟨rfl, hb⟩
  have HB3 := Lib.hid (HB2.out.below hb)
  have HP3 := Lib.hid (HP2.out.below hb)
  clear C3 hb hsm hk16 HB2 HP2 HQ
  go_wp2_with fail
  refine (awake_any _).mono ?_
  rintro e w4 ⟨rfl, hb⟩
  have HB4 := Lib.hid (HB3.out.below hb)
  have HP4 := Lib.hid (HP3.out.below hb)
  clear hb HB3 HP3
  by_cases h0 : z = 0
  rotate_left
  · have h1 : (z != 0) = true := by simpa using h0
    go_wp2_with fail
    go_ret
    exact ⟨rfl, HB4.out.b⟩
  subst h0
  obtain ⟨e1, e2⟩ := pa_back HZ.out P1.out P2.out P3.out
  have C4 := Bytes_any p w4 HP4.out
  unfold BytC at C4
  have e3 : bs l = s := by rw [← HL.out]; unfold bs; simp
  rw [e1, e2, e3] at C4
  unfold Pf.val at C4
  clear e1 e2 e3
  go_wp2_with (refine wpList_load_row rfl _ _ rfl g0 rfl 27 p.cells (0, 0) _ (HB4.out.get 0 rfl) Try.underlying27 rfl p.info ?_)
  refine C4.mono ?_
  rintro e w5 ⟨rfl, hb⟩
  have HB5 := Lib.hid (HB4.out.below hb)
  clear C4 hb HB4
  go_wp2_with fail
  go_ret
  exact ⟨rfl, HB5.out.b⟩

open Go.ChangeShapes Go.WideShapes Go.ChangeAt Go.Joins Go.Deep

set_option maxRecDepth 100000 in
theorem contract (H : Type) (enc : TypeId × Value → H) (W : World) (base : Nat) (args : Array Value) (ds gs : List (DataW H)) (before : List MemPlace)
    (hval : ∀ (j : Nat) t v, Try.f8.params[j]? = some t → args[j]? = some v → Value.okWide Try.prog W .any base t v)
    (hW : DataW.Whole enc Try.prog Try.f8.params.toList Rows.profileParsesSpec.vars false W args.toList ds gs before) (hsz : (DataW.weightsEach Try.prog (Try.f8.params.toList ++ Rows.profileParsesSpec.plain.varTypes Try.prog) (ds ++ gs)).all (· ≤ reachBytes) = true) :
    Calls Try.prog 8 args W fun e W' => ∃ v, e = .returned v ∧ Rows.profileParsesSpec.post enc Try.prog Try.f8 false true false false W args v W' := by
  have hW' := hW
  obtain ⟨p, q, hA0, hV, rfl, hfz, hnd⟩ := hW
  have hA : DataW.TrodAll enc Try.prog W 0 (fun _ => true) true Try.f8.params.toList args.toList ds p := hA0
  rw [Try.params8] at hA hval
  obtain ⟨v0, vs0, d0, ds0, p0, q0, hargs, rfl, rfl, g0, r0⟩ := trodAll_cons hA
  obtain ⟨rfl, rfl, rfl⟩ := trodAll_nil r0
  obtain rfl : args = #[v0] := by cases args; simp_all
  obtain ⟨rfl, rfl⟩ := trodVars_none hV
  clear hA0
  simp only [List.append_nil] at hsz
  have s0 : Small 9 d0 := fun n hn => by simpa using List.all_eq_true.1 hsz n (DataW.weights_mem_each (j := 0) (t := 9) rfl rfl n hn)
  obtain ⟨s0_, rfl, hs0⟩ := arg_str (hval 0 9 v0 rfl rfl) g0 s0
  refine (walk s0_ W hs0).mono fun e W' ⟨he, hb⟩ => ?_
  subst he
  exact ⟨_, rfl, Frame.law_post Frame.laidOut (by kernel_rfl) Try.underlying4 (by kernel_rfl) rfl rfl hW' hb⟩

set_option maxRecDepth 100000 in
theorem lifted (os : Os) (started : os.Started) (H : Type) (enc : TypeId × Value → H) :
    ReturnsInHanded {} Try.checked os 8 .any (Rows.profileParsesSpec.pre6 enc Try.prog Try.f8 Rows.profileParsesRow.domain false) (Rows.profileParsesSpec.post enc Try.prog Try.f8 false true false false) := by
  refine returnsInHanded_of_change_sized (C := Try.checked) Frame.own started (by kernel_rfl) Try.func8
    (ChangeSpec.witness6 (enc := enc) (C := Try.checked) false ⟨#[], #[.string ⟨#[]⟩], []⟩ 8 (by kernel_rfl) (by kernel_rfl) (by kernel_rfl) (by kernel_rfl)) ?_
  intro W base args ds gs before hval hW _ hsz _
  exact contract H enc W base args ds gs before hval hW hsz

theorem proved : Rows.ProfileParsesSaid :=
  OpenClaim.holds_of_wide 8 Try.f8 rfl rfl rfl rfl rfl rfl rfl ⟨rfl, rfl, rfl, rfl, rfl⟩ rfl rfl rfl rfl rfl (by kernel_rfl) Try.func8 (by kernel_rfl)
    (of_decide_eq_true (by kernel_rfl)) (by unfold Func.isWrapper; first | (rw [if_pos (by decide +kernel)]; kernel_rfl) | (rw [if_neg (by decide +kernel)]; exact ⟨rfl, rfl⟩))
    (fun os started H enc _ => lifted os started H enc)


end Go.Proofs.Ytcighjeiimjbiaa.ProfileParses
