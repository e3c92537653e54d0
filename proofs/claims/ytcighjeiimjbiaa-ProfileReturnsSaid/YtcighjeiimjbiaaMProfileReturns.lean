/-
  ProfileReturns: a valid profile is parsed from its encoding, and no beginning of the encoding is one.
-/
import Derived.Test.YtcighjeiimjbiaaAll8
namespace Go.Proofs.Ytcighjeiimjbiaa.ProfileReturns
open Go.RowKit Go.Proofs.Ytcighjeiimjbiaa Go.Proofs.Ytcighjeiimjbiaa.Pro

theorem enc_len {p : Pf} (h : pErr p = 0) : (encP p.nm p.k p.m).length ≤ 1000 := by
  obtain ⟨h1, _, h2, h3, h4⟩ := pErr_in h
  have a := T0_len p.nm p.k.length h1 h2
  have b := eKn_len p.k h3
  have c := eMt_len p.m 9 h4 9 (Nat.le_refl _)
  unfold encP
  rw [List.length_append, List.length_append]
  omega
theorem enc_par {p : Pf} (h : pErr p = 0) : paZ (encP p.nm p.k p.m) = 0 ∧ (paR (encP p.nm p.k p.m)).nm = p.nm ∧ (paR (encP p.nm p.k p.m)).k = p.k ∧ ∀ j, j < 9 → (paR (encP p.nm p.k p.m)).m j = p.m j := by
  obtain ⟨h1, _, h2, h3, h4⟩ := pErr_in h
  obtain ⟨e1, e2, e3, e4⟩ := pa_enc p.nm p.k p.m h1 h2 h3 h4
  have hz : paZ (encP p.nm p.k p.m) = 0 := paZ_chk (p := p) e4 e1.symm e2.symm (fun j hj => (e3 j hj).symm) h
  obtain ⟨_, _, hr⟩ := paZ_zero hz
  rw [hr]
  exact ⟨hz, e1, e2, e3⟩
theorem enc_cut {p : Pf} (h : pErr p = 0) (n : Nat) (hn : n < (encP p.nm p.k p.m).length) : paZ ((encP p.nm p.k p.m).take n) = 5 := by
  obtain ⟨h1, _, h2, h3, h4⟩ := pErr_in h
  exact paZ_fin (pa_cut p.nm p.k p.m h1 h2 h3 h4 n hn) (by decide)

set_option maxRecDepth 100000 in
set_option maxHeartbeats 8000000 in
theorem walk (p : Pf) (z : Int) (w : World) (h : PfR w p) : Calls Try.prog 9 #[p.val, .int .i64 z] w (Yes w) := by
  have HB0 := Bn.one w 27 p.cells
  obtain ⟨W, hW⟩ : ∃ W, w.alloc (.cells p.cells 27) = W := ⟨_, rfl⟩
  rw [hW] at HB0
  have HB := Lib.hid HB0
  have HP := Lib.hid (h.below HB0.b)
  have C1 := Bytes_any p W HP.out
  obtain ⟨e, he⟩ : ∃ z, pErr p = z := ⟨_, rfl⟩
  unfold BytC at C1
  rw [he] at C1
  have HE := Lib.hid he
  clear h HB0 he
  unfold Pf.val at C1 ⊢
  go_enter Try.func9, Try.ntmps9
  go_wp2_with (refine wpList_load_row rfl _ _ rfl w.heap.size rfl 27 p.cells (0, 0) _ (HB.out.get 0 rfl) Try.underlying27 rfl p.info ?_)
  refine C1.mono ?_
  rintro e w1 ⟨rfl, hb⟩
  have HB1 := Lib.hid (HB.out.below hb)
  have HP1 := Lib.hid (HP.out.below hb)
  clear C1 hb HB HP hW
  obtain ⟨g, hg⟩ : ∃ g, w.heap.size = g := ⟨_, rfl⟩
  rw [hg] at HB1 ⊢
  by_cases h0 : e = 0
  rotate_left
  · have h1 : (e != 0) = true := by simpa using h0
    have C2 := Check_any p w1 HP1.out
    unfold ChkC at C2
    rw [HE.out] at C2
    unfold Pf.val at C2
    go_wp2_with (refine wpList_load_row rfl _ _ rfl g rfl 27 p.cells (0, 0) _ (HB1.out.get 0 rfl) Try.underlying27 rfl p.info ?_)
    refine C2.mono ?_
    rintro e w2 ⟨rfl, hb⟩
    have HB2 := Lib.hid (HB1.out.below hb)
    clear C2 hb HB1
    go_wp2_with fail
    refine (awake_any _).mono ?_
    rintro e w3 ⟨rfl, hb⟩
    have HB3 := Lib.hid (HB2.out.below hb)
    go_wp2_with fail
    go_ret
    exact ⟨rfl, HB3.out.b⟩
  subst h0
  obtain ⟨l, hl⟩ : ∃ l, encP p.nm p.k p.m = l := ⟨_, rfl⟩
  have hlen := enc_len HE.out
  obtain ⟨q1, q2, q3, q4⟩ := enc_par HE.out
  have hcut := enc_cut HE.out
  have hen : encB p = l := by unfold encB; rw [if_pos HE.out, hl]
  rw [hl] at hlen q1 q2 q3 q4 hcut
  rw [hen]
  have hbl : (bs l).data.toList = l := by simp [bs]
  have C3 := fun W => Parse_d (bs l) W (by rw [bs_size]; omega)
  rw [hbl] at C3
  unfold ParD at C3
  rw [q1] at C3
  have Q2 := Lib.hid q2
  have Q3 := Lib.hid q3
  have Q4 := Lib.hid q4
  have HC := Lib.hid hcut
  have HLN := Lib.hid hlen
  clear hen hl hlen q1 q2 q3 q4 hcut hbl
  go_wp2_with fail
  refine (C3 _).mono ?_
  rintro e w2 ⟨q, rfl, hq, q1, q2, q3, hb⟩
  have hB := (HB1.out.below hb).push _ rfl 27 q.cells
  have HB2 : Hid (Bn w _ [(g, 27, p.cells), (w2.heap.size, 27, q.cells)]) := Lib.hid hB
  have HQ := Lib.hid (hq.below ((Below.refl w2.heap.size _).alloc (Nat.le_refl _) (.cells q.cells 27)))
  have HP2 := Lib.hid ((HP1.out.below hb).below ((Below.refl w2.heap.size _).alloc (Nat.le_refl _) (.cells q.cells 27)))
  have hsm : sameB p q = true := sameB_of (by rw [q1, Q2.out]) (by rw [q2, Q3.out]) (fun j hj => by rw [q3, Q4.out j hj])
  clear hq q1 q2 q3 hb hB C3 HP1 HB1 Q2 Q3 Q4
  go_upto_region 5 with (first
    | (refine wpList_allocC runP rfl rfl ?_)
    | (refine wpList_store_row rfl _ _ _ rfl w2.heap.size q.cells rfl rfl 27 Pf.zero.cells (heap_alloc_new _ _) q.info (by rw [Pf.size, Pf.size]) q.one ?_; rw [World.setRow_alloc_new]))
  obtain ⟨g1, hg1⟩ : ∃ g, w2.heap.size = g := ⟨_, rfl⟩
  obtain ⟨W2, hW⟩ : ∃ W, w2.alloc (.cells q.cells 27) = W := ⟨_, rfl⟩
  rw [hW, hg1] at HB2
  rw [hW] at HQ HP2
  rw [hW, hg1]
  clear hW hg1
  have hk16 : p.k.length ≤ 1048576 := by
    obtain ⟨_, _, h2, _⟩ := pErr_in HE.out
    omega
  have C4 := rSame_any p q W2 HP2.out HQ.out hk16
  unfold BolC at C4
  rw [hsm] at C4
  unfold Pf.val at C4
  clear hsm hk16
  go_wp2_with (first
    | (refine wpList_load_rowG rfl _ rfl g rfl p (HB2.out.get 0 rfl) ?_)
    | (refine wpList_load_rowG rfl _ rfl g1 rfl q (HB2.out.get 1 rfl) ?_))
  refine C4.mono ?_
  rintro e w3 ⟨rfl, hb⟩
  have HB3 := Lib.hid (HB2.out.below hb)
  clear C4 hb HB2 HQ HP2
  go_wp2_with fail
  refine (awake_any _).mono ?_
  rintro e w4 ⟨rfl, hb⟩
  have HB4 := Lib.hid (HB3.out.below hb)
  clear hb HB3
  have hsz : (bs l).size = l.length := bs_size l
  by_cases hz : z < 0
  · go_wp2_with fail
    go_ret
    exact ⟨rfl, HB4.out.b⟩
  obtain ⟨k, rfl⟩ : ∃ k : Nat, z = k := ⟨z.toNat, by omega⟩
  by_cases hk : l.length ≤ k
  · have h1 : ((l.length : Nat) : Int) ≤ k := by omega
    go_wp2_with fail
    go_ret
    exact ⟨rfl, HB4.out.b⟩
  have h1 : ¬ ((l.length : Nat) : Int) ≤ k := by omega
  have h2 : k ≤ l.length := by omega
  have hx : (bs l).extract 0 k = bs (l.take k) := by
    have := WireRd.extract_eq (bs l) 0 k
    rw [Nat.zero_add] at this
    rw [this]
    simp [bs]
  have hbl : (bs (l.take k)).data.toList = l.take k := by simp [bs]
  have C5 := fun W => Parse_d (bs (l.take k)) W (by rw [bs_size]; have := HLN.out; rw [List.length_take]; omega)
  rw [hbl] at C5
  unfold ParD at C5
  rw [HC.out k (by omega)] at C5
  clear hbl HC
  go_wp2_with fail
  refine (C5 _).mono ?_
  rintro e w5 ⟨q5, rfl, hq, _, _, _, hb⟩
  have hB := (HB4.out.below hb).alloc_ (.cells q5.cells 27)
  have HB5 := Lib.hid hB
  clear hq hb hB C5 HB4 hx hsz
  go_wp2_with (first
    | (refine wpList_allocC runP rfl rfl ?_)
    | (refine wpList_store_row rfl _ _ _ rfl w5.heap.size q5.cells rfl rfl 27 Pf.zero.cells (heap_alloc_new _ _) q5.info (by rw [Pf.size, Pf.size]) q5.one ?_; rw [World.setRow_alloc_new]))
  go_ret
  exact ⟨rfl, HB5.out.b⟩

open Go.ChangeShapes Go.WideShapes Go.ChangeAt Go.Joins Go.Deep

set_option maxRecDepth 100000 in
theorem contract (H : Type) (enc : TypeId × Value → H) (W : World) (base : Nat) (args : Array Value) (ds gs : List (DataW H)) (before : List MemPlace)
    (hval : ∀ (j : Nat) t v, Try.f9.params[j]? = some t → args[j]? = some v → Value.okWide Try.prog W .any base t v)
    (hW : DataW.Whole enc Try.prog Try.f9.params.toList Rows.profileReturnsSpec.vars false W args.toList ds gs before) :
    Calls Try.prog 9 args W fun e W' => ∃ v, e = .returned v ∧ Rows.profileReturnsSpec.post enc Try.prog Try.f9 false true false false W args v W' := by
  have hW' := hW
  obtain ⟨p, q, hA0, hV, rfl, hfz, hnd⟩ := hW
  have hA : DataW.TrodAll enc Try.prog W 0 (fun _ => true) true Try.f9.params.toList args.toList ds p := hA0
  rw [Try.params9] at hA hval
  obtain ⟨v0, vs0, d0, ds0, p0, q0, hargs, rfl, rfl, g0, r0⟩ := trodAll_cons hA
  obtain ⟨v1, vs1, d1, ds1, p1, q1, rfl, rfl, rfl, g1, r1⟩ := trodAll_cons r0
  obtain ⟨rfl, rfl, rfl⟩ := trodAll_nil r1
  obtain rfl : args = #[v0, v1] := by cases args; simp_all
  obtain ⟨rfl, rfl⟩ := trodVars_none hV
  obtain ⟨p0_, rfl, hp0⟩ := arg_prof (hval 0 27 v0 rfl rfl) g0
  obtain ⟨z1, rfl, rfl, rfl, w1⟩ := open_int Try.underlying3 (hval 1 3 v1 rfl rfl) g1
  clear hA0
  refine (walk p0_ z1 W hp0).mono fun e W' ⟨he, hb⟩ => ?_
  subst he
  exact ⟨_, rfl, Frame.law_post Frame.laidOut (by kernel_rfl) Try.underlying4 (by kernel_rfl) rfl rfl hW' hb⟩

set_option maxRecDepth 100000 in
theorem lifted (os : Os) (started : os.Started) (H : Type) (enc : TypeId × Value → H) :
    ReturnsInHanded {} Try.checked os 9 .any (Rows.profileReturnsSpec.pre6 enc Try.prog Try.f9 Rows.profileReturnsRow.domain false) (Rows.profileReturnsSpec.post enc Try.prog Try.f9 false true false false) := by
  refine returnsInHanded_of_change (C := Try.checked) Frame.own started (by kernel_rfl) Try.func9
    (ChangeSpec.witness6 (enc := enc) (C := Try.checked) false ⟨#[], #[.agg #[.string ⟨#[]⟩, .slice none 0 0, .int .i64 0, .int .i64 0, .int .i64 0, .int .i64 0, .int .i64 0, .int .i64 0, .int .i64 0, .int .i64 0, .int .i64 0], .int .i64 0], []⟩ 8 (by kernel_rfl) (by kernel_rfl) (by kernel_rfl) (by kernel_rfl)) ?_
  intro W base args ds gs before hval hW _ _
  exact contract H enc W base args ds gs before hval hW

theorem proved : Rows.ProfileReturnsSaid :=
  OpenClaim.holds_of_wide 9 Try.f9 rfl rfl rfl rfl rfl rfl rfl ⟨rfl, rfl, rfl, rfl, rfl⟩ rfl rfl rfl rfl rfl (by kernel_rfl) Try.func9 (by kernel_rfl)
    (of_decide_eq_true (by kernel_rfl)) (by unfold Func.isWrapper; first | (rw [if_pos (by decide +kernel)]; kernel_rfl) | (rw [if_neg (by decide +kernel)]; exact ⟨rfl, rfl⟩))
    (fun os started H enc _ => lifted os started H enc)


end Go.Proofs.Ytcighjeiimjbiaa.ProfileReturns
