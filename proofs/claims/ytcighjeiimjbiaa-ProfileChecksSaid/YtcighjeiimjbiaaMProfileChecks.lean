/-
  ProfileChecks: Count, Standard, Check and Bytes are as specified.
-/
import Derived.Test.YtcighjeiimjbiaaAll8
namespace Go.Proofs.Ytcighjeiimjbiaa.ProfileChecks
open Go.RowKit Go.Proofs.Ytcighjeiimjbiaa Go.Proofs.Ytcighjeiimjbiaa.Pro Go.Proofs.Ytcighjeiimjbiaa.NumPure
open Go.Proofs.Ytcighjeiimjbiaa.Mat (al ac invM invX appM info9 info3)

theorem Count_b (w : World) : Calls Try.prog 21 #[] w fun e w' => e = .returned (.int .i64 4) ∧ Below w.heap.size w w' := (Count_any w).mono fun _ _ h => ⟨h.1, by rw [h.2]; exact Below.refl _ _⟩
theorem rCount_b (w : World) : Calls Try.prog 22 #[] w fun e w' => e = .returned (.int .i64 4) ∧ Below w.heap.size w w' := (rCount_any w).mono fun _ _ h => ⟨h.1, by rw [h.2]; exact Below.refl _ _⟩
/-- What stands while the last line is worked out. -/
structure SS (w : World) (gp ga gb : Nat) (p a b : Pf) (W : World) : Prop where
  n : Bn w W [(gp, 27, p.cells), (ga, 27, a.cells), (gb, 27, b.cells)]
  p : PfR W p
  a : PfR W a
  q : PfR W b
theorem SS.below {w W W' : World} {gp ga gb : Nat} {p a b : Pf} (h : SS w gp ga gb p a b W) (hb : Below W.heap.size W W') : SS w gp ga gb p a b W' := ⟨h.n.below hb, h.p.below hb, h.a.below hb, h.q.below hb⟩
theorem SS.drew {w W : World} {gp ga gb : Nat} {p a b : Pf} (h : SS w gp ga gb p a b W) : SS w gp ga gb p a b W.drew := h.below (Below.refl _ _).drew
set_option maxRecDepth 100000 in
set_option maxHeartbeats 8000000 in
theorem walk (p : Pf) (i : Int) (w : World) (hp : PfR w p) : Calls Try.prog 5 #[p.val, .int .i64 i] w (Yes w) := by
  obtain ⟨z, hz⟩ : ∃ z, stZ i = z := ⟨_, rfl⟩
  obtain ⟨u, hu⟩ : ∃ z, pErr p = z := ⟨_, rfl⟩
  obtain ⟨s, hs⟩ : ∃ z, bs (encB p) = z := ⟨_, rfl⟩
  have H0 := (Bn.nil w).push _ rfl 27 p.cells
  obtain ⟨W, hW⟩ : ∃ W, w.alloc (.cells p.cells 27) = W := ⟨_, rfl⟩
  rw [hW] at H0
  have HB : Hid (Bn w W [(w.heap.size, 27, p.cells)]) := Lib.hid H0
  have HP := Lib.hid (hp.below H0.b)
  have D1 := fun W => (Standard_any i W).mono fun _ _ h => h.d
  have D2 := fun W => (rStandard_any i W).mono fun _ _ h => h.d
  have B1 := fun W h => Bytes_any p W h
  have B2 := fun W h => rBytes_any p W h
  have C4 := fun W h => Check_any p W h
  have C5 := fun W h => rCheck_any p W h
  unfold StD at D1 D2
  unfold BytC at B1 B2
  unfold ChkC at C4 C5
  rw [hz] at D1 D2
  rw [hu, hs] at B1 B2
  rw [hu] at C4 C5
  unfold Pf.val at B1 B2 C4 C5 ⊢
  have HD1 := Lib.hid D1
  have HD2 := Lib.hid D2
  have HB1 := Lib.hid B1
  have HB2 := Lib.hid B2
  have HC4 := Lib.hid C4
  have HC5 := Lib.hid C5
  clear D1 D2 B1 B2 C4 C5 hp H0 hz hu hs
  go_enter Try.func5, Try.ntmps5
  go_wp2_with fail
  try rw [hW]
  clear hW
  obtain ⟨gp, hgp⟩ : ∃ g, w.heap.size = g := ⟨_, rfl⟩
  rw [hgp] at HB ⊢
  clear hgp
  refine (HD1.out _).mono ?_
  rintro e w1 ⟨a, rfl, ha, a1, a2, a3, hb⟩
  have hB := (HB.out.below hb).push _ rfl 27 a.cells
  have HBa : Hid (Bn w _ [(gp, 27, p.cells), (w1.heap.size, 27, a.cells)]) := Lib.hid hB
  have hn := (Below.refl w1.heap.size _).alloc (Nat.le_refl _) (.cells a.cells 27)
  have HA1 := Lib.hid (ha.below hn)
  have HP1 := Lib.hid ((HP.out.below hb).below hn)
  have A1 := Lib.hid a1
  have A2 := Lib.hid a2
  have A3 := Lib.hid a3
  clear HD1 ha a1 a2 a3 hb hB hn HB HP
  go_upto_region 2 with (first
    | (refine wpList_allocC runP rfl rfl ?_)
    | (refine wpList_store_row rfl _ _ _ rfl w1.heap.size a.cells rfl rfl 27 Pf.zero.cells (heap_alloc_new _ _) a.info (by rw [Pf.size, Pf.size]) a.one ?_; rw [World.setRow_alloc_new]))
  obtain ⟨ga, hg⟩ : ∃ g, w1.heap.size = g := ⟨_, rfl⟩
  obtain ⟨Wa, hW⟩ : ∃ W, w1.alloc (.cells a.cells 27) = W := ⟨_, rfl⟩
  rw [hW, hg] at HBa
  rw [hW] at HA1 HP1
  rw [hW, hg]
  clear hW hg
  go_wp2_with fail
  refine (HD2.out _).mono ?_
  rintro e w2 ⟨b, rfl, hq, b1, b2, b3, hb⟩
  have hB := (HBa.out.below hb).push _ rfl 27 b.cells
  have HBb : Hid (Bn w _ [(gp, 27, p.cells), (ga, 27, a.cells), (w2.heap.size, 27, b.cells)]) := Lib.hid hB
  have hn := (Below.refl w2.heap.size _).alloc (Nat.le_refl _) (.cells b.cells 27)
  have HQ2 := Lib.hid (hq.below hn)
  have HA2 := Lib.hid ((HA1.out.below hb).below hn)
  have HP2 := Lib.hid ((HP1.out.below hb).below hn)
  have hsm : sameB a b = true := sameB_of (by rw [A1.out, b1]) (by rw [A2.out, b2]) (fun j _ => by rw [A3.out, b3])
  have HK := Lib.hid (show a.k.length ≤ 1048576 by rw [A2.out]; exact stK_le i)
  have C3 := fun W h1 h2 => rSame_any a b W h1 h2 HK.out
  unfold BolC at C3
  rw [hsm] at C3
  unfold Pf.val at C3
  have HC3 := Lib.hid C3
  clear HD2 hq b1 b2 b3 hb hB hn HBa HA1 HP1 A1 A2 A3 hsm C3
  go_upto_region 3 with (first
    | (refine wpList_allocC runP rfl rfl ?_)
    | (refine wpList_store_row rfl _ _ _ rfl w2.heap.size b.cells rfl rfl 27 Pf.zero.cells (heap_alloc_new _ _) b.info (by rw [Pf.size, Pf.size]) b.one ?_; rw [World.setRow_alloc_new]))
  obtain ⟨gb, hg⟩ : ∃ g, w2.heap.size = g := ⟨_, rfl⟩
  obtain ⟨Wb, hW⟩ : ∃ W, w2.alloc (.cells b.cells 27) = W := ⟨_, rfl⟩
  rw [hW, hg] at HBb
  rw [hW] at HA2 HP2 HQ2
  rw [hW, hg]
  clear hW hg
  go_wp2_with (refine wpList_load_row rfl _ _ rfl gp rfl 27 p.cells (0, 0) _ (HBb.out.get 0 rfl) Try.underlying27 rfl p.info ?_)
  refine (HB1.out _ HP2.out).mono ?_
  rintro e w3 ⟨rfl, hb⟩
  have HB3 := Lib.hid (HBb.out.below hb)
  have HP3 := Lib.hid (HP2.out.below hb)
  have HA3 := Lib.hid (HA2.out.below hb)
  have HQ3 := Lib.hid (HQ2.out.below hb)
  clear HB1 HBb HP2 HA2 HQ2 hb
  go_wp2_with (refine wpList_load_row rfl _ _ rfl gp rfl 27 p.cells (0, 0) _ (HB3.out.get 0 rfl) Try.underlying27 rfl p.info ?_)
  refine (HB2.out _ HP3.out).mono ?_
  rintro e w4 ⟨rfl, hb⟩
  have HB4 := Lib.hid (HB3.out.below hb)
  have HP4 := Lib.hid (HP3.out.below hb)
  have HA4 := Lib.hid (HA3.out.below hb)
  have HQ4 := Lib.hid (HQ3.out.below hb)
  clear HB2 HB3 HP3 HA3 HQ3 hb
  go_upto_region 5 with fail
  have HS : Hid (SS w gp ga gb p a b w4) := Lib.hid ⟨HB4.out, HP4.out, HA4.out, HQ4.out⟩
  clear HB4 HP4 HA4 HQ4
  have KK : Hid (∀ W1 W' : World, SS w gp ga gb p a b W1 → Below W1.heap.size W1 W' → SS w gp ga gb p a b W') := Lib.hid (fun W1 W' h hq => h.below hq)
  refine wp_region_held_drew (S := fun W => SS w gp ga gb p a b W) (by kernel_rfl) (HS.out.drew) (fun hHeld => ?_)
  refine wpAnyH_ready (rs := [0]) (by kernel_rfl) (by simp) ?_
  refine AllReadyH.cons (o := _) rfl (fun K hK => ?_) AllReadyH.nil
  go_simp
  go_at_call 21
  refine (Count_b _).mono ?_
  rintro e v5 ⟨rfl, hb⟩
  go_wp2_with fail
  refine hK.out _ _ (KK.out _ _ (by assumption) hb) (fun hHeld => ?_)
  clear hK
  try simp only [Act.put, List.setIfInBounds_toArray, List.set_cons_zero, List.set_cons_succ]
  clear hb
  refine wpAnyH_ready (rs := [1]) (by kernel_rfl) (by simp) ?_
  refine AllReadyH.cons (o := _) rfl (fun K hK => ?_) AllReadyH.nil
  go_simp
  go_at_call 22
  refine (rCount_b _).mono ?_
  rintro e v6 ⟨rfl, hb⟩
  go_wp2_with fail
  refine hK.out _ _ (KK.out _ _ (by assumption) hb) (fun hHeld => ?_)
  clear hK
  try simp only [Act.put, List.setIfInBounds_toArray, List.set_cons_zero, List.set_cons_succ]
  clear hb
  refine wpAnyH_take (i := 2) (oi := _) (v := .bool true) rfl (by kernel_rfl) (by kernel_rfl) (by kernel_rfl) (fun _ _ _ h => h) (Or.inl ⟨by rfl, fun W1 hS => by go_simp⟩) (by assumption) ?_
  go_simp
  refine wpAnyH_take (i := 3) (oi := _) (v := .bool true) rfl (by kernel_rfl) (by kernel_rfl) (by kernel_rfl) (fun _ _ _ h => h) (Or.inl ⟨by rfl, fun W1 hS => by go_simp⟩) (by assumption) ?_
  go_simp
  refine wpAnyH_take (i := 4) (oi := _) (v := .agg a.cells) rfl (by kernel_rfl) (by kernel_rfl) (by kernel_rfl) (fun _ _ _ h => h) (yLoadP rfl _ rfl ga rfl a (fun _ h => h.n.get 1 rfl)) (by assumption) ?_
  go_simp
  refine wpAnyH_take (i := 5) (oi := _) (v := .agg b.cells) rfl (by kernel_rfl) (by kernel_rfl) (by kernel_rfl) (fun _ _ _ h => h) (yLoadP rfl _ rfl gb rfl b (fun _ h => h.n.get 2 rfl)) (by assumption) ?_
  go_simp
  refine wpAnyH_ready (rs := [6]) (by kernel_rfl) (by simp) ?_
  refine AllReadyH.cons (o := _) rfl (fun K hK => ?_) AllReadyH.nil
  go_simp
  go_at_call 23
  refine (HC3.out _ hHeld.a hHeld.q).mono ?_
  rintro e v7 ⟨rfl, hb⟩
  go_wp2_with fail
  refine hK.out _ _ (KK.out _ _ (by assumption) hb) (fun hHeld => ?_)
  clear hK
  try simp only [Act.put, List.setIfInBounds_toArray, List.set_cons_zero, List.set_cons_succ]
  clear hb
  refine wpAnyH_take (i := 7) (oi := _) (v := .bool true) rfl (by kernel_rfl) (by kernel_rfl) (by kernel_rfl) (fun _ _ _ h => h) (Or.inl ⟨by rfl, fun W1 hS => by go_simp⟩) (by assumption) ?_
  go_simp
  refine wpAnyH_take (i := 8) (oi := _) (v := .bool true) rfl (by kernel_rfl) (by kernel_rfl) (by kernel_rfl) (fun _ _ _ h => h) (Or.inl ⟨by rfl, fun W1 hS => by go_simp⟩) (by assumption) ?_
  go_simp
  refine wpAnyH_take (i := 9) (oi := _) (v := .int .i64 z) rfl (by kernel_rfl) (by kernel_rfl) (by kernel_rfl) (fun _ _ _ h => h) (Or.inl ⟨by rfl, fun W1 hS => by go_simp⟩) (by assumption) ?_
  go_simp
  refine wpAnyH_take (i := 10) (oi := _) (v := .int .i64 z) rfl (by kernel_rfl) (by kernel_rfl) (by kernel_rfl) (fun _ _ _ h => h) (Or.inl ⟨by rfl, fun W1 hS => by go_simp⟩) (by assumption) ?_
  go_simp
  refine wpAnyH_take (i := 11) (oi := _) (v := .bool true) rfl (by kernel_rfl) (by kernel_rfl) (by kernel_rfl) (fun _ _ _ h => h) (Or.inl ⟨by rfl, fun W1 hS => by go_simp⟩) (by assumption) ?_
  go_simp
  refine wpAnyH_take (i := 12) (oi := _) (v := .bool true) rfl (by kernel_rfl) (by kernel_rfl) (by kernel_rfl) (fun _ _ _ h => h) (Or.inl ⟨by rfl, fun W1 hS => by go_simp⟩) (by assumption) ?_
  go_simp
  refine wpAnyH_take (i := 13) (oi := _) (v := .bool true) rfl (by kernel_rfl) (by kernel_rfl) (by kernel_rfl) (fun _ _ _ h => h) (Or.inl ⟨by rfl, fun W1 hS => by go_simp⟩) (by assumption) ?_
  go_simp
  refine wpAnyH_take (i := 14) (oi := _) (v := .agg p.cells) rfl (by kernel_rfl) (by kernel_rfl) (by kernel_rfl) (fun _ _ _ h => h) (yLoadP rfl _ rfl gp rfl p (fun _ h => h.n.get 0 rfl)) (by assumption) ?_
  go_simp
  refine wpAnyH_take (i := 16) (oi := _) (v := .agg p.cells) rfl (by kernel_rfl) (by kernel_rfl) (by kernel_rfl) (fun _ _ _ h => h) (yLoadP rfl _ rfl gp rfl p (fun _ h => h.n.get 0 rfl)) (by assumption) ?_
  go_simp
  refine wpAnyH_ready (rs := [15]) (by kernel_rfl) (by simp) ?_
  refine AllReadyH.cons (o := _) rfl (fun K hK => ?_) AllReadyH.nil
  go_simp
  go_at_call 24
  refine (HC4.out _ hHeld.p).mono ?_
  rintro e v8 ⟨rfl, hb⟩
  go_wp2_with fail
  refine hK.out _ _ (KK.out _ _ (by assumption) hb) (fun hHeld => ?_)
  clear hK
  try simp only [Act.put, List.setIfInBounds_toArray, List.set_cons_zero, List.set_cons_succ]
  clear hb
  refine wpAnyH_ready (rs := [17]) (by kernel_rfl) (by simp) ?_
  refine AllReadyH.cons (o := _) rfl (fun K hK => ?_) AllReadyH.nil
  go_simp
  go_at_call 25
  refine (HC5.out _ hHeld.p).mono ?_
  rintro e v9 ⟨rfl, hb⟩
  go_wp2_with fail
  refine hK.out _ _ (KK.out _ _ (by assumption) hb) (fun hHeld => ?_)
  clear hK
  try simp only [Act.put, List.setIfInBounds_toArray, List.set_cons_zero, List.set_cons_succ]
  clear hb
  refine wpAnyH_take (i := 18) (oi := _) (v := .bool true) rfl (by kernel_rfl) (by kernel_rfl) (by kernel_rfl) (fun _ _ _ h => h) (Or.inl ⟨by rfl, fun W1 hS => by go_simp⟩) (by assumption) ?_
  go_simp
  refine wpAnyH_take (i := 19) (oi := _) (v := .bool true) rfl (by kernel_rfl) (by kernel_rfl) (by kernel_rfl) (fun _ _ _ h => h) (Or.inl ⟨by rfl, fun W1 hS => by go_simp⟩) (by assumption) ?_
  go_simp
  refine wpAnyH_take (i := 20) (oi := _) (v := .bool true) rfl (by kernel_rfl) (by kernel_rfl) (by kernel_rfl) (fun _ _ _ h => h) (Or.inl ⟨by rfl, fun W1 hS => by go_simp⟩) (by assumption) ?_
  go_simp
  refine wpAnyH_take (i := 21) (oi := _) (v := .string s) rfl (by kernel_rfl) (by kernel_rfl) (by kernel_rfl) (fun _ _ _ h => h) (Or.inl ⟨by rfl, fun W1 hS => by go_simp⟩) (by assumption) ?_
  go_simp
  refine wpAnyH_take (i := 22) (oi := _) (v := .string s) rfl (by kernel_rfl) (by kernel_rfl) (by kernel_rfl) (fun _ _ _ h => h) (Or.inl ⟨by rfl, fun W1 hS => by go_simp⟩) (by assumption) ?_
  go_simp
  refine wpAnyH_take (i := 23) (oi := _) (v := .bool true) rfl (by kernel_rfl) (by kernel_rfl) (by kernel_rfl) (fun _ _ _ h => h) (Or.inl ⟨by rfl, fun W1 hS => by go_simp⟩) (by assumption) ?_
  go_simp
  refine wpAnyH_take (i := 24) (oi := _) (v := .bool true) rfl (by kernel_rfl) (by kernel_rfl) (by kernel_rfl) (fun _ _ _ h => h) (Or.inl ⟨by rfl, fun W1 hS => by go_simp⟩) (by assumption) ?_
  go_simp
  refine wpAnyH_take (i := 25) (oi := _) (v := .bool true) rfl (by kernel_rfl) (by kernel_rfl) (by kernel_rfl) (fun _ _ _ h => h) (Or.inl ⟨by rfl, fun W1 hS => by go_simp⟩) (by assumption) ?_
  go_simp
  refine wpAnyH_take (i := 26) (oi := _) (v := .int .i64 u) rfl (by kernel_rfl) (by kernel_rfl) (by kernel_rfl) (fun _ _ _ h => h) (Or.inl ⟨by rfl, fun W1 hS => by go_simp⟩) (by assumption) ?_
  go_simp
  refine wpAnyH_take (i := 27) (oi := _) (v := .int .i64 u) rfl (by kernel_rfl) (by kernel_rfl) (by kernel_rfl) (fun _ _ _ h => h) (Or.inl ⟨by rfl, fun W1 hS => by go_simp⟩) (by assumption) ?_
  go_simp
  refine wpAnyH_take (i := 28) (oi := _) (v := .bool true) rfl (by kernel_rfl) (by kernel_rfl) (by kernel_rfl) (fun _ _ _ h => h) (Or.inl ⟨by rfl, fun W1 hS => by go_simp⟩) (by assumption) ?_
  go_simp
  refine wpAnyH_take (i := 29) (oi := _) (v := .bool true) rfl (by kernel_rfl) (by kernel_rfl) (by kernel_rfl) (fun _ _ _ h => h) (Or.inl ⟨by rfl, fun W1 hS => by go_simp⟩) (by assumption) ?_
  go_simp
  refine wpAnyH_take (i := 30) (oi := _) (v := .bool true) rfl (by kernel_rfl) (by kernel_rfl) (by kernel_rfl) (fun _ _ _ h => h) (Or.inl ⟨by rfl, fun W1 hS => by go_simp⟩) (by assumption) ?_
  go_simp
  refine wpAnyH_ready (rs := [31]) (by kernel_rfl) (by simp) ?_
  refine AllReadyH.cons (o := _) rfl (fun K hK => ?_) AllReadyH.nil
  go_simp
  go_at_call 11
  refine (awake_any _).mono ?_
  rintro e v10 ⟨rfl, hb⟩
  go_wp2_with fail
  refine hK.out _ _ (KK.out _ _ (by assumption) hb) (fun hHeld => ?_)
  clear hK
  try simp only [Act.put, List.setIfInBounds_toArray, List.set_cons_zero, List.set_cons_succ]
  clear hb
  refine wpAnyH_take (i := 32) (oi := _) (v := .bool true) rfl (by kernel_rfl) (by kernel_rfl) (by kernel_rfl) (fun _ _ _ h => h) (Or.inl ⟨by rfl, fun W1 hS => by go_simp⟩) (by assumption) ?_
  go_simp
  refine wpAnyH_take (i := 33) (oi := _) (v := .bool true) rfl (by kernel_rfl) (by kernel_rfl) (by kernel_rfl) (fun _ _ _ h => h) (Or.inl ⟨by rfl, fun W1 hS => by go_simp⟩) (by assumption) ?_
  go_simp
  refine wpAnyH_done (by kernel_rfl) ?_ _
  have HE : Hid (∀ W1 : World, SS w gp ga gb p a b W1 → Below w.heap.size w W1) := Lib.hid fun _ h => h.n.b
  go_wp2_with fail
  go_ret
  exact ⟨rfl, HE.out _ (by assumption)⟩

open Go.ChangeShapes Go.WideShapes Go.ChangeAt Go.Joins Go.Deep

set_option maxRecDepth 100000 in
theorem contract (H : Type) (enc : TypeId × Value → H) (W : World) (base : Nat) (args : Array Value) (ds gs : List (DataW H)) (before : List MemPlace)
    (hval : ∀ (j : Nat) t v, Try.f5.params[j]? = some t → args[j]? = some v → Value.okWide Try.prog W .any base t v)
    (hW : DataW.Whole enc Try.prog Try.f5.params.toList Rows.profileChecksSpec.vars false W args.toList ds gs before) :
    Calls Try.prog 5 args W fun e W' => ∃ v, e = .returned v ∧ Rows.profileChecksSpec.post enc Try.prog Try.f5 false true false false W args v W' := by
  have hW' := hW
  obtain ⟨p, q, hA0, hV, rfl, hfz, hnd⟩ := hW
  have hA : DataW.TrodAll enc Try.prog W 0 (fun _ => true) true Try.f5.params.toList args.toList ds p := hA0
  rw [Try.params5] at hA hval
  obtain ⟨v0, vs0, d0, ds0, p0, q0, hargs, rfl, rfl, g0, r0⟩ := trodAll_cons hA
  obtain ⟨v1, vs1, d1, ds1, p1, q1, rfl, rfl, rfl, g1, r1⟩ := trodAll_cons r0
  obtain ⟨rfl, rfl, rfl⟩ := trodAll_nil r1
  obtain rfl : args = #[v0, v1] := by cases args; simp_all
  obtain ⟨rfl, rfl⟩ := trodVars_none hV
  obtain ⟨p0_, rfl, hp0⟩ := arg_prof (hval 0 27 v0 rfl rfl) g0
  obtain ⟨z1, rfl, rfl, rfl, w1⟩ := open_int Try.underlying3 (hval 1 3 v1 rfl rfl) g1
  clear hA0
  refine (walk p0_ z1 W hp0).mono fun e W' ⟨he, hb⟩ => ?_
  subst he
  exact ⟨_, rfl, Frame.law_post Frame.laidOut (by kernel_rfl) Try.underlying4 (by kernel_rfl) rfl rfl hW' hb⟩

set_option maxRecDepth 100000 in
theorem lifted (os : Os) (started : os.Started) (H : Type) (enc : TypeId × Value → H) :
    ReturnsInHanded {} Try.checked os 5 .any (Rows.profileChecksSpec.pre6 enc Try.prog Try.f5 Rows.profileChecksRow.domain false) (Rows.profileChecksSpec.post enc Try.prog Try.f5 false true false false) := by
  refine returnsInHanded_of_change (C := Try.checked) Frame.own started (by kernel_rfl) Try.func5
    (ChangeSpec.witness6 (enc := enc) (C := Try.checked) false ⟨#[], #[.agg #[.string ⟨#[]⟩, .slice none 0 0, .int .i64 0, .int .i64 0, .int .i64 0, .int .i64 0, .int .i64 0, .int .i64 0, .int .i64 0, .int .i64 0, .int .i64 0], .int .i64 0], []⟩ 8 (by kernel_rfl) (by kernel_rfl) (by kernel_rfl) (by kernel_rfl)) ?_
  intro W base args ds gs before hval hW _ _
  exact contract H enc W base args ds gs before hval hW

theorem proved : Rows.ProfileChecksSaid :=
  OpenClaim.holds_of_wide 5 Try.f5 rfl rfl rfl rfl rfl rfl rfl ⟨rfl, rfl, rfl, rfl, rfl⟩ rfl rfl rfl rfl rfl (by kernel_rfl) Try.func5 (by kernel_rfl)
    (of_decide_eq_true (by kernel_rfl)) (by unfold Func.isWrapper; first | (rw [if_pos (by decide +kernel)]; kernel_rfl) | (rw [if_neg (by decide +kernel)]; exact ⟨rfl, rfl⟩))
    (fun os started H enc _ => lifted os started H enc)


end Go.Proofs.Ytcighjeiimjbiaa.ProfileChecks
