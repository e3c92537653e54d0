/-
  Layer 36's laws: one call of both caches.
-/
import Derived.Test.YtkdokipgakncjaaRCacI
namespace Go.Proofs.Ytkdokipgakncjaa.Cac
open Go.RowKit Go.Proofs.Ytkdokipgakncjaa

/-- What the calls of two objects do at a state: the first stands for the program's cache, the second for the document's. -/
structure Steps (vc vr : Value) (B : Nat) (P0 P1 P2 : Cac.Obj) (s : St) (x : CallV) (r : Value) : Prop where
  ob0 : Ob P0 B
  ob1 : Ob P1 B
  ob2 : Ob P2 B
  get1 : x.kind = 0 → ∀ M W, P0 W M → B ≤ W.heap.size → Calls Try.prog 19 #[vc, kagg x.k] W fun e w' => (∃ v, e = .returned (.tuple #[v, .bool (Cac.look s.l x.k).isSome]) ∧ ImgV w' W.heap.size v ((Cac.look s.l x.k).getD img0)) ∧ Out P1 M W w'
  get2 : x.kind = 0 → ∀ M W, P1 W M → B ≤ W.heap.size → Calls Try.prog 25 #[vr, kagg x.k] W fun e w' => (∃ v, e = .returned (.tuple #[v, .bool (Cac.look s.l x.k).isSome]) ∧ ImgV w' W.heap.size v ((Cac.look s.l x.k).getD img0)) ∧ Out P2 M W w'
  gpx : x.kind = 0 → ((Cac.look s.l x.k).getD img0).px.length ≤ 4398046511104
  put1 : x.kind = 1 → ∀ M W, P0 W M → B ≤ W.heap.size → ImgR W B (.agg #[.int .i64 x.i.W, .int .i64 x.i.H, r]) x.i → Calls Try.prog 26 #[vc, kagg x.k, .agg #[.int .i64 x.i.W, .int .i64 x.i.H, r]] W fun e w' => e = .returned (.tuple #[]) ∧ Out P1 M W w'
  put2 : x.kind = 1 → ∀ M W, P1 W M → B ≤ W.heap.size → ImgR W B (.agg #[.int .i64 x.i.W, .int .i64 x.i.H, r]) x.i → Calls Try.prog 27 #[vr, kagg x.k, .agg #[.int .i64 x.i.W, .int .i64 x.i.H, r]] W fun e w' => e = .returned (.tuple #[]) ∧ Out P2 M W w'
  drop1 : x.kind = 2 → ∀ M W, P0 W M → B ≤ W.heap.size → Calls Try.prog 28 #[vc, .int .i64 x.n] W fun e w' => e = .returned (.int .i64 ((s.l.length - (dropE s.l x.n).length : Nat) : Int)) ∧ Out P1 M W w'
  drop2 : x.kind = 2 → ∀ M W, P1 W M → B ≤ W.heap.size → Calls Try.prog 29 #[vr, .int .i64 x.n] W fun e w' => e = .returned (.int .i64 ((s.l.length - (dropE s.l x.n).length : Nat) : Int)) ∧ Out P2 M W w'
  rem1 : x.kind = 3 → ∀ M W, P0 W M → B ≤ W.heap.size → Calls Try.prog 30 #[vc, kagg x.k] W fun e w' => e = .returned (.bool (Cac.look s.l x.k).isSome) ∧ Out P1 M W w'
  rem2 : x.kind = 3 → ∀ M W, P1 W M → B ≤ W.heap.size → Calls Try.prog 31 #[vr, kagg x.k] W fun e w' => e = .returned (.bool (Cac.look s.l x.k).isSome) ∧ Out P2 M W w'
  res1 : x.kind = 4 → ∀ M W, P0 W M → B ≤ W.heap.size → Calls Try.prog 32 #[vc, .int .i64 x.n] W fun e w' => e = .returned (.int .i64 (({ s with b := clampN x.n } : St).over : Int)) ∧ Out P1 M W w'
  res2 : x.kind = 4 → ∀ M W, P1 W M → B ≤ W.heap.size → Calls Try.prog 33 #[vr, .int .i64 x.n] W fun e w' => e = .returned (.int .i64 (({ s with b := clampN x.n } : St).over : Int)) ∧ Out P2 M W w'
  keys1 : ∀ M W, P2 W M → B ≤ W.heap.size → Calls Try.prog 13 #[vc] W fun e w' => ∃ A cap, e = .returned (.slice A (s.step x).l.length cap) ∧ KR w' A (keys (s.step x).l) ∧ Below W.heap.size W w'
  keys2 : ∀ M W, P2 W M → B ≤ W.heap.size → Calls Try.prog 14 #[vr] W fun e w' => ∃ A cap, e = .returned (.slice A (s.step x).l.length cap) ∧ KR w' A (keys (s.step x).l) ∧ Below W.heap.size W w'
  ev1 : ∀ M W, P2 W M → Calls Try.prog 15 #[vc] W fun e w' => e = .returned (.int .i64 (s.step x).e) ∧ W = w'
  ev2 : ∀ M W, P2 W M → Calls Try.prog 16 #[vr] W fun e w' => e = .returned (.int .i64 (s.step x).e) ∧ W = w'
  oth : x.kind ≠ 0 → x.kind ≠ 1 → x.kind ≠ 2 → x.kind ≠ 3 → x.kind ≠ 4 → ∀ M W, P0 W M → P2 W M
  len : (s.step x).l.length ≤ 1048576

theorem Out.chain {P : Cac.Obj} {M M1 M2 : List Nat} {w W0 w1 w2 : World} (t0 : Tch [] w W0) (t1 : Tch M W0 w1) (n1 : ∀ k ∈ M1, k ∈ M ∨ W0.heap.size ≤ k) (t2 : Tch M1 w1 w2) (n2 : ∀ k ∈ M2, k ∈ M1 ∨ w1.heap.size ≤ k) (p2 : P w2 M2) : Out P M w w2 := by
  have s0 := t0.size
  have s1 := t1.size
  refine ⟨M2, p2, ((t0.mono (M' := M) (fun k hk => by simp at hk)).trans t1 (fun k hk => .inl hk)).trans t2 (fun k hk => (n1 k hk).imp id (fun h => by omega)), fun k hk => ?_⟩
  rcases n2 k hk with h | h
  · exact (n1 k h).imp id (fun h => by omega)
  · exact .inr (by omega)
theorem blk10 {w : World} {g : Nat} {t : TypeId} {a b c d e f h i j k : Value} (hb : Blk w g t #[a, b, c, d, e, f, h, i, j, k]) : w.cell? ⟨g, 0, none⟩ = some a ∧ w.cell? ⟨g, 1, none⟩ = some b ∧ w.cell? ⟨g, 2, none⟩ = some c ∧ w.cell? ⟨g, 3, none⟩ = some d ∧ w.cell? ⟨g, 4, none⟩ = some e ∧ w.cell? ⟨g, 5, none⟩ = some f ∧ w.cell? ⟨g, 6, none⟩ = some h ∧ w.cell? ⟨g, 7, none⟩ = some i ∧ w.cell? ⟨g, 8, none⟩ = some j ∧ w.cell? ⟨g, 9, none⟩ = some k ∧ ∀ o, w.frozen? ⟨g, o, none⟩ = false :=
  ⟨hb.cell 0, hb.cell 1, hb.cell 2, hb.cell 3, hb.cell 4, hb.cell 5, hb.cell 6, hb.cell 7, hb.cell 8, hb.cell 9, hb.frozen⟩

set_option maxRecDepth 100000 in
set_option maxHeartbeats 8000000 in
theorem step_any (vc vr : Value) (B : Nat) (P0 P1 P2 : Cac.Obj) (s : St) (x : CallV) (r : Value) (H : Steps vc vr B P0 P1 P2 s x r) (M : List Nat) (w : World) (h : P0 w M) (hx : ImgR w B (.agg #[.int .i64 x.i.W, .int .i64 x.i.H, r]) x.i) (hB : B ≤ w.heap.size) :
    Calls Try.prog 11 #[vc, vr, cagg x r] w fun e w' => e = .returned (.bool true) ∧ Out P2 M w w' := by
  obtain ⟨A, q0, cc, rfl⟩ : ∃ A q cc, r = .slice A q cc := by
    obtain ⟨A, cc, he, _⟩ := hx
    exact ⟨A, _, cc, by simpa using he⟩
  have T0 : Tch [] w (w.alloc (.cells #[.int .i64 x.kind, .int .i64 x.n, .int .i64 x.k.1, .int .i64 x.k.2.1, .int .i64 x.k.2.2.1, .int .i64 x.k.2.2.2.1, .int .i64 x.k.2.2.2.2, .int .i64 x.i.W, .int .i64 x.i.H, .slice A q0 cc] 34)) := (Tch.refl _ _).alloc _
  have X0 : Blk (w.alloc (.cells #[.int .i64 x.kind, .int .i64 x.n, .int .i64 x.k.1, .int .i64 x.k.2.1, .int .i64 x.k.2.2.1, .int .i64 x.k.2.2.2.1, .int .i64 x.k.2.2.2.2, .int .i64 x.i.W, .int .i64 x.i.H, .slice A q0 cc] 34)) w.heap.size 34 #[.int .i64 x.kind, .int .i64 x.n, .int .i64 x.k.1, .int .i64 x.k.2.1, .int .i64 x.k.2.2.1, .int .i64 x.k.2.2.2.1, .int .i64 x.k.2.2.2.2, .int .i64 x.i.W, .int .i64 x.i.H, .slice A q0 cc] := Blk.new _ _ _
  have hs0 : (w.alloc (.cells #[.int .i64 x.kind, .int .i64 x.n, .int .i64 x.k.1, .int .i64 x.k.2.1, .int .i64 x.k.2.2.1, .int .i64 x.k.2.2.2.1, .int .i64 x.k.2.2.2.2, .int .i64 x.i.W, .int .i64 x.i.H, .slice A q0 cc] 34)).heap.size = w.heap.size + 1 := by simp
  obtain ⟨W0, hW0⟩ : ∃ W0, w.alloc (.cells #[.int .i64 x.kind, .int .i64 x.n, .int .i64 x.k.1, .int .i64 x.k.2.1, .int .i64 x.k.2.2.1, .int .i64 x.k.2.2.2.1, .int .i64 x.k.2.2.2.2, .int .i64 x.i.W, .int .i64 x.i.H, .slice A q0 cc] 34) = W0 := ⟨_, rfl⟩
  rw [hW0] at T0 X0 hs0
  obtain ⟨d0, d1, d2, d3, d4, d5, d6, d7, d8, d9, df⟩ := blk10 X0
  have HX0 := Lib.hid X0
  have HT0 := Lib.hid T0
  have HP0 : Hid (P0 W0 M ∧ P0 W0.drew M) := Lib.hid ⟨H.ob0.tch0 h T0, H.ob0.tch0 h T0.drew⟩
  have HB0 : Hid (B ≤ W0.heap.size) := Lib.hid (by omega)
  have HM : Hid (w.heap.size ∉ M) := Lib.hid (fun hm => by have := H.ob0.size h _ hm; omega)
  have HI : Hid (∀ W, Below w.heap.size w W → ImgR W B (.agg #[.int .i64 x.i.W, .int .i64 x.i.H, .slice A q0 cc]) x.i) := Lib.hid (fun W hW => hx.below (hW.mono hB))
  have HLO : Hid (∀ k ∈ M, B ≤ k) := Lib.hid (H.ob0.lows h)
  have HIL : Hid (ImgR w B (.agg #[.int .i64 x.i.W, .int .i64 x.i.H, .slice A q0 cc]) x.i) := Lib.hid hx
  clear h hx T0 X0
  unfold cagg
  by_cases hk : x.kind = 0
  · have c1 := H.get1 hk M W0 HP0.out.1 HB0.out
    have c2 := H.get2 hk
    have hpx := H.gpx hk
    obtain ⟨bo, hbo⟩ : ∃ bo, (Cac.look s.l x.k).isSome = bo := ⟨_, rfl⟩
    obtain ⟨im, him⟩ : ∃ im, (Cac.look s.l x.k).getD img0 = im := ⟨_, rfl⟩
    rw [hbo] at c1 c2
    rw [him] at c1 c2 hpx
    unfold kagg at c1 c2
    have C2 := Lib.hid c2
    have q0' : (x.kind == 0) = true := by simpa using hk
    clear c2 hbo him hk
    go_enter Try.func11, Try.ntmps11
    go_wp2_with fail
    refine c1.mono ?_
    rintro e w1 ⟨⟨v1, rfl, hI1⟩, O1⟩
    clear c1
    obtain ⟨M1, p1, t1, n1⟩ := O1
    have hb1 := t1.blk HX0.out HM.out
    have hI1r := hI1
    obtain ⟨r1, rfl, ho1⟩ := hI1
    obtain ⟨A1, cc1, rfl, _⟩ := own_open ho1
    obtain ⟨iW, hiW⟩ : ∃ z, im.W = z := ⟨_, rfl⟩
    obtain ⟨iH, hiH⟩ : ∃ z, im.H = z := ⟨_, rfl⟩
    obtain ⟨ql, hql⟩ : ∃ z, im.px.length = z := ⟨_, rfl⟩
    rw [hiW, hiH, hql] at hI1r
    rw [hiW, hiH, hql]
    have hn1 : w.heap.size ∉ M1 := fun hm => by
      rcases n1 _ hm with h | h
      · exact HM.out h
      · omega
    have ta : Tch [] w1 (w1.alloc (.cells #[.int .i64 iW, .int .i64 iH, .slice A1 ql cc1] 32)) := (Tch.refl _ _).alloc _
    have xa := Blk.new w1 32 #[.int .i64 iW, .int .i64 iH, .slice A1 ql cc1]
    have hsa : (w1.alloc (.cells #[.int .i64 iW, .int .i64 iH, .slice A1 ql cc1] 32)).heap.size = w1.heap.size + 1 := by simp
    obtain ⟨g8, hg8⟩ : ∃ g8, w1.heap.size = g8 := ⟨_, rfl⟩
    obtain ⟨w1a, hw1a⟩ : ∃ w1a, w1.alloc (.cells #[.int .i64 iW, .int .i64 iH, .slice A1 ql cc1] 32) = w1a := ⟨_, rfl⟩
    rw [hw1a] at ta xa hsa
    rw [hg8] at xa hsa
    have p1a := H.ob1.tch0 p1 ta
    have hB1a : B ≤ w1a.heap.size := by have := t1.size; have := HB0.out; have := ta.size; omega
    have c2 := C2.out M1 w1a p1a hB1a
    obtain ⟨d0', d1', d2', d3', d4', d5', d6', d7', d8', d9', df'⟩ := blk10 (ta.blk hb1 (by simp))
    have hg8n : g8 ∉ M1 := fun hm => by have := H.ob1.size p1 _ hm; omega
    have hI1a : ImgV w1a W0.heap.size (.agg #[.int .i64 iW, .int .i64 iH, .slice A1 ql cc1]) im := hI1r.tch ta NoPix.nil
    have hnp1 := H.ob1.noPix p1a
    have HT1 := Lib.hid t1
    have HN1 := Lib.hid n1
    have HTA := Lib.hid ta
    have HXA := Lib.hid xa
    have HIA := Lib.hid hI1a
    have HNP := Lib.hid hnp1
    clear t1 n1 ta xa hI1a hnp1 p1 p1a hI1r ho1 hb1 hn1
    go_wp2_with fail
    try rw [hw1a]
    try rw [hg8]
    clear hw1a hg8
    refine c2.mono ?_
    rintro e w2 ⟨⟨v2, rfl, hI2⟩, O2⟩
    clear c2
    obtain ⟨M2, p2, t2, n2⟩ := O2
    have hI2r := hI2
    obtain ⟨r2, rfl, ho2⟩ := hI2
    obtain ⟨A2, cc2, rfl, _⟩ := own_open ho2
    rw [hiW, hiH, hql] at hI2r
    rw [hiW, hiH, hql]
    have xb := t2.blk HXA.out hg8n
    have hIb := HIA.out.tch t2 HNP.out
    have tb : Tch [] w2 (w2.alloc (.cells #[.int .i64 iW, .int .i64 iH, .slice A2 ql cc2] 32)) := (Tch.refl _ _).alloc _
    have y0 := Blk.new w2 32 #[.int .i64 iW, .int .i64 iH, .slice A2 ql cc2]
    obtain ⟨g10, hg10⟩ : ∃ g, w2.heap.size = g := ⟨_, rfl⟩
    obtain ⟨w2a, hw2a⟩ : ∃ w2a, w2.alloc (.cells #[.int .i64 iW, .int .i64 iH, .slice A2 ql cc2] 32) = w2a := ⟨_, rfl⟩
    rw [hw2a] at tb y0
    rw [hg10] at y0
    obtain ⟨e0, e1, e2, ef⟩ := blk3 (tb.blk xb (by simp))
    obtain ⟨f0, f1, f2, ff⟩ := blk3 y0
    have hIc := (hIb.tch tb NoPix.nil).read
    have hId := (hI2r.tch tb NoPix.nil).read
    have hsm := same_img _ _ im w2a hIc hId hpx
    have HO2 : Hid (Out P2 M w w2a) := Lib.hid (by
      exact (Out.chain HT0.out (HT1.out.trans HTA.out (fun k hk => by simp at hk)) HN1.out t2 (fun k hk => (n2 k hk)) p2).tch0 H.ob2 tb)
    clear t2 n2 p2 hI2r ho2 xb hIb tb y0 hIc hId
    go_wp2_with fail
    try rw [hw2a]
    try rw [hg10]
    refine hsm.mono ?_
    rintro e w3 ⟨rfl, hb3⟩
    have HO := Lib.hid (HO2.out.later H.ob2 hb3)
    clear hsm hb3 hw2a hg10 e0 e1 e2 ef f0 f1 f2 ff
    have hO := HO.out
    obtain ⟨MZ, pz, tz, nz⟩ := hO
    have hBz := Nat.le_trans hB tz.size
    have HOB := Lib.hid (H.ob2)
    have hk1 := H.keys1 MZ _ pz hBz
    have PZ := Lib.hid pz
    obtain ⟨L, hL⟩ : ∃ L, keys (s.step x).l = L := ⟨_, rfl⟩
    obtain ⟨q, hq⟩ : ∃ q, (s.step x).l.length = q := ⟨_, rfl⟩
    obtain ⟨z, hz⟩ : ∃ z, (s.step x).e = z := ⟨_, rfl⟩
    have hqm := H.len
    have hk2 := fun (W : World) (hb : Below _ _ W) => H.keys2 MZ W (HOB.out.later PZ.out hb) (Nat.le_trans hBz hb.size)
    have he1 := fun (W : World) (hb : Below _ _ W) => H.ev1 MZ W (HOB.out.later PZ.out hb)
    have he2 := fun (W : World) (hb : Below _ _ W) => H.ev2 MZ W (HOB.out.later PZ.out hb)
    rw [hq] at hk1 hk2 hqm
    rw [hL] at hk1 hk2
    rw [hz] at he1 he2
    have HQL : Hid (q = L.length) := Lib.hid (by rw [← hL, keys_len, hq])
    have K2 := Lib.hid hk2
    have E1 := Lib.hid he1
    have E2 := Lib.hid he2
    clear hk2 he1 he2 hq hL hz pz tz nz
    go_wp2_with fail
    refine hk1.mono ?_
    rintro e w5 ⟨A5, c5, rfl, k5, b5⟩
    have k2 := K2.out w5 b5
    have KA := Lib.hid k5
    have B5 := Lib.hid b5
    clear k5 hk1 b5
    go_wp2_with fail
    refine k2.mono ?_
    rintro e w6 ⟨A6, c6, rfl, k6, b6⟩
    have k3 := same_yes A5 A6 q c5 c6 L w6 (KA.out.below b6) k6 HQL.out (by omega)
    have B6 := Lib.hid (B5.out.trans (b6.mono B5.out.size))
    clear k6 b6 k2
    go_wp2_with fail
    refine k3.mono ?_
    rintro e w7 ⟨rfl, b7⟩
    have B7 := Lib.hid (B6.out.trans (b7.mono B6.out.size))
    clear b7 k3
    have e1 := E1.out w7 B7.out
    have e2 := E2.out w7 B7.out
    go_wp2_with fail
    refine e1.mono ?_
    rintro e w8 ⟨rfl, rfl⟩
    go_wp2_with fail
    refine e2.mono ?_
    rintro e w8 ⟨rfl, rfl⟩
    go_wp2_with fail
    go_ret
    exact ⟨rfl, HO.out.later HOB.out B7.out⟩
  have k0 := hk
  by_cases hk : x.kind = 1
  · have hbx := HT0.out.to_below (B := w.heap.size) (Nat.le_refl _) (by simp)
    have c1 := H.put1 hk M W0 HP0.out.1 HB0.out (HI.out W0 hbx)
    have c2 := H.put2 hk
    unfold kagg at c1 c2
    have C2 := Lib.hid c2
    have q0' : (x.kind == 0) = false := by simpa using k0
    have q1 : (x.kind == 1) = true := by simpa using hk
    clear c2 hk k0 hbx
    go_enter Try.func11, Try.ntmps11
    go_wp2_with fail
    refine c1.mono ?_
    rintro e w1 ⟨rfl, O1⟩
    clear c1
    obtain ⟨M1, p1, t1, n1⟩ := O1
    obtain ⟨d0', d1', d2', d3', d4', d5', d6', d7', d8', d9', df'⟩ := blk10 (t1.blk HX0.out HM.out)
    have c2 := C2.out M1 w1 p1 (Nat.le_trans HB0.out t1.size) (HIL.out.below (((HT0.out.mono (M' := M) (fun k hk => by simp at hk)).trans t1 (fun k hk => .inl hk)).to_below hB HLO.out))
    have T1 := Lib.hid t1
    have N1 := Lib.hid n1
    clear t1 n1 p1
    go_wp2_with fail
    refine c2.mono ?_
    rintro e w2 ⟨rfl, O2⟩
    clear c2
    obtain ⟨M2, p2, t2, n2⟩ := O2
    have HO : Hid (Out P2 M w w2) := Lib.hid (Out.chain HT0.out T1.out N1.out t2 n2 p2)
    clear t2 n2 p2
    have hO := HO.out
    obtain ⟨MZ, pz, tz, nz⟩ := hO
    have hBz := Nat.le_trans hB tz.size
    have HOB := Lib.hid (H.ob2)
    have hk1 := H.keys1 MZ _ pz hBz
    have PZ := Lib.hid pz
    obtain ⟨L, hL⟩ : ∃ L, keys (s.step x).l = L := ⟨_, rfl⟩
    obtain ⟨q, hq⟩ : ∃ q, (s.step x).l.length = q := ⟨_, rfl⟩
    obtain ⟨z, hz⟩ : ∃ z, (s.step x).e = z := ⟨_, rfl⟩
    have hqm := H.len
    have hk2 := fun (W : World) (hb : Below _ _ W) => H.keys2 MZ W (HOB.out.later PZ.out hb) (Nat.le_trans hBz hb.size)
    have he1 := fun (W : World) (hb : Below _ _ W) => H.ev1 MZ W (HOB.out.later PZ.out hb)
    have he2 := fun (W : World) (hb : Below _ _ W) => H.ev2 MZ W (HOB.out.later PZ.out hb)
    rw [hq] at hk1 hk2 hqm
    rw [hL] at hk1 hk2
    rw [hz] at he1 he2
    have HQL : Hid (q = L.length) := Lib.hid (by rw [← hL, keys_len, hq])
    have K2 := Lib.hid hk2
    have E1 := Lib.hid he1
    have E2 := Lib.hid he2
    clear hk2 he1 he2 hq hL hz pz tz nz
    go_wp2_with fail
    refine hk1.mono ?_
    rintro e w5 ⟨A5, c5, rfl, k5, b5⟩
    have k2 := K2.out w5 b5
    have KA := Lib.hid k5
    have B5 := Lib.hid b5
    clear k5 hk1 b5
    go_wp2_with fail
    refine k2.mono ?_
    rintro e w6 ⟨A6, c6, rfl, k6, b6⟩
    have k3 := same_yes A5 A6 q c5 c6 L w6 (KA.out.below b6) k6 HQL.out (by omega)
    have B6 := Lib.hid (B5.out.trans (b6.mono B5.out.size))
    clear k6 b6 k2
    go_wp2_with fail
    refine k3.mono ?_
    rintro e w7 ⟨rfl, b7⟩
    have B7 := Lib.hid (B6.out.trans (b7.mono B6.out.size))
    clear b7 k3
    have e1 := E1.out w7 B7.out
    have e2 := E2.out w7 B7.out
    go_wp2_with fail
    refine e1.mono ?_
    rintro e w8 ⟨rfl, rfl⟩
    go_wp2_with fail
    refine e2.mono ?_
    rintro e w8 ⟨rfl, rfl⟩
    go_wp2_with fail
    go_ret
    exact ⟨rfl, HO.out.later HOB.out B7.out⟩
  have k1 := hk
  by_cases hk : x.kind = 2
  · have q0' : (x.kind == 0) = false := by simp [hk]
    have q1 : (x.kind == 1) = false := by simp [hk]
    have q2 : (x.kind == 2) = true := by simp [hk]
    clear k0 k1
    have hc1 := H.drop1 hk M W0.drew (HP0.out.2) HB0.out
    have hc2 := H.drop2 hk
    obtain ⟨zz, hzz⟩ : ∃ zz, ((s.l.length - (dropE s.l x.n).length : Nat) : Int) = zz := ⟨_, rfl⟩
    rw [hzz] at hc1 hc2
    clear hzz
    have HC1 := Lib.hid hc1
    have HC2 := Lib.hid hc2
    clear hc1 hc2 hk
    go_enter Try.func11, Try.ntmps11
    go_wp2_with fail
    refine wp_region_held_drew (S := fun W => Blk W w.heap.size 34 #[.int .i64 x.kind, .int .i64 x.n, .int .i64 x.k.1, .int .i64 x.k.2.1, .int .i64 x.k.2.2.1, .int .i64 x.k.2.2.2.1, .int .i64 x.k.2.2.2.2, .int .i64 x.i.W, .int .i64 x.i.H, .slice A q0 cc]) (by kernel_rfl) HX0.out.drew (fun hHeld => ?_)
    refine wpAnyH_take (i := 0) (oi := _) (v := vc) rfl (by kernel_rfl) (by kernel_rfl) (by kernel_rfl) (fun _ _ _ h => h) (Or.inl ⟨by rfl, fun W1 _ => by go_simp⟩) (by assumption) ?_
    go_simp
    refine wpAnyH_take (i := 1) (oi := _) (v := .pointer (some ⟨w.heap.size, 1, none⟩)) rfl (by kernel_rfl) (by kernel_rfl) (by kernel_rfl) (fun _ _ _ h => h) (Or.inl ⟨by rfl, fun W1 _ => by go_simp⟩) (by assumption) ?_
    go_simp
    refine wpAnyH_take (i := 2) (oi := _) (v := .int .i64 x.n) rfl (by kernel_rfl) (by kernel_rfl) (by kernel_rfl) (fun _ _ _ h => h) (Or.inl ⟨by rfl, fun W1 hS => by (have z := blk10 hS; obtain ⟨z0, z1, z2, z3, z4, z5, z6, z7, z8, z9, zf⟩ := z; go_simp)⟩) (by assumption) ?_
    go_simp
    refine wpAnyH_take (i := 4) (oi := _) (v := vr) rfl (by kernel_rfl) (by kernel_rfl) (by kernel_rfl) (fun _ _ _ h => h) (Or.inl ⟨by rfl, fun W1 _ => by go_simp⟩) (by assumption) ?_
    go_simp
    refine wpAnyH_take (i := 5) (oi := _) (v := .pointer (some ⟨w.heap.size, 1, none⟩)) rfl (by kernel_rfl) (by kernel_rfl) (by kernel_rfl) (fun _ _ _ h => h) (Or.inl ⟨by rfl, fun W1 _ => by go_simp⟩) (by assumption) ?_
    go_simp
    refine wpAnyH_take (i := 6) (oi := _) (v := .int .i64 x.n) rfl (by kernel_rfl) (by kernel_rfl) (by kernel_rfl) (fun _ _ _ h => h) (Or.inl ⟨by rfl, fun W1 hS => by (have z := blk10 hS; obtain ⟨z0, z1, z2, z3, z4, z5, z6, z7, z8, z9, zf⟩ := z; go_simp)⟩) (by assumption) ?_
    go_simp
    refine wpAnyH_ready (rs := [3]) (by kernel_rfl) (by simp) ?_
    refine AllReadyH.cons (o := _) rfl (fun K hK => ?_) AllReadyH.nil
    go_simp
    go_at_call 28
    refine HC1.out.mono ?_
    rintro e w1 ⟨rfl, O1⟩
    obtain ⟨M1, p1, t1, n1⟩ := O1
    have hb1 := t1.blk hHeld HM.out
    have hB1 := Nat.le_trans HB0.out t1.size
    have T1 := Lib.hid t1
    have P1 := Lib.hid p1
    have hn1 : w.heap.size ∉ M1 := fun hm => by
      rcases n1 _ hm with h | h
      · exact HM.out h
      · simp at h; omega
    have N1 := Lib.hid n1
    clear t1 p1 n1
    go_wp2_with fail
    refine hK.out _ _ hb1 (fun hHeld => ?_)
    clear hK hb1
    try simp only [Act.put, List.setIfInBounds_toArray, List.set_cons_zero, List.set_cons_succ]
    refine wpAnyH_ready (rs := [7]) (by kernel_rfl) (by simp) ?_
    refine AllReadyH.cons (o := _) rfl (fun K hK => ?_) AllReadyH.nil
    go_simp
    go_at_call 29
    refine (HC2.out M1 w1 P1.out hB1).mono ?_
    rintro e w2 ⟨rfl, O2⟩
    obtain ⟨M2, p2, t2, n2⟩ := O2
    have hb2 := t2.blk hHeld hn1
    have HO : Hid (Out P2 M w w2) := Lib.hid (Out.chain HT0.out.drew T1.out N1.out t2 n2 p2)
    clear t2 n2 p2
    go_wp2_with fail
    refine hK.out _ _ hb2 (fun hHeld => ?_)
    clear hK hb2
    try simp only [Act.put, List.setIfInBounds_toArray, List.set_cons_zero, List.set_cons_succ]
    refine wpAnyH_take (i := 8) (oi := _) (v := .bool true) rfl (by kernel_rfl) (by kernel_rfl) (by kernel_rfl) (fun _ _ _ h => h) (Or.inl ⟨by rfl, fun W1 _ => by go_simp⟩) (by assumption) ?_
    go_simp
    refine wpAnyH_take (i := 9) (oi := _) (v := .bool true) rfl (by kernel_rfl) (by kernel_rfl) (by kernel_rfl) (fun _ _ _ h => h) (Or.inl ⟨by rfl, fun W1 _ => by go_simp⟩) (by assumption) ?_
    go_simp
    refine wpAnyH_done (by kernel_rfl) ?_ _
    clear hHeld hn1 hB1
    have hO := HO.out
    obtain ⟨MZ, pz, tz, nz⟩ := hO
    have hBz := Nat.le_trans hB tz.size
    have HOB := Lib.hid (H.ob2)
    have hk1 := H.keys1 MZ _ pz hBz
    have PZ := Lib.hid pz
    obtain ⟨L, hL⟩ : ∃ L, keys (s.step x).l = L := ⟨_, rfl⟩
    obtain ⟨q, hq⟩ : ∃ q, (s.step x).l.length = q := ⟨_, rfl⟩
    obtain ⟨z, hz⟩ : ∃ z, (s.step x).e = z := ⟨_, rfl⟩
    have hqm := H.len
    have hk2 := fun (W : World) (hb : Below _ _ W) => H.keys2 MZ W (HOB.out.later PZ.out hb) (Nat.le_trans hBz hb.size)
    have he1 := fun (W : World) (hb : Below _ _ W) => H.ev1 MZ W (HOB.out.later PZ.out hb)
    have he2 := fun (W : World) (hb : Below _ _ W) => H.ev2 MZ W (HOB.out.later PZ.out hb)
    rw [hq] at hk1 hk2 hqm
    rw [hL] at hk1 hk2
    rw [hz] at he1 he2
    have HQL : Hid (q = L.length) := Lib.hid (by rw [← hL, keys_len, hq])
    have K2 := Lib.hid hk2
    have E1 := Lib.hid he1
    have E2 := Lib.hid he2
    clear hk2 he1 he2 hq hL hz pz tz nz
    go_wp2_with fail
    refine hk1.mono ?_
    rintro e w5 ⟨A5, c5, rfl, k5, b5⟩
    have k2 := K2.out w5 b5
    have KA := Lib.hid k5
    have B5 := Lib.hid b5
    clear k5 hk1 b5
    go_wp2_with fail
    refine k2.mono ?_
    rintro e w6 ⟨A6, c6, rfl, k6, b6⟩
    have k3 := same_yes A5 A6 q c5 c6 L w6 (KA.out.below b6) k6 HQL.out (by omega)
    have B6 := Lib.hid (B5.out.trans (b6.mono B5.out.size))
    clear k6 b6 k2
    go_wp2_with fail
    refine k3.mono ?_
    rintro e w7 ⟨rfl, b7⟩
    have B7 := Lib.hid (B6.out.trans (b7.mono B6.out.size))
    clear b7 k3
    have e1 := E1.out w7 B7.out
    have e2 := E2.out w7 B7.out
    go_wp2_with fail
    refine e1.mono ?_
    rintro e w8 ⟨rfl, rfl⟩
    go_wp2_with fail
    refine e2.mono ?_
    rintro e w8 ⟨rfl, rfl⟩
    go_wp2_with fail
    go_ret
    exact ⟨rfl, HO.out.later HOB.out B7.out⟩
  have k2 := hk
  by_cases hk : x.kind = 3
  · have q0' : (x.kind == 0) = false := by simp [hk]
    have q1 : (x.kind == 1) = false := by simp [hk]
    have q2 : (x.kind == 2) = false := by simp [hk]
    have q3 : (x.kind == 3) = true := by simp [hk]
    clear k0 k1 k2
    have hc1 := H.rem1 hk M W0.drew (HP0.out.2) HB0.out
    have hc2 := H.rem2 hk
    obtain ⟨zz, hzz⟩ : ∃ zz, (Cac.look s.l x.k).isSome = zz := ⟨_, rfl⟩
    rw [hzz] at hc1 hc2
    clear hzz
    unfold kagg at hc1 hc2
    have HC1 := Lib.hid hc1
    have HC2 := Lib.hid hc2
    clear hc1 hc2 hk
    go_enter Try.func11, Try.ntmps11
    go_wp2_with fail
    refine wp_region_held_drew (S := fun W => Blk W w.heap.size 34 #[.int .i64 x.kind, .int .i64 x.n, .int .i64 x.k.1, .int .i64 x.k.2.1, .int .i64 x.k.2.2.1, .int .i64 x.k.2.2.2.1, .int .i64 x.k.2.2.2.2, .int .i64 x.i.W, .int .i64 x.i.H, .slice A q0 cc]) (by kernel_rfl) HX0.out.drew (fun hHeld => ?_)
    refine wpAnyH_take (i := 0) (oi := _) (v := vc) rfl (by kernel_rfl) (by kernel_rfl) (by kernel_rfl) (fun _ _ _ h => h) (Or.inl ⟨by rfl, fun W1 _ => by go_simp⟩) (by assumption) ?_
    go_simp
    refine wpAnyH_take (i := 1) (oi := _) (v := .pointer (some ⟨w.heap.size, 2, none⟩)) rfl (by kernel_rfl) (by kernel_rfl) (by kernel_rfl) (fun _ _ _ h => h) (Or.inl ⟨by rfl, fun W1 _ => by go_simp⟩) (by assumption) ?_
    go_simp
    refine wpAnyH_take (i := 2) (oi := _) (v := .agg #[.int .i64 x.k.1, .int .i64 x.k.2.1, .int .i64 x.k.2.2.1, .int .i64 x.k.2.2.2.1, .int .i64 x.k.2.2.2.2]) rfl (by kernel_rfl) (by kernel_rfl) (by kernel_rfl) (fun _ _ _ h => h) (Or.inl ⟨by rfl, fun W1 hS => by (have z := blk10 hS; obtain ⟨z0, z1, z2, z3, z4, z5, z6, z7, z8, z9, zf⟩ := z; go_simp)⟩) (by assumption) ?_
    go_simp
    refine wpAnyH_take (i := 4) (oi := _) (v := vr) rfl (by kernel_rfl) (by kernel_rfl) (by kernel_rfl) (fun _ _ _ h => h) (Or.inl ⟨by rfl, fun W1 _ => by go_simp⟩) (by assumption) ?_
    go_simp
    refine wpAnyH_take (i := 5) (oi := _) (v := .pointer (some ⟨w.heap.size, 2, none⟩)) rfl (by kernel_rfl) (by kernel_rfl) (by kernel_rfl) (fun _ _ _ h => h) (Or.inl ⟨by rfl, fun W1 _ => by go_simp⟩) (by assumption) ?_
    go_simp
    refine wpAnyH_take (i := 6) (oi := _) (v := .agg #[.int .i64 x.k.1, .int .i64 x.k.2.1, .int .i64 x.k.2.2.1, .int .i64 x.k.2.2.2.1, .int .i64 x.k.2.2.2.2]) rfl (by kernel_rfl) (by kernel_rfl) (by kernel_rfl) (fun _ _ _ h => h) (Or.inl ⟨by rfl, fun W1 hS => by (have z := blk10 hS; obtain ⟨z0, z1, z2, z3, z4, z5, z6, z7, z8, z9, zf⟩ := z; go_simp)⟩) (by assumption) ?_
    go_simp
    refine wpAnyH_ready (rs := [3]) (by kernel_rfl) (by simp) ?_
    refine AllReadyH.cons (o := _) rfl (fun K hK => ?_) AllReadyH.nil
    go_simp
    go_at_call 30
    refine HC1.out.mono ?_
    rintro e w1 ⟨rfl, O1⟩
    obtain ⟨M1, p1, t1, n1⟩ := O1
    have hb1 := t1.blk hHeld HM.out
    have hB1 := Nat.le_trans HB0.out t1.size
    have T1 := Lib.hid t1
    have P1 := Lib.hid p1
    have hn1 : w.heap.size ∉ M1 := fun hm => by
      rcases n1 _ hm with h | h
      · exact HM.out h
      · simp at h; omega
    have N1 := Lib.hid n1
    clear t1 p1 n1
    go_wp2_with fail
    refine hK.out _ _ hb1 (fun hHeld => ?_)
    clear hK hb1
    try simp only [Act.put, List.setIfInBounds_toArray, List.set_cons_zero, List.set_cons_succ]
    refine wpAnyH_ready (rs := [7]) (by kernel_rfl) (by simp) ?_
    refine AllReadyH.cons (o := _) rfl (fun K hK => ?_) AllReadyH.nil
    go_simp
    go_at_call 31
    refine (HC2.out M1 w1 P1.out hB1).mono ?_
    rintro e w2 ⟨rfl, O2⟩
    obtain ⟨M2, p2, t2, n2⟩ := O2
    have hb2 := t2.blk hHeld hn1
    have HO : Hid (Out P2 M w w2) := Lib.hid (Out.chain HT0.out.drew T1.out N1.out t2 n2 p2)
    clear t2 n2 p2
    go_wp2_with fail
    refine hK.out _ _ hb2 (fun hHeld => ?_)
    clear hK hb2
    try simp only [Act.put, List.setIfInBounds_toArray, List.set_cons_zero, List.set_cons_succ]
    refine wpAnyH_take (i := 8) (oi := _) (v := .bool true) rfl (by kernel_rfl) (by kernel_rfl) (by kernel_rfl) (fun _ _ _ h => h) (Or.inl ⟨by rfl, fun W1 _ => by go_simp⟩) (by assumption) ?_
    go_simp
    refine wpAnyH_take (i := 9) (oi := _) (v := .bool true) rfl (by kernel_rfl) (by kernel_rfl) (by kernel_rfl) (fun _ _ _ h => h) (Or.inl ⟨by rfl, fun W1 _ => by go_simp⟩) (by assumption) ?_
    go_simp
    refine wpAnyH_done (by kernel_rfl) ?_ _
    clear hHeld hn1 hB1
    have hO := HO.out
    obtain ⟨MZ, pz, tz, nz⟩ := hO
    have hBz := Nat.le_trans hB tz.size
    have HOB := Lib.hid (H.ob2)
    have hk1 := H.keys1 MZ _ pz hBz
    have PZ := Lib.hid pz
    obtain ⟨L, hL⟩ : ∃ L, keys (s.step x).l = L := ⟨_, rfl⟩
    obtain ⟨q, hq⟩ : ∃ q, (s.step x).l.length = q := ⟨_, rfl⟩
    obtain ⟨z, hz⟩ : ∃ z, (s.step x).e = z := ⟨_, rfl⟩
    have hqm := H.len
    have hk2 := fun (W : World) (hb : Below _ _ W) => H.keys2 MZ W (HOB.out.later PZ.out hb) (Nat.le_trans hBz hb.size)
    have he1 := fun (W : World) (hb : Below _ _ W) => H.ev1 MZ W (HOB.out.later PZ.out hb)
    have he2 := fun (W : World) (hb : Below _ _ W) => H.ev2 MZ W (HOB.out.later PZ.out hb)
    rw [hq] at hk1 hk2 hqm
    rw [hL] at hk1 hk2
    rw [hz] at he1 he2
    have HQL : Hid (q = L.length) := Lib.hid (by rw [← hL, keys_len, hq])
    have K2 := Lib.hid hk2
    have E1 := Lib.hid he1
    have E2 := Lib.hid he2
    clear hk2 he1 he2 hq hL hz pz tz nz
    go_wp2_with fail
    refine hk1.mono ?_
    rintro e w5 ⟨A5, c5, rfl, k5, b5⟩
    have k2 := K2.out w5 b5
    have KA := Lib.hid k5
    have B5 := Lib.hid b5
    clear k5 hk1 b5
    go_wp2_with fail
    refine k2.mono ?_
    rintro e w6 ⟨A6, c6, rfl, k6, b6⟩
    have k3 := same_yes A5 A6 q c5 c6 L w6 (KA.out.below b6) k6 HQL.out (by omega)
    have B6 := Lib.hid (B5.out.trans (b6.mono B5.out.size))
    clear k6 b6 k2
    go_wp2_with fail
    refine k3.mono ?_
    rintro e w7 ⟨rfl, b7⟩
    have B7 := Lib.hid (B6.out.trans (b7.mono B6.out.size))
    clear b7 k3
    have e1 := E1.out w7 B7.out
    have e2 := E2.out w7 B7.out
    go_wp2_with fail
    refine e1.mono ?_
    rintro e w8 ⟨rfl, rfl⟩
    go_wp2_with fail
    refine e2.mono ?_
    rintro e w8 ⟨rfl, rfl⟩
    go_wp2_with fail
    go_ret
    exact ⟨rfl, HO.out.later HOB.out B7.out⟩
  have k3 := hk
  by_cases hk : x.kind = 4
  · have q0' : (x.kind == 0) = false := by simp [hk]
    have q1 : (x.kind == 1) = false := by simp [hk]
    have q2 : (x.kind == 2) = false := by simp [hk]
    have q3 : (x.kind == 3) = false := by simp [hk]
    have q4 : (x.kind == 4) = true := by simp [hk]
    clear k0 k1 k2 k3
    have hc1 := H.res1 hk M W0.drew (HP0.out.2) HB0.out
    have hc2 := H.res2 hk
    obtain ⟨zz, hzz⟩ : ∃ zz, (({ s with b := clampN x.n } : St).over : Int) = zz := ⟨_, rfl⟩
    rw [hzz] at hc1 hc2
    clear hzz
    have HC1 := Lib.hid hc1
    have HC2 := Lib.hid hc2
    clear hc1 hc2 hk
    go_enter Try.func11, Try.ntmps11
    go_wp2_with fail
    refine wp_region_held_drew (S := fun W => Blk W w.heap.size 34 #[.int .i64 x.kind, .int .i64 x.n, .int .i64 x.k.1, .int .i64 x.k.2.1, .int .i64 x.k.2.2.1, .int .i64 x.k.2.2.2.1, .int .i64 x.k.2.2.2.2, .int .i64 x.i.W, .int .i64 x.i.H, .slice A q0 cc]) (by kernel_rfl) HX0.out.drew (fun hHeld => ?_)
    refine wpAnyH_take (i := 0) (oi := _) (v := vc) rfl (by kernel_rfl) (by kernel_rfl) (by kernel_rfl) (fun _ _ _ h => h) (Or.inl ⟨by rfl, fun W1 _ => by go_simp⟩) (by assumption) ?_
    go_simp
    refine wpAnyH_take (i := 1) (oi := _) (v := .pointer (some ⟨w.heap.size, 1, none⟩)) rfl (by kernel_rfl) (by kernel_rfl) (by kernel_rfl) (fun _ _ _ h => h) (Or.inl ⟨by rfl, fun W1 _ => by go_simp⟩) (by assumption) ?_
    go_simp
    refine wpAnyH_take (i := 2) (oi := _) (v := .int .i64 x.n) rfl (by kernel_rfl) (by kernel_rfl) (by kernel_rfl) (fun _ _ _ h => h) (Or.inl ⟨by rfl, fun W1 hS => by (have z := blk10 hS; obtain ⟨z0, z1, z2, z3, z4, z5, z6, z7, z8, z9, zf⟩ := z; go_simp)⟩) (by assumption) ?_
    go_simp
    refine wpAnyH_take (i := 4) (oi := _) (v := vr) rfl (by kernel_rfl) (by kernel_rfl) (by kernel_rfl) (fun _ _ _ h => h) (Or.inl ⟨by rfl, fun W1 _ => by go_simp⟩) (by assumption) ?_
    go_simp
    refine wpAnyH_take (i := 5) (oi := _) (v := .pointer (some ⟨w.heap.size, 1, none⟩)) rfl (by kernel_rfl) (by kernel_rfl) (by kernel_rfl) (fun _ _ _ h => h) (Or.inl ⟨by rfl, fun W1 _ => by go_simp⟩) (by assumption) ?_
    go_simp
    refine wpAnyH_take (i := 6) (oi := _) (v := .int .i64 x.n) rfl (by kernel_rfl) (by kernel_rfl) (by kernel_rfl) (fun _ _ _ h => h) (Or.inl ⟨by rfl, fun W1 hS => by (have z := blk10 hS; obtain ⟨z0, z1, z2, z3, z4, z5, z6, z7, z8, z9, zf⟩ := z; go_simp)⟩) (by assumption) ?_
    go_simp
    refine wpAnyH_ready (rs := [3]) (by kernel_rfl) (by simp) ?_
    refine AllReadyH.cons (o := _) rfl (fun K hK => ?_) AllReadyH.nil
    go_simp
    go_at_call 32
    refine HC1.out.mono ?_
    rintro e w1 ⟨rfl, O1⟩
    obtain ⟨M1, p1, t1, n1⟩ := O1
    have hb1 := t1.blk hHeld HM.out
    have hB1 := Nat.le_trans HB0.out t1.size
    have T1 := Lib.hid t1
    have P1 := Lib.hid p1
    have hn1 : w.heap.size ∉ M1 := fun hm => by
      rcases n1 _ hm with h | h
      · exact HM.out h
      · simp at h; omega
    have N1 := Lib.hid n1
    clear t1 p1 n1
    go_wp2_with fail
    refine hK.out _ _ hb1 (fun hHeld => ?_)
    clear hK hb1
    try simp only [Act.put, List.setIfInBounds_toArray, List.set_cons_zero, List.set_cons_succ]
    refine wpAnyH_ready (rs := [7]) (by kernel_rfl) (by simp) ?_
    refine AllReadyH.cons (o := _) rfl (fun K hK => ?_) AllReadyH.nil
    go_simp
    go_at_call 33
    refine (HC2.out M1 w1 P1.out hB1).mono ?_
    rintro e w2 ⟨rfl, O2⟩
    obtain ⟨M2, p2, t2, n2⟩ := O2
    have hb2 := t2.blk hHeld hn1
    have HO : Hid (Out P2 M w w2) := Lib.hid (Out.chain HT0.out.drew T1.out N1.out t2 n2 p2)
    clear t2 n2 p2
    go_wp2_with fail
    refine hK.out _ _ hb2 (fun hHeld => ?_)
    clear hK hb2
    try simp only [Act.put, List.setIfInBounds_toArray, List.set_cons_zero, List.set_cons_succ]
    refine wpAnyH_take (i := 8) (oi := _) (v := .bool true) rfl (by kernel_rfl) (by kernel_rfl) (by kernel_rfl) (fun _ _ _ h => h) (Or.inl ⟨by rfl, fun W1 _ => by go_simp⟩) (by assumption) ?_
    go_simp
    refine wpAnyH_take (i := 9) (oi := _) (v := .bool true) rfl (by kernel_rfl) (by kernel_rfl) (by kernel_rfl) (fun _ _ _ h => h) (Or.inl ⟨by rfl, fun W1 _ => by go_simp⟩) (by assumption) ?_
    go_simp
    refine wpAnyH_done (by kernel_rfl) ?_ _
    clear hHeld hn1 hB1
    have hO := HO.out
    obtain ⟨MZ, pz, tz, nz⟩ := hO
    have hBz := Nat.le_trans hB tz.size
    have HOB := Lib.hid (H.ob2)
    have hk1 := H.keys1 MZ _ pz hBz
    have PZ := Lib.hid pz
    obtain ⟨L, hL⟩ : ∃ L, keys (s.step x).l = L := ⟨_, rfl⟩
    obtain ⟨q, hq⟩ : ∃ q, (s.step x).l.length = q := ⟨_, rfl⟩
    obtain ⟨z, hz⟩ : ∃ z, (s.step x).e = z := ⟨_, rfl⟩
    have hqm := H.len
    have hk2 := fun (W : World) (hb : Below _ _ W) => H.keys2 MZ W (HOB.out.later PZ.out hb) (Nat.le_trans hBz hb.size)
    have he1 := fun (W : World) (hb : Below _ _ W) => H.ev1 MZ W (HOB.out.later PZ.out hb)
    have he2 := fun (W : World) (hb : Below _ _ W) => H.ev2 MZ W (HOB.out.later PZ.out hb)
    rw [hq] at hk1 hk2 hqm
    rw [hL] at hk1 hk2
    rw [hz] at he1 he2
    have HQL : Hid (q = L.length) := Lib.hid (by rw [← hL, keys_len, hq])
    have K2 := Lib.hid hk2
    have E1 := Lib.hid he1
    have E2 := Lib.hid he2
    clear hk2 he1 he2 hq hL hz pz tz nz
    go_wp2_with fail
    refine hk1.mono ?_
    rintro e w5 ⟨A5, c5, rfl, k5, b5⟩
    have k2 := K2.out w5 b5
    have KA := Lib.hid k5
    have B5 := Lib.hid b5
    clear k5 hk1 b5
    go_wp2_with fail
    refine k2.mono ?_
    rintro e w6 ⟨A6, c6, rfl, k6, b6⟩
    have k3 := same_yes A5 A6 q c5 c6 L w6 (KA.out.below b6) k6 HQL.out (by omega)
    have B6 := Lib.hid (B5.out.trans (b6.mono B5.out.size))
    clear k6 b6 k2
    go_wp2_with fail
    refine k3.mono ?_
    rintro e w7 ⟨rfl, b7⟩
    have B7 := Lib.hid (B6.out.trans (b7.mono B6.out.size))
    clear b7 k3
    have e1 := E1.out w7 B7.out
    have e2 := E2.out w7 B7.out
    go_wp2_with fail
    refine e1.mono ?_
    rintro e w8 ⟨rfl, rfl⟩
    go_wp2_with fail
    refine e2.mono ?_
    rintro e w8 ⟨rfl, rfl⟩
    go_wp2_with fail
    go_ret
    exact ⟨rfl, HO.out.later HOB.out B7.out⟩
  · have q0' : (x.kind == 0) = false := by simpa using k0
    have q1 : (x.kind == 1) = false := by simpa using k1
    have q2 : (x.kind == 2) = false := by simpa using k2
    have q3 : (x.kind == 3) = false := by simpa using k3
    have q4 : (x.kind == 4) = false := by simpa using hk
    have HO : Hid (Out P2 M w W0) := Lib.hid ⟨M, H.oth k0 k1 k2 k3 hk M W0 HP0.out.1, HT0.out.mono (fun k hk => by simp at hk), fun k hk => .inl hk⟩
    clear k0 k1 k2 k3 hk
    go_enter Try.func11, Try.ntmps11
    have hO := HO.out
    obtain ⟨MZ, pz, tz, nz⟩ := hO
    have hBz := Nat.le_trans hB tz.size
    have HOB := Lib.hid (H.ob2)
    have hk1 := H.keys1 MZ _ pz hBz
    have PZ := Lib.hid pz
    obtain ⟨L, hL⟩ : ∃ L, keys (s.step x).l = L := ⟨_, rfl⟩
    obtain ⟨q, hq⟩ : ∃ q, (s.step x).l.length = q := ⟨_, rfl⟩
    obtain ⟨z, hz⟩ : ∃ z, (s.step x).e = z := ⟨_, rfl⟩
    have hqm := H.len
    have hk2 := fun (W : World) (hb : Below _ _ W) => H.keys2 MZ W (HOB.out.later PZ.out hb) (Nat.le_trans hBz hb.size)
    have he1 := fun (W : World) (hb : Below _ _ W) => H.ev1 MZ W (HOB.out.later PZ.out hb)
    have he2 := fun (W : World) (hb : Below _ _ W) => H.ev2 MZ W (HOB.out.later PZ.out hb)
    rw [hq] at hk1 hk2 hqm
    rw [hL] at hk1 hk2
    rw [hz] at he1 he2
    have HQL : Hid (q = L.length) := Lib.hid (by rw [← hL, keys_len, hq])
    have K2 := Lib.hid hk2
    have E1 := Lib.hid he1
    have E2 := Lib.hid he2
    clear hk2 he1 he2 hq hL hz pz tz nz
    go_wp2_with fail
    refine hk1.mono ?_
    rintro e w5 ⟨A5, c5, rfl, k5, b5⟩
    have k2 := K2.out w5 b5
    have KA := Lib.hid k5
    have B5 := Lib.hid b5
    clear k5 hk1 b5
    go_wp2_with fail
    refine k2.mono ?_
    rintro e w6 ⟨A6, c6, rfl, k6, b6⟩
    have k3 := same_yes A5 A6 q c5 c6 L w6 (KA.out.below b6) k6 HQL.out (by omega)
    have B6 := Lib.hid (B5.out.trans (b6.mono B5.out.size))
    clear k6 b6 k2
    go_wp2_with fail
    refine k3.mono ?_
    rintro e w7 ⟨rfl, b7⟩
    have B7 := Lib.hid (B6.out.trans (b7.mono B6.out.size))
    clear b7 k3
    have e1 := E1.out w7 B7.out
    have e2 := E2.out w7 B7.out
    go_wp2_with fail
    refine e1.mono ?_
    rintro e w8 ⟨rfl, rfl⟩
    go_wp2_with fail
    refine e2.mono ?_
    rintro e w8 ⟨rfl, rfl⟩
    go_wp2_with fail
    go_ret
    exact ⟨rfl, HO.out.later HOB.out B7.out⟩

end Go.Proofs.Ytkdokipgakncjaa.Cac
