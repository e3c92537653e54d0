/-
  JournalCuts: of a journal whose end is missing the complete records are read (within the statement's bound).
-/
import Derived.Test.YtelacdaehmfcaaaJouCu
namespace Go.Proofs.Ytelacdaehmfcaaa.JournalCuts
open Go.RowKit Go.Proofs.Ytelacdaehmfcaaa Go.Proofs.Ytelacdaehmfcaaa.WirePure Go.Proofs.Ytelacdaehmfcaaa.DigPure Go.Proofs.Ytelacdaehmfcaaa.JouPure Go.Proofs.Ytelacdaehmfcaaa.JouC Go.Proofs.Ytelacdaehmfcaaa.JouL

/-- What the rest of the law reads. -/
structure CS (B g : Nat) (w : World) (A A1 A2 A3 : Option Addr) (n c k3 : Nat) (rs l3 : List (Nat × List UInt8)) (W : World) : Prop where
  box : Blk W B 38 #[.int .i64 (g : Nat), .slice A n c]
  ends : Reads W W.heap.size 1 A1 (n + 1) (ens g rs)
  recs : Reads W W.heap.size 3 A2 n (rcs 1 rs)
  read : Reads W W.heap.size 3 A3 k3 (rcs 1 l3)
  below : Below B w W
  low : B ≤ W.heap.size
theorem CS.more {B g : Nat} {w W W' : World} {A A1 A2 A3 : Option Addr} {n c k3 : Nat} {rs l3 : List (Nat × List UInt8)} (h : CS B g w A A1 A2 A3 n c k3 rs l3 W) (hb : Below W.heap.size W W') : CS B g w A A1 A2 A3 n c k3 rs l3 W' :=
  ⟨h.box.below hb h.box.lt, (h.ends.below hb).more hb.size, (h.recs.below hb).more hb.size, (h.read.below hb).more hb.size, h.below.trans (hb.mono h.low), Nat.le_trans h.low hb.size⟩
theorem CS.at_ {B g : Nat} {w W : World} {A A1 A2 A3 : Option Addr} {n c k3 : Nat} {rs l3 : List (Nat × List UInt8)} (h : CS B g w A A1 A2 A3 n c k3 rs l3 W) {g1 : Nat} (ha : A1 = some ⟨g1, 0, none⟩) (hn : rs.length = n) (k : Nat) (hk : k ≤ n) : W.cell? ⟨g1, k, none⟩ = some (.int .i64 ((jou g (rs.take k)).length : Nat)) := by
  obtain ⟨ad, hA, hb, hc⟩ := h.ends.2 (by omega)
  rw [ha] at hA
  obtain rfl : ⟨g1, 0, none⟩ = ad := by injection hA
  have := hc k _ (ens_at g rs k (by omega))
  rw [Addr.add_mid, Nat.zero_add] at this
  exact this
theorem add_zero_ (a : Addr) : a.add 0 = a := by
  cases a; simp [Addr.add]
theorem CS.fst {B g : Nat} {w W : World} {A A1 A2 A3 : Option Addr} {n c k3 : Nat} {rs l3 : List (Nat × List UInt8)} (h : CS B g w A A1 A2 A3 n c k3 rs l3 W) : W.cell? ⟨B, 0, none⟩ = some (.int .i64 (g : Nat)) := h.box.cell 0

set_option maxHeartbeats 8000000 in
set_option maxRecDepth 100000 in
theorem walk (g : Int) (A : Option Addr) (n c : Nat) (f : Nat → Int × Int × ByteArray) (cn : Nat) (hcn : cn ≤ 18446744073709551615) (w : World) (hR : RDs w w.heap.size A n f) (hin : inOk n f) (hc : n ≤ c) : Calls Try.prog 7 #[.agg #[.int .i64 g, .slice A n c], .int .u64 cn] w fun e w' => e = .returned (.bool true) ∧ Below w.heap.size w w' := by
  obtain ⟨B, hB⟩ : ∃ B, w.heap.size = B := ⟨_, rfl⟩
  obtain ⟨w0, hw0⟩ : ∃ W, w.alloc (.cells #[.int .i64 g, .slice A n c] 38) = W := ⟨_, rfl⟩
  have T0 : Blk w0 B 38 #[.int .i64 g, .slice A n c] := by rw [← hB, ← hw0]; exact Blk.new _ _ _
  have c0 : Below B w w0 := by rw [← hB, ← hw0]; exact (Below.refl _ _).alloc (Nat.le_refl _) _
  have hB0 : B ≤ w0.heap.size := by rw [← hB]; exact c0.size
  have hR0 : RDs w0 w0.heap.size A n f := RDs.more (RDs.below hR (by rw [hB]; exact c0)) (by rw [hB]; exact hB0)
  have hw := write_any g A n c f w0 hR0 hin hc
  have hn20 : n ≤ 1048576 := hin.1
  rw [hB]
  clear hR hR0 hin
  have d0 := T0.cell 0
  have d1 := T0.cell 1
  simp only [List.getElem?_toArray, List.getElem?_cons_zero, List.getElem?_cons_succ] at d0 d1
  go_enter Try.func7, Try.ntmps7
  go_wp2_with fail
  refine hw.mono ?_
  clear hw hw0 d0 d1
  intro e w1 hwp
  rcases hwp with ⟨rfl, b1⟩ | ⟨gn, rs, vE, vL, rfl, hg1, hg2, hok, hn, rfl, oE, oL, b1⟩
  · have c1 := c0.trans (b1.mono hB0)
    go_wp2_with fail
    refine (example_any _).mono ?_
    rintro e w2 ⟨rfl, b2⟩
    go_wp2_with fail
    go_ret
    exact ⟨rfl, c1.trans (b2.mono (by have := b1.size; omega))⟩
  · have cc1 := c0.trans (b1.mono hB0)
    have T1 := T0.below b1 T0.lt
    obtain ⟨A1, ca1, rfl⟩ := own_form oE
    obtain ⟨A2, ca2, rfl⟩ := own_form oL
    have hsc := scan_returns gn rs hg1 hg2 hok (by omega)
    have hjs := jou_size gn (by omega) rs hok
    obtain ⟨u, hu⟩ : ∃ u : ByteArray, (⟨(jou gn rs).toArray⟩ : ByteArray) = u := ⟨_, rfl⟩
    have hud : u.data.toList = jou gn rs := by rw [← hu]
    have hus : (jou gn rs).length = u.size := by rw [← hu, mk_size]
    rw [hus] at hjs hsc
    have hul : u.size ≤ 1099587125248 := by
      refine Nat.le_trans hjs ?_
      refine Nat.le_trans (Nat.mul_le_mul_left 1048600 (by omega : rs.length + 1 ≤ 1048577)) ?_
      decide
    obtain ⟨g1, rfl⟩ : ∃ g, A1 = some ⟨g, 0, none⟩ := by
      rcases oE.2 with ⟨h, h0⟩ | ⟨g', _, _, h, _⟩
      · omega
      · exact ⟨g', by injection h⟩
    have hcap : n ≤ ca2 := by
      rcases oL.2 with ⟨h, h0⟩ | ⟨g', cap, _, h, _, _, hc, _⟩
      · injection h; omega
      · obtain rfl : ca2 = cap := by injection h
        omega
    rw [hn] at oE oL ⊢
    rw [hu]
    obtain ⟨m, hm⟩ : ∃ m, cn % (u.size + 1) = m := ⟨_, rfl⟩
    have hml : m ≤ u.size := by have := Nat.mod_lt cn (by omega : 0 < u.size + 1); omega
    have HN := Lib.hid hn
    have HM := Lib.hid hm
    have HU := Lib.hid hus
    have HUD := Lib.hid hud
    obtain ⟨N, hN⟩ : ∃ N, n + 1 = N := ⟨_, rfl⟩
    obtain ⟨L1, hL1⟩ : ∃ N, u.size + 1 = N := ⟨_, rfl⟩
    rw [hL1] at hm HM
    have HNN := Lib.hid hN
    rw [hN] at oE ⊢
    have r1 : (cn : Int) % (L1 : Int) = (m : Int) := by rw [← hm, Int.natCast_emod]
    have r2 : (u.size : Int) + 1 = (L1 : Int) := by rw [← hL1]; rfl
    have r3 : L1 ≤ 1099587125249 := by omega
    have i1 : ¬ (N : Int) = 0 := by omega
    have i2 : ¬ (L1 : Int) = 0 := by omega
    have hte : (u.extract 0 m).data.toList = (jou gn rs).take m := by rw [ext_take, hud]
    have hxs : (u.extract 0 m).size ≤ 4398046511104 := Nat.le_trans (ext_size u m) (Nat.le_trans hul (by decide))
    have hx := fun W => Jou.scan_any (u.extract 0 m) W hxs
    by_cases hA : m < (jou gn (rs.take 0)).length
    · obtain ⟨e, he, hs⟩ := cut_head gn m rs hg2 hA
      rw [← hte] at hs
      have HSJ := Lib.hid hs
      have te : (e != 0) = true := by simpa using he
      obtain ⟨E0, hE0⟩ : ∃ E, (jou gn (rs.take 0)).length = E := ⟨_, rfl⟩
      have HE := Lib.hid hE0
      rw [hE0] at hA
      have i3 : (m : Int) < (E0 : Int) := by omega
      clear hu hus hud hsc hjs hn hm hN hL1 hte hs he hE0
      go_wp2_with fail
      refine (hx _).mono ?_
      intro e w2 hsp
      obtain ⟨A3, ca3, rfl, o3, b2⟩ := SP_of HSJ.out hsp
      have C2 : CS B gn w A (some ⟨g1, 0, none⟩) A2 A3 n c 0 rs [] w2 := by
        rw [← HNN.out] at oE
        exact ⟨T1.below b2 T1.lt, Reads.of_own (oE.kept (grown_below b2) (Classical.em _)), Reads.of_own (oL.kept (grown_below b2) (Classical.em _)), Reads.of_own o3, cc1.trans (b2.mono (by have := b1.size; omega)), by have := b1.size; have := b2.size; omega⟩
      have d0 := C2.at_ rfl HN.out 0 (Nat.zero_le _)
      rw [HE.out] at d0
      clear oE oL o3 b2 hsp
      go_wp2_with fail
      refine (example_any _).mono ?_
      rintro e w3 ⟨rfl, b3⟩
      go_wp2_with fail
      go_ret
      exact ⟨rfl, (C2.more b3).below⟩
    · obtain ⟨K, hK, hKa, hKb⟩ := cut_find gn m rs (by omega)
      obtain ⟨e, hs, he⟩ := cut_at gn m K rs hg1 hg2 hok (by omega) hK hKa hKb (by omega)
      rw [← hte] at hs
      have HSJ := Lib.hid hs
      have hlk : (rs.take K).length = K := by rw [List.length_take]; omega
      have HLK := Lib.hid hlk
      have hm1 : (jou gn (rs.take 0)).length ≤ m := Nat.le_trans (en_mono gn 0 K rs (Nat.zero_le _) hK) hKa
      have hwe : (u.extract 0 (jou gn (rs.take K)).length).data.toList = jou gn (rs.take K) := by rw [ext_take, hud, cut_whole gn K rs hK]
      have hws := scan_returns gn (rs.take K) hg1 hg2 (okL_take K rs hok) (by omega)
      rw [← hwe] at hws
      have hwh := fun W => Jou.whole_any (u.extract 0 (jou gn (rs.take K)).length) W (Nat.le_trans (ext_size u _) (Nat.le_trans hul (by decide)))
      rw [hws] at hwh
      simp only at hwh
      have MONO := Lib.hid (fun k (h : k < K) => Nat.le_trans (en_mono gn (k + 1) K rs h hK) hKa)
      have KB := Lib.hid hKb
      have hKu : (jou gn (rs.take K)).length ≤ u.size := by rw [← hus]; exact en_le gn K rs hK
      obtain ⟨E0, hE0⟩ : ∃ E, (jou gn (rs.take 0)).length = E := ⟨_, rfl⟩
      obtain ⟨EK, hEK⟩ : ∃ E, (jou gn (rs.take K)).length = E := ⟨_, rfl⟩
      have HE := Lib.hid hE0
      have HEK := Lib.hid hEK
      have EN : K = n → EK = u.size := fun h => by rw [← hEK, h, ← hn, List.take_length, hus]
      have HEN := Lib.hid EN
      rw [hE0] at hm1
      rw [hEK] at hKa hwh he hKu
      have HEE := Lib.hid he
      rw [hn] at hK
      have hKN : K < N := by omega
      have i3 : ¬ (m : Int) < (E0 : Int) := by omega
      clear hu hus hud hsc hjs hn hm hN hL1 hte hs he hE0 hEK EN hA hm1 hKb hlk hwe hws
      go_wp2_with fail
      refine (hx _).mono ?_
      intro e w2 hsp
      obtain ⟨A3, ca3, rfl, o3, b2⟩ := SP_of HSJ.out hsp
      rw [HLK.out] at o3
      rw [HLK.out]
      rw [HEK.out]
      have C2 : CS B gn w A (some ⟨g1, 0, none⟩) A2 A3 n c K rs (rs.take K) w2 := by
        rw [← HNN.out] at oE
        exact ⟨T1.below b2 T1.lt, Reads.of_own (oE.kept (grown_below b2) (Classical.em _)), Reads.of_own (oL.kept (grown_below b2) (Classical.em _)), Reads.of_own o3, cc1.trans (b2.mono (by have := b1.size; omega)), by have := b1.size; have := b2.size; omega⟩
      have d0 := C2.at_ rfl HN.out 0 (Nat.zero_le _)
      rw [HE.out] at d0
      have HC2 := Lib.hid C2
      clear oE oL o3 b2 hsp hx T1 C2 cc1
      go_wp2_with fail
      clear d0
      go_loopw [13] (fun v13 wr => ∃ k : Nat, v13 = .int .i64 (k : Nat) ∧ k ≤ K ∧ CS B gn w A (some ⟨g1, 0, none⟩) A2 A3 n c K rs (rs.take K) wr) (fun v13 _ => K - (intOf v13).toNat)
      case atStart => exact ⟨0, rfl, Nat.zero_le _, HC2.out⟩
      case round =>
        clear HC2 w2
        obtain ⟨k, rfl, hk, C⟩ := hrel
        have HC := Lib.hid C
        by_cases hlt : k < K
        · have D1 := C.at_ rfl HN.out (k + 1) (by omega)
          have q2 := MONO.out k hlt
          obtain ⟨E1, hE1⟩ : ∃ E, (jou gn (rs.take (k + 1))).length = E := ⟨_, rfl⟩
          rw [hE1] at D1 q2
          have q1 : (k : Int) + 1 < (N : Int) := by omega
          have q3 : (E1 : Int) ≤ (m : Int) := by omega
          clear hE1 C
          go_wp2_with fail
          go_roundw
          case rel => exact ⟨k + 1, by go_num, by omega, HC.out⟩
          case measure => simp [intOf]; omega
        · obtain rfl : K = k := by omega
          have DK := C.at_ rfl HN.out K hK
          rw [HEK.out] at DK
          have DB := C.fst
          have hcp : K ≤ ca2 := by omega
          by_cases hKn : K = n
          · have q1 : ¬ (K : Int) + 1 < (N : Int) := by have := HNN.out; omega
            have hme : m = EK := by have := HEN.out hKn; omega
            clear C hKn
            obtain rfl : e = 0 := HEE.out.2 hme
            subst hme
            go_wp2_with fail
            refine (same_yes A3 A2 _ _ K 1 (rs.take K) _ HLK.out (by omega) HC.out.read (reads_part HC.out.recs HN.out hK)).mono ?_
            rintro e w3 ⟨rfl, m3, rfl⟩
            have C3 := HC.out.more (WireRd.bdN (Below.refl _ _) m3)
            have DK := C3.at_ rfl HN.out K hK
            rw [HEK.out] at DK
            have HC3 := Lib.hid C3
            clear C3
            go_wp2_with fail
            refine (hwh _).mono ?_
            rintro e w4 ⟨rfl, b4⟩
            have cc4 := (HC3.out.more b4).below
            clear b4 DK
            go_wp2_with fail
            refine (example_any _).mono ?_
            rintro e w5 ⟨rfl, b5⟩
            go_wp2_with fail
            go_ret
            exact ⟨rfl, cc4.trans (b5.mono (by have := cc4.size; omega))⟩
          · have D1 := C.at_ rfl HN.out (K + 1) (by omega)
            have q2 := KB.out (by rw [HN.out]; omega)
            obtain ⟨E1, hE1⟩ : ∃ E, (jou gn (rs.take (K + 1))).length = E := ⟨_, rfl⟩
            rw [hE1] at D1 q2
            have q1 : (K : Int) + 1 < (N : Int) := by have := HNN.out; omega
            have q3 : ¬ (E1 : Int) ≤ (m : Int) := by omega
            clear hE1 C hKn
            by_cases hme : m = EK
            · obtain rfl : e = 0 := HEE.out.2 hme
              subst hme
              go_wp2_with fail
              refine (same_yes A3 A2 _ _ K 1 (rs.take K) _ HLK.out (by omega) HC.out.read (reads_part HC.out.recs HN.out hK)).mono ?_
              rintro e w3 ⟨rfl, m3, rfl⟩
              have C3 := HC.out.more (WireRd.bdN (Below.refl _ _) m3)
              have DK := C3.at_ rfl HN.out K hK
              rw [HEK.out] at DK
              have HC3 := Lib.hid C3
              clear C3
              go_wp2_with fail
              refine (hwh _).mono ?_
              rintro e w4 ⟨rfl, b4⟩
              have cc4 := (HC3.out.more b4).below
              clear b4 DK
              go_wp2_with fail
              refine (example_any _).mono ?_
              rintro e w5 ⟨rfl, b5⟩
              go_wp2_with fail
              go_ret
              exact ⟨rfl, cc4.trans (b5.mono (by have := cc4.size; omega))⟩
            · have te : (e == 0) = false := by have := mt HEE.out.1 hme; simpa using this
              have tm : ((m : Int) == (EK : Int)) = false := by simpa using (by omega : ¬ (m : Int) = (EK : Int))
              clear hme
              go_wp2_with fail
              refine (same_yes A3 A2 _ _ K 1 (rs.take K) _ HLK.out (by omega) HC.out.read (reads_part HC.out.recs HN.out hK)).mono ?_
              rintro e w3 ⟨rfl, m3, rfl⟩
              have C3 := HC.out.more (WireRd.bdN (Below.refl _ _) m3)
              have DK := C3.at_ rfl HN.out K hK
              rw [HEK.out] at DK
              have HC3 := Lib.hid C3
              clear C3
              go_wp2_with fail
              refine (hwh _).mono ?_
              rintro e w4 ⟨rfl, b4⟩
              have cc4 := (HC3.out.more b4).below
              clear b4 DK
              go_wp2_with fail
              refine (example_any _).mono ?_
              rintro e w5 ⟨rfl, b5⟩
              go_wp2_with fail
              go_ret
              exact ⟨rfl, cc4.trans (b5.mono (by have := cc4.size; omega))⟩

open Go.ChangeShapes Go.WideShapes Go.ChangeAt Go.Joins

theorem contract (H : Type) (enc : TypeId × Value → H) (W : World) (base : Nat) (args : Array Value) (ds gs : List (DataW H)) (before : List MemPlace)
    (hval : ∀ (j : Nat) t v, Try.f7.params[j]? = some t → args[j]? = some v → Value.okWide Try.prog W .any base t v)
    (hW : DataW.Whole enc Try.prog Try.f7.params.toList Rows.journalCutsSpec.vars false W args.toList ds gs before) (hk : Rows.uptoSmall H (ds ++ gs) = true) :
    Calls Try.prog 7 args W fun e W' => ∃ v, e = .returned v ∧ Rows.journalCutsSpec.post enc Try.prog Try.f7 false true false false W args v W' := by
  have hW' := hW
  obtain ⟨p, q, hA0, hV, rfl, hfz, hnd⟩ := hW
  have hA : DataW.TrodAll enc Try.prog W 0 (fun _ => true) true Try.f7.params.toList args.toList ds p := hA0
  rw [Try.params7] at hA hval
  obtain ⟨v0, vs0, d0, ds0, p0, q0, hargs, rfl, rfl, g0, r0⟩ := trodAll_cons hA
  obtain ⟨v1, vs1, d1, ds1, p1, q1, rfl, rfl, rfl, g1, r1⟩ := trodAll_cons r0
  obtain ⟨rfl, rfl, rfl⟩ := trodAll_nil r1
  obtain rfl : args = #[v0, v1] := by cases args; simp_all
  obtain ⟨rfl, rfl⟩ := trodVars_none hV
  have hk0 : Rows.uptoBulk d0 ≤ 1048576 := Nat.le_trans ((bulk_mem _).2 d0 (by simp)) (of_decide_eq_true hk : Rows.uptoBulkAll _ ≤ 1048576)
  obtain ⟨z0, A0, n0, c0, f0, rfl, za0, zb0, hR0, hin0, hc0⟩ := openTale (hval 0 38 v0 rfl rfl) g0 hk0
  obtain ⟨z1, rfl, rfl, rfl, w1⟩ := open_int Try.underlying43 (hval 1 43 v1 rfl rfl) g1
  obtain ⟨cn, rfl, hcn⟩ : ∃ cn : Nat, z1 = cn ∧ cn ≤ 18446744073709551615 := by have := bounds_u64 w1; exact ⟨z1.toNat, by omega, by omega⟩
  clear hA0
  simp only [List.append_nil] at hk
  refine (walk z0 A0 n0 c0 f0 cn hcn W hR0 hin0 hc0).mono fun e W' ⟨he, hb⟩ => ?_
  subst he
  exact ⟨_, rfl, Frame.law_post Frame.laidOut (by kernel_rfl) Try.underlying4 (by kernel_rfl) rfl rfl hW' hb⟩

set_option maxRecDepth 100000 in
theorem lifted (os : Os) (started : os.Started) (H : Type) (enc : TypeId × Value → H) (F : Stop.Interp) :
    ReturnsInHanded {} Try.checked os 7 .any ((Rows.OpenSpec.upto Rows.journalCutsSpec).pre6 enc Try.prog Try.f7 Rows.journalCutsUptoRow.domain false) (((Rows.OpenSpec.upto Rows.journalCutsSpec).at F).post enc Try.prog Try.f7 false true false false) := by
  refine returnsInHanded_of_cond (C := Try.checked) (s := Rows.OpenSpec.upto Rows.journalCutsSpec) (k := Rows.uptoSmall) rfl Frame.own started (by kernel_rfl) Try.func7
    (OpenSpec.witness (enc := enc) (C := Try.checked) (s := Rows.OpenSpec.upto Rows.journalCutsSpec) (k := Rows.uptoSmall) rfl false ⟨#[], #[.agg #[.int .i64 0, .slice none 0 0], .int .u64 0], []⟩ 8 (by kernel_rfl) (by kernel_rfl) (by kernel_rfl)
      (x := ([.agg [.lit (.int .i64 0), .nil], .lit (.int .u64 0)], [], [])) (by kernel_rfl) rfl (by kernel_rfl)) ?_
  intro W base args ds gs before hval hW _ hk _
  exact contract H enc W base args ds gs before hval hW hk

theorem proved : Rows.JournalCutsUptoSaid :=
  OpenClaim.holds_of_cond 7 Try.f7 rfl rfl rfl rfl rfl rfl rfl ⟨rfl, rfl, rfl, rfl, rfl⟩ rfl rfl rfl rfl rfl (by kernel_rfl) Try.func7 (by kernel_rfl)
    (of_decide_eq_true (by kernel_rfl)) (by unfold Func.isWrapper; first | (rw [if_pos (by decide +kernel)]; kernel_rfl) | (rw [if_neg (by decide +kernel)]; exact ⟨rfl, rfl⟩))
    (fun os started H enc _ F => lifted os started H enc F)

end Go.Proofs.Ytelacdaehmfcaaa.JournalCuts
