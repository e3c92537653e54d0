/-
  The reference of layer 44: the record at the beginning of any text.
-/
import Derived.Test.YtelacdaehmfcaaaRJouSc
import Derived.Test.YtelacdaehmfcaaaRJouEnc
namespace Go.Proofs.Ytelacdaehmfcaaa.RJou
open Go.RowKit Go.Proofs.Ytelacdaehmfcaaa Go.Proofs.Ytelacdaehmfcaaa.WirePure Go.Proofs.Ytelacdaehmfcaaa.DigPure Go.Proofs.Ytelacdaehmfcaaa.JouPure Go.Proofs.Ytelacdaehmfcaaa.JouC

set_option maxHeartbeats 4000000 in
theorem rec_any (s : ByteArray) (q : Nat) (hq : q < 4611686018427387904) (w : World) (hs : s.size ≤ 140737488355328) : Calls Try.prog 32 #[.string s, .int .i64 (q : Int)] w fun e w' => e = .returned (rcV q (recR s.data.toList q)) ∧ Below w.heap.size w w' := by
  have H0 := Blk.new w 23 rc0
  have hc0 : Below w.heap.size w (w.alloc (.cells rc0 23)) := (Below.refl _ _).alloc (Nat.le_refl _) _
  obtain ⟨t, n, x0, ho⟩ : ∃ t n x, opn s.data.toList = (t, n, x) := ⟨_, _, _, rfl⟩
  have HO := Lib.hid ho
  by_cases hx0 : x0 = 0
  · subst hx0
    obtain ⟨htl, hn, _⟩ := opn_inv _ _ _ ho
    have hfl := Lib.uvarint_length64 (x := t.length) (by omega)
    have hnl : n ≤ 1048600 := by rw [hn, frame_len]; omega
    obtain ⟨k, a1, hk⟩ : ∃ g a, kindA t = (g, a) := ⟨_, _, rfl⟩
    obtain ⟨m, a2, hm⟩ : ∃ m a, a1.uint = (m, a) := ⟨_, _, rfl⟩
    obtain ⟨dd, a, hd⟩ : ∃ d a, a2.text 1048576 = (d, a) := ⟨_, _, rfl⟩
    obtain ⟨x, hx⟩ : ∃ x, a.fin = x := ⟨_, rfl⟩
    have hS : recR s.data.toList q = recP t n q := by
      unfold recR
      rw [ho, if_neg (by simp)]
    have hcase := rec_cases t n q k m a1 a2 a dd x hk hm hd hx
    rw [← hS] at hcase
    have hml : m < 18446744073709551616 := by
      have := a1.uint_lt
      rw [hm] at this
      exact this
    have iq : IntKind.u64.wrap (q : Int) = q := by rw [IntKind.wrap_u64]; omega
    have HK := Lib.hid hk
    have HM := Lib.hid hm
    have HD := Lib.hid hd
    have HX := Lib.hid hx
    clear ho hk hm hd hx hS hn hfl
    rcases hcase with ⟨hx0, hF⟩ | ⟨rfl, hg, hF⟩ | ⟨rfl, hg, hF⟩ | ⟨rfl, hg1, hg2, hne, hF⟩ | ⟨rfl, hg1, hg2, rfl, hF⟩
    · have HV : Hid (rcV q (recR s.data.toList q) = .tuple #[.agg rc0, .int .i64 0, .int .i64 x]) := Lib.hid (by rw [hF]; unfold rcV rcC; rw [if_neg hx0]; rfl)
      have tx : (x != 0) = true := by simpa using hx0
      clear hF hx0
      go_enter Try.func32, Try.ntmps32
      go_wp2_with fail
      refine (open_is s t n 0 HO.out _ hs).mono ?_
      rintro e w2 ⟨rfl, hb2⟩
      have B2 := H0.below hb2 H0.lt
      have c2 := hc0.trans (hb2.mono hc0.size)
      clear hb2
      go_wp2_with fail
      refine (new_is t htl _).mono ?_
      rintro e w3 ⟨rfl, hb3, hi3⟩
      have B3 := B2.below hb3 B2.lt
      have c3 := c2.trans (hb3.mono c2.size)
      have hn2 : w.heap.size ≠ w2.heap.size := fun e => by have := B2.lt; omega
      go_wp2_with fail
      refine (uint_is hi3 k a1 HK.out).mono ?_
      rintro e w4 ⟨rfl, hg4, hi4⟩
      have B4 := B3.grown hg4 (by simpa using hn2)
      have c4 := WireRd.below_grown c3 hg4 c3.size c2.size
      go_wp2_with fail
      refine (uint_is hi4 m a2 HM.out).mono ?_
      rintro e w5 ⟨rfl, hg5, hi5⟩
      have B5 := B4.grown hg5 (by simpa using hn2)
      have c5 := WireRd.below_grown c4 hg5 c4.size c2.size
      go_wp2_with fail
      refine (text_is hi5 dd a HD.out).mono ?_
      rintro e w6 ⟨rfl, hg6, hi6⟩
      have B6 := B5.grown hg6 (by simpa using hn2)
      have c6 := WireRd.below_grown c5 hg6 c5.size c2.size
      go_wp2_with fail
      refine (fin_is hi6 _ HX.out).mono ?_
      rintro e w7 ⟨rfl, k7, rfl⟩
      have B7 := B6.drewN k7
      have c7 := WireRd.bdN c6 k7
      clear hi3 hi4 hi5 hi6 hg4 hg5 hg6 hb3 B2 B3 B4 B5 B6 c2 c3 c4 c5 c6 hn2
      go_wp2_with (refine wpList_store_row rfl _ _ _ rfl w.heap.size rc0 rfl rfl 23 rc0 B7 (infoR _ rfl) rfl (by first | exact rc0_one | exact rcA_one _ _) ?_)
      rw [HV.out]
      refine bodyPost_ret (results_row3 rfl _ _ w.heap.size 23 rc0 (0, 0) _ rfl (setRow_heap _ _ rc0 _ _ _ B7) Try.underlying23 rfl (infoR _ rfl)) rfl ⟨rfl, below_setRow c7 (Nat.le_refl _) _⟩
    · have HV : Hid (rcV q (recR s.data.toList q) = .tuple #[.agg rc0, .int .i64 0, .int .i64 8]) := Lib.hid (by rw [hF]; rfl)
      clear hF
      go_enter Try.func32, Try.ntmps32
      go_wp2_with fail
      refine (open_is s t n 0 HO.out _ hs).mono ?_
      rintro e w2 ⟨rfl, hb2⟩
      have B2 := H0.below hb2 H0.lt
      have c2 := hc0.trans (hb2.mono hc0.size)
      clear hb2
      go_wp2_with fail
      refine (new_is t htl _).mono ?_
      rintro e w3 ⟨rfl, hb3, hi3⟩
      have B3 := B2.below hb3 B2.lt
      have c3 := c2.trans (hb3.mono c2.size)
      have hn2 : w.heap.size ≠ w2.heap.size := fun e => by have := B2.lt; omega
      go_wp2_with fail
      refine (uint_is hi3 k a1 HK.out).mono ?_
      rintro e w4 ⟨rfl, hg4, hi4⟩
      have B4 := B3.grown hg4 (by simpa using hn2)
      have c4 := WireRd.below_grown c3 hg4 c3.size c2.size
      go_wp2_with fail
      refine (uint_is hi4 m a2 HM.out).mono ?_
      rintro e w5 ⟨rfl, hg5, hi5⟩
      have B5 := B4.grown hg5 (by simpa using hn2)
      have c5 := WireRd.below_grown c4 hg5 c4.size c2.size
      go_wp2_with fail
      refine (text_is hi5 dd a HD.out).mono ?_
      rintro e w6 ⟨rfl, hg6, hi6⟩
      have B6 := B5.grown hg6 (by simpa using hn2)
      have c6 := WireRd.below_grown c5 hg6 c5.size c2.size
      go_wp2_with fail
      refine (fin_is hi6 _ HX.out).mono ?_
      rintro e w7 ⟨rfl, k7, rfl⟩
      have B7 := B6.drewN k7
      have c7 := WireRd.bdN c6 k7
      clear hi3 hi4 hi5 hi6 hg4 hg5 hg6 hb3 B2 B3 B4 B5 B6 c2 c3 c4 c5 c6 hn2
      go_wp2_with fail
      refine (known_no k (.inl (by omega)) _).mono ?_
      rintro e w8 ⟨rfl, rfl⟩
      go_wp2_with (refine wpList_store_row rfl _ _ _ rfl w.heap.size rc0 rfl rfl 23 rc0 B7 (infoR _ rfl) rfl (by first | exact rc0_one | exact rcA_one _ _) ?_)
      rw [HV.out]
      refine bodyPost_ret (results_row3 rfl _ _ w.heap.size 23 rc0 (0, 0) _ rfl (setRow_heap _ _ rc0 _ _ _ B7) Try.underlying23 rfl (infoR _ rfl)) rfl ⟨rfl, below_setRow c7 (Nat.le_refl _) _⟩
    · have HV : Hid (rcV q (recR s.data.toList q) = .tuple #[.agg rc0, .int .i64 0, .int .i64 8]) := Lib.hid (by rw [hF]; rfl)
      clear hF
      go_enter Try.func32, Try.ntmps32
      go_wp2_with fail
      refine (open_is s t n 0 HO.out _ hs).mono ?_
      rintro e w2 ⟨rfl, hb2⟩
      have B2 := H0.below hb2 H0.lt
      have c2 := hc0.trans (hb2.mono hc0.size)
      clear hb2
      go_wp2_with fail
      refine (new_is t htl _).mono ?_
      rintro e w3 ⟨rfl, hb3, hi3⟩
      have B3 := B2.below hb3 B2.lt
      have c3 := c2.trans (hb3.mono c2.size)
      have hn2 : w.heap.size ≠ w2.heap.size := fun e => by have := B2.lt; omega
      go_wp2_with fail
      refine (uint_is hi3 k a1 HK.out).mono ?_
      rintro e w4 ⟨rfl, hg4, hi4⟩
      have B4 := B3.grown hg4 (by simpa using hn2)
      have c4 := WireRd.below_grown c3 hg4 c3.size c2.size
      go_wp2_with fail
      refine (uint_is hi4 m a2 HM.out).mono ?_
      rintro e w5 ⟨rfl, hg5, hi5⟩
      have B5 := B4.grown hg5 (by simpa using hn2)
      have c5 := WireRd.below_grown c4 hg5 c4.size c2.size
      go_wp2_with fail
      refine (text_is hi5 dd a HD.out).mono ?_
      rintro e w6 ⟨rfl, hg6, hi6⟩
      have B6 := B5.grown hg6 (by simpa using hn2)
      have c6 := WireRd.below_grown c5 hg6 c5.size c2.size
      go_wp2_with fail
      refine (fin_is hi6 _ HX.out).mono ?_
      rintro e w7 ⟨rfl, k7, rfl⟩
      have B7 := B6.drewN k7
      have c7 := WireRd.bdN c6 k7
      clear hi3 hi4 hi5 hi6 hg4 hg5 hg6 hb3 B2 B3 B4 B5 B6 c2 c3 c4 c5 c6 hn2
      go_wp2_with fail
      refine (known_no k (.inr (by omega)) _).mono ?_
      rintro e w8 ⟨rfl, rfl⟩
      go_wp2_with (refine wpList_store_row rfl _ _ _ rfl w.heap.size rc0 rfl rfl 23 rc0 B7 (infoR _ rfl) rfl (by first | exact rc0_one | exact rcA_one _ _) ?_)
      rw [HV.out]
      refine bodyPost_ret (results_row3 rfl _ _ w.heap.size 23 rc0 (0, 0) _ rfl (setRow_heap _ _ rc0 _ _ _ B7) Try.underlying23 rfl (infoR _ rfl)) rfl ⟨rfl, below_setRow c7 (Nat.le_refl _) _⟩
    · have HV : Hid (rcV q (recR s.data.toList q) = .tuple #[.agg rc0, .int .i64 0, .int .i64 24]) := Lib.hid (by rw [hF]; rfl)
      have t1 : (m == q) = false := by simpa using hne
      have t2 : (m != q) = true := by simpa using hne
      have t3 : ((m : Int) == (q : Int)) = false := by simp; omega
      clear hF
      go_enter Try.func32, Try.ntmps32
      go_wp2_with fail
      refine (open_is s t n 0 HO.out _ hs).mono ?_
      rintro e w2 ⟨rfl, hb2⟩
      have B2 := H0.below hb2 H0.lt
      have c2 := hc0.trans (hb2.mono hc0.size)
      clear hb2
      go_wp2_with fail
      refine (new_is t htl _).mono ?_
      rintro e w3 ⟨rfl, hb3, hi3⟩
      have B3 := B2.below hb3 B2.lt
      have c3 := c2.trans (hb3.mono c2.size)
      have hn2 : w.heap.size ≠ w2.heap.size := fun e => by have := B2.lt; omega
      go_wp2_with fail
      refine (uint_is hi3 k a1 HK.out).mono ?_
      rintro e w4 ⟨rfl, hg4, hi4⟩
      have B4 := B3.grown hg4 (by simpa using hn2)
      have c4 := WireRd.below_grown c3 hg4 c3.size c2.size
      go_wp2_with fail
      refine (uint_is hi4 m a2 HM.out).mono ?_
      rintro e w5 ⟨rfl, hg5, hi5⟩
      have B5 := B4.grown hg5 (by simpa using hn2)
      have c5 := WireRd.below_grown c4 hg5 c4.size c2.size
      go_wp2_with fail
      refine (text_is hi5 dd a HD.out).mono ?_
      rintro e w6 ⟨rfl, hg6, hi6⟩
      have B6 := B5.grown hg6 (by simpa using hn2)
      have c6 := WireRd.below_grown c5 hg6 c5.size c2.size
      go_wp2_with fail
      refine (fin_is hi6 _ HX.out).mono ?_
      rintro e w7 ⟨rfl, k7, rfl⟩
      have B7 := B6.drewN k7
      have c7 := WireRd.bdN c6 k7
      clear hi3 hi4 hi5 hi6 hg4 hg5 hg6 hb3 B2 B3 B4 B5 B6 c2 c3 c4 c5 c6 hn2
      go_wp2_with fail
      refine (known_yes k (by omega) (by omega) _).mono ?_
      rintro e w8 ⟨rfl, rfl⟩
      go_wp2_with (refine wpList_store_row rfl _ _ _ rfl w.heap.size rc0 rfl rfl 23 rc0 B7 (infoR _ rfl) rfl (by first | exact rc0_one | exact rcA_one _ _) ?_)
      rw [HV.out]
      refine bodyPost_ret (results_row3 rfl _ _ w.heap.size 23 rc0 (0, 0) _ rfl (setRow_heap _ _ rc0 _ _ _ B7) Try.underlying23 rfl (infoR _ rfl)) rfl ⟨rfl, below_setRow c7 (Nat.le_refl _) _⟩
    · have HV : Hid (rcV m (recR s.data.toList m) = .tuple #[.agg (rcA m (k, dd)), .int .i64 (n : Nat), .int .i64 0]) := Lib.hid (by rw [hF]; rfl)
      clear hF
      go_enter Try.func32, Try.ntmps32
      go_wp2_with fail
      refine (open_is s t n 0 HO.out _ hs).mono ?_
      rintro e w2 ⟨rfl, hb2⟩
      have B2 := H0.below hb2 H0.lt
      have c2 := hc0.trans (hb2.mono hc0.size)
      clear hb2
      go_wp2_with fail
      refine (new_is t htl _).mono ?_
      rintro e w3 ⟨rfl, hb3, hi3⟩
      have B3 := B2.below hb3 B2.lt
      have c3 := c2.trans (hb3.mono c2.size)
      have hn2 : w.heap.size ≠ w2.heap.size := fun e => by have := B2.lt; omega
      go_wp2_with fail
      refine (uint_is hi3 k a1 HK.out).mono ?_
      rintro e w4 ⟨rfl, hg4, hi4⟩
      have B4 := B3.grown hg4 (by simpa using hn2)
      have c4 := WireRd.below_grown c3 hg4 c3.size c2.size
      go_wp2_with fail
      refine (uint_is hi4 m a2 HM.out).mono ?_
      rintro e w5 ⟨rfl, hg5, hi5⟩
      have B5 := B4.grown hg5 (by simpa using hn2)
      have c5 := WireRd.below_grown c4 hg5 c4.size c2.size
      go_wp2_with fail
      refine (text_is hi5 dd a HD.out).mono ?_
      rintro e w6 ⟨rfl, hg6, hi6⟩
      have B6 := B5.grown hg6 (by simpa using hn2)
      have c6 := WireRd.below_grown c5 hg6 c5.size c2.size
      go_wp2_with fail
      refine (fin_is hi6 _ HX.out).mono ?_
      rintro e w7 ⟨rfl, k7, rfl⟩
      have B7 := B6.drewN k7
      have c7 := WireRd.bdN c6 k7
      clear hi3 hi4 hi5 hi6 hg4 hg5 hg6 hb3 B2 B3 B4 B5 B6 c2 c3 c4 c5 c6 hn2
      go_wp2_with fail
      refine (known_yes k (by omega) (by omega) _).mono ?_
      rintro e w8 ⟨rfl, rfl⟩
      go_wp2_with (refine wpList_store_row rfl _ _ _ rfl w.heap.size (rcA m (k, dd)) rfl rfl 23 rc0 B7 (infoR _ rfl) rfl (by first | exact rc0_one | exact rcA_one _ _) ?_)
      rw [HV.out]
      refine bodyPost_ret (results_row3 rfl _ _ w.heap.size 23 (rcA m (k, dd)) (0, 0) _ rfl (setRow_heap _ _ rc0 _ _ _ B7) Try.underlying23 rfl (infoR _ rfl)) rfl ⟨rfl, below_setRow c7 (Nat.le_refl _) _⟩
  · have HV : Hid (rcV q (recR s.data.toList q) = .tuple #[.agg rc0, .int .i64 0, .int .i64 x0]) := Lib.hid (by
      unfold recR
      rw [ho, if_pos (by simpa using hx0)]
      unfold rcV rcC
      rw [if_neg hx0]
      rfl)
    have tx : (x0 != 0) = true := by simpa using hx0
    clear ho hx0
    go_enter Try.func32, Try.ntmps32
    go_wp2_with fail
    refine (open_is s t n x0 HO.out _ hs).mono ?_
    rintro e w2 ⟨rfl, hb2⟩
    have B2 := H0.below hb2 H0.lt
    have c2 := hc0.trans (hb2.mono hc0.size)
    clear hb2
    go_wp2_with (refine wpList_store_row rfl _ _ _ rfl w.heap.size rc0 rfl rfl 23 rc0 B2 (infoR _ rfl) rfl (by first | exact rc0_one | exact rcA_one _ _) ?_)
    rw [HV.out]
    refine bodyPost_ret (results_row3 rfl _ _ w.heap.size 23 rc0 (0, 0) _ rfl (setRow_heap _ _ rc0 _ _ _ B2) Try.underlying23 rfl (infoR _ rfl)) rfl ⟨rfl, below_setRow c2 (Nat.le_refl _) _⟩

theorem rec_is (s : ByteArray) (z : Int) (q : Nat) (hz : z = q) (r : Nat × List UInt8) (n : Nat) (x : Int) (h : recR s.data.toList q = (r, n, x)) (hq : q < 4611686018427387904) (w : World) (hs : s.size ≤ 140737488355328) :
    Calls Try.prog 32 #[.string s, .int .i64 z] w fun e w' => e = .returned (.tuple #[.agg (rcC q (r, n, x)), .int .i64 (n : Nat), .int .i64 x]) ∧ Below w.heap.size w w' := by
  subst hz
  have := rec_any s q hq w hs
  rw [h] at this
  exact this

end Go.Proofs.Ytelacdaehmfcaaa.RJou
