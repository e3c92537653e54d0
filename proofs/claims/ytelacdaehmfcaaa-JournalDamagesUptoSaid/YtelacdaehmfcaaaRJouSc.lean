/-
  The reference of layer 44: the header of any text.
-/
import Derived.Test.YtelacdaehmfcaaaJouC2
namespace Go.Proofs.Ytelacdaehmfcaaa.RJou
open Go.RowKit Go.Proofs.Ytelacdaehmfcaaa Go.Proofs.Ytelacdaehmfcaaa.WirePure Go.Proofs.Ytelacdaehmfcaaa.DigPure Go.Proofs.Ytelacdaehmfcaaa.JouPure Go.Proofs.Ytelacdaehmfcaaa.JouC

theorem uint_is {g : Option Nat} {a : A} {w : World} (h : Ref04Rd.Is w g a) (n : Nat) (a' : A) (e : a.uint = (n, a')) : Calls Try.prog 46 #[Ref04Rd.pt g] w (Ref04Rd.RP g (.int .u64 n) a' w) := by
  have := Ref04Rd.uint_any g a w h
  rwa [e] at this
theorem text_is {g : Option Nat} {a : A} {w : World} (h : Ref04Rd.Is w g a) (t : List UInt8) (a' : A) (e : a.text 1048576 = (t, a')) : Calls Try.prog 48 #[Ref04Rd.pt g, .int .i64 1048576] w (Ref04Rd.RP g (.string ⟨t.toArray⟩) a' w) := by
  have := Ref04Rd.text_any g a 1048576 w h (by omega)
  rwa [e] at this
theorem fin_is {g : Option Nat} {a : A} {w : World} (h : Ref04Rd.Is w g a) (n : Int) (e : a.fin = n) : Calls Try.prog 47 #[Ref04Rd.pt g] w fun e w' => e = .returned (.int .i64 n) ∧ ∃ n, w' = w.drewN n := by
  have := Ref04Rd.fin_any g a w h
  rwa [e] at this
theorem open_is (s : ByteArray) (t : List UInt8) (n : Nat) (x : Int) (h : opn s.data.toList = (t, n, x)) (w : World) (hs : s.size ≤ 140737488355328) : Calls Try.prog 44 #[.string s] w fun e w' => e = .returned (.tuple #[.string ⟨t.toArray⟩, .int .i64 (n : Nat), .int .i64 x]) ∧ Below w.heap.size w w' := by
  rw [← Dig.openV_of h]
  exact Ref05.open_any s w hs
theorem new_is (t : List UInt8) (ht : t.length ≤ 1048576) (w : World) : Calls Try.prog 45 #[.string ⟨t.toArray⟩] w (Ref04Rd.NP ⟨t.toArray⟩ w) := Ref04Rd.new_any _ w (by rw [mk_size]; omega)

set_option maxHeartbeats 2000000 in
theorem head_is (s : ByteArray) (w : World) (hs : s.size ≤ 140737488355328) : Calls Try.prog 31 #[.string s] w fun e w' => e = .returned (hdV (headS s.data.toList)) ∧ Below w.heap.size w w' := by
  have hsz : (s.extract 4 s.size).size ≤ 140737488355328 := by simp only [ByteArray.size_extract]; omega
  rcases Nat.lt_or_ge s.size 4 with h4 | h4
  · have HF : Hid (headS s.data.toList = (0, 0, 4)) := Lib.hid (by
      unfold headS
      rw [if_neg]
      intro h
      have := congrArg List.length h
      rw [magic_len, List.length_take, cond_len] at this
      omega)
    go_enter Try.func31, Try.ntmps31
    go_wp2_with fail
    go_ret3
    exact ⟨by rw [HF.out]; rfl, Below.refl _ _⟩
  by_cases hm : s.data.toList.take 4 = magic
  · have hm' := (magic_iff s).2 hm
    have hdr := drop_eq s 4 h4
    obtain ⟨t, n, x0, ho⟩ : ∃ t n x, opn (s.data.toList.drop 4) = (t, n, x) := ⟨_, _, _, rfl⟩
    have ho' : opn (s.extract 4 s.size).data.toList = (t, n, x0) := by rw [hdr]; exact ho
    by_cases hx0 : x0 = 0
    · subst hx0
      obtain ⟨htl, hn, _⟩ := opn_inv _ _ _ ho
      have hfl := Lib.uvarint_length64 (x := t.length) (by omega)
      have hnl : n ≤ 1048600 := by rw [hn, frame_len]; omega
      obtain ⟨g, a, hk⟩ : ∃ g a, kindA t = (g, a) := ⟨_, _, rfl⟩
      obtain ⟨x, hx⟩ : ∃ x, a.fin = x := ⟨_, rfl⟩
      have hS : headS s.data.toList = headP t n := by
        unfold headS
        rw [if_pos hm, ho, if_neg (by simp)]
      have hcase := head_cases t n g a x hk hx
      rw [← hS] at hcase
      have hgl : g < 18446744073709551616 := by
        have := (A.ready t).uint_lt
        have e : (A.ready t).uint = (g, a) := hk
        rw [e] at this
        exact this
      have HO := Lib.hid ho'
      have HK := Lib.hid hk
      have HX := Lib.hid hx
      clear ho ho' hk hx hS hn hfl hdr hm
      rcases hcase with ⟨hx0, hF⟩ | ⟨rfl, hg, hF⟩ | ⟨rfl, hg, hF⟩ | ⟨rfl, hg1, hg2, hF⟩
      · have HF := Lib.hid hF
        have tx : (x != 0) = true := by simpa using hx0
        clear hF hx0
        go_enter Try.func31, Try.ntmps31
        go_wp2_with fail
        refine (open_is (s.extract 4 s.size) t n 0 HO.out _ hsz).mono ?_
        rintro e w2 ⟨rfl, hb2⟩
        go_wp2_with fail
        refine (new_is t htl _).mono ?_
        rintro e w3 ⟨rfl, hb3, hi3⟩
        have hc3 := hb2.trans (hb3.mono hb2.size)
        go_wp2_with fail
        refine (uint_is hi3 g a HK.out).mono ?_
        rintro e w4 ⟨rfl, hg4, hi4⟩
        have hc4 := WireRd.below_grown hc3 hg4 hc3.size hb2.size
        go_wp2_with fail
        refine (fin_is hi4 _ HX.out).mono ?_
        rintro e w5 ⟨rfl, k5, rfl⟩
        go_wp2_with fail
        go_ret3
        exact ⟨by rw [HF.out]; rfl, WireRd.bdN hc4 _⟩
      · have HF := Lib.hid hF
        clear hF
        go_enter Try.func31, Try.ntmps31
        go_wp2_with fail
        refine (open_is (s.extract 4 s.size) t n 0 HO.out _ hsz).mono ?_
        rintro e w2 ⟨rfl, hb2⟩
        go_wp2_with fail
        refine (new_is t htl _).mono ?_
        rintro e w3 ⟨rfl, hb3, hi3⟩
        have hc3 := hb2.trans (hb3.mono hb2.size)
        go_wp2_with fail
        refine (uint_is hi3 g a HK.out).mono ?_
        rintro e w4 ⟨rfl, hg4, hi4⟩
        have hc4 := WireRd.below_grown hc3 hg4 hc3.size hb2.size
        go_wp2_with fail
        refine (fin_is hi4 _ HX.out).mono ?_
        rintro e w5 ⟨rfl, k5, rfl⟩
        go_wp2_with fail
        go_ret3
        exact ⟨by rw [HF.out]; rfl, WireRd.bdN hc4 _⟩
      · have HF := Lib.hid hF
        clear hF
        go_enter Try.func31, Try.ntmps31
        go_wp2_with fail
        refine (open_is (s.extract 4 s.size) t n 0 HO.out _ hsz).mono ?_
        rintro e w2 ⟨rfl, hb2⟩
        go_wp2_with fail
        refine (new_is t htl _).mono ?_
        rintro e w3 ⟨rfl, hb3, hi3⟩
        have hc3 := hb2.trans (hb3.mono hb2.size)
        go_wp2_with fail
        refine (uint_is hi3 g a HK.out).mono ?_
        rintro e w4 ⟨rfl, hg4, hi4⟩
        have hc4 := WireRd.below_grown hc3 hg4 hc3.size hb2.size
        go_wp2_with fail
        refine (fin_is hi4 _ HX.out).mono ?_
        rintro e w5 ⟨rfl, k5, rfl⟩
        go_wp2_with fail
        go_ret3
        exact ⟨by rw [HF.out]; rfl, WireRd.bdN hc4 _⟩
      · have HF := Lib.hid hF
        clear hF
        go_enter Try.func31, Try.ntmps31
        go_wp2_with fail
        refine (open_is (s.extract 4 s.size) t n 0 HO.out _ hsz).mono ?_
        rintro e w2 ⟨rfl, hb2⟩
        go_wp2_with fail
        refine (new_is t htl _).mono ?_
        rintro e w3 ⟨rfl, hb3, hi3⟩
        have hc3 := hb2.trans (hb3.mono hb2.size)
        go_wp2_with fail
        refine (uint_is hi3 g a HK.out).mono ?_
        rintro e w4 ⟨rfl, hg4, hi4⟩
        have hc4 := WireRd.below_grown hc3 hg4 hc3.size hb2.size
        go_wp2_with fail
        refine (fin_is hi4 _ HX.out).mono ?_
        rintro e w5 ⟨rfl, k5, rfl⟩
        go_wp2_with fail
        go_ret3
        exact ⟨by rw [HF.out]; rfl, WireRd.bdN hc4 _⟩
    · have HF : Hid (headS s.data.toList = (0, 0, x0)) := Lib.hid (by
        unfold headS
        rw [if_pos hm, ho, if_pos (by simpa using hx0)])
      have HO := Lib.hid ho'
      have tx : (x0 != 0) = true := by simpa using hx0
      clear ho ho' hdr hm hx0
      go_enter Try.func31, Try.ntmps31
      go_wp2_with fail
      refine (open_is (s.extract 4 s.size) t n x0 HO.out _ hsz).mono ?_
      rintro e w2 ⟨rfl, hb2⟩
      go_wp2_with fail
      go_ret3
      exact ⟨by rw [HF.out]; rfl, hb2⟩
  · have HF : Hid (headS s.data.toList = (0, 0, 4)) := Lib.hid (by unfold headS; rw [if_neg hm])
    have hne : s.extract 0 4 ≠ ⟨#[73, 69, 74, 49]⟩ := fun h => hm ((magic_iff s).1 h)
    have t2 : ((s.extract 0 4).toList == [73, 69, 74, 49]) = false := magic_ne hne
    clear hm
    go_enter Try.func31, Try.ntmps31
    go_wp2_with fail
    go_ret3
    exact ⟨by rw [HF.out]; rfl, Below.refl _ _⟩

end Go.Proofs.Ytelacdaehmfcaaa.RJou
