/-
  The reference of layer 44: what any text begins with.
-/
import Derived.Test.YtelacdaehmfcaaaJouC3
import Derived.Test.YtelacdaehmfcaaaRJouRc
namespace Go.Proofs.Ytelacdaehmfcaaa.RJou
open Go.RowKit Go.Proofs.Ytelacdaehmfcaaa Go.Proofs.Ytelacdaehmfcaaa.WirePure Go.Proofs.Ytelacdaehmfcaaa.DigPure Go.Proofs.Ytelacdaehmfcaaa.JouPure Go.Proofs.Ytelacdaehmfcaaa.JouC

set_option maxHeartbeats 4000000 in
theorem scan_any (s : ByteArray) (w : World) (hs : s.size ≤ 4398046511104) : Calls Try.prog 18 #[.string s] w (SP (scanJ s.data.toList) w) := by
  have hlen := cond_len s
  have hh := fun W => head_is s W (by omega)
  obtain ⟨g, n, x, hH⟩ : ∃ g n x, headS s.data.toList = (g, n, x) := ⟨_, _, _, rfl⟩
  rw [hH] at hh
  unfold hdV at hh
  simp only at hh
  by_cases hx : x = 0
  · subst hx
    obtain ⟨lF, mF, eF, hJ, hSR⟩ := scan_start _ _ _ hH
    have hn := head_room _ _ _ hH
    rw [hlen] at hn
    rw [hJ]
    obtain ⟨i0, hi0, hz0, hz1, hz2⟩ := info_parts infoRec
    have HSR := Lib.hid hSR
    have HL := Lib.hid hlen
    clear hH hJ hSR hlen
    go_enter Try.func18, Try.ntmps18
    go_wp2_with fail
    refine (hh _).mono ?_
    rintro e w1 ⟨rfl, hb1⟩
    clear hh
    go_wp2_with fail
    go_loopw [9, 7] (fun v3 v4 wr => ∃ (acc : List (Nat × List UInt8)) (p : Nat), v4 = .int .i64 p ∧ p ≤ s.size ∧ acc.length ≤ p ∧ wr.ownsRow w.heap.size 23 3 v3 acc.length (rcs 1 acc) ∧ Below w.heap.size w wr ∧ SR s.data.toList lF mF eF acc p) (fun _ v4 _ => s.size - (intOf v4).toNat)
    case atStart => exact ⟨[], n, rfl, hn, Nat.zero_le _, World.ownsRow_made w1 #[] 0 hb1.size (by decide) rfl, hb1.alloc hb1.size _, HSR.out⟩
    case round =>
      clear HSR hb1 hn
      obtain ⟨acc, p, rfl, hp, hacc, hown, hb, hsr⟩ := hrel
      obtain ⟨A, c, rfl⟩ := own_form hown
      have HS := Lib.hid hsr
      clear hsr
      by_cases hlt : p < s.size
      · obtain ⟨r, k, x, hr⟩ : ∃ r k x, recR (s.data.toList.drop p) (1 + acc.length) = (r, k, x) := ⟨_, _, _, rfl⟩
        have hr' : recR (s.extract p s.size).data.toList (1 + acc.length) = (r, k, x) := by rw [drop_eq s p hp]; exact hr
        have hrc := fun W => rec_is (s.extract p s.size) ((acc.length : Int) + 1) (1 + acc.length) (by omega) r k x hr' (by omega) W (by simp only [ByteArray.size_extract]; omega)
        have j0 : (0 : Int) ≤ (p : Int) := by omega
        have j1 : (p : Int) ≤ (s.size : Int) := by omega
        by_cases hx : x = 0
        · subst hx
          have hk := rec_room _ _ _ _ hr
          rw [List.length_drop, HL.out] at hk
          have HR := Lib.hid hr
          obtain ⟨rk, rd⟩ := r
          unfold rcC rcA at hrc
          simp only [if_true] at hrc
          obtain ⟨S, hS⟩ : ∃ S : ByteArray, (⟨rd.toArray⟩ : ByteArray) = S := ⟨_, rfl⟩
          simp only [hS] at hrc
          clear hr hr'
          go_wp2_with fail
          refine (hrc _).mono ?_
          rintro e w2 ⟨rfl, hb2⟩
          have hown2 := hown.kept (grown_below hb2) (Classical.em _)
          have hc2 := hb.trans (hb2.mono hb.size)
          clear hrc hown hb hb2
          go_wp2_with (at_builtin; refine wpList_append_own _ rfl _ _ 32 rfl w.heap.size 23 i0 (.agg rc0) 3 32 Try.underlying32 hi0 hz0 hz1 hz2 rfl (by decide) _ _ _ rfl ((hown2.alloc _).alloc _) ⟨w2.heap.size + 1, 0, none⟩ 1 1 [.int .i64 (rk : Nat), .int .i64 (1 + (acc.length : Int)), .string S] rfl rfl (World.news_of_block (heap_alloc2_new _ _ _)) ?c2 ?c3 ?c4 ?c5 ?_)
          case c2 => intro u hu; simp only [List.mem_cons, List.not_mem_nil, or_false] at hu; rcases hu with rfl | rfl | rfl <;> rfl
          case c3 => unfold maxLen; omega
          case c4 => omega
          case c5 => have := hc2.size; simp; omega
          intro v' w3 hown' hgrow _
          have hc3 : Below w.heap.size w w3 := ((hc2.alloc hc2.size _).alloc (by have := hc2.size; simp; omega) _).grown hgrow (by have := hc2.size; simp; omega) (own_base hown2)
          have hsr := HS.out.step HR.out
          have hcs : rcs 1 acc ++ [Value.int .i64 (rk : Nat), .int .i64 (1 + (acc.length : Int)), .string S] = rcs 1 (acc ++ [(rk, rd)]) := by rw [rcs_snoc, ← hS]; rfl
          rw [hcs] at hown'
          have HS2 := Lib.hid hsr
          clear hsr hcs hgrow hown2 hc2
          go_wp2_with fail
          go_roundw
          case rel => exact ⟨acc ++ [(rk, rd)], p + k, by go_num, by omega, by simp; omega, by simpa using hown', hc3, HS2.out⟩
          case measure => simp [intOf]; omega
        · have tx : (x != 0) = true := by simpa using hx
          obtain ⟨rfl, rfl, rfl⟩ := HS.out.stop hr hx (by rw [HL.out]; exact hlt)
          have hc : rcC (1 + lF.length) (r, k, eF) = rc0 := by unfold rcC; rw [if_neg hx]
          rw [hc] at hrc
          unfold rc0 at hrc
          clear hr hr' hx hc
          go_wp2_with fail
          refine (hrc _).mono ?_
          rintro e w2 ⟨rfl, hb2⟩
          clear hrc
          have hown2 := hown.kept (grown_below hb2) (Classical.em _)
          go_wp2_with fail
          refine bodyPost_ret (results_tmp4 rfl _ _ _) rfl ?_
          exact ⟨_, rfl, hown2.alloc _, (hb.trans (hb2.mono hb.size)).alloc (Nat.le_trans hb.size hb2.size) _⟩
      · obtain ⟨rfl, rfl, rfl⟩ := HS.out.done (by rw [HL.out]; omega)
        go_wp2_with fail
        refine bodyPost_ret (results_tmp4 rfl _ _ _) rfl ?_
        exact ⟨_, rfl, hown, hb⟩
  · have hJ := scanJ_err s.data.toList (by rw [hH]; exact hx)
    rw [hH] at hJ
    rw [hJ]
    have tx : (x != 0) = true := by simpa using hx
    clear hH hJ hx hlen
    go_enter Try.func18, Try.ntmps18
    go_wp2_with fail
    refine (hh _).mono ?_
    rintro e w1 ⟨rfl, hb1⟩
    clear hh
    go_wp2_with fail
    refine bodyPost_ret (results_tmp4 rfl _ _ _) rfl ?_
    exact ⟨_, rfl, World.ownsRow_nil _ _ _ _, hb1⟩

end Go.Proofs.Ytelacdaehmfcaaa.RJou
