/-
  Layer 21: single points (the document's).
-/
import Derived.Test.YtflopcogalknhaaDoorKStrRp
set_option linter.unusedVariables false
set_option linter.unusedSimpArgs false
namespace Go.Proofs.YtflopcogalknhaaDoor.Str
open Go.RowKit Go.Proofs.YtflopcogalknhaaDoor Go.Proofs.YtflopcogalknhaaDoor.NumPure

theorem own_pts {W : World} {base : Nat} {v : Value} {l : List P2} (h : W.ownsRow base 30 2 v l.length (pts l)) (h0 : 0 < l.length) : ∃ p cap cs, v = .slice (some ⟨p, 0, none⟩) l.length cap ∧ base ≤ p ∧ PtR W (some ⟨p, 0, none⟩) l ∧ Blk W p 30 cs := by
  rcases h.2 with ⟨_, h1⟩ | ⟨g, cap, cur, rfl, hb, hg, _⟩
  · omega
  · exact ⟨g, cap, cur, rfl, hb, Reads.of_own h, hg⟩
set_option maxRecDepth 100000 in
set_option maxHeartbeats 2000000 in
theorem rsingle_any {B : Nat} {L : List (List P2)} {v : Value} {M : List Nat} {w : World} (hO : RL B L v w M) (c : P2) (wd e : Int) (w1 : 1 ≤ wd) (w2 : wd ≤ 4096) (hc : Inb 16777216 c)
    (hBs : B ≤ w.heap.size) (hL : L.length ≤ 900000) : Calls Tryd.prog 38 #[v, .agg #[.int .i64 c.1, .int .i64 c.2], .int .i64 wd, .int .i64 e] w fun e' w' => LsC B (sng wd e L c) M w e' w' := by
  have HCI := Lib.hid hc
  obtain ⟨c0, c1⟩ := c
  dsimp only
  have HB1 : Hid (Below w.heap.size w (w.alloc (.cells #[.int .i64 c0, .int .i64 c1] 30))) := Lib.hid ((Below.refl _ _).alloc (Nat.le_refl _) _)
  have HK1 : Hid (Blk (w.alloc (.cells #[.int .i64 c0, .int .i64 c1] 30)) w.heap.size 30 #[.int .i64 c0, .int .i64 c1]) := Lib.hid (Blk.new _ _ _)
  have HO := Lib.hid hO
  have HBS := Lib.hid hBs
  have HLn : Hid (L.length ≤ 1000000) := Lib.hid (by omega)
  clear hO hBs hL hc
  unfold LsC
  by_cases h1 : e = 1
  · have h1' : (e == 1) = true := by simpa using h1
    have HS : Hid (sng wd e L (c0, c1) = put L (crc wd (c0, c1))) := Lib.hid (by unfold sng; rw [if_pos h1])
    clear h1
    go_enter Tryd.func38, Tryd.ntmps38
    go_wp2_with fail
    refine (rcircle_any (c0, c1) wd _ w1 w2 HCI.out).mono ?_
    rintro e' w9 ⟨v9, rfl, hown, hbq⟩
    obtain ⟨p, cap, cs, rfl, hp, hpr, hpb⟩ := own_pts hown (by rw [crc_len]; omega)
    have HB9 : Hid (Below w.heap.size w w9) := Lib.hid (HB1.out.trans (hbq.mono HB1.out.size))
    have HP := Lib.hid hp
    have HPR := Lib.hid hpr
    have HPB := Lib.hid hpb
    clear hown hp hpr hpb hbq
    go_wp2_with fail
    refine (rputP_any HO.out p cap (crc wd (c0, c1)) _ HB9.out HPR.out HPB.out (Nat.le_trans HB1.out.size HP.out) HBS.out (by rw [crc_len]; omega) (by rw [crc_len]; omega) (crc_in w1 w2 HCI.out) HLn.out).mono ?_
    rintro e' w' ⟨v', rfl, hout⟩
    have HOUT := Lib.hid hout
    clear hout
    go_wp2_with fail
    go_ret
    exact ⟨v', rfl, by rw [HS.out]; exact HOUT.out⟩
  have h1' : (e == 1) = false := by simpa using h1
  by_cases h2 : e = 2
  rotate_left
  · have h2' : (e == 2) = false := by simpa using h2
    have HS : Hid (sng wd e L (c0, c1) = L) := Lib.hid (by unfold sng; rw [if_neg h1, if_neg h2])
    have HOUT : Hid (Out (RL B L v) M w (w.alloc (.cells #[.int .i64 c0, .int .i64 c1] 30))) := Lib.hid ⟨M, HO.out.later HB1.out, tch_of_below HB1.out, fun k hk => Or.inl hk⟩
    clear h1 h2
    go_enter Tryd.func38, Tryd.ntmps38
    go_wp2_with fail
    go_ret
    exact ⟨v, rfl, by rw [HS.out]; exact HOUT.out⟩
  have h2' : (e == 2) = true := by simpa using h2
  obtain ⟨r, hr⟩ : ∃ r, dvr wd 2 = r := ⟨_, rfl⟩
  have hrb := half_in w1 w2
  rw [hr] at hrb
  obtain ⟨hr0, hr1⟩ := hrb
  have HS : Hid (sng wd e L (c0, c1) = put L [(c0 - r, c1 - r), (c0 + r, c1 - r), (c0 + r, c1 + r), (c0 - r, c1 + r)]) := Lib.hid (by unfold sng; rw [if_neg h1, if_pos h2, hr]; rfl)
  have HIN : Hid (AllB 33554432 [(c0 - r, c1 - r), (c0 + r, c1 - r), (c0 + r, c1 + r), (c0 - r, c1 + r)]) := Lib.hid (sngB_in HCI.out hr0 hr1)
  have HCD := Lib.hid (fun W => Ref01.div_is wd 2 r hr.symm (by omega) (by omega) (by omega) (by omega) W)
  have hci := HCI.out
  unfold Inb at hci
  dsimp only at hci
  have k1 : IntKind.i64.wrap (c0 - r) = c0 - r := i64w (by omega) (by omega)
  have k2 : IntKind.i64.wrap (c0 + r) = c0 + r := i64w (by omega) (by omega)
  have k3 : IntKind.i64.wrap (c1 - r) = c1 - r := i64w (by omega) (by omega)
  have k4 : IntKind.i64.wrap (c1 + r) = c1 + r := i64w (by omega) (by omega)
  clear h1 h2 hr hci hr0 hr1
  go_enter Tryd.func38, Tryd.ntmps38
  go_wp2_with fail
  refine (HCD.out _).mono ?_
  rintro e' w9 ⟨rfl, n9, h9⟩
  have HB2 : Hid (Below w.heap.size w w9) := Lib.hid (by rw [h9]; exact drew_below HB1.out)
  have HK2 : Hid (Blk w9 w.heap.size 30 #[.int .i64 c0, .int .i64 c1]) := Lib.hid (by rw [h9]; exact HK1.out)
  obtain ⟨z0, z1, zf⟩ := blk2 HK2.out
  clear HCD h9 HB1 HK1
  go_wp2_with fail
  refine (rput_any HO.out _ 4 [(c0 - r, c1 - r), (c0 + r, c1 - r), (c0 + r, c1 + r), (c0 - r, c1 + r)] _ (HB2.out.alloc HB2.out.size _) (Blk.new _ _ _) HB2.out.size HBS.out (show 3 ≤ 4 by omega) (show 4 ≤ 16 by omega) HIN.out HLn.out).mono ?_
  rintro e' w' ⟨v', rfl, hout⟩
  have HOUT := Lib.hid hout
  clear hout z0 z1 zf k1 k2 k3 k4
  go_wp2_with fail
  go_ret
  exact ⟨v', rfl, by rw [HS.out]; exact HOUT.out⟩
end Go.Proofs.YtflopcogalknhaaDoor.Str
