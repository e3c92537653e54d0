/-
  Layer 21: single points and ends of a stroke.
-/
import Derived.Test.YtflopcogalknhaaDoorKStrCo
set_option linter.unusedVariables false
set_option linter.unusedSimpArgs false
namespace Go.Proofs.YtflopcogalknhaaDoor.Str
open Go.RowKit Go.Proofs.YtflopcogalknhaaDoor Go.Proofs.YtflopcogalknhaaDoor.NumPure

set_option maxRecDepth 100000 in
set_option maxHeartbeats 8000000 in
theorem dot_any {wd j e : Int} {g B : Nat} {L : List (List P2)} {M : List Nat} {w : World} (hO : OL wd j e B g L w M) (c : P2) (w1 : 1 ≤ wd) (w2 : wd ≤ 4096) (hc : Inb 16777216 c) (hT : Num.Tab w) (hTB : 0 < B)
    (hBs : B ≤ w.heap.size) (hL : L.length ≤ 900000) (hG : GL L) : Calls Tryd.prog 32 #[.pointer (some ⟨g, 0, none⟩), .agg #[.int .i64 c.1, .int .i64 c.2]] w fun e' w' => e' = .returned (.tuple #[]) ∧ Out (OL wd j e B g (sng wd e L c)) M w w' := by
  have HCI := Lib.hid hc
  obtain ⟨c0, c1⟩ := c
  dsimp only
  have HB0 := Lib.hid ((Bn.nil w).push _ rfl 30 #[.int .i64 c0, .int .i64 c1])
  obtain ⟨W1, hW1⟩ : ∃ W, w.alloc (.cells #[.int .i64 c0, .int .i64 c1] 30) = W := ⟨_, rfl⟩
  rw [hW1] at HB0
  obtain ⟨g3, hg3⟩ : ∃ g, w.heap.size = g := ⟨_, rfl⟩
  have HG3 : Hid (w.heap.size ≤ g3) := Lib.hid (by omega)
  have HM := Lib.hid hO.size
  have HLO := Lib.hid hO.lows
  have HO1 := Lib.hid (hO.later HB0.out.b)
  rw [hg3] at HB0
  have HNM : Hid (g3 ∉ M) := Lib.hid fun h => by have := HM.out _ h; have := HG3.out; omega
  have SSX : Hid (∀ W, Tch M W1 W → W.cell? ⟨g3, 0, none⟩ = some (.int .i64 c0) ∧ W.cell? ⟨g3, 1, none⟩ = some (.int .i64 c1)) := Lib.hid fun W ht => by
    have h := ht.blk (HB0.out.get 0 rfl) HNM.out
    exact ⟨h.cell 0, h.cell 1⟩
  have HTb : Hid (∀ W, Tch M W1 W → Num.Tab W) := Lib.hid fun W ht => tab_tch (tab_below hT HB0.out.b) ht (fun h => by have := HLO.out _ h; omega)
  have HTW : Hid (Tch M w W1) := Lib.hid (tch_of_below HB0.out.b)
  have HBS : Hid (B ≤ W1.heap.size) := Lib.hid (Nat.le_trans hBs HB0.out.b.size)
  have HOc := HO1
  have HTc := Lib.hid (Tch.refl M W1)
  have HMc : Hid (∀ k ∈ M, k ∈ M ∨ W1.heap.size ≤ k) := Lib.hid fun k hk => Or.inl hk
  have HLn : Hid (L.length ≤ 1000000) := Lib.hid (by omega)
  have HGn := Lib.hid hG
  clear hO hT hBs hG hc
  obtain ⟨o0, _, o2⟩ := HO1.out.cells
  by_cases h1 : e = 1
  · subst h1
    have HS : Hid (sng wd 1 L (c0, c1) = put L (crc wd (c0, c1))) := Lib.hid (by unfold sng; rw [if_pos rfl])
    clear o0
    go_enter Tryd.func32, Tryd.ntmps32
    go_wp2_with fail
    clear o2 hW1 hg3
    have HTq := Lib.hid HTc.out.drew
    have HOq := Lib.hid (HOc.out.later (Below.refl _ _).drew)
    have HK := And.intro ((SSX.out _ HTq.out).1) (And.intro ((SSX.out _ HTq.out).2) (HOq.out.cells.1))
    go_region_held3 (fun W => W.cell? ⟨g3, 0, none⟩ = some (.int .i64 c0) ∧ W.cell? ⟨g3, 1, none⟩ = some (.int .i64 c1) ∧ W.cell? ⟨g, 0, none⟩ = some (.int .i64 wd))
      (first | exact HK | go_keep)
      (first
        | (go_at_call 51; refine (circle_any (c0, c1) wd _ w1 w2 HCI.out (HTb.out _ HTq.out)).mono ?_; rintro e' w' ⟨p, rfl, hp, hpg, hbq⟩; have HP := Lib.hid hp; have HPG := Lib.hid hpg; have HBQ := Lib.hid hbq; have HTq2 := Lib.hid (HTq.out.below hbq); have HOq2 := Lib.hid (HOq.out.later hbq); clear HK; have HK := (And.intro ((SSX.out _ HTq2.out).1) (And.intro ((SSX.out _ HTq2.out).2) (HOq2.out.cells.1)) : w'.cell? ⟨g3, 0, none⟩ = some (.int .i64 c0) ∧ w'.cell? ⟨g3, 1, none⟩ = some (.int .i64 c1) ∧ w'.cell? ⟨g, 0, none⟩ = some (.int .i64 wd)); clear hp hpg hbq)
        | (go_at_call 33; refine (add_any HOq.out _ _ (crc wd (c0, c1)) _ HBQ.out HP.out HPG.out (Nat.le_trans HBS.out HTq.out.size) (by rw [crc_len]; omega) (by rw [crc_len]; omega) (crc_in w1 w2 HCI.out) HLn.out HGn.out).mono ?_; rintro e' w' ⟨rfl, hout⟩; have HOUT := Lib.hid (out_step HTq.out HMc.out hout); clear HK; have HK := (And.intro ((SSX.out _ HOUT.out.choose_spec.2.1).1) (And.intro ((SSX.out _ HOUT.out.choose_spec.2.1).2) (HOUT.out.choose_spec.1.cells.1)) : w'.cell? ⟨g3, 0, none⟩ = some (.int .i64 c0) ∧ w'.cell? ⟨g3, 1, none⟩ = some (.int .i64 c1) ∧ w'.cell? ⟨g, 0, none⟩ = some (.int .i64 wd)); clear hout))
    have HFIN := Lib.hid (out_step HTW.out (fun k hk => Or.inl hk) HOUT.out)
    clear HK
    go_wp2_with fail
    go_end0
    exact ⟨rfl, by rw [HS.out]; exact HFIN.out⟩
  have h1' : (e == 1) = false := by simpa using h1
  by_cases h2 : e = 2
  · have h2' : (e == 2) = true := by simpa using h2
    obtain ⟨r, hr⟩ : ∃ r, dvr wd 2 = r := ⟨_, rfl⟩
    have hrb := half_in w1 w2
    rw [hr] at hrb
    obtain ⟨hr0, hr1⟩ := hrb
    have CD := fun W => Num.div_is wd 2 r hr.symm (by omega) (by omega) (by omega) (by omega) W
    have HCD := Lib.hid CD
    obtain ⟨nr, hnr⟩ : ∃ z, -r = z := ⟨_, rfl⟩
    have HPO : Hid ([pl (c0, c1) (nr, nr), pl (c0, c1) (r, nr), pl (c0, c1) (r, r), pl (c0, c1) (nr, r)] = sngB r (c0, c1)) := Lib.hid (by
      unfold pl sngB
      simp only [← hnr, ← Int.sub_eq_add_neg])
    have HS : Hid (sng wd e L (c0, c1) = put L (sngB r (c0, c1))) := Lib.hid (by unfold sng; rw [if_neg h1, if_pos h2, hr])
    have HRB := Lib.hid (show 0 ≤ r ∧ r ≤ 2048 from ⟨hr0, hr1⟩)
    have K1 : Hid (IntKind.i64.wrap (-r) = nr) := Lib.hid (by rw [hnr]; exact i64w (by omega) (by omega))
    have hrr : Inb 1000000000000 (r, r) := ⟨⟨by dsimp only; omega, by dsimp only; omega⟩, by dsimp only; omega, by dsimp only; omega⟩
    have hnn : Inb 1000000000000 (nr, nr) := ⟨⟨by dsimp only; omega, by dsimp only; omega⟩, by dsimp only; omega, by dsimp only; omega⟩
    have HCB : Hid (Inb 1000000000000 (c0, c1)) := Lib.hid (HCI.out.mono (by omega))
    have V1 : Hid (Inb 1000000000000 (nr, nr)) := Lib.hid hnn
    have V2 : Hid (Inb 1000000000000 (r, nr)) := Lib.hid ⟨hrr.1, hnn.2⟩
    have V3 : Hid (Inb 1000000000000 (r, r)) := Lib.hid hrr
    have V4 : Hid (Inb 1000000000000 (nr, r)) := Lib.hid ⟨hnn.1, hrr.2⟩
    clear hr hnr hrr hnn CD
    go_enter Tryd.func32, Tryd.ntmps32
    go_wp2_with fail
    refine (HCD.out _).mono ?_
    rintro e9 w9 ⟨rfl, rfl⟩
    clear HCD o0 o2 hW1 hg3 h1' h2' h2 h1
    have k1 := K1.out
    go_wp2_with fail
    have HTq := Lib.hid HTc.out.drew
    have HOq := Lib.hid (HOc.out.later (Below.refl _ _).drew)
    have HK := SSX.out _ HTq.out
    go_region_held3 (fun W => W.cell? ⟨g3, 0, none⟩ = some (.int .i64 c0) ∧ W.cell? ⟨g3, 1, none⟩ = some (.int .i64 c1))
      (first | exact HK | go_keep)
      (first
        | (go_at_call_of 34 (Value.agg #[Value.int IntKind.i64 nr, Value.int IntKind.i64 nr]); refine (plus_any (c0, c1) (nr, nr) _ HCB.out V1.out).mono ?_; rintro e' w' ⟨rfl, hbq⟩; have HTq := Lib.hid (HTq.out.below hbq); have HOq := Lib.hid (HOq.out.later hbq); have HK := SSX.out _ HTq.out; clear hbq)
        | (go_at_call_of 34 (Value.agg #[Value.int IntKind.i64 r, Value.int IntKind.i64 nr]); refine (plus_any (c0, c1) (r, nr) _ HCB.out V2.out).mono ?_; rintro e' w' ⟨rfl, hbq⟩; have HTq := Lib.hid (HTq.out.below hbq); have HOq := Lib.hid (HOq.out.later hbq); have HK := SSX.out _ HTq.out; clear hbq)
        | (go_at_call_of 34 (Value.agg #[Value.int IntKind.i64 r, Value.int IntKind.i64 r]); refine (plus_any (c0, c1) (r, r) _ HCB.out V3.out).mono ?_; rintro e' w' ⟨rfl, hbq⟩; have HTq := Lib.hid (HTq.out.below hbq); have HOq := Lib.hid (HOq.out.later hbq); have HK := SSX.out _ HTq.out; clear hbq)
        | (go_at_call_of 34 (Value.agg #[Value.int IntKind.i64 nr, Value.int IntKind.i64 r]); refine (plus_any (c0, c1) (nr, r) _ HCB.out V4.out).mono ?_; rintro e' w' ⟨rfl, hbq⟩; have HTq := Lib.hid (HTq.out.below hbq); have HOq := Lib.hid (HOq.out.later hbq); have HK := SSX.out _ HTq.out; clear hbq)
        | (go_at_call 33; refine (add_any HOq.out _ 4 ([pl (c0, c1) (nr, nr), pl (c0, c1) (r, nr), pl (c0, c1) (r, r), pl (c0, c1) (nr, r)]) _ ((Below.refl _ _).alloc (Nat.le_refl _) _) (Blk.new _ _ _) (Nat.le_refl _) (Nat.le_trans HBS.out HTq.out.size) (show 3 ≤ 4 by omega) (show 4 ≤ 16 by omega) (by rw [HPO.out]; exact sngB_in HCI.out HRB.out.1 HRB.out.2) HLn.out HGn.out).mono ?_; rintro e' w' ⟨rfl, hout⟩; have HOUT := Lib.hid (out_step HTq.out HMc.out hout); have HK := SSX.out _ HOUT.out.choose_spec.2.1; clear hout))
    have HFIN := Lib.hid (out_step HTW.out (fun k hk => Or.inl hk) HOUT.out)
    clear HK k1
    go_wp2_with fail
    go_end0
    exact ⟨rfl, by rw [HS.out, ← HPO.out]; exact HFIN.out⟩
  · have h2' : (e == 2) = false := by simpa using h2
    have HS : Hid (sng wd e L (c0, c1) = L) := Lib.hid (by unfold sng; rw [if_neg h1, if_neg h2])
    have HFIN := Lib.hid (out_step HTW.out (fun k hk => Or.inl hk) (⟨M, HOc.out, HTc.out, HMc.out⟩ : Out (OL wd j e B g L) M W1 W1))
    clear h1 h2 o0
    go_enter Tryd.func32, Tryd.ntmps32
    go_wp2_with fail
    go_end0
    exact ⟨rfl, by rw [HS.out]; exact HFIN.out⟩
end Go.Proofs.YtflopcogalknhaaDoor.Str
