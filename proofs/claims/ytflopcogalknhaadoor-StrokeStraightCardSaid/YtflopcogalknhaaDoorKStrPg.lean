/-
  Layer 21: the stroke of a polygon.
-/
import Derived.Test.YtflopcogalknhaaDoorKStrPl
set_option linter.unusedVariables false
set_option linter.unusedSimpArgs false
namespace Go.Proofs.YtflopcogalknhaaDoor.Str
open Go.RowKit Go.Proofs.YtflopcogalknhaaDoor Go.Proofs.YtflopcogalknhaaDoor.NumPure

theorem nx_add (l : List P2) (i : Nat) : nx l (i + l.length) = nx l i := by unfold nx; rw [Nat.add_mod_right]
set_option maxRecDepth 100000 in
set_option maxHeartbeats 2000000 in
theorem polygon_any {wd j e : Int} {g B : Nat} {L : List (List P2)} {M : List Nat} {w : World} (hO : OL wd j e B g L w M) (A : Option Addr) (l : List P2) (c : Nat) (o : Bool) (h : PtR w A l) (hl : l.length ≤ 65536) (hin : AllB 16777216 l) (w1 : 1 ≤ wd) (w2 : wd ≤ 4096) (hT : Num.Tab w) (hTB : 0 < B)
    (hBs : B ≤ w.heap.size) (hL : L.length ≤ 65536) (hG : GL L) : Calls Tryd.prog 21 #[.pointer (some ⟨g, 0, none⟩), .slice A l.length c, .bool o] w fun e' w' => e' = .returned (.tuple #[]) ∧ Out (OL wd j e B g (one wd j e o L (red l o))) M w w' := by
  obtain ⟨r, hr⟩ : ∃ r, red l o = r := ⟨_, rfl⟩
  obtain ⟨N, hN⟩ : ∃ N, r.length = N := ⟨_, rfl⟩
  have C1 := reduced_any A l c o w h (by omega)
  have hri := red_in hin o
  have hrl := red_len l o
  rw [hr] at C1 hri hrl
  rw [hr]
  unfold OwC at C1
  rw [hN] at C1 hrl
  have HN := Lib.hid hN
  have HRI := Lib.hid hri
  have HC1 := Lib.hid C1
  have HO0 := Lib.hid hO
  have HT0 := Lib.hid hT
  have HBS := Lib.hid hBs
  have HLn := Lib.hid hL
  have HGn := Lib.hid hG
  have HNl : Hid (N ≤ 65536) := Lib.hid (by omega)
  clear hO h hin hT hBs hL hG hr hN C1 hri hrl hl
  go_enter Tryd.func21, Tryd.ntmps21
  go_wp2_with fail
  refine HC1.out.mono ?_
  rintro e' wa ⟨va, rfl, howna, hba⟩
  obtain ⟨Aa, ca, rfl, hca, hra⟩ := own_open howna
  have HRA : Hid (PtR wa Aa r) := Lib.hid (by unfold PtR; rw [HN.out]; exact hra)
  have HOa := Lib.hid (HO0.out.later hba)
  have HBa := Lib.hid hba
  have C2 := edgesOf_any Aa r ca o wd wa HRA.out (by have := HN.out; have := HNl.out; omega) HRI.out w1 w2
  unfold EsC at C2
  rw [HN.out] at C2
  have HC2 := Lib.hid C2
  obtain ⟨o0, o1, o2⟩ := HOa.out.cells
  clear C2 howna hra hba HC1 o1 o2
  go_wp2_with fail
  refine HC2.out.mono ?_
  rintro e' wb ⟨vb, rfl, hownb, hbb⟩
  have HOb := Lib.hid (HOa.out.later hbb)
  have HBw : Hid (Below w.heap.size w wb) := Lib.hid (HBa.out.trans (hbb.mono HBa.out.size))
  have HRB := Lib.hid (HRA.out.below hbb)
  have HTw : Hid (Num.Tab wb) := Lib.hid (tab_below HT0.out HBw.out)
  have HBb : Hid (B ≤ wb.heap.size) := Lib.hid (Nat.le_trans HBS.out HBw.out.size)
  have HTW : Hid (Tch M w wb) := Lib.hid (tch_of_below HBw.out)
  have HOW := Lib.hid hownb
  have HSZ : Hid (w.heap.size ≤ wa.heap.size) := Lib.hid HBa.out.size
  clear hbb o0 HC2 HOa HRA hownb
  obtain ⟨n, hn⟩ : ∃ n, nE o N = n := ⟨_, rfl⟩
  rw [hn] at HOW
  by_cases hn0 : n = 0
  · subst hn0
    have hN1 : N ≤ 1 := by
      unfold nE nEdg at hn
      split at hn
      · assumption
      · split at hn <;> omega
    obtain ⟨Ab, cb, rfl, _, _⟩ := own_open HOW.out
    by_cases hN2 : N = 1
    · subst hN2
      have hk0 : 0 < r.length := by have := HN.out; omega
      obtain ⟨ad, rfl, _⟩ := HRB.out.addr hk0
      obtain ⟨b0, b1⟩ := pt_cells HRB.out 0 hk0
      have ez : ad.add (0 * 2) = ad := by cases ad; rfl
      rw [ez, ← nx_at hk0] at b0 b1
      have hp := nx_in HRI.out (by omega) 0
      have HD : Hid (∀ W, Below wb.heap.size wb W → Calls Tryd.prog 32 #[.pointer (some ⟨g, 0, none⟩), .agg #[.int .i64 (nx r 0).1, .int .i64 (nx r 0).2]] W fun e' w' => e' = .returned (.tuple #[]) ∧ Out (OL wd j e B g (sng wd e L (nx r 0))) M W w') := Lib.hid fun W hW => dot_any (HOb.out.later hW) (nx r 0) w1 w2 hp (tab_below HTw.out hW) hTB (Nat.le_trans HBb.out hW.size) (by have := HLn.out; omega) HGn.out
      have HS : Hid (one wd j e o L r = sng wd e L (nx r 0)) := Lib.hid (by unfold one; rw [if_neg (by have := HN.out; omega), if_pos HN.out])
      obtain ⟨⟨p0, p1⟩, hp⟩ : ∃ p, nx r 0 = p := ⟨_, rfl⟩
      rw [hp] at HD HS b0 b1
      dsimp only at HD b0 b1
      clear hp ez hn
      go_wp2_with fail
      refine (HD.out _ (Below.refl _ _)).mono ?_
      rintro e' wc ⟨rfl, hout⟩
      have HFIN := Lib.hid (out_step HTW.out (fun k hk => Or.inl hk) hout)
      clear b0 b1 HD hout
      go_wp2_with fail
      refine bodyPost_ret (results_none rfl _ _ _) rfl ?_
      exact ⟨rfl, by rw [HS.out]; exact HFIN.out⟩
    · have hN3 : N = 0 := by omega
      subst hN3
      have HS : Hid (one wd j e o L r = L) := Lib.hid (by unfold one; rw [if_pos HN.out])
      have HFIN : Hid (Out (OL wd j e B g L) M w wb) := Lib.hid ⟨M, HOb.out, HTW.out, fun k hk => Or.inl hk⟩
      clear hn
      go_wp2_with fail
      refine bodyPost_ret (results_none rfl _ _ _) rfl ?_
      exact ⟨rfl, by rw [HS.out]; exact HFIN.out⟩
  have hNn : 2 ≤ N ∧ n = nEdg o N := by
    unfold nE at hn
    split at hn
    · omega
    · exact ⟨by omega, hn.symm⟩
  obtain ⟨hN2, hnn⟩ := hNn
  have hnN := nEdg_le o N
  rw [← hnn] at hnN
  obtain ⟨ge, cb, rfl, hge, hed⟩ := EdB.of_own HOW.out (by omega)
  have HED := Lib.hid hed
  have HLT : Hid (w.heap.size ≤ ge ∧ ge < wb.heap.size) := Lib.hid ⟨Nat.le_trans HSZ.out hge, hed.lt⟩
  have HGM : Hid (ge ∉ M) := Lib.hid fun h => by have := HO0.out.size _ h; have := HLT.out; omega
  have HLO := Lib.hid HO0.out.lows
  have HTb : Hid (∀ Mc W, Tch M wb W → OL wd j e B g Mc W M → Num.Tab W) := Lib.hid fun Mc W ht _ => tab_tch HTw.out ht (fun h => by have := HLO.out _ h; omega)
  have HNN := Lib.hid hnn
  have k0 : ((n : Int) == 0) = false := beq_eq_false_iff_ne.2 (by omega)
  have HS0 : Hid (Out (OL wd j e B g (edgL wd r L 0)) M wb wb) := Lib.hid ⟨M, HOb.out, Tch.refl _ _, fun k hk => Or.inl hk⟩
  clear HOW hed hge HT0 HBa HSZ hnn hn HO0
  go_wp2_with fail
  go_loopw [34] (fun i wr => ∃ k : Nat, i = .int .i64 (k : Int) ∧ k ≤ n ∧ Out (OL wd j e B g (edgL wd r L k)) M wb wr) (fun i _ => (n - intOf i).toNat)
  case atStart => exact ⟨0, rfl, by omega, HS0.out⟩
  case round =>
    obtain ⟨k, rfl, hk, hr⟩ := hrel
    obtain ⟨Mc, ho, ht, hm⟩ := hr
    have HOk := Lib.hid ho
    have HTk := Lib.hid ht
    have HMk := Lib.hid hm
    clear ho ht hm
    by_cases hlt : k < n
    · have k2 : (k : Int) < (n : Int) := by omega
      have k3 : (0 : Int) ≤ (k : Int) := by omega
      have HU := Lib.hid (nx_in HRI.out (by omega) k)
      have HV := Lib.hid (nx_in HRI.out (by omega) (k + 1))
      have HNm := Lib.hid (nrm_in w1 w2 HU.out HV.out).1
      have HEk := Lib.hid ((HED.out.tch HTk.out HGM.out).range hlt)
      have HNX : Hid (edgL wd r L (k + 1) = put (edgL wd r L k) (quad (nx r k) (nx r (k + 1)) (nrm wd (nx r k) (nx r (k + 1))))) := Lib.hid rfl
      obtain ⟨⟨a0, a1⟩, ha⟩ : ∃ p, nx r k = p := ⟨_, rfl⟩
      obtain ⟨⟨b0, b1⟩, hb⟩ : ∃ p, nx r (k + 1) = p := ⟨_, rfl⟩
      rw [ha, hb] at HEk HNX HNm
      rw [ha] at HU
      rw [hb] at HV
      obtain ⟨⟨m0, m1⟩, hm⟩ : ∃ p, nrm wd (a0, a1) (b0, b1) = p := ⟨_, rfl⟩
      rw [hm] at HNX HNm
      obtain ⟨e4, e5, e8, e9, hE⟩ : ∃ e4 e5 e8 e9, edc wd (a0, a1) (b0, b1) = #[.int .i64 a0, .int .i64 a1, .int .i64 b0, .int .i64 b1, .int .i64 e4, .int .i64 e5, .int .i64 m0, .int .i64 m1, .int .i64 e8, .int .i64 e9] := ⟨_, _, _, _, by unfold edc; rw [hm]⟩
      rw [hE] at HEk
      obtain ⟨EE, hEE⟩ : ∃ E : Array Value, #[.int .i64 a0, .int .i64 a1, .int .i64 b0, .int .i64 b1, .int .i64 e4, .int .i64 e5, .int .i64 m0, .int .i64 m1, .int .i64 e8, .int .i64 e9] = E := ⟨_, rfl⟩
      rw [hEE] at HEk
      have HEE := Lib.hid hEE
      have HEL : Hid ((Tryd.prog.info? 65).map (·.size) = some EE.toList.length) := Lib.hid (infoE EE (by rw [← hEE]; rfl))
      have HE3 : Hid (EE.all (·.oneCell') = true) := Lib.hid (by rw [← hEE]; simp [Value.oneCell'])
      have HE4 : Hid (edz.size = EE.size) := Lib.hid (by rw [← hEE]; rfl)
      clear ha hb hm hE hEE
      go_wp2_with (first
        | (refine wpList_load_mid rfl _ _ rfl ge (k * 10) rfl EE.toList _ HEk.out Tryd.underlying65 rfl HEL.out ?_)
        | (refine wpList_allocC runE rfl rfl ?_)
        | (refine wpList_store_row rfl 65 _ _ rfl wr.heap.size EE rfl rfl 65 edz (Blk.new _ _ _) HEL.out HE4.out HE3.out ?_))
      have hb9 : Below wr.heap.size wr ((wr.alloc (.cells edz 65)).setRow wr.heap.size EE) := below_setRow ((Below.refl _ _).alloc (Nat.le_refl _) _) (Nat.le_refl _) _
      have hk9 : Blk ((wr.alloc (.cells edz 65)).setRow wr.heap.size EE) wr.heap.size 65 EE := Blk.row (Blk.new _ _ _) _
      obtain ⟨W9, hW9⟩ : ∃ W, (wr.alloc (.cells edz 65)).setRow wr.heap.size EE = W := ⟨_, rfl⟩
      have HO9 := Lib.hid (HOk.out.later (by rw [hW9] at hb9; exact hb9))
      rw [hW9] at hb9 hk9
      rw [hW9]
      have HTC : Hid (Tch Mc wr W9) := Lib.hid (tch_of_below hb9)
      have HG9 : Hid (wr.heap.size ∉ Mc) := Lib.hid fun h => by have := HOk.out.size _ h; omega
      obtain ⟨g9, hg9⟩ : ∃ x, wr.heap.size = x := ⟨_, rfl⟩
      rw [hg9] at hk9 HG9
      rw [hg9]
      have HB9 : Hid (B ≤ W9.heap.size) := Lib.hid (Nat.le_trans HBb.out (Nat.le_trans HTk.out.size hb9.size))
      have SSX : Hid (∀ W, Tch Mc W9 W → W.cell? ⟨g9, 0, none⟩ = some (.int .i64 a0) ∧ W.cell? ⟨g9, 1, none⟩ = some (.int .i64 a1) ∧ W.cell? ⟨g9, 2, none⟩ = some (.int .i64 b0) ∧ W.cell? ⟨g9, 3, none⟩ = some (.int .i64 b1) ∧ W.cell? ⟨g9, 6, none⟩ = some (.int .i64 m0) ∧ W.cell? ⟨g9, 7, none⟩ = some (.int .i64 m1)) := Lib.hid fun W ht => by
        have h9 := ht.blk hk9 HG9.out
        rw [← HEE.out] at h9
        exact ⟨h9.cell 0, h9.cell 1, h9.cell 2, h9.cell 3, h9.cell 6, h9.cell 7⟩
      obtain ⟨E1, hE1⟩ : ∃ E, edgL wd r L k = E := ⟨_, rfl⟩
      have hbd := edgL_bd wd r L k
      rw [hE1] at hbd HO9 HNX
      have HOUT0 : Hid (Tch M wb W9) := Lib.hid (HTk.out.below hb9)
      have HMW : Hid (∀ k ∈ Mc, k ∈ M ∨ wb.heap.size ≤ k) := HMk
      clear HMk hW9 hb9 hk9 hg9 HEk HEL HE3 HE4 HEE HOk HTC hE1
      have HLq := HLn
      clear HLn
      have HLn : Hid (E1.length ≤ 1000000) := Lib.hid (by have := HLq.out; have := HNl.out; omega)
      have HGq := HGn
      clear HGn
      have HGn : Hid (GL E1) := Lib.hid (hbd.2 HGq.out)
      have HQI : Hid (AllB 33554432 [pl (a0, a1) (m0, m1), pl (b0, b1) (m0, m1), mi (b0, b1) (m0, m1), mi (a0, a1) (m0, m1)]) := Lib.hid (quad_in HU.out HV.out HNm.out)
      have HAB : Hid (Inb 1000000000000 (a0, a1)) := Lib.hid (HU.out.mono (by omega))
      have HBB : Hid (Inb 1000000000000 (b0, b1)) := Lib.hid (HV.out.mono (by omega))
      have HMB : Hid (Inb 1000000000000 (m0, m1)) := Lib.hid (HNm.out.mono (by omega))
      have HOc := HO9
      have HTc := Lib.hid (Tch.refl Mc W9)
      have HMc : Hid (∀ k ∈ Mc, k ∈ Mc ∨ W9.heap.size ≤ k) := Lib.hid fun k hk => Or.inl hk
      clear hbd
      have HTq := Lib.hid HTc.out.drew
      have HOq := Lib.hid (HOc.out.later (Below.refl _ _).drew)
      have HK := SSX.out _ HTq.out
      go_region_held3 (fun W => W.cell? ⟨g9, 0, none⟩ = some (.int .i64 a0) ∧ W.cell? ⟨g9, 1, none⟩ = some (.int .i64 a1) ∧ W.cell? ⟨g9, 2, none⟩ = some (.int .i64 b0) ∧ W.cell? ⟨g9, 3, none⟩ = some (.int .i64 b1) ∧ W.cell? ⟨g9, 6, none⟩ = some (.int .i64 m0) ∧ W.cell? ⟨g9, 7, none⟩ = some (.int .i64 m1))
        (first | exact HK | go_keep)
        (first
          | (go_at_call_of 34 (Value.agg #[Value.int IntKind.i64 a0, Value.int IntKind.i64 a1]); refine (plus_any (a0, a1) (m0, m1) _ HAB.out HMB.out).mono ?_; rintro e' w' ⟨rfl, hbq⟩; have HTq := Lib.hid (HTq.out.below hbq); have HOq := Lib.hid (HOq.out.later hbq); have HK := SSX.out _ HTq.out; clear hbq)
          | (go_at_call_of 34 (Value.agg #[Value.int IntKind.i64 b0, Value.int IntKind.i64 b1]); refine (plus_any (b0, b1) (m0, m1) _ HBB.out HMB.out).mono ?_; rintro e' w' ⟨rfl, hbq⟩; have HTq := Lib.hid (HTq.out.below hbq); have HOq := Lib.hid (HOq.out.later hbq); have HK := SSX.out _ HTq.out; clear hbq)
          | (go_at_call_of 35 (Value.agg #[Value.int IntKind.i64 b0, Value.int IntKind.i64 b1]); refine (minus_any (b0, b1) (m0, m1) _ HBB.out HMB.out).mono ?_; rintro e' w' ⟨rfl, hbq⟩; have HTq := Lib.hid (HTq.out.below hbq); have HOq := Lib.hid (HOq.out.later hbq); have HK := SSX.out _ HTq.out; clear hbq)
          | (go_at_call_of 35 (Value.agg #[Value.int IntKind.i64 a0, Value.int IntKind.i64 a1]); refine (minus_any (a0, a1) (m0, m1) _ HAB.out HMB.out).mono ?_; rintro e' w' ⟨rfl, hbq⟩; have HTq := Lib.hid (HTq.out.below hbq); have HOq := Lib.hid (HOq.out.later hbq); have HK := SSX.out _ HTq.out; clear hbq)
          | (go_at_call 33; refine (add_any HOq.out _ 4 ([pl (a0, a1) (m0, m1), pl (b0, b1) (m0, m1), mi (b0, b1) (m0, m1), mi (a0, a1) (m0, m1)]) _ ((Below.refl _ _).alloc (Nat.le_refl _) _) (Blk.new _ _ _) (Nat.le_refl _) (Nat.le_trans HB9.out HTq.out.size) (show 3 ≤ 4 by omega) (show 4 ≤ 16 by omega) (HQI.out) HLn.out HGn.out).mono ?_; rintro e' w' ⟨rfl, hout⟩; have HOUT := Lib.hid (out_step HTq.out HMc.out hout); have HK := SSX.out _ HOUT.out.choose_spec.2.1; clear hout))
      have HFIN : Hid (Out (OL wd j e B g (edgL wd r L (k + 1))) M wb _) := Lib.hid (out_step HOUT0.out HMW.out (by rw [HNX.out]; exact HOUT.out))
      clear HK
      have k4 : IntKind.i64.wrap ((k : Int) + 1) = (k : Int) + 1 := i64w (by have := HNl.out; omega) (by have := HNl.out; omega)
      go_wp2_with fail
      go_roundw
      case rel => exact ⟨k + 1, by go_num, by omega, HFIN.out⟩
      case measure => first | (simp [intOf]; done) | (simp [intOf]; omega)
    · have k2 : ¬ (k : Int) < (n : Int) := by omega
      obtain rfl : k = n := by omega
      have h1 := edgL_bd wd r L k
      obtain ⟨L2, hL2⟩ : ∃ E, edgL wd r L k = E := ⟨_, rfl⟩
      rw [hL2] at h1
      have HL2 := Lib.hid hL2
      rw [hL2] at HOk
      have HLn2 : Hid (L2.length ≤ 131072) := Lib.hid (by have := HLn.out; have := HNl.out; omega)
      have HGn2 : Hid (GL L2) := Lib.hid (h1.2 HGn.out)
      clear h1 hL2
      have hnn := HNN.out
      have HGc : Hid (ge ∉ Mc) := Lib.hid fun h => by
        rcases HMk.out _ h with h | h
        · exact HGM.out h
        · have := HLT.out; omega
      have HEc := Lib.hid (HED.out.tch HTk.out HGM.out)
      have HOUT0 : Hid (Tch M wb wr) := HTk
      have HTab : Hid (∀ W, Below wr.heap.size wr W → Num.Tab W) := Lib.hid fun W hW => tab_tch HTw.out (HTk.out.below hW) (fun h => by have := HLO.out _ h; omega)
      have HB9 : Hid (B ≤ wr.heap.size) := Lib.hid (Nat.le_trans HBb.out HTk.out.size)
      cases o
      · have hkN : k = N := by rw [hnn]; rfl
        obtain ⟨m, hm⟩ : ∃ m, m + 1 = k := ⟨k - 1, by omega⟩
        have e1 : nx r (m + 1) = nx r 0 := by unfold nx; rw [hm, hkN, HN.out, Nat.mod_self, Nat.zero_mod]
        have HC0 : Hid (crnL wd j false r L2 1 = crn wd j L2 (nx r m) (nx r 0) (nx r 1)) := Lib.hid (by
          rw [crnL, crnL, if_pos (show hasC false r.length 0 = true from rfl), HN.out, Nat.zero_add, ← hkN, ← hm, Nat.add_sub_cancel])
        have HONE : Hid (one wd j e false L r = crnL wd j false r L2 k) := Lib.hid (by
          unfold one
          rw [if_neg (by have := HN.out; omega), if_neg (by have := HN.out; omega), HN.out, ← hnn, HL2.out, hkN]
          rfl)
        have HHC : Hid (∀ i, 1 ≤ i → i < k → hasC false N i = true) := Lib.hid fun _ _ _ => rfl
        have k1 : IntKind.i64.wrap ((k : Int) - 1) = (m : Int) := by rw [← hm]; exact (i64w (by have := HNl.out; omega) (by have := HNl.out; omega)).trans (by omega)
        have k3 : (0 : Int) ≤ (m : Int) := by omega
        have k4 : (m : Int) < (k : Int) := by omega
        have k5 : (0 : Int) < (k : Int) := by omega
        have k6 : 0 < k := by omega
        have HCO : Hid (∀ W, Below wr.heap.size wr W → Calls Tryd.prog 36 #[.pointer (some ⟨g, 0, none⟩), .agg (edc wd (nx r m) (nx r (m + 1))), .agg (edc wd (nx r 0) (nx r 1))] W fun e' w' => e' = .returned (.tuple #[]) ∧ Out (OL wd j e B g (crnL wd j false r L2 1)) Mc W w') := Lib.hid fun W hW => by
          rw [HC0.out, e1]
          exact corner_any (HOk.out.later hW) _ _ _ w1 w2 (nx_in HRI.out (by omega) _) (nx_in HRI.out (by omega) _) (nx_in HRI.out (by omega) _) (HTab.out W hW) (Nat.le_trans HB9.out hW.size) (by have := HLn2.out; omega) HGn2.out
        have HLEN : Hid (k ≤ N) := Lib.hid (by omega)
        have HMK : Hid (m + 1 = k) := Lib.hid hm
        have HKP : Hid (0 < k) := Lib.hid k6
        clear hnn e1 hkN hm
        go_wp2_with fail
        refine wp_region_held_drew (S := fun W => Tch Mc wr W) (by kernel_rfl) (Tch.refl Mc wr).drew (fun hHeld => ?_)
        refine wpAnyH_take (i := 0) (oi := _) (v := .pointer (some ⟨g, 0, none⟩)) rfl (by kernel_rfl) (by kernel_rfl) (by kernel_rfl) (fun _ _ _ h => h) (Or.inl ⟨by rfl, fun W1 hS => by go_simp⟩) (by assumption) ?_
        go_simp
        refine wpAnyH_take (i := 1) (oi := _) (v := .slice (some ⟨ge, 0, none⟩) k cb) rfl (by kernel_rfl) (by kernel_rfl) (by kernel_rfl) (fun _ _ _ h => h) (Or.inl ⟨by rfl, fun W1 hS => by go_simp⟩) (by assumption) ?_
        go_simp
        refine wpAnyH_take (i := 2) (oi := _) (v := .slice (some ⟨ge, 0, none⟩) k cb) rfl (by kernel_rfl) (by kernel_rfl) (by kernel_rfl) (fun _ _ _ h => h) (Or.inl ⟨by rfl, fun W1 hS => by go_simp⟩) (by assumption) ?_
        go_simp
        refine wpAnyH_take (i := 3) (oi := _) (v := .int .i64 (k : Int)) rfl (by kernel_rfl) (by kernel_rfl) (by kernel_rfl) (fun _ _ _ h => h) (Or.inl ⟨by rfl, fun W1 hS => by go_simp⟩) (by assumption) ?_
        go_simp
        refine wpAnyH_take (i := 4) (oi := _) (v := .int .i64 (m : Int)) rfl (by kernel_rfl) (by kernel_rfl) (by kernel_rfl) (fun _ _ _ h => h) (Or.inl ⟨by rfl, fun W1 hS => by go_simp⟩) (by assumption) ?_
        go_simp
        refine wpAnyH_take (i := 5) (oi := _) (v := .pointer (some ⟨ge, m * 10, none⟩)) rfl (by kernel_rfl) (by kernel_rfl) (by kernel_rfl) (fun _ _ _ h => h) (Or.inl ⟨by rfl, fun W1 hS => by go_simp⟩) (by assumption) ?_
        go_simp
        refine wpAnyH_take (i := 6) (oi := _) (v := .agg (edc wd (nx r m) (nx r (m + 1)))) rfl (by kernel_rfl) (by kernel_rfl) (by kernel_rfl) (fun _ _ _ h => h) (yieldsIf_load_mid (by rfl) 65 _ rfl ge (m * 10) rfl (edc wd (nx r m) (nx r (m + 1))).toList _ (fun W hS => (HEc.out.tch hS HGc.out).range (by have := HMK.out; omega)) Tryd.underlying65 rfl (edc_len _ _ _)) (by assumption) ?_
        go_simp
        refine wpAnyH_take (i := 7) (oi := _) (v := .slice (some ⟨ge, 0, none⟩) k cb) rfl (by kernel_rfl) (by kernel_rfl) (by kernel_rfl) (fun _ _ _ h => h) (Or.inl ⟨by rfl, fun W1 hS => by go_simp⟩) (by assumption) ?_
        go_simp
        refine wpAnyH_take (i := 8) (oi := _) (v := .pointer (some ⟨ge, 0, none⟩)) rfl (by kernel_rfl) (by kernel_rfl) (by kernel_rfl) (fun _ _ _ h => h) (Or.inl ⟨by rfl, fun W1 hS => by go_simp⟩) (by assumption) ?_
        go_simp
        refine wpAnyH_take (i := 9) (oi := _) (v := .agg (edc wd (nx r 0) (nx r 1))) rfl (by kernel_rfl) (by kernel_rfl) (by kernel_rfl) (fun _ _ _ h => h) (yieldsIf_load_mid (by rfl) 65 _ rfl ge (0) rfl (edc wd (nx r 0) (nx r 1)).toList _ (fun W hS => (by have := (HEc.out.tch hS HGc.out).range (i := 0) (by omega); rwa [Nat.zero_mul] at this)) Tryd.underlying65 rfl (edc_len _ _ _)) (by assumption) ?_
        go_simp
        clear hHeld
        refine wpAnyH_ready (rs := [10]) (by kernel_rfl) (by simp) ?_
        refine AllReadyH.cons (o := _) rfl (fun K hK => ?_) AllReadyH.nil
        go_simp
        refine (HCO.out _ (Below.refl _ _).drew).mono ?_
        rintro e' wd2 ⟨rfl, hout⟩
        go_wp2_with fail
        have HOUT := Lib.hid (out_step (Tch.refl Mc wr).drew (fun k hk => Or.inl hk) hout)
        clear hout
        refine hK.out _ _ (HOUT.out.choose_spec.2.1) (fun hHeld => ?_)
        clear hK
        try simp only [Act.put, List.setIfInBounds_toArray, List.set_cons_zero, List.set_cons_succ]
        clear hHeld
        refine wpAnyH_done (by kernel_rfl) ?_ _
        have HS1 : Hid (Out (OL wd j e B g (crnL wd j false r L2 1)) M wb _) := Lib.hid (out_step HOUT0.out HMk.out HOUT.out)
        clear HCO HOUT HOk HTk HMk HGc HEc HOUT0 HTab HB9 k1 k3 k4 k5 HMK
        go_wp2_with fail
        go_loopw [10] (fun i wr => ∃ q : Nat, i = .int .i64 ((q : Int) + 1) ∧ q + 1 ≤ k ∧ Out (OL wd j e B g (crnL wd j false r L2 (q + 1))) M wb wr) (fun i _ => (k - intOf i).toNat)
        case atStart => exact ⟨0, rfl, by omega, HS1.out⟩
        case round =>
          clear HS1
          obtain ⟨m, rfl, hq, hr⟩ := hrel
          obtain ⟨Mc, ho, ht, hmm⟩ := hr
          have HOk := Lib.hid ho
          have HTk := Lib.hid ht
          have HMk := Lib.hid hmm
          clear ho ht hmm
          have HGc : Hid (ge ∉ Mc) := Lib.hid fun h => by
            rcases HMk.out _ h with h | h
            · exact HGM.out h
            · have := HLT.out; omega
          have HEc := Lib.hid (HED.out.tch HTk.out HGM.out)
          have HOUT0 : Hid (Tch M wb wr) := HTk
          have HTab : Hid (∀ W, Below wr.heap.size wr W → Num.Tab W) := Lib.hid fun W hW => tab_tch HTw.out (HTk.out.below hW) (fun h => by have := HLO.out _ h; omega)
          have HB9 : Hid (B ≤ wr.heap.size) := Lib.hid (Nat.le_trans HBb.out HTk.out.size)
          by_cases hlt : m + 1 < k
          · have k2 : (m : Int) + 1 < (k : Int) := by omega
            have k3 : (0 : Int) ≤ (m : Int) := by omega
            have k4 : (0 : Int) ≤ (m : Int) + 1 := by omega
            have k5 : (m : Int) < (k : Int) := by omega
            have k1 : IntKind.i64.wrap (m : Int) = (m : Int) := i64w (by have := HNl.out; omega) (by have := HNl.out; omega)
            have k7 : IntKind.i64.wrap ((m : Int) + 1 + 1) = (m : Int) + 1 + 1 := i64w (by have := HNl.out; omega) (by have := HNl.out; omega)
            have hbd := crnL_bd wd j false r L2 (m + 1)
            have HSX : Hid (crnL wd j false r L2 (m + 1 + 1) = crn wd j (crnL wd j false r L2 (m + 1)) (nx r m) (nx r (m + 1)) (nx r (m + 1 + 1))) := Lib.hid (by
              have e1 : nx r (m + 1 + r.length - 1) = nx r m := by rw [show m + 1 + r.length - 1 = m + r.length by omega, nx_add]
              rw [crnL, if_pos (by rw [HN.out]; exact HHC.out _ (by omega) (by omega)), e1])
            have HCO : Hid (∀ W, Below wr.heap.size wr W → Calls Tryd.prog 36 #[.pointer (some ⟨g, 0, none⟩), .agg (edc wd (nx r m) (nx r (m + 1))), .agg (edc wd (nx r (m + 1)) (nx r (m + 1 + 1)))] W fun e' w' => e' = .returned (.tuple #[]) ∧ Out (OL wd j e B g (crnL wd j false r L2 (m + 1 + 1))) Mc W w') := Lib.hid fun W hW => by
              rw [HSX.out]
              exact corner_any (HOk.out.later hW) _ _ _ w1 w2 (nx_in HRI.out (by omega) _) (nx_in HRI.out (by omega) _) (nx_in HRI.out (by omega) _) (HTab.out W hW) (Nat.le_trans HB9.out hW.size) (by have := HLn2.out; have := HNl.out; omega) (hbd.2 HGn2.out)
            clear hbd HSX
            go_wp2_with fail
            refine wp_region_held_drew (S := fun W => Tch Mc wr W) (by kernel_rfl) (Tch.refl Mc wr).drew (fun hHeld => ?_)
            refine wpAnyH_take (i := 0) (oi := _) (v := .pointer (some ⟨g, 0, none⟩)) rfl (by kernel_rfl) (by kernel_rfl) (by kernel_rfl) (fun _ _ _ h => h) (Or.inl ⟨by rfl, fun W1 hS => by go_simp⟩) (by assumption) ?_
            go_simp
            refine wpAnyH_take (i := 1) (oi := _) (v := .slice (some ⟨ge, 0, none⟩) k cb) rfl (by kernel_rfl) (by kernel_rfl) (by kernel_rfl) (fun _ _ _ h => h) (Or.inl ⟨by rfl, fun W1 hS => by go_simp⟩) (by assumption) ?_
            go_simp
            refine wpAnyH_take (i := 2) (oi := _) (v := .int .i64 ((m : Int) + 1)) rfl (by kernel_rfl) (by kernel_rfl) (by kernel_rfl) (fun _ _ _ h => h) (Or.inl ⟨by rfl, fun W1 hS => by go_simp⟩) (by assumption) ?_
            go_simp
            refine wpAnyH_take (i := 3) (oi := _) (v := .int .i64 (m : Int)) rfl (by kernel_rfl) (by kernel_rfl) (by kernel_rfl) (fun _ _ _ h => h) (Or.inl ⟨by rfl, fun W1 hS => by go_simp⟩) (by assumption) ?_
            go_simp
            refine wpAnyH_take (i := 4) (oi := _) (v := .pointer (some ⟨ge, m * 10, none⟩)) rfl (by kernel_rfl) (by kernel_rfl) (by kernel_rfl) (fun _ _ _ h => h) (Or.inl ⟨by rfl, fun W1 hS => by go_simp⟩) (by assumption) ?_
            go_simp
            refine wpAnyH_take (i := 5) (oi := _) (v := .agg (edc wd (nx r m) (nx r (m + 1)))) rfl (by kernel_rfl) (by kernel_rfl) (by kernel_rfl) (fun _ _ _ h => h) (yieldsIf_load_mid (by rfl) 65 _ rfl ge (m * 10) rfl (edc wd (nx r m) (nx r (m + 1))).toList _ (fun W hS => (HEc.out.tch hS HGc.out).range (by omega)) Tryd.underlying65 rfl (edc_len _ _ _)) (by assumption) ?_
            go_simp
            refine wpAnyH_take (i := 6) (oi := _) (v := .slice (some ⟨ge, 0, none⟩) k cb) rfl (by kernel_rfl) (by kernel_rfl) (by kernel_rfl) (fun _ _ _ h => h) (Or.inl ⟨by rfl, fun W1 hS => by go_simp⟩) (by assumption) ?_
            go_simp
            refine wpAnyH_take (i := 7) (oi := _) (v := .int .i64 ((m : Int) + 1)) rfl (by kernel_rfl) (by kernel_rfl) (by kernel_rfl) (fun _ _ _ h => h) (Or.inl ⟨by rfl, fun W1 hS => by go_simp⟩) (by assumption) ?_
            go_simp
            refine wpAnyH_take (i := 8) (oi := _) (v := .pointer (some ⟨ge, (m + 1) * 10, none⟩)) rfl (by kernel_rfl) (by kernel_rfl) (by kernel_rfl) (fun _ _ _ h => h) (Or.inl ⟨by rfl, fun W1 hS => by go_simp⟩) (by assumption) ?_
            go_simp
            refine wpAnyH_take (i := 9) (oi := _) (v := .agg (edc wd (nx r (m + 1)) (nx r (m + 1 + 1)))) rfl (by kernel_rfl) (by kernel_rfl) (by kernel_rfl) (fun _ _ _ h => h) (yieldsIf_load_mid (by rfl) 65 _ rfl ge ((m + 1) * 10) rfl (edc wd (nx r (m + 1)) (nx r (m + 1 + 1))).toList _ (fun W hS => (HEc.out.tch hS HGc.out).range (by omega)) Tryd.underlying65 rfl (edc_len _ _ _)) (by assumption) ?_
            go_simp
            clear hHeld
            refine wpAnyH_ready (rs := [10]) (by kernel_rfl) (by simp) ?_
            refine AllReadyH.cons (o := _) rfl (fun K hK => ?_) AllReadyH.nil
            go_simp
            refine (HCO.out _ (Below.refl _ _).drew).mono ?_
            rintro e' wd2 ⟨rfl, hout⟩
            go_wp2_with fail
            have HOUT := Lib.hid (out_step (Tch.refl Mc wr).drew (fun k hk => Or.inl hk) hout)
            clear hout
            refine hK.out _ _ (HOUT.out.choose_spec.2.1) (fun hHeld => ?_)
            clear hK
            try simp only [Act.put, List.setIfInBounds_toArray, List.set_cons_zero, List.set_cons_succ]
            clear hHeld
            refine wpAnyH_done (by kernel_rfl) ?_ _
            have HFIN : Hid (Out (OL wd j e B g (crnL wd j false r L2 (m + 1 + 1))) M wb _) := Lib.hid (out_step HOUT0.out HMk.out HOUT.out)
            clear HCO HOUT HOk HTk HMk
            go_wp2_with fail
            go_roundw
            case rel => exact ⟨m + 1, by go_num, by omega, HFIN.out⟩
            case measure => first | (simp [intOf]; done) | (simp [intOf]; omega)
          · have k2 : ¬ (m : Int) + 1 < (k : Int) := by omega
            have hmk : m + 1 = k := by omega
            rw [hmk] at HOk
            have HMK : Hid (m + 1 = k) := Lib.hid hmk
            clear hmk
            have HFIN := Lib.hid (out_step HTW.out (fun k hk => Or.inl hk) ⟨Mc, HOk.out, HTk.out, HMk.out⟩)
            go_wp2_with fail
            go_end0
            exact ⟨rfl, by rw [HONE.out]; exact HFIN.out⟩
      · have hkN : k = N - 1 := by rw [hnn]; rfl
        have HS1 : Hid (Out (OL wd j e B g (crnL wd j true r L2 1)) M wb wr) := Lib.hid ⟨Mc, HOk.out, HTk.out, HMk.out⟩
        have HONE : Hid (one wd j e true L r = cap wd e (crnL wd j true r L2 k) (nx r 0) (nx r 1) (nx r (N - 2)) (nx r (N - 1))) := Lib.hid (by
          have e2 : crnL wd j true r L2 N = crnL wd j true r L2 k := by
            obtain ⟨q, hq⟩ : ∃ q, q + 1 = N := ⟨N - 1, by omega⟩
            rw [← hq, crnL, if_neg (by unfold hasC; rw [HN.out]; simp; omega)]
            rw [show q = k by omega]
          unfold one
          rw [if_neg (by have := HN.out; omega), if_neg (by have := HN.out; omega), HN.out, ← hnn, HL2.out]
          dsimp only
          rw [if_pos rfl, e2])
        have HHC : Hid (∀ i, 1 ≤ i → i < k → hasC true N i = true) := Lib.hid fun i h1 h2 => by unfold hasC; simp; omega
        have HKN : Hid (k = N - 1) := Lib.hid hkN
        have k6 : 0 < k := by omega
        clear hnn hkN HGc HEc HOUT0 HTab HB9 HOk HTk HMk
        go_wp2_with fail
        go_loopw [10] (fun i wr => ∃ q : Nat, i = .int .i64 ((q : Int) + 1) ∧ q + 1 ≤ k ∧ Out (OL wd j e B g (crnL wd j true r L2 (q + 1))) M wb wr) (fun i _ => (k - intOf i).toNat)
        case atStart => exact ⟨0, rfl, by omega, HS1.out⟩
        case round =>
          clear HS1
          obtain ⟨m, rfl, hq, hr⟩ := hrel
          obtain ⟨Mc, ho, ht, hmm⟩ := hr
          have HOk := Lib.hid ho
          have HTk := Lib.hid ht
          have HMk := Lib.hid hmm
          clear ho ht hmm
          have HGc : Hid (ge ∉ Mc) := Lib.hid fun h => by
            rcases HMk.out _ h with h | h
            · exact HGM.out h
            · have := HLT.out; omega
          have HEc := Lib.hid (HED.out.tch HTk.out HGM.out)
          have HOUT0 : Hid (Tch M wb wr) := HTk
          have HTab : Hid (∀ W, Below wr.heap.size wr W → Num.Tab W) := Lib.hid fun W hW => tab_tch HTw.out (HTk.out.below hW) (fun h => by have := HLO.out _ h; omega)
          have HB9 : Hid (B ≤ wr.heap.size) := Lib.hid (Nat.le_trans HBb.out HTk.out.size)
          by_cases hlt : m + 1 < k
          · have k2 : (m : Int) + 1 < (k : Int) := by omega
            have k3 : (0 : Int) ≤ (m : Int) := by omega
            have k4 : (0 : Int) ≤ (m : Int) + 1 := by omega
            have k5 : (m : Int) < (k : Int) := by omega
            have k1 : IntKind.i64.wrap (m : Int) = (m : Int) := i64w (by have := HNl.out; omega) (by have := HNl.out; omega)
            have k7 : IntKind.i64.wrap ((m : Int) + 1 + 1) = (m : Int) + 1 + 1 := i64w (by have := HNl.out; omega) (by have := HNl.out; omega)
            have hbd := crnL_bd wd j true r L2 (m + 1)
            have HSX : Hid (crnL wd j true r L2 (m + 1 + 1) = crn wd j (crnL wd j true r L2 (m + 1)) (nx r m) (nx r (m + 1)) (nx r (m + 1 + 1))) := Lib.hid (by
              have e1 : nx r (m + 1 + r.length - 1) = nx r m := by rw [show m + 1 + r.length - 1 = m + r.length by omega, nx_add]
              rw [crnL, if_pos (by rw [HN.out]; exact HHC.out _ (by omega) (by omega)), e1])
            have HCO : Hid (∀ W, Below wr.heap.size wr W → Calls Tryd.prog 36 #[.pointer (some ⟨g, 0, none⟩), .agg (edc wd (nx r m) (nx r (m + 1))), .agg (edc wd (nx r (m + 1)) (nx r (m + 1 + 1)))] W fun e' w' => e' = .returned (.tuple #[]) ∧ Out (OL wd j e B g (crnL wd j true r L2 (m + 1 + 1))) Mc W w') := Lib.hid fun W hW => by
              rw [HSX.out]
              exact corner_any (HOk.out.later hW) _ _ _ w1 w2 (nx_in HRI.out (by omega) _) (nx_in HRI.out (by omega) _) (nx_in HRI.out (by omega) _) (HTab.out W hW) (Nat.le_trans HB9.out hW.size) (by have := HLn2.out; have := HNl.out; omega) (hbd.2 HGn2.out)
            clear hbd HSX
            go_wp2_with fail
            refine wp_region_held_drew (S := fun W => Tch Mc wr W) (by kernel_rfl) (Tch.refl Mc wr).drew (fun hHeld => ?_)
            refine wpAnyH_take (i := 0) (oi := _) (v := .pointer (some ⟨g, 0, none⟩)) rfl (by kernel_rfl) (by kernel_rfl) (by kernel_rfl) (fun _ _ _ h => h) (Or.inl ⟨by rfl, fun W1 hS => by go_simp⟩) (by assumption) ?_
            go_simp
            refine wpAnyH_take (i := 1) (oi := _) (v := .slice (some ⟨ge, 0, none⟩) k cb) rfl (by kernel_rfl) (by kernel_rfl) (by kernel_rfl) (fun _ _ _ h => h) (Or.inl ⟨by rfl, fun W1 hS => by go_simp⟩) (by assumption) ?_
            go_simp
            refine wpAnyH_take (i := 2) (oi := _) (v := .int .i64 ((m : Int) + 1)) rfl (by kernel_rfl) (by kernel_rfl) (by kernel_rfl) (fun _ _ _ h => h) (Or.inl ⟨by rfl, fun W1 hS => by go_simp⟩) (by assumption) ?_
            go_simp
            refine wpAnyH_take (i := 3) (oi := _) (v := .int .i64 (m : Int)) rfl (by kernel_rfl) (by kernel_rfl) (by kernel_rfl) (fun _ _ _ h => h) (Or.inl ⟨by rfl, fun W1 hS => by go_simp⟩) (by assumption) ?_
            go_simp
            refine wpAnyH_take (i := 4) (oi := _) (v := .pointer (some ⟨ge, m * 10, none⟩)) rfl (by kernel_rfl) (by kernel_rfl) (by kernel_rfl) (fun _ _ _ h => h) (Or.inl ⟨by rfl, fun W1 hS => by go_simp⟩) (by assumption) ?_
            go_simp
            refine wpAnyH_take (i := 5) (oi := _) (v := .agg (edc wd (nx r m) (nx r (m + 1)))) rfl (by kernel_rfl) (by kernel_rfl) (by kernel_rfl) (fun _ _ _ h => h) (yieldsIf_load_mid (by rfl) 65 _ rfl ge (m * 10) rfl (edc wd (nx r m) (nx r (m + 1))).toList _ (fun W hS => (HEc.out.tch hS HGc.out).range (by omega)) Tryd.underlying65 rfl (edc_len _ _ _)) (by assumption) ?_
            go_simp
            refine wpAnyH_take (i := 6) (oi := _) (v := .slice (some ⟨ge, 0, none⟩) k cb) rfl (by kernel_rfl) (by kernel_rfl) (by kernel_rfl) (fun _ _ _ h => h) (Or.inl ⟨by rfl, fun W1 hS => by go_simp⟩) (by assumption) ?_
            go_simp
            refine wpAnyH_take (i := 7) (oi := _) (v := .int .i64 ((m : Int) + 1)) rfl (by kernel_rfl) (by kernel_rfl) (by kernel_rfl) (fun _ _ _ h => h) (Or.inl ⟨by rfl, fun W1 hS => by go_simp⟩) (by assumption) ?_
            go_simp
            refine wpAnyH_take (i := 8) (oi := _) (v := .pointer (some ⟨ge, (m + 1) * 10, none⟩)) rfl (by kernel_rfl) (by kernel_rfl) (by kernel_rfl) (fun _ _ _ h => h) (Or.inl ⟨by rfl, fun W1 hS => by go_simp⟩) (by assumption) ?_
            go_simp
            refine wpAnyH_take (i := 9) (oi := _) (v := .agg (edc wd (nx r (m + 1)) (nx r (m + 1 + 1)))) rfl (by kernel_rfl) (by kernel_rfl) (by kernel_rfl) (fun _ _ _ h => h) (yieldsIf_load_mid (by rfl) 65 _ rfl ge ((m + 1) * 10) rfl (edc wd (nx r (m + 1)) (nx r (m + 1 + 1))).toList _ (fun W hS => (HEc.out.tch hS HGc.out).range (by omega)) Tryd.underlying65 rfl (edc_len _ _ _)) (by assumption) ?_
            go_simp
            clear hHeld
            refine wpAnyH_ready (rs := [10]) (by kernel_rfl) (by simp) ?_
            refine AllReadyH.cons (o := _) rfl (fun K hK => ?_) AllReadyH.nil
            go_simp
            refine (HCO.out _ (Below.refl _ _).drew).mono ?_
            rintro e' wd2 ⟨rfl, hout⟩
            go_wp2_with fail
            have HOUT := Lib.hid (out_step (Tch.refl Mc wr).drew (fun k hk => Or.inl hk) hout)
            clear hout
            refine hK.out _ _ (HOUT.out.choose_spec.2.1) (fun hHeld => ?_)
            clear hK
            try simp only [Act.put, List.setIfInBounds_toArray, List.set_cons_zero, List.set_cons_succ]
            clear hHeld
            refine wpAnyH_done (by kernel_rfl) ?_ _
            have HFIN : Hid (Out (OL wd j e B g (crnL wd j true r L2 (m + 1 + 1))) M wb _) := Lib.hid (out_step HOUT0.out HMk.out HOUT.out)
            clear HCO HOUT HOk HTk HMk
            go_wp2_with fail
            go_roundw
            case rel => exact ⟨m + 1, by go_num, by omega, HFIN.out⟩
            case measure => first | (simp [intOf]; done) | (simp [intOf]; omega)
          · have k2 : ¬ (m : Int) + 1 < (k : Int) := by omega
            have hmk : m + 1 = k := by omega
            rw [hmk] at HOk
            have HMK : Hid (m + 1 = k) := Lib.hid hmk
            clear hmk
            have k1 : IntKind.i64.wrap ((k : Int) - 1) = (m : Int) := by rw [← HMK.out]; exact (i64w (by have := HNl.out; omega) (by have := HNl.out; omega)).trans (by omega)
            have k3 : (0 : Int) ≤ (m : Int) := by omega
            have k4 : (m : Int) < (k : Int) := by omega
            have k5 : (0 : Int) < (k : Int) := by omega
            have hbd := crnL_bd wd j true r L2 k
            have HCO : Hid (∀ W, Below wr.heap.size wr W → Calls Tryd.prog 37 #[.pointer (some ⟨g, 0, none⟩), .agg (edc wd (nx r 0) (nx r 1)), .agg (edc wd (nx r m) (nx r (m + 1)))] W fun e' w' => e' = .returned (.tuple #[]) ∧ Out (OL wd j e B g (one wd j e true L r)) Mc W w') := Lib.hid fun W hW => by
              rw [HONE.out, show N - 2 = m by have := HKN.out; omega, show N - 1 = m + 1 by have := HKN.out; omega]
              exact caps_any (HOk.out.later hW) _ _ _ _ w1 w2 (nx_in HRI.out (by omega) _) (nx_in HRI.out (by omega) _) (nx_in HRI.out (by omega) _) (nx_in HRI.out (by omega) _) (HTab.out W hW) hTB (Nat.le_trans HB9.out hW.size) (by have := HLn2.out; have := HNl.out; omega) (hbd.2 HGn2.out)
            clear hbd
            go_wp2_with fail
            refine wp_region_held_drew (S := fun W => Tch Mc wr W) (by kernel_rfl) (Tch.refl Mc wr).drew (fun hHeld => ?_)
            refine wpAnyH_take (i := 0) (oi := _) (v := .pointer (some ⟨g, 0, none⟩)) rfl (by kernel_rfl) (by kernel_rfl) (by kernel_rfl) (fun _ _ _ h => h) (Or.inl ⟨by rfl, fun W1 hS => by go_simp⟩) (by assumption) ?_
            go_simp
            refine wpAnyH_take (i := 1) (oi := _) (v := .slice (some ⟨ge, 0, none⟩) k cb) rfl (by kernel_rfl) (by kernel_rfl) (by kernel_rfl) (fun _ _ _ h => h) (Or.inl ⟨by rfl, fun W1 hS => by go_simp⟩) (by assumption) ?_
            go_simp
            refine wpAnyH_take (i := 2) (oi := _) (v := .pointer (some ⟨ge, 0, none⟩)) rfl (by kernel_rfl) (by kernel_rfl) (by kernel_rfl) (fun _ _ _ h => h) (Or.inl ⟨by rfl, fun W1 hS => by go_simp⟩) (by assumption) ?_
            go_simp
            refine wpAnyH_take (i := 3) (oi := _) (v := .agg (edc wd (nx r 0) (nx r 1))) rfl (by kernel_rfl) (by kernel_rfl) (by kernel_rfl) (fun _ _ _ h => h) (yieldsIf_load_mid (by rfl) 65 _ rfl ge (0) rfl (edc wd (nx r 0) (nx r 1)).toList _ (fun W hS => (by have := (HEc.out.tch hS HGc.out).range (i := 0) (by omega); rwa [Nat.zero_mul] at this)) Tryd.underlying65 rfl (edc_len _ _ _)) (by assumption) ?_
            go_simp
            refine wpAnyH_take (i := 4) (oi := _) (v := .slice (some ⟨ge, 0, none⟩) k cb) rfl (by kernel_rfl) (by kernel_rfl) (by kernel_rfl) (fun _ _ _ h => h) (Or.inl ⟨by rfl, fun W1 hS => by go_simp⟩) (by assumption) ?_
            go_simp
            refine wpAnyH_take (i := 5) (oi := _) (v := .slice (some ⟨ge, 0, none⟩) k cb) rfl (by kernel_rfl) (by kernel_rfl) (by kernel_rfl) (fun _ _ _ h => h) (Or.inl ⟨by rfl, fun W1 hS => by go_simp⟩) (by assumption) ?_
            go_simp
            refine wpAnyH_take (i := 6) (oi := _) (v := .int .i64 (k : Int)) rfl (by kernel_rfl) (by kernel_rfl) (by kernel_rfl) (fun _ _ _ h => h) (Or.inl ⟨by rfl, fun W1 hS => by go_simp⟩) (by assumption) ?_
            go_simp
            refine wpAnyH_take (i := 7) (oi := _) (v := .int .i64 (m : Int)) rfl (by kernel_rfl) (by kernel_rfl) (by kernel_rfl) (fun _ _ _ h => h) (Or.inl ⟨by rfl, fun W1 hS => by go_simp⟩) (by assumption) ?_
            go_simp
            refine wpAnyH_take (i := 8) (oi := _) (v := .pointer (some ⟨ge, m * 10, none⟩)) rfl (by kernel_rfl) (by kernel_rfl) (by kernel_rfl) (fun _ _ _ h => h) (Or.inl ⟨by rfl, fun W1 hS => by go_simp⟩) (by assumption) ?_
            go_simp
            refine wpAnyH_take (i := 9) (oi := _) (v := .agg (edc wd (nx r m) (nx r (m + 1)))) rfl (by kernel_rfl) (by kernel_rfl) (by kernel_rfl) (fun _ _ _ h => h) (yieldsIf_load_mid (by rfl) 65 _ rfl ge (m * 10) rfl (edc wd (nx r m) (nx r (m + 1))).toList _ (fun W hS => (HEc.out.tch hS HGc.out).range (by have := HMK.out; omega)) Tryd.underlying65 rfl (edc_len _ _ _)) (by assumption) ?_
            go_simp
            clear hHeld
            refine wpAnyH_ready (rs := [10]) (by kernel_rfl) (by simp) ?_
            refine AllReadyH.cons (o := _) rfl (fun K hK => ?_) AllReadyH.nil
            go_simp
            refine (HCO.out _ (Below.refl _ _).drew).mono ?_
            rintro e' wd2 ⟨rfl, hout⟩
            go_wp2_with fail
            have HOUT := Lib.hid (out_step (Tch.refl Mc wr).drew (fun k hk => Or.inl hk) hout)
            clear hout
            refine hK.out _ _ (HOUT.out.choose_spec.2.1) (fun hHeld => ?_)
            clear hK
            try simp only [Act.put, List.setIfInBounds_toArray, List.set_cons_zero, List.set_cons_succ]
            clear hHeld
            refine wpAnyH_done (by kernel_rfl) ?_ _
            have HFIN := Lib.hid (out_step HTW.out (fun k hk => Or.inl hk) (out_step HOUT0.out HMk.out HOUT.out))
            clear HCO HOUT HOk HTk HMk
            go_wp2_with fail
            go_end0
            exact ⟨rfl, HFIN.out⟩
end Go.Proofs.YtflopcogalknhaaDoor.Str
