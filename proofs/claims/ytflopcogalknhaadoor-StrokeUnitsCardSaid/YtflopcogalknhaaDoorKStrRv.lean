/-
  Layer 21: the outline of polygons (the document's).
-/
import Derived.Test.YtflopcogalknhaaDoorKStrRo
set_option linter.unusedVariables false
set_option linter.unusedSimpArgs false
namespace Go.Proofs.YtflopcogalknhaaDoor.Str
open Go.RowKit Go.Proofs.YtflopcogalknhaaDoor Go.Proofs.YtflopcogalknhaaDoor.NumPure

theorem own_slice {w : World} {B n : Nat} {v : Value} {l : List P2} (h : w.ownsRow B 30 2 v n (pts l)) (hn : n = l.length) : ∃ A c pb, v = .slice A n c ∧ (0 < n → A = some ⟨pb, 0, none⟩) ∧ PtR w A l ∧ B ≤ pb := by
  subst hn
  obtain ⟨A, c, rfl, _, hr⟩ := own_open h
  by_cases h0 : l.length = 0
  · exact ⟨A, c, B, rfl, fun h => absurd h (by omega), hr, Nat.le_refl _⟩
  · rcases h.2 with ⟨_, h1⟩ | ⟨g, cap, cur, hv, hg, _⟩
    · exact absurd h1 h0
    · injection hv with hv
      subst hv
      exact ⟨_, c, g, rfl, fun _ => rfl, hr, hg⟩
/-- The parameters' errors are ends and joins. -/
theorem chk_je {wd j e : Int} (h : chkE wd j e = 0) : (0 ≤ j ∧ j ≤ 2) ∧ 0 ≤ e ∧ e ≤ 2 := by
  unfold chkE at h
  split at h
  · cases h
  · split at h
    · cases h
    · omega
set_option maxRecDepth 100000 in
set_option maxHeartbeats 2000000 in
theorem rOutline_any (A : Option Addr) (c : Nat) (ls : List (List P2)) (Ab : Option Addr) (cb : Nat) (ob : List Bool) (wd j e : Int) (w : World) (h : PolR w A ls) (hls : ls.length ≤ 140737488355328) (hl2 : ∀ l ∈ ls, l.length ≤ 140737488355328) (hob : BoR w Ab ob) (hobl : ob.length ≤ 4611686018427387904) :
    Calls Tryd.prog 10 #[.slice A ls.length c, .slice Ab ob.length cb, .int .i64 wd, .int .i64 j, .int .i64 e] w (OuC (outF wd j e ls ob) w) := by
  obtain ⟨F, hF⟩ : ∃ F, outF wd j e ls ob = F := ⟨_, rfl⟩
  obtain ⟨n, hn⟩ : ∃ n, ls.length = n := ⟨_, rfl⟩
  obtain ⟨nb, hnb⟩ : ∃ n, ob.length = n := ⟨_, rfl⟩
  rw [hF, hn, hnb]
  unfold outF at hF
  have HC1 := Lib.hid (fun W => rCheck_any wd j e W)
  have HC2 := Lib.hid (fun W (hW : Below w.heap.size w W) => rcov_any A ls c W (h.below hW) hls hl2)
  rw [hn] at HC2
  have HP := Lib.hid h
  have HBo := Lib.hid hob
  have HN := Lib.hid hn
  have HNB := Lib.hid hnb
  have HLS : Hid (n ≤ 140737488355328) := Lib.hid (by omega)
  clear h hob hn hnb hls hobl hl2
  obtain ⟨e1, he1⟩ : ∃ z, chkE wd j e = z := ⟨_, rfl⟩
  rw [he1] at HC1 hF
  by_cases h1 : e1 = 0
  rotate_left
  · rw [if_pos h1] at hF
    subst hF
    have h1' : (e1 == 0) = false := by simpa using h1
    have HR : Hid (OuC (e1, []) w (.returned (.tuple #[.slice none 0 0, .int .i64 e1])) w) := Lib.hid ⟨none, 0, rfl, PolR.nil _, Below.refl _ _⟩
    clear he1 h1
    go_enter Tryd.func10, Tryd.ntmps10
    go_wp2_with fail
    refine (HC1.out _).mono ?_
    rintro x w' ⟨rfl, rfl⟩
    go_wp2_with fail
    refine bodyPost_ret (results_tmp2 rfl _ _ _) rfl ?_
    exact HR.out
  subst h1
  obtain ⟨w1, w2⟩ := chk_ok he1
  obtain ⟨hj, hee⟩ := chk_je he1
  have HJ := Lib.hid hj
  have HEE := Lib.hid hee
  have hF2 := hF
  clear hF hj hee
  rw [if_neg (fun h => h rfl)] at hF2
  obtain ⟨e2, he2⟩ : ∃ z, covE ls = z := ⟨_, rfl⟩
  rw [he2] at HC2 hF2
  unfold NmC at HC2
  by_cases h2 : e2 = 0
  rotate_left
  · rw [if_pos h2] at hF2
    subst hF2
    have h2' : (e2 == 0) = false := by simpa using h2
    have HR : Hid (∀ W, Below w.heap.size w W → OuC (e2, []) w (.returned (.tuple #[.slice none 0 0, .int .i64 e2])) W) := Lib.hid fun W hW => ⟨none, 0, rfl, PolR.nil _, hW⟩
    clear he1 h2 he2
    go_enter Tryd.func10, Tryd.ntmps10
    go_wp2_with fail
    refine (HC1.out _).mono ?_
    rintro x w' ⟨rfl, rfl⟩
    go_wp2_with fail
    refine (HC2.out _ (Below.refl _ _)).mono ?_
    rintro x wa ⟨rfl, hba⟩
    have HBa := Lib.hid hba
    clear hba HC2 HC1
    go_wp2_with fail
    refine bodyPost_ret (results_tmp2 rfl _ _ _) rfl ?_
    exact HR.out _ HBa.out
  subst h2
  rw [if_neg (fun h => h rfl)] at hF2
  obtain ⟨hpt, hin⟩ := cov_zero he2
  by_cases h3 : nb = n
  rotate_left
  · rw [if_pos (by rw [HN.out, HNB.out]; exact h3)] at hF2
    subst hF2
    have h3' : ((nb : Int) == (n : Int)) = false := beq_eq_false_iff_ne.2 (by omega)
    have HR : Hid (∀ W, Below w.heap.size w W → OuC (15, []) w (.returned (.tuple #[.slice none 0 0, .int .i64 15])) W) := Lib.hid fun W hW => ⟨none, 0, rfl, PolR.nil _, hW⟩
    clear he1 h3 he2 hpt hin
    go_enter Tryd.func10, Tryd.ntmps10
    go_wp2_with fail
    refine (HC1.out _).mono ?_
    rintro x w' ⟨rfl, rfl⟩
    go_wp2_with fail
    refine (HC2.out _ (Below.refl _ _)).mono ?_
    rintro x wa ⟨rfl, hba⟩
    have HBa := Lib.hid hba
    clear hba HC2 HC1
    go_wp2_with fail
    refine bodyPost_ret (results_tmp2 rfl _ _ _) rfl ?_
    exact HR.out _ HBa.out
  subst h3
  rw [if_neg (by rw [HN.out, HNB.out]; exact fun h => h rfl), HN.out] at hF2
  have HIN := Lib.hid hin
  have HPT := Lib.hid hpt
  have HF2 := Lib.hid hF2
  clear he1 he2 hin hpt hF2
  go_enter Tryd.func10, Tryd.ntmps10
  go_wp2_with fail
  refine (HC1.out _).mono ?_
  rintro x w' ⟨rfl, rfl⟩
  go_wp2_with fail
  refine (HC2.out _ (Below.refl _ _)).mono ?_
  rintro x W0 ⟨rfl, hba⟩
  have HB0 := Lib.hid hba
  have HSS : Hid (Out (RL w.heap.size [] (.slice none 0 0)) [] W0 W0) := Lib.hid ⟨_, ⟨fun _ => 0, fun _ => 0, rfl, RLv.start _ _⟩, Tch.refl _ _, fun k hk => by simp [fp, bl, Value.ownBlock] at hk⟩
  clear hba HC2 HC1
  go_wp2_with fail
  go_loopw [13, 34] (fun v i wr => ∃ (k : Nat) (L : List (List P2)), i = .int .i64 (k : Int) ∧ k ≤ nb ∧ runL wd j e ls ob k = some L ∧ Out (RL w.heap.size L v) [] W0 wr) (fun _ i _ => (nb - intOf i).toNat)
  case atStart => exact ⟨0, [], rfl, by omega, rfl, HSS.out⟩
  case round =>
    clear HSS
    obtain ⟨k, L, rfl, hk, hrun, hr⟩ := hrel
    have HRU := Lib.hid hrun
    obtain ⟨Mc, ho, ht, hmm⟩ := hr
    have HOk := Lib.hid ho
    have HTk := Lib.hid ht
    have HMk := Lib.hid hmm
    have HBr : Hid (Below w.heap.size w wr) := Lib.hid (HB0.out.trans (ht.to_below HB0.out.size (fun k hk => by simp at hk)))
    clear ho ht hmm hrun
    by_cases hlt : k < nb
    · have k2 : (k : Int) < (nb : Int) := by omega
      have k3 : (0 : Int) ≤ (k : Int) := by omega
      have hk1 : k < ls.length := by have := HN.out; omega
      have hk2 : k < ob.length := by have := HNB.out; omega
      have hP := HP.out.below HBr.out
      have hB := BoR.below HBo.out HBr.out
      obtain ⟨ad, rfl, _⟩ := hP.addr (by omega)
      obtain ⟨bd, rfl, _⟩ := hB.addr (by omega)
      obtain ⟨A1, c1, d0, hpt⟩ := hP.cell k hk1
      have d1 := hB.cell k hk2
      have hmem : ls.getD k [] ∈ ls := by rw [List.getD_eq_getElem?_getD, List.getElem?_eq_getElem hk1]; exact List.getElem_mem _
      have hle := len_le hmem
      have hin := HIN.out _ hmem
      have hst := runL_step HRU.out
      have SP : Hid (∀ W, Below w.heap.size w W → W.cell? (ad.add k) = some (.slice A1 (ls.getD k []).length c1) ∧ W.cell? (bd.add k) = some (.bool (ob.getD k false))) := Lib.hid fun W hW => by
        obtain ⟨ad2, e2, hb2⟩ := HP.out.addr (by omega)
        injection e2 with e2
        subst e2
        exact ⟨(hW.cell (by rw [block_of_add]; exact hb2)).trans ((HBr.out.cell (by rw [block_of_add]; exact hb2)).symm.trans d0), BoR.cell (BoR.below HBo.out hW) k hk2⟩
      obtain ⟨l, hl⟩ : ∃ l, ls.getD k [] = l := ⟨_, rfl⟩
      obtain ⟨bb, hbb⟩ : ∃ b, ob.getD k false = b := ⟨_, rfl⟩
      rw [hl] at d0 hpt hle hin hst SP
      rw [hbb] at d1 hst SP
      obtain ⟨hpn, hgl⟩ := runL_pts HRU.out
      have hgp := hgl.pts
      have hl6 : l.length ≤ 65536 := by have := HPT.out; omega
      have HRC := Lib.hid fun W (hW : Below wr.heap.size wr W) => rReduced_any A1 l c1 bb W (hpt.below hW) (by omega)
      have HRI := Lib.hid (red_in hin bb)
      have HRL := Lib.hid (red_len l bb)
      obtain ⟨L', hL'⟩ : ∃ L', one wd j e bb L (red l bb) = L' := ⟨_, rfl⟩
      rw [hL'] at hst
      have HST := Lib.hid hst
      have HL' := Lib.hid hL'
      obtain ⟨r, hr⟩ : ∃ r, red l bb = r := ⟨_, rfl⟩
      unfold OwC at HRC
      rw [hr] at HRC HRI HRL HL'
      obtain ⟨m, hm⟩ : ∃ m, l.length = m := ⟨_, rfl⟩
      obtain ⟨rm, hrm⟩ : ∃ m, r.length = m := ⟨_, rfl⟩
      rw [hm] at d0 HRC HRL SP
      rw [hrm] at HRC HRL
      have HLL : Hid (L.length ≤ 65536 ∧ GL L ∧ ptsN L ≤ 4096 ∧ rm ≤ 65536) := Lib.hid ⟨by omega, hgl, hpn, by have := HRL.out; omega⟩
      have HRM := Lib.hid hrm
      clear hk1 hk2 hP hB hmem hle hin hst hl hbb hpn hgl hgp hL' hm hpt hl6 hr hrm d0 d1
      go_wp2_with fail
      have HK := SP.out _ HBr.out.drew
      have HMs := Lib.hid HOk.out.size
      go_region_held3 (fun W => W.cell? (ad.add k) = some (.slice A1 m c1) ∧ W.cell? (bd.add k) = some (.bool bb))
        (first | exact HK | go_keep)
        (first
          | (go_at_call 24; refine (HRC.out _ (Below.refl _ _).drew).mono ?_; rintro e' w8 ⟨v8, rfl, hown, hb8⟩; obtain ⟨A8, c8, p8, rfl, hA8, hpr8, hp8⟩ := own_slice hown HRM.out.symm; have HA8 := Lib.hid hA8; have HPR8 := Lib.hid hpr8; have HP8 : Hid (wr.heap.size ≤ p8) := Lib.hid hp8; have HB8 : Hid (Below wr.heap.size wr w8) := Lib.hid ((Below.refl _ _).drew.trans hb8); clear HK; have HK := SP.out _ (HBr.out.trans (HB8.out.mono HBr.out.size)); clear hown hb8 hA8 hpr8 hp8)
          | (go_at_call 23; refine ((by have h9 := rone_any (HOk.out.later HB8.out) A8 p8 r (fun h => HA8.out (by have := HRM.out; omega)) c8 bb wd j e HPR8.out (by have := HRM.out; have := HLL.out; omega) HRI.out w1 w2 HJ.out HEE.out (fun h => by have h1 := HMs.out _ h; have h2 := HP8.out; omega) (Nat.le_trans HBr.out.size HB8.out.size) HLL.out.1; rw [HRM.out, HL'.out] at h9; exact h9 : Calls Tryd.prog 23 #[u13, .slice A8 rm c8, .bool bb, .int .i64 wd, .int .i64 j, .int .i64 e] w8 fun e' w' => LsC w.heap.size L' Mc w8 e' w')).mono ?_; rintro e' w9 ⟨v9, rfl, hout⟩; have HOUT := Lib.hid (out_step (HTk.out.below HB8.out) HMk.out hout); have HB9 : Hid (Below w.heap.size w w9) := Lib.hid (HB0.out.trans (HOUT.out.choose_spec.2.1.to_below HB0.out.size (fun k hk => by simp at hk))); clear HK; have HK := SP.out _ HB9.out; clear hout))
      obtain ⟨Md, ho, ht, hmd⟩ := HOUT.out
      obtain ⟨rb9, rc9, _, hrl9⟩ := ho
      obtain ⟨A9, c9, rfl, hp9⟩ := hrl9.pol_read
      have HBD : Hid (L'.length ≤ 400000 ∧ GL L') := Lib.hid (by
        have h1 := one_bd wd j e bb L r
        have h2 := HRM.out
        have h3 := HLL.out
        rw [HL'.out] at h1
        exact ⟨by omega, h1.2 h3.2.1⟩)
      have HPT9 := Lib.hid (rPoints_any A9 L' c9 w9 hp9 (by have := HBD.out.1; omega) (by have := HBD.out.2.pts; have := HBD.out.1; omega))
      obtain ⟨q, hq⟩ : ∃ q, L'.length = q := ⟨_, rfl⟩
      obtain ⟨T, hT⟩ : ∃ T, ptsN L' = T := ⟨_, rfl⟩
      rw [hq] at HPT9
      rw [hq]
      unfold NmC at HPT9
      rw [hT] at HPT9
      have HQ := Lib.hid hq
      have HTT := Lib.hid hT
      clear hq hT hp9 hrl9 ht hmd HRC SP HOk HTk HMk
      clear HK
      go_wp2_with fail
      refine HPT9.out.mono ?_
      rintro e5 w5 ⟨rfl, hb5⟩
      have HB5 : Hid (Below w.heap.size w w5) := Lib.hid (HB9.out.trans (hb5.mono HB9.out.size))
      have HO5 : Hid (Out (RL w.heap.size L' (.slice A9 q c9)) [] W0 w5) := Lib.hid (by
        obtain ⟨M5, h1, h2, h3⟩ := HOUT.out
        rw [HQ.out] at h1
        exact ⟨M5, h1.later hb5, h2.below hb5, h3⟩)
      clear hb5
      by_cases h4 : 4096 < T
      · have h4' : (4096 : Int) < (T : Int) := by omega
        have HR : Hid (OuC F w (.returned (.tuple #[.slice none 0 0, .int .i64 3])) w5) := Lib.hid (by
          have e1 := HST.out
          rw [if_pos (by rw [HTT.out]; exact h4)] at e1
          have e2 := runL_none e1 (nb - (k + 1))
          rw [show k + 1 + (nb - (k + 1)) = nb by omega] at e2
          have e3 := HF2.out
          rw [e2] at e3
          rw [← e3]
          exact ⟨none, 0, rfl, PolR.nil _, HB5.out⟩)
        clear h4
        go_wp2_with fail
        refine bodyPost_ret (results_tmp2 rfl _ _ _) rfl ?_
        exact HR.out
      · have h4' : ¬ (4096 : Int) < (T : Int) := by omega
        have HNX : Hid (runL wd j e ls ob (k + 1) = some L') := Lib.hid (by rw [HST.out, if_neg (by rw [HTT.out]; exact h4)])
        have K4 : Hid (IntKind.i64.wrap ((k : Int) + 1) = (k : Int) + 1) := Lib.hid (i64w (by have := HLS.out; omega) (by have := HLS.out; omega))
        have k4 := K4.out
        clear h4
        go_wp2_with fail
        clear k4
        go_roundw
        case rel => exact ⟨k + 1, L', by have := HLS.out; go_num, by omega, HNX.out, HO5.out⟩
        case measure => first | (simp [intOf]; done) | (simp [intOf]; omega)
    · have k2 : ¬ (k : Int) < (nb : Int) := by omega
      obtain rfl : nb = k := by omega
      obtain ⟨rb, rc, _, hrl⟩ := HOk.out
      obtain ⟨A2, c2, rfl, hp⟩ := hrl.pol_read
      have HR : Hid (OuC F w (.returned (.tuple #[.slice A2 L.length c2, .int .i64 0])) wr) := Lib.hid (by
        have e3 := HF2.out
        rw [HRU.out] at e3
        rw [← e3]
        exact ⟨A2, c2, rfl, hp, HBr.out⟩)
      clear hp hrl
      go_wp2_with fail
      refine bodyPost_ret (results_tmp2 rfl _ _ _) rfl ?_
      exact HR.out
end Go.Proofs.YtflopcogalknhaaDoor.Str
