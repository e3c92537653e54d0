/-
  Layer 21: the dashes of polygons (the document's).
-/
import Derived.Test.YtflopcogalknhaaDoorKStrRf
import Derived.Test.YtflopcogalknhaaDoorKStrDh
set_option linter.unusedVariables false
set_option linter.unusedSimpArgs false
namespace Go.Proofs.YtflopcogalknhaaDoor.Str
open Go.RowKit Go.Proofs.YtflopcogalknhaaDoor Go.Proofs.YtflopcogalknhaaDoor.NumPure

theorem itr_pts {p : List Nat} {o : Nat} {l : List P2} {L : List (List P2)} (hl : Lin l) (h : ptsN L ≤ 4096) : ∀ k, ptsN (itr l p o L k).2 ≤ 135170
  | 0 => by show ptsN L ≤ 135170; omega
  | k + 1 => by
    have ih := itr_pts (p := p) (o := o) hl h k
    rw [itr, stp]
    split
    · next hc =>
      have h2 := hc.2
      dsimp only
      split
      · rw [addD_pts]
        have := pce_len hl (itr l p o L k).1 (nxt l p o (itr l p o L k).1)
        split <;> omega
      · omega
    · exact ih
theorem dsh_pts {p : List Nat} {o : Nat} {l : List P2} {L : List (List P2)} (hl : Lin l) (h : ptsN L ≤ 4096) : ptsN (dsh L l p o) ≤ 135170 := itr_pts hl h _
set_option maxRecDepth 100000 in
set_option maxHeartbeats 4000000 in
theorem rDash_any (A : Option Addr) (c : Nat) (ls : List (List P2)) (Ab : Option Addr) (cb : Nat) (ob : List Bool) (Ap : Option Addr) (cp : Nat) (p : List Int) (o : Int) (w : World) (h : PolR w A ls) (hls : ls.length ≤ 140737488355328) (hl2 : ∀ l ∈ ls, l.length ≤ 140737488355328) (hob : BoR w Ab ob) (hobl : ob.length ≤ 4611686018427387904)
    (hpr : InR w Ap p) (hpl : p.length ≤ 4611686018427387904) : Calls Tryd.prog 16 #[.slice A ls.length c, .slice Ab ob.length cb, .slice Ap p.length cp, .int .i64 o] w (OuC (dasF ls ob p o) w) := by
  obtain ⟨F, hF⟩ : ∃ F, dasF ls ob p o = F := ⟨_, rfl⟩
  rw [hF]
  have HF0 := Lib.hid hF
  have HBF : Hid (∀ z : Int, z ≠ 0 → ptnE p o = z → ∀ W, Below w.heap.size w W → OuC F w (.returned (.tuple #[.slice none 0 0, .int .i64 z])) W) := Lib.hid fun z hz he W hW => by
    rw [← hF]
    unfold dasF
    rw [he, if_pos hz]
    exact ⟨none, 0, rfl, PolR.nil _, hW⟩
  have HC2 := Lib.hid (fun W (hW : Below w.heap.size w W) => rcov_any A ls c W (h.below hW) hls hl2)
  obtain ⟨n, hn⟩ : ∃ n, ls.length = n := ⟨_, rfl⟩
  obtain ⟨nb, hnb⟩ : ∃ n, ob.length = n := ⟨_, rfl⟩
  obtain ⟨np, hnp⟩ : ∃ n, p.length = n := ⟨_, rfl⟩
  rw [hn] at HC2
  rw [hn, hnb, hnp]
  have HP := Lib.hid h
  have HBo := Lib.hid hob
  have HPR := Lib.hid hpr
  have HN := Lib.hid hn
  have HNB := Lib.hid hnb
  have HNP := Lib.hid hnp
  have HLS : Hid (n ≤ 140737488355328) := Lib.hid (by omega)
  have HPL : Hid (np ≤ 4611686018427387904) := Lib.hid (by omega)
  clear hF h hob hn hnb hls hobl hl2 hpr hpl hnp
  by_cases h0 : np = 0
  · subst h0
    have HE : Hid (ptnE p o = 1) := Lib.hid (by unfold ptnE; rw [if_pos (Or.inl HNP.out)])
    go_enter Tryd.func16, Tryd.ntmps16
    go_wp2_with fail
    refine bodyPost_ret (results_tmp2 rfl _ _ _) rfl ?_
    exact HBF.out 1 (by decide) HE.out _ (Below.refl _ _)
  have z0 : ((np : Int) == 0) = false := beq_eq_false_iff_ne.2 (by omega)
  by_cases h1 : 16 < np
  · have HE : Hid (ptnE p o = 1) := Lib.hid (by unfold ptnE; rw [if_pos (Or.inr (by rw [HNP.out]; exact h1))])
    have z1 : decide ((16 : Int) < (np : Int)) = true := decide_eq_true (by omega)
    go_enter Tryd.func16, Tryd.ntmps16
    go_wp2_with fail
    refine bodyPost_ret (results_tmp2 rfl _ _ _) rfl ?_
    exact HBF.out 1 (by decide) HE.out _ (Below.refl _ _)
  have z1 : decide ((16 : Int) < (np : Int)) = false := decide_eq_false (by omega)
  have HBAD : Hid (∀ k, k < np → (p.getD k 0 < 1 ∨ 1048576 < p.getD k 0) → ptnE p o = 2) := Lib.hid fun k hk hb => ptn_bad (by have := HNP.out; omega) (by have := HNP.out; omega) (by have := HNP.out; omega) hb
  have HGOOD : Hid ((∀ k, k < np → ¬ (p.getD k 0 < 1 ∨ 1048576 < p.getD k 0)) → ptnE p o = if o < 0 ∨ 1048576 < o then 2 else 0) := Lib.hid fun hb => ptn_good (by have := HNP.out; omega) (by have := HNP.out; omega) (fun k hk => hb k (by have := HNP.out; omega))
  obtain ⟨pa, hpa, _⟩ := HPR.out.addr (by have := HNP.out; omega)
  subst hpa
  have HNN : Hid (0 < np ∧ np ≤ 16) := Lib.hid (by omega)
  go_enter Tryd.func16, Tryd.ntmps16
  go_wp2_with fail
  clear z0 z1
  go_loopw [25] (fun i wr => ∃ k : Nat, i = .int .i64 (k : Int) ∧ k ≤ np ∧ (∀ j, j < k → ¬ (p.getD j 0 < 1 ∨ 1048576 < p.getD j 0)) ∧ w = wr) (fun i _ => np - (intOf i).toNat)
  case atStart => exact ⟨0, rfl, by omega, fun j hj => absurd hj (Nat.not_lt_zero j), rfl⟩
  case round =>
    obtain ⟨k, rfl, hk, hall, rfl⟩ := hrel
    have HALL := Lib.hid hall
    clear hall
    by_cases hlt : k < np
    · have hc := HPR.out.cell k (by have := HNP.out; omega)
      have HB2 := Lib.hid (HBAD.out k hlt)
      obtain ⟨x, hx⟩ : ∃ x, p.getD k 0 = x := ⟨_, rfl⟩
      rw [hx] at hc HB2
      have HX := Lib.hid hx
      have k2 : (k : Int) < (np : Int) := by omega
      have k3 : (0 : Int) ≤ (k : Int) := by omega
      clear hx
      by_cases h2 : x < 1
      · have HE := Lib.hid (HB2.out (Or.inl h2))
        have h2' : decide (x < 1) = true := decide_eq_true h2
        clear h2
        go_wp2_with fail
        refine bodyPost_ret (results_tmp2 rfl _ _ _) rfl ?_
        exact HBF.out 2 (by decide) HE.out _ (Below.refl _ _)
      have h2' : decide (x < 1) = false := decide_eq_false h2
      by_cases h3 : 1048576 < x
      · have HE := Lib.hid (HB2.out (Or.inr h3))
        have h3' : decide (1048576 < x) = true := decide_eq_true h3
        clear h2 h3
        go_wp2_with fail
        refine bodyPost_ret (results_tmp2 rfl _ _ _) rfl ?_
        exact HBF.out 2 (by decide) HE.out _ (Below.refl _ _)
      have h3' : decide (1048576 < x) = false := decide_eq_false h3
      have HNX : Hid (∀ j, j < k + 1 → ¬ (p.getD j 0 < 1 ∨ 1048576 < p.getD j 0)) := Lib.hid fun j hj => by
        rcases Nat.lt_or_ge j k with hjk | hjk
        · exact HALL.out j hjk
        · obtain rfl : j = k := by omega
          rw [HX.out]; omega
      have k4 : IntKind.i64.wrap ((k : Int) + 1) = (k : Int) + 1 := i64w (by omega) (by omega)
      clear h2 h3
      go_wp2_with fail
      go_roundw
      case rel => exact ⟨k + 1, by go_num, by omega, HNX.out, trivial⟩
      case measure => first | (simp [intOf]; done) | (simp [intOf]; omega)
    · have k2 : ¬ (k : Int) < (np : Int) := by omega
      obtain rfl : np = k := by omega
      have HE := Lib.hid (HGOOD.out HALL.out)
      clear hk hlt h0 h1 HALL HGOOD HBAD
      by_cases h2 : o < 0
      · have h2' : decide (o < 0) = true := decide_eq_true h2
        have HE := Lib.hid (HE.out.trans (if_pos (Or.inl h2)))
        clear h2
        go_wp2_with fail
        refine bodyPost_ret (results_tmp2 rfl _ _ _) rfl ?_
        exact HBF.out 2 (by decide) HE.out _ (Below.refl _ _)
      have h2' : decide (o < 0) = false := decide_eq_false h2
      by_cases h3 : 1048576 < o
      · have h3' : decide (1048576 < o) = true := decide_eq_true h3
        have HE := Lib.hid (HE.out.trans (if_pos (Or.inr h3)))
        clear h2 h3
        go_wp2_with fail
        refine bodyPost_ret (results_tmp2 rfl _ _ _) rfl ?_
        exact HBF.out 2 (by decide) HE.out _ (Below.refl _ _)
      have h3' : decide (1048576 < o) = false := decide_eq_false h3
      have HE2 : Hid (ptnE p o = 0) := Lib.hid (HE.out.trans (if_neg (by omega)))
      clear h2 h3 HE HBF
      go_wp2_with fail
      refine (HC2.out _ (Below.refl _ _)).mono ?_
      rintro x W0 ⟨rfl, hba⟩
      have HB0 := Lib.hid hba
      clear hba HC2 h2' h3' k2
      obtain ⟨e2, he2⟩ : ∃ z, covE ls = z := ⟨_, rfl⟩
      have HE3 := Lib.hid he2
      rw [he2]
      by_cases h2 : e2 = 0
      rotate_left
      · have h2' : (e2 == 0) = false := by simpa using h2
        have HR : Hid (OuC F w (.returned (.tuple #[.slice none 0 0, .int .i64 e2])) W0) := Lib.hid (by
          rw [← HF0.out]
          unfold dasF
          rw [HE2.out, if_neg (fun h => h rfl), he2, if_pos h2]
          exact ⟨none, 0, rfl, PolR.nil _, HB0.out⟩)
        clear he2 h2
        go_wp2_with fail
        refine bodyPost_ret (results_tmp2 rfl _ _ _) rfl ?_
        exact HR.out
      subst h2
      obtain ⟨hpt, hin⟩ := cov_zero he2
      by_cases h3 : nb = n
      rotate_left
      · have h3' : ((nb : Int) == (n : Int)) = false := beq_eq_false_iff_ne.2 (by omega)
        have HR : Hid (OuC F w (.returned (.tuple #[.slice none 0 0, .int .i64 15])) W0) := Lib.hid (by
          rw [← HF0.out]
          unfold dasF
          rw [HE2.out, if_neg (fun h => h rfl), he2, if_neg (fun h => h rfl), if_pos (by rw [HN.out, HNB.out]; exact h3)]
          exact ⟨none, 0, rfl, PolR.nil _, HB0.out⟩)
        clear he2 h3 hpt hin
        go_wp2_with fail
        refine bodyPost_ret (results_tmp2 rfl _ _ _) rfl ?_
        exact HR.out
      subst h3
      obtain ⟨q, f, hq, hf, hf2, hpb⟩ := ptn_ok HE2.out
      have HF2 : Hid ((match runD ls ob q f nb with | none => ((3 : Int), []) | some L => (0, L)) = F) := Lib.hid (by
        have e := HF0.out
        unfold dasF at e
        rw [HE2.out, if_neg (fun h => h rfl), he2, if_neg (fun h => h rfl), if_neg (by rw [HN.out, HNB.out]; exact fun h => h rfl), HN.out, hq, map_nat, hf, Int.toNat_natCast] at e
        exact e)
      have hql : q.length = np := by have := HNP.out; rw [hq, List.length_map] at this; exact this
      have HIN := Lib.hid hin
      have HPT := Lib.hid hpt
      have HPB := Lib.hid hpb
      have HQL := Lib.hid hql
      have HFB := Lib.hid hf2
      have HNA : Hid (NaR W0 pa q) := Lib.hid (by
        have h8 := HPR.out.below HB0.out
        rw [hq] at h8
        exact h8)
      have HPW : Hid (pa.block < w.heap.size) := Lib.hid (by
        obtain ⟨ad, e, hb⟩ := HPR.out.addr (by have := HNP.out; have := HNN.out; omega)
        cases e
        exact hb)
      have HSS : Hid (Out (RL w.heap.size [] (.slice none 0 0)) [] W0 W0) := Lib.hid ⟨_, ⟨fun _ => 0, fun _ => 0, rfl, RLv.start _ _⟩, Tch.refl _ _, fun k hk => by simp [fp, bl, Value.ownBlock] at hk⟩
      subst hf
      clear he2 hpt hin hq hf2 hpb hql HE3
      go_wp2_with fail
      go_loopw [12, 59] (fun v i wr => ∃ (k : Nat) (L : List (List P2)), i = .int .i64 (k : Int) ∧ k ≤ nb ∧ runD ls ob q f k = some L ∧ Out (RL w.heap.size L v) [] W0 wr) (fun _ i _ => (nb - intOf i).toNat)
      case atStart => exact ⟨0, [], rfl, by omega, rfl, HSS.out⟩
      case round =>
        clear HSS
        obtain ⟨k, L, rfl, hk, hrun, hr⟩ := hrel
        have HRU := Lib.hid hrun
        obtain ⟨Mc, ho, ht, hmm⟩ := hr
        have HOk := Lib.hid ho
        have HTk := Lib.hid ht
        have HMk := Lib.hid hmm
        have HBr : Hid (Below w.heap.size w wr) := Lib.hid (HB0.out.trans (ht.to_below HB0.out.size (fun k hk => by simp at hk)))
        clear ho ht hmm hrun
        by_cases hlt : k < nb
        · have HKN : Hid (k < nb) := Lib.hid hlt
          have k2 : (k : Int) < (nb : Int) := by omega
          have k3 : (0 : Int) ≤ (k : Int) := by omega
          have hk1 : k < ls.length := by have := HN.out; omega
          have hk2 : k < ob.length := by have := HNB.out; omega
          have hP := HP.out.below HBr.out
          have hB := BoR.below HBo.out HBr.out
          obtain ⟨ad, rfl, _⟩ := hP.addr (by omega)
          obtain ⟨bd, rfl, _⟩ := hB.addr (by omega)
          obtain ⟨A1, c1, d0, hpt⟩ := hP.cell k hk1
          have hmem : ls.getD k [] ∈ ls := by rw [List.getD_eq_getElem?_getD, List.getElem?_eq_getElem hk1]; exact List.getElem_mem _
          have hle := len_le hmem
          have hin := HIN.out _ hmem
          have hst := runD_step HRU.out
          have SP : Hid (∀ W, Below w.heap.size w W → W.cell? (ad.add k) = some (.slice A1 (ls.getD k []).length c1) ∧ W.cell? (bd.add k) = some (.bool (ob.getD k false))) := Lib.hid fun W hW => by
            obtain ⟨ad2, e2, hb2⟩ := HP.out.addr (by omega)
            injection e2 with e2
            subst e2
            exact ⟨(hW.cell (by rw [block_of_add]; exact hb2)).trans ((HBr.out.cell (by rw [block_of_add]; exact hb2)).symm.trans d0), BoR.cell (BoR.below HBo.out hW) k hk2⟩
          obtain ⟨l, hl⟩ : ∃ l, ls.getD k [] = l := ⟨_, rfl⟩
          obtain ⟨bb, hbb⟩ : ∃ b, ob.getD k false = b := ⟨_, rfl⟩
          rw [hl] at d0 hpt hle hin hst SP
          rw [hbb] at hst SP
          have hpn := runD_pts HRU.out
          have hpl := runD_len HRU.out
          have hl6 : l.length ≤ 65536 := by have := HPT.out; omega
          have HRC := Lib.hid fun W (hW : Below wr.heap.size wr W) => rReduced_any A1 l c1 bb W (hpt.below hW) (by omega)
          have HLI := Lib.hid (lin_of hin hl6 bb)
          have HPN := Lib.hid (And.intro hpn hpl)
          have HMs : Hid (∀ x ∈ Mc, x < wr.heap.size) := Lib.hid HOk.out.size
          have HPM : Hid (pa.block ∉ Mc) := Lib.hid fun h => by
            have h1 := HOk.out.lows _ h
            have h2 := HPW.out
            omega
          have HNAr : Hid (NaR wr pa q) := Lib.hid (NaR.tch HNA.out HTk.out (fun h => by simp at h))
          have HRL := Lib.hid (red_len l bb)
          have HLE : Hid (lin l bb = if bb = false ∧ 1 < (red l bb).length then red l bb ++ [(red l bb).getD 0 (0, 0)] else red l bb) := Lib.hid rfl
          obtain ⟨D, hD⟩ : ∃ D, dsh L (lin l bb) q f = D := ⟨_, rfl⟩
          rw [hD] at hst
          have HST := Lib.hid hst
          have HDD := Lib.hid hD
          have HDB : Hid (D.length ≤ ptsN D ∧ ptsN D ≤ 135170) := Lib.hid (by rw [← hD]; exact ⟨dsh_bd hpl, dsh_pts HLI.out hpn⟩)
          obtain ⟨X, hX⟩ : ∃ X, lin l bb = X := ⟨_, rfl⟩
          rw [hX] at HLI HLE HDD
          obtain ⟨r, hr⟩ : ∃ r, red l bb = r := ⟨_, rfl⟩
          unfold OwC at HRC
          rw [hr] at HRC HRL HLE
          obtain ⟨m, hm⟩ : ∃ m, l.length = m := ⟨_, rfl⟩
          obtain ⟨rm, hrm⟩ : ∃ m, r.length = m := ⟨_, rfl⟩
          rw [hm] at HRC HRL SP
          rw [hrm] at HRC HRL HLE
          have HLL : Hid (rm ≤ 65536) := Lib.hid (by have := HRL.out; omega)
          have HRM := Lib.hid hrm
          clear hk1 hk2 hP hB hmem hle hin hst hl hbb hpn hpl hD hX hm hpt hl6 hr hrm d0 hlt hk
          go_wp2_with fail
          have HK := SP.out _ HBr.out.drew
          go_region_held3 (fun W => W.cell? (ad.add k) = some (.slice A1 m c1) ∧ W.cell? (bd.add k) = some (.bool bb))
            (first | exact HK | go_keep)
            (first
              | (go_at_call 24; refine (HRC.out _ (Below.refl _ _).drew).mono ?_; rintro e' w8 ⟨v8, rfl, hown, hb8⟩; have HOW8 : Hid (w8.ownsRow wr.heap.size 30 2 v8 rm (pts r)) := Lib.hid hown; have HB8 : Hid (Below wr.heap.size wr w8) := Lib.hid ((Below.refl _ _).drew.trans hb8); clear HK; have HK := SP.out _ (HBr.out.trans (HB8.out.mono HBr.out.size)); clear hown hb8))
          have d1 := HK.2
          clear HK
          by_cases hc : bb = false ∧ 1 < rm
          · obtain ⟨rfl, hm1⟩ := hc
            have HLC : Hid (X = r ++ [r.getD 0 (0, 0)]) := Lib.hid (by rw [HLE.out, if_pos ⟨rfl, hm1⟩])
            have hm2 : (1 : Int) < (rm : Int) := by omega
            have hr0 : 0 < r.length := by rw [HRM.out]; omega
            have hown := HOW8.out
            rcases hown.2 with ⟨_, h9⟩ | ⟨g, cap, cur, rfl, hg, hh, _, _, _, _⟩
            · omega
            have hrd := Reads.of_own hown
            have hpt : PtR w8 (some ⟨g, 0, none⟩) r := by unfold PtR; rw [HRM.out]; exact hrd
            obtain ⟨b0, b1⟩ := pt_cells0 hpt 0 hr0
            have e0 : r.getD 0 (0, 0) = r[0] := getD_at hr0
            obtain ⟨⟨x, y⟩, hx⟩ : ∃ p, r[0] = p := ⟨_, rfl⟩
            rw [hx] at b0 b1 e0
            rw [e0] at HLC
            have hm0 : (0 : Int) < (rm : Int) := by omega
            have hm00 : 0 < rm := by omega
            have hm3 : rm ≤ 65536 := HLL.out
            obtain ⟨t0, hi0, hz0, hz1, hz2⟩ := info_parts infoP
            clear hown hh hrd hpt hx e0 HLE hr0
            go_wp2_with (at_builtin; refine wpList_append_own _ rfl _ _ 36 rfl wr.heap.size 30 t0 (.agg #[.int .i64 0, .int .i64 0]) 2 16 Tryd.underlying36 hi0 hz0 hz1 hz2 rfl (by decide) _ _ _ rfl (own_below HOW8.out ((Below.refl _ _).alloc (Nat.le_refl _) _)) ⟨w8.heap.size, 0, none⟩ 1 1 [.int .i64 x, .int .i64 y] rfl rfl (World.news_of_block (Blk.new _ _ _)) ?c2 ?c3 ?c4 ?c5 ?_)
            case c2 => first | exact ⟨rfl, rfl⟩ | (intro u hu; simp only [List.mem_cons, List.not_mem_nil, or_false] at hu; rcases hu with rfl | rfl <;> rfl)
            case c3 => unfold maxLen; omega
            case c4 => omega
            case c5 => first | (have := HB8.out.size; omega) | (simp; have := HB8.out.size; omega)
            intro v' w7 hown' hgrow _
            have HBX := Lib.hid ((HB8.out.alloc HB8.out.size _).grown hgrow (by simp; have := HB8.out.size; omega) (own_low HOW8.out))
            obtain ⟨n2, hn2⟩ : ∃ n, rm + 1 = n := ⟨_, rfl⟩
            have HXN : Hid (X.length = n2) := Lib.hid (by rw [HLC.out, List.length_append, HRM.out]; exact hn2)
            have HOW : Hid (w7.ownsRow wr.heap.size 30 2 v' n2 (pts X)) := Lib.hid (by rw [HLC.out, pts_app, ← hn2]; exact hown')
            obtain ⟨WR, rfl⟩ : ∃ W, W = w7 := ⟨_, rfl⟩
            clear hown' hgrow b0 b1 d1 hm2 hm0 hm00 hm3 hm1 hn2 HOW8
            obtain ⟨A9, c9, p9, rfl, hA9, hpr9, hp9⟩ := own_slice HOW.out HXN.out.symm
            have HDS := Lib.hid (dashes_any (pc := cp) (HOk.out.later HBX.out) HPB.out HFB.out (InR.below HNAr.out HBX.out) HPM.out A9 c9 p9 X (fun h => hA9 (by have := HXN.out; omega)) hpr9 (fun h => by have h1 := HMs.out _ h; omega) HLI.out (Nat.le_trans HBr.out.size HBX.out.size) HPN.out.1 HPN.out.2)
            rw [HXN.out, HQL.out, HDD.out] at HDS
            clear hA9 hpr9 hp9 HOW
            go_wp2_with fail
            refine HDS.out.mono ?_
            rintro e6 w6 ⟨v6, rfl, hout⟩
            have HOUT := Lib.hid (out_step (HTk.out.below HBX.out) HMk.out hout)
            clear hout HDS
            have HB6 : Hid (Below w.heap.size w w6) := Lib.hid (HB0.out.trans (HOUT.out.choose_spec.2.1.to_below HB0.out.size (fun k hk => by simp at hk)))
            obtain ⟨Md, ho, ht, hmd⟩ := HOUT.out
            obtain ⟨rb9, rc9, _, hrl9⟩ := ho
            obtain ⟨A6, c6, rfl, hp6⟩ := hrl9.pol_read
            have HPT9 := Lib.hid (rPoints_any A6 D c6 w6 hp6 (by have := HDB.out; omega) (by have := HDB.out; omega))
            obtain ⟨qq, hqq⟩ : ∃ q, D.length = q := ⟨_, rfl⟩
            obtain ⟨T, hT⟩ : ∃ T, ptsN D = T := ⟨_, rfl⟩
            rw [hqq] at HPT9
            rw [hqq]
            unfold NmC at HPT9
            rw [hT] at HPT9
            have HQQ := Lib.hid hqq
            have HTT := Lib.hid hT
            clear hqq hT hp6 hrl9 ht hmd HRC HOk HTk HMk
            go_wp2_with fail
            refine HPT9.out.mono ?_
            rintro e5 w5 ⟨rfl, hb5⟩
            have HB5 : Hid (Below w.heap.size w w5) := Lib.hid (HB6.out.trans (hb5.mono HB6.out.size))
            have HO5 : Hid (Out (RL w.heap.size D (.slice A6 qq c6)) [] W0 w5) := Lib.hid (by
              obtain ⟨M5, h1, h2, h3⟩ := HOUT.out
              rw [HQQ.out] at h1
              exact ⟨M5, h1.later hb5, h2.below hb5, h3⟩)
            clear hb5
            by_cases h4 : 4096 < T
            · have h4' : (4096 : Int) < (T : Int) := by omega
              have HR : Hid (OuC F w (.returned (.tuple #[.slice none 0 0, .int .i64 3])) w5) := Lib.hid (by
                have e1 := HST.out
                rw [if_pos (by rw [HTT.out]; exact h4)] at e1
                have e2 := runD_none e1 (nb - (k + 1))
                rw [show k + 1 + (nb - (k + 1)) = nb by have := HKN.out; omega] at e2
                have e3 := HF2.out
                rw [e2] at e3
                rw [← e3]
                exact ⟨none, 0, rfl, PolR.nil _, HB5.out⟩)
              clear h4
              go_wp2_with fail
              refine bodyPost_ret (results_tmp2 rfl _ _ _) rfl ?_
              exact HR.out
            · have h4' : ¬ (4096 : Int) < (T : Int) := by omega
              have HNX : Hid (runD ls ob q f (k + 1) = some D) := Lib.hid (by rw [HST.out, if_neg (by rw [HTT.out]; exact h4)])
              have K4 : Hid (IntKind.i64.wrap ((k : Int) + 1) = (k : Int) + 1) := Lib.hid (i64w (by have := HLS.out; have := HKN.out; omega) (by have := HLS.out; have := HKN.out; omega))
              have k4 := K4.out
              clear h4
              go_wp2_with fail
              clear k4
              go_roundw
              case rel => exact ⟨k + 1, D, by have := HLS.out; have := HKN.out; go_num, by have := HKN.out; omega, HNX.out, HO5.out⟩
              case measure => first | (have := HKN.out; simp [intOf]; done) | (have := HKN.out; simp [intOf]; omega)
          · have HXR : Hid (X = r) := Lib.hid (by rw [HLE.out, if_neg hc])
            obtain ⟨n2, rfl⟩ : ∃ n, n = rm := ⟨_, rfl⟩
            have HXN : Hid (X.length = n2) := Lib.hid (by rw [HXR.out]; exact HRM.out)
            have HOW : Hid (w8.ownsRow wr.heap.size 30 2 v8 n2 (pts X)) := Lib.hid (by rw [HXR.out]; exact HOW8.out)
            have HBX := HB8
            obtain ⟨WR, rfl⟩ : ∃ W, W = w8 := ⟨_, rfl⟩
            clear HOW8 HLE
            cases bb
            · have hm1 : ¬ (1 : Int) < (n2 : Int) := by have : ¬ 1 < n2 := fun h => hc ⟨rfl, h⟩; omega
              clear hc
              obtain ⟨A9, c9, p9, rfl, hA9, hpr9, hp9⟩ := own_slice HOW.out HXN.out.symm
              have HDS := Lib.hid (dashes_any (pc := cp) (HOk.out.later HBX.out) HPB.out HFB.out (InR.below HNAr.out HBX.out) HPM.out A9 c9 p9 X (fun h => hA9 (by have := HXN.out; omega)) hpr9 (fun h => by have h1 := HMs.out _ h; omega) HLI.out (Nat.le_trans HBr.out.size HBX.out.size) HPN.out.1 HPN.out.2)
              rw [HXN.out, HQL.out, HDD.out] at HDS
              clear hA9 hpr9 hp9 HOW
              go_wp2_with fail
              refine HDS.out.mono ?_
              rintro e6 w6 ⟨v6, rfl, hout⟩
              have HOUT := Lib.hid (out_step (HTk.out.below HBX.out) HMk.out hout)
              clear hout HDS
              have HB6 : Hid (Below w.heap.size w w6) := Lib.hid (HB0.out.trans (HOUT.out.choose_spec.2.1.to_below HB0.out.size (fun k hk => by simp at hk)))
              obtain ⟨Md, ho, ht, hmd⟩ := HOUT.out
              obtain ⟨rb9, rc9, _, hrl9⟩ := ho
              obtain ⟨A6, c6, rfl, hp6⟩ := hrl9.pol_read
              have HPT9 := Lib.hid (rPoints_any A6 D c6 w6 hp6 (by have := HDB.out; omega) (by have := HDB.out; omega))
              obtain ⟨qq, hqq⟩ : ∃ q, D.length = q := ⟨_, rfl⟩
              obtain ⟨T, hT⟩ : ∃ T, ptsN D = T := ⟨_, rfl⟩
              rw [hqq] at HPT9
              rw [hqq]
              unfold NmC at HPT9
              rw [hT] at HPT9
              have HQQ := Lib.hid hqq
              have HTT := Lib.hid hT
              clear hqq hT hp6 hrl9 ht hmd HRC HOk HTk HMk
              go_wp2_with fail
              refine HPT9.out.mono ?_
              rintro e5 w5 ⟨rfl, hb5⟩
              have HB5 : Hid (Below w.heap.size w w5) := Lib.hid (HB6.out.trans (hb5.mono HB6.out.size))
              have HO5 : Hid (Out (RL w.heap.size D (.slice A6 qq c6)) [] W0 w5) := Lib.hid (by
                obtain ⟨M5, h1, h2, h3⟩ := HOUT.out
                rw [HQQ.out] at h1
                exact ⟨M5, h1.later hb5, h2.below hb5, h3⟩)
              clear hb5
              by_cases h4 : 4096 < T
              · have h4' : (4096 : Int) < (T : Int) := by omega
                have HR : Hid (OuC F w (.returned (.tuple #[.slice none 0 0, .int .i64 3])) w5) := Lib.hid (by
                  have e1 := HST.out
                  rw [if_pos (by rw [HTT.out]; exact h4)] at e1
                  have e2 := runD_none e1 (nb - (k + 1))
                  rw [show k + 1 + (nb - (k + 1)) = nb by have := HKN.out; omega] at e2
                  have e3 := HF2.out
                  rw [e2] at e3
                  rw [← e3]
                  exact ⟨none, 0, rfl, PolR.nil _, HB5.out⟩)
                clear h4
                go_wp2_with fail
                refine bodyPost_ret (results_tmp2 rfl _ _ _) rfl ?_
                exact HR.out
              · have h4' : ¬ (4096 : Int) < (T : Int) := by omega
                have HNX : Hid (runD ls ob q f (k + 1) = some D) := Lib.hid (by rw [HST.out, if_neg (by rw [HTT.out]; exact h4)])
                have K4 : Hid (IntKind.i64.wrap ((k : Int) + 1) = (k : Int) + 1) := Lib.hid (i64w (by have := HLS.out; have := HKN.out; omega) (by have := HLS.out; have := HKN.out; omega))
                have k4 := K4.out
                clear h4
                go_wp2_with fail
                clear k4
                go_roundw
                case rel => exact ⟨k + 1, D, by have := HLS.out; have := HKN.out; go_num, by have := HKN.out; omega, HNX.out, HO5.out⟩
                case measure => first | (have := HKN.out; simp [intOf]; done) | (have := HKN.out; simp [intOf]; omega)
            · clear hc
              obtain ⟨A9, c9, p9, rfl, hA9, hpr9, hp9⟩ := own_slice HOW.out HXN.out.symm
              have HDS := Lib.hid (dashes_any (pc := cp) (HOk.out.later HBX.out) HPB.out HFB.out (InR.below HNAr.out HBX.out) HPM.out A9 c9 p9 X (fun h => hA9 (by have := HXN.out; omega)) hpr9 (fun h => by have h1 := HMs.out _ h; omega) HLI.out (Nat.le_trans HBr.out.size HBX.out.size) HPN.out.1 HPN.out.2)
              rw [HXN.out, HQL.out, HDD.out] at HDS
              clear hA9 hpr9 hp9 HOW
              go_wp2_with fail
              refine HDS.out.mono ?_
              rintro e6 w6 ⟨v6, rfl, hout⟩
              have HOUT := Lib.hid (out_step (HTk.out.below HBX.out) HMk.out hout)
              clear hout HDS
              have HB6 : Hid (Below w.heap.size w w6) := Lib.hid (HB0.out.trans (HOUT.out.choose_spec.2.1.to_below HB0.out.size (fun k hk => by simp at hk)))
              obtain ⟨Md, ho, ht, hmd⟩ := HOUT.out
              obtain ⟨rb9, rc9, _, hrl9⟩ := ho
              obtain ⟨A6, c6, rfl, hp6⟩ := hrl9.pol_read
              have HPT9 := Lib.hid (rPoints_any A6 D c6 w6 hp6 (by have := HDB.out; omega) (by have := HDB.out; omega))
              obtain ⟨qq, hqq⟩ : ∃ q, D.length = q := ⟨_, rfl⟩
              obtain ⟨T, hT⟩ : ∃ T, ptsN D = T := ⟨_, rfl⟩
              rw [hqq] at HPT9
              rw [hqq]
              unfold NmC at HPT9
              rw [hT] at HPT9
              have HQQ := Lib.hid hqq
              have HTT := Lib.hid hT
              clear hqq hT hp6 hrl9 ht hmd HRC HOk HTk HMk
              go_wp2_with fail
              refine HPT9.out.mono ?_
              rintro e5 w5 ⟨rfl, hb5⟩
              have HB5 : Hid (Below w.heap.size w w5) := Lib.hid (HB6.out.trans (hb5.mono HB6.out.size))
              have HO5 : Hid (Out (RL w.heap.size D (.slice A6 qq c6)) [] W0 w5) := Lib.hid (by
                obtain ⟨M5, h1, h2, h3⟩ := HOUT.out
                rw [HQQ.out] at h1
                exact ⟨M5, h1.later hb5, h2.below hb5, h3⟩)
              clear hb5
              by_cases h4 : 4096 < T
              · have h4' : (4096 : Int) < (T : Int) := by omega
                have HR : Hid (OuC F w (.returned (.tuple #[.slice none 0 0, .int .i64 3])) w5) := Lib.hid (by
                  have e1 := HST.out
                  rw [if_pos (by rw [HTT.out]; exact h4)] at e1
                  have e2 := runD_none e1 (nb - (k + 1))
                  rw [show k + 1 + (nb - (k + 1)) = nb by have := HKN.out; omega] at e2
                  have e3 := HF2.out
                  rw [e2] at e3
                  rw [← e3]
                  exact ⟨none, 0, rfl, PolR.nil _, HB5.out⟩)
                clear h4
                go_wp2_with fail
                refine bodyPost_ret (results_tmp2 rfl _ _ _) rfl ?_
                exact HR.out
              · have h4' : ¬ (4096 : Int) < (T : Int) := by omega
                have HNX : Hid (runD ls ob q f (k + 1) = some D) := Lib.hid (by rw [HST.out, if_neg (by rw [HTT.out]; exact h4)])
                have K4 : Hid (IntKind.i64.wrap ((k : Int) + 1) = (k : Int) + 1) := Lib.hid (i64w (by have := HLS.out; have := HKN.out; omega) (by have := HLS.out; have := HKN.out; omega))
                have k4 := K4.out
                clear h4
                go_wp2_with fail
                clear k4
                go_roundw
                case rel => exact ⟨k + 1, D, by have := HLS.out; have := HKN.out; go_num, by have := HKN.out; omega, HNX.out, HO5.out⟩
                case measure => first | (have := HKN.out; simp [intOf]; done) | (have := HKN.out; simp [intOf]; omega)
        · have k2 : ¬ (k : Int) < (nb : Int) := by omega
          obtain rfl : nb = k := by omega
          obtain ⟨rb, rc, _, hrl⟩ := HOk.out
          obtain ⟨A2, c2, rfl, hp⟩ := hrl.pol_read
          have HR : Hid (OuC F w (.returned (.tuple #[.slice A2 L.length c2, .int .i64 0])) wr) := Lib.hid (by
            have e3 := HF2.out
            rw [HRU.out] at e3
            rw [← e3]
            exact ⟨A2, c2, rfl, hp, HBr.out⟩)
          clear hp hrl
          go_wp2_with fail
          refine bodyPost_ret (results_tmp2 rfl _ _ _) rfl ?_
          exact HR.out
end Go.Proofs.YtflopcogalknhaaDoor.Str
