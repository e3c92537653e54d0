/-
  Layer 21: dashes of polygons (program).
-/
import Derived.Test.YtflopcogalknhaaDoorKStrDg
set_option linter.unusedVariables false
set_option linter.unusedSimpArgs false
namespace Go.Proofs.YtflopcogalknhaaDoor.Str
open Go.RowKit Go.Proofs.YtflopcogalknhaaDoor Go.Proofs.YtflopcogalknhaaDoor.NumPure

theorem dsh_bd {p : List Nat} {o : Nat} {l : List P2} {L : List (List P2)} (h : L.length ≤ ptsN L) : (dsh L l p o).length ≤ ptsN (dsh L l p o) := by
  have f : ∀ k, (itr l p o L k).2.length ≤ ptsN (itr l p o L k).2 := fun k => by
    induction k with
    | zero => exact h
    | succ k ih =>
      rw [itr, stp]
      split
      · dsimp only
        split
        · unfold addD
          split
          · rw [ptsN_snoc, List.length_append, List.length_singleton]
            omega
          · exact ih
        · exact ih
      · exact ih
  exact f _
theorem runD_len {ls : List (List P2)} {ob : List Bool} {p : List Nat} {o : Nat} : ∀ {i : Nat} {L : List (List P2)}, runD ls ob p o i = some L → L.length ≤ ptsN L
  | 0, L, h => by
    rw [runD] at h
    injection h with h
    subst h
    simp [ptsN]
  | i + 1, L, h => by
    rw [runD] at h
    split at h
    · cases h
    · rename_i L0 h0
      split at h
      · cases h
      · injection h with h
        subst h
        exact dsh_bd (runD_len h0)
theorem sum_map (p : List Nat) : ∀ k, k ≤ p.length → psN p k = (p.take k).sum
  | 0, _ => by simp [psN]
  | k + 1, h => by
    rw [psN, sum_map p k (by omega), Nat.mod_eq_of_lt (by omega), List.take_succ_eq_append_getElem (by omega), List.sum_append, List.getD_eq_getElem?_getD, List.getElem?_eq_getElem (by omega)]
    simp
theorem map_nat (q : List Nat) : (q.map Int.ofNat).map Int.toNat = q := by
  rw [List.map_map]
  conv => rhs; rw [← List.map_id q]
  apply List.map_congr_left
  intro n _
  rfl
/-- A call that returns polygons and an error (with the room of their row). -/
def OuK (F : Int × List (List P2)) (w : World) (e : Ending) (w' : World) : Prop := ∃ A c, e = .returned (.tuple #[.slice A F.2.length c, .int .i64 F.1]) ∧ PolR w' A F.2 ∧ Below w.heap.size w w' ∧ F.2.length ≤ c
set_option maxRecDepth 100000 in
set_option maxHeartbeats 2000000 in
theorem Dash_any (A : Option Addr) (c : Nat) (ls : List (List P2)) (Ab : Option Addr) (cb : Nat) (ob : List Bool) (Ap : Option Addr) (cp : Nat) (p : List Int) (o : Int) (w : World) (h : PolR w A ls) (hls : ls.length ≤ 140737488355328) (hl2 : ∀ l ∈ ls, l.length ≤ 140737488355328) (hob : BoR w Ab ob) (hobl : ob.length ≤ 4611686018427387904)
    (hpr : InR w Ap p) (hpl : p.length ≤ 4611686018427387904) : Calls Tryd.prog 15 #[.slice A ls.length c, .slice Ab ob.length cb, .slice Ap p.length cp, .int .i64 o] w (OuK (dasF ls ob p o) w) := by
  obtain ⟨F, hF⟩ : ∃ F, dasF ls ob p o = F := ⟨_, rfl⟩
  rw [hF]
  unfold dasF at hF
  have HC1 := Lib.hid (fun W (hW : Below w.heap.size w W) => checkPattern_any Ap p cp o W (hpr.below hW) hpl)
  have HC2 := Lib.hid (fun W (hW : Below w.heap.size w W) => cov_any A ls c W (h.below hW) hls hl2)
  obtain ⟨n, hn⟩ : ∃ n, ls.length = n := ⟨_, rfl⟩
  obtain ⟨nb, hnb⟩ : ∃ n, ob.length = n := ⟨_, rfl⟩
  obtain ⟨np, hnp⟩ : ∃ n, p.length = n := ⟨_, rfl⟩
  rw [hn] at HC2
  rw [hnp] at HC1
  rw [hn, hnb, hnp]
  have HP := Lib.hid h
  have HBo := Lib.hid hob
  have HPR := Lib.hid hpr
  have HN := Lib.hid hn
  have HNB := Lib.hid hnb
  have HNP := Lib.hid hnp
  have HLS : Hid (n ≤ 140737488355328) := Lib.hid (by omega)
  clear h hob hn hnb hls hobl hl2 hpr hpl hnp
  obtain ⟨e1, he1⟩ : ∃ z, ptnE p o = z := ⟨_, rfl⟩
  rw [he1] at HC1 hF
  by_cases h1 : e1 = 0
  rotate_left
  · skip
    rw [if_pos h1] at hF
    subst hF
    have h1' : (e1 == 0) = false := by simpa using h1
    have HR : Hid (∀ W, Below w.heap.size w W → OuK (e1, []) w (.returned (.tuple #[.slice none 0 0, .int .i64 e1])) W) := Lib.hid fun W hW => ⟨none, 0, rfl, PolR.nil _, hW, Nat.le_refl _⟩
    clear he1 h1
    go_enter Tryd.func15, Tryd.ntmps15
    go_wp2_with fail
    refine (HC1.out _ (Below.refl _ _)).mono ?_
    rintro x w' ⟨rfl, rfl⟩
    go_wp2_with fail
    refine bodyPost_ret (results_tmp2 rfl _ _ _) rfl ?_
    exact HR.out _ (Below.refl _ _)
  subst h1
  have hF2 := hF
  clear hF
  rw [if_neg (fun h => h rfl)] at hF2
  obtain ⟨e2, he2⟩ : ∃ z, covE ls = z := ⟨_, rfl⟩
  rw [he2] at HC2 hF2
  unfold NmC at HC2
  by_cases h2 : e2 = 0
  rotate_left
  · have hF := hF2
    clear hF2
    rw [if_pos h2] at hF
    subst hF
    have h1' : (e2 == 0) = false := by simpa using h2
    have HR : Hid (∀ W, Below w.heap.size w W → OuK (e2, []) w (.returned (.tuple #[.slice none 0 0, .int .i64 e2])) W) := Lib.hid fun W hW => ⟨none, 0, rfl, PolR.nil _, hW, Nat.le_refl _⟩
    clear he1 h2 he2
    go_enter Tryd.func15, Tryd.ntmps15
    go_wp2_with fail
    refine (HC1.out _ (Below.refl _ _)).mono ?_
    rintro x w' ⟨rfl, rfl⟩
    go_wp2_with fail
    refine (HC2.out _ (Below.refl _ _)).mono ?_
    rintro x wa ⟨rfl, hba⟩
    have HBa := Lib.hid hba
    clear hba HC2 HC1
    go_wp2_with fail
    refine bodyPost_ret (results_tmp2 rfl _ _ _) rfl ?_
    exact HR.out _ HBa.out
  subst h2
  rw [if_neg (fun h => h rfl)] at hF2
  obtain ⟨hpt, hin⟩ := cov_zero he2
  by_cases h3 : nb = n
  rotate_left
  · rw [if_pos (by rw [HN.out, HNB.out]; exact h3)] at hF2
    subst hF2
    have h3' : ((nb : Int) == (n : Int)) = false := beq_eq_false_iff_ne.2 (by omega)
    have HR : Hid (∀ W, Below w.heap.size w W → OuK (15, []) w (.returned (.tuple #[.slice none 0 0, .int .i64 15])) W) := Lib.hid fun W hW => ⟨none, 0, rfl, PolR.nil _, hW, Nat.le_refl _⟩
    clear he1 h3 he2 hpt hin
    go_enter Tryd.func15, Tryd.ntmps15
    go_wp2_with fail
    refine (HC1.out _ (Below.refl _ _)).mono ?_
    rintro x w' ⟨rfl, rfl⟩
    go_wp2_with fail
    refine (HC2.out _ (Below.refl _ _)).mono ?_
    rintro x wa ⟨rfl, hba⟩
    have HBa := Lib.hid hba
    clear hba HC2 HC1
    go_wp2_with fail
    refine bodyPost_ret (results_tmp2 rfl _ _ _) rfl ?_
    exact HR.out _ HBa.out
  obtain ⟨q, f, hq, hf, hf2, hpb⟩ := ptn_ok he1
  subst h3
  rw [if_neg (by rw [HN.out, HNB.out]; exact fun h => h rfl), HN.out, hq, map_nat, hf, Int.toNat_natCast] at hF2
  have hql : q.length = np := by have := HNP.out; rw [hq, List.length_map] at this; exact this
  have HIN := Lib.hid hin
  have HPT := Lib.hid hpt
  have HF2 := Lib.hid hF2
  have HPB := Lib.hid hpb
  have HQL := Lib.hid hql
  have HQ := Lib.hid hq
  have HNN : Hid (0 < np ∧ np ≤ 16) := Lib.hid (by have := hpb.1; omega)
  have HFB := Lib.hid hf2
  have HSB := Lib.hid (psS_bd hpb)
  have HSE : Hid (psN q np = psS q) := Lib.hid (by rw [← hql]; rfl)
  subst hf
  obtain ⟨pa, hpa, _⟩ := HPR.out.addr (by have := HNP.out; have := HNN.out; omega)
  subst hpa
  clear he1 he2 hin hpt hF2 hpb hql hq hf2
  go_enter Tryd.func15, Tryd.ntmps15
  go_wp2_with fail
  refine (HC1.out _ (Below.refl _ _)).mono ?_
  rintro x w' ⟨rfl, rfl⟩
  go_wp2_with fail
  refine (HC2.out _ (Below.refl _ _)).mono ?_
  rintro x wa ⟨rfl, hba⟩
  have HBa := Lib.hid hba
  have HNA : Hid (NaR wa pa q) := Lib.hid (by
    have h8 := HPR.out.below hba
    rw [HQ.out] at h8
    exact h8)
  clear hba HC2 HC1
  go_wp2_with fail
  go_loopw [12, 37] (fun s i wr => ∃ k : Nat, i = .int .i64 (k : Int) ∧ k ≤ np ∧ s = .int .i64 (psN q k : Nat) ∧ wa = wr) (fun _ i _ => np - (intOf i).toNat)
  case atStart => exact ⟨0, rfl, by omega, rfl, rfl⟩
  case round =>
    obtain ⟨k, rfl, hk, rfl, rfl⟩ := hrel
    by_cases hlt : k < np
    · have hc := NaR.cell HNA.out k (by rw [HQL.out]; exact hlt)
      have hst : psN q (k + 1) = psN q k + q.getD k 0 := by
        rw [psN, HQL.out, Nat.mod_eq_of_lt hlt]
      have hb1 := psN_bd HPB.out (k + 1)
      have hnn := HNN.out
      obtain ⟨S, hS⟩ : ∃ S, psN q k = S := ⟨_, rfl⟩
      obtain ⟨y, hy⟩ : ∃ S, q.getD k 0 = S := ⟨_, rfl⟩
      rw [hy] at hc hst
      rw [hS] at hst
      rw [hS]
      have HNX : Hid (psN q (k + 1) = S + y) := Lib.hid hst
      have X1 : Hid (IntKind.i64.wrap ((S : Int) + (y : Int)) = (S : Int) + (y : Int)) := Lib.hid (i64w (by omega) (by omega))
      have X2 : Hid (IntKind.i64.wrap ((k : Int) + 1) = (k : Int) + 1) := Lib.hid (i64w (by omega) (by omega))
      have k2 : (k : Int) < (np : Int) := by omega
      have k3 : (0 : Int) ≤ (k : Int) := by omega
      have x1 := X1.out
      have x2 := X2.out
      clear hst hb1 hnn hS hy
      go_wp2_with fail
      clear x1 x2
      go_roundw
      case rel => exact ⟨k + 1, by have := HNN.out; go_num, by omega, by rw [HNX.out]; rfl, trivial⟩
      case measure => first | (simp [intOf]; done) | (simp [intOf]; omega)
    · have k2 : ¬ (k : Int) < (np : Int) := by omega
      obtain rfl : np = k := by omega
      rw [HSE.out]
      obtain ⟨S, hS⟩ : ∃ S, psS q = S := ⟨_, rfl⟩
      have hsb := HSB.out
      rw [hS] at hsb ⊢
      have HS := Lib.hid hS
      have hf9 := HFB.out
      have hn9 := HNN.out
      have hql := HQL.out
      obtain ⟨o2, ho2⟩ : ∃ r, f % (2 * S) = r := ⟨_, rfl⟩
      have ho3 : o2 < 2 * S := by rw [← ho2]; exact Nat.mod_lt _ (by omega)
      have HO2 : Hid (o2 ≤ 33554432) := Lib.hid (by omega)
      have HOF : Hid (∀ L l, dsh L l q o2 = dsh L l q f) := Lib.hid fun L l => by
        have h3 := Nat.mod_add_div f (2 * S)
        rw [ho2] at h3
        obtain ⟨d, hd⟩ : ∃ d, f / (2 * S) = d := ⟨_, rfl⟩
        rw [hd] at h3
        have h1 := dsh_rounds HPB.out L l o2 d
        have e : 2 * d * S = 2 * S * d := by rw [Nat.mul_assoc, Nat.mul_comm d S, ← Nat.mul_assoc]
        rw [hS, e, h3] at h1
        exact h1.symm
      have X1 : Hid (IntKind.i64.wrap (2 * (S : Int)) = 2 * (S : Int)) := Lib.hid (i64w (by omega) (by omega))
      have x2 : (f : Int).tmod (2 * (S : Int)) = (o2 : Int) := by rw [← ho2]; rfl
      have x3 : ¬ S = 0 := by omega
      have x1 := X1.out
      clear hsb hS hf9 hn9 hql ho2 ho3
      go_wp2_with fail
      have HS0 := Lib.hid (DL.start (.slice (some pa) np cp) o2 w.heap.size wa HBa.out.size)
      have hbs : Below wa.heap.size wa (wa.alloc (.cells #[.slice (some pa) np cp, .int .i64 (o2 : Int), .slice none 0 0, .int .i64 0] 55)) := (Below.refl _ _).alloc (Nat.le_refl _) _
      obtain ⟨W0, hW0⟩ : ∃ W, wa.alloc (.cells #[.slice (some pa) np cp, .int .i64 (o2 : Int), .slice none 0 0, .int .i64 0] 55) = W := ⟨_, rfl⟩
      rw [hW0] at HS0 hbs
      rw [hW0]
      have HB0 : Hid (Below w.heap.size w W0) := Lib.hid (HBa.out.trans (hbs.mono HBa.out.size))
      have hgs : w.heap.size ≤ wa.heap.size := HBa.out.size
      have HNA0 : Hid (NaR W0 pa q) := Lib.hid (InR.below HNA.out hbs)
      have HPW : Hid (pa.block < w.heap.size) := Lib.hid (by
        obtain ⟨ad, e, hb⟩ := HPR.out.addr (by have := HNP.out; have := HNN.out; omega)
        cases e
        exact hb)
      obtain ⟨g, hg⟩ : ∃ g, wa.heap.size = g := ⟨_, rfl⟩
      rw [hg] at HS0 hgs
      rw [hg]
      have HG := Lib.hid hgs
      have HSS : Hid (Out (DL (.slice (some pa) np cp) o2 w.heap.size g []) [g] W0 W0) := Lib.hid ⟨_, HS0.out, Tch.refl _ _, fun k hk => Or.inl hk⟩
      clear hbs hW0 hgs hg HS0 HBa HNA x1 x2 x3 k2 hk hlt
      go_loopw [54] (fun i wr => ∃ (k : Nat) (L : List (List P2)), i = .int .i64 (k : Int) ∧ k ≤ nb ∧ runD ls ob q f k = some L ∧ Out (DL (.slice (some pa) np cp) o2 w.heap.size g L) [g] W0 wr) (fun i _ => (nb - intOf i).toNat)
      case atStart => exact ⟨0, [], rfl, by omega, rfl, HSS.out⟩
      case round =>
        clear HSS
        obtain ⟨k, L, rfl, hk, hrun, hr⟩ := hrel
        have HRU := Lib.hid hrun
        obtain ⟨Mc, ho, ht, hmm⟩ := hr
        have HOk := Lib.hid ho
        have HTk := Lib.hid ht
        have HMk := Lib.hid hmm
        have HBr : Hid (Below w.heap.size w wr) := Lib.hid (HB0.out.trans (ht.to_below HB0.out.size (fun k hk => by simp only [List.mem_singleton] at hk; rw [hk]; exact HG.out)))
        clear ho ht hmm hrun
        by_cases hlt : k < nb
        · have k2 : (k : Int) < (nb : Int) := by omega
          have k3 : (0 : Int) ≤ (k : Int) := by omega
          have hk1 : k < ls.length := by have := HN.out; omega
          have hk2 : k < ob.length := by have := HNB.out; omega
          have hP := HP.out.below HBr.out
          have hB := BoR.below HBo.out HBr.out
          obtain ⟨ad, rfl, _⟩ := hP.addr (by omega)
          obtain ⟨bd, rfl, _⟩ := hB.addr (by omega)
          obtain ⟨A1, c1, d0, hpt⟩ := hP.cell k hk1
          have d1 := hB.cell k hk2
          have hmem : ls.getD k [] ∈ ls := by rw [List.getD_eq_getElem?_getD, List.getElem?_eq_getElem hk1]; exact List.getElem_mem _
          have hle := len_le hmem
          have hin := HIN.out _ hmem
          have hst := runD_step HRU.out
          obtain ⟨l, hl⟩ : ∃ l, ls.getD k [] = l := ⟨_, rfl⟩
          obtain ⟨bb, hbb⟩ : ∃ b, ob.getD k false = b := ⟨_, rfl⟩
          rw [hl] at d0 hpt hle hin hst
          rw [hbb] at d1 hst
          have hpn := runD_pts HRU.out
          have hpl := runD_len HRU.out
          have hl6 : l.length ≤ 65536 := by have := HPT.out; omega
          have HCL := Lib.hid (lineOf_any A1 l c1 bb wr hpt hl6 hin)
          have HLI := Lib.hid (lin_of hin hl6 bb)
          have HPN := Lib.hid (And.intro hpn hpl)
          have HMw : Hid (∀ x ∈ Mc, x < wr.heap.size) := Lib.hid HOk.out.size
          have HPM : Hid (pa.block ∉ Mc) := Lib.hid fun h => by
            have h1 := HOk.out.lows _ h
            have h2 := HPW.out
            omega
          have HNAr : Hid (NaR wr pa q) := Lib.hid (NaR.tch HNA0.out HTk.out (fun h => by simp only [List.mem_singleton] at h; have h2 := HPW.out; have h3 := HG.out; omega))
          obtain ⟨D, hD⟩ : ∃ D, dsh L (lin l bb) q f = D := ⟨_, rfl⟩
          rw [hD] at hst
          have HST := Lib.hid hst
          have HDD : Hid (dsh L (lin l bb) q o2 = D) := Lib.hid (by rw [HOF.out, hD])
          obtain ⟨m, hm⟩ : ∃ m, l.length = m := ⟨_, rfl⟩
          rw [hm] at d0 HCL
          clear hk1 hk2 hP hB hmem hle hin hst hl hbb hpn hpl hl6 hD hm hpt
          go_wp2_with fail
          refine HCL.out.mono ?_
          rintro e5 w5 ⟨v5, rfl, hlv, hb5⟩
          have HO5 := Lib.hid (HOk.out.later hb5)
          have HDL := Lib.hid (dline_any HPB.out HO2.out (pc := cp) (o := o2) (g := g) (B := w.heap.size) (by rw [HQL.out]; exact HO5.out) (InR.below HNAr.out hb5) HPM.out (lin l bb) HLI.out v5 wr.heap.size hlv HMw.out (Nat.le_trans HBr.out.size hb5.size) HPN.out.1 HPN.out.2)
          rw [HQL.out, HDD.out] at HDL
          have HT5 := Lib.hid (HTk.out.below hb5)
          clear hlv hb5 HCL d0 d1
          go_wp2_with fail
          refine HDL.out.mono ?_
          rintro e6 wc ⟨rfl, hout⟩
          have HOUT := Lib.hid (out_step HT5.out HMk.out hout)
          clear hout HDL HOk HTk HMk HBr HO5 HT5
          have HBc : Hid (Below w.heap.size w wc) := Lib.hid (by
            obtain ⟨Md, ho, ht, hmd⟩ := HOUT.out
            exact HB0.out.trans (ht.to_below HB0.out.size (fun k hk => by simp only [List.mem_singleton] at hk; rw [hk]; exact HG.out)))
          by_cases h4 : 4096 < ptsN D
          · have HDE : Hid (dE D = 3) := Lib.hid (by unfold dE; rw [if_pos h4])
            rw [HDE.out]
            have HR : Hid (OuK F w (.returned (.tuple #[.slice none 0 0, .int .i64 3])) wc) := Lib.hid (by
              have e1 := HST.out
              rw [if_pos h4] at e1
              have e2 := runD_none e1 (nb - (k + 1))
              rw [show k + 1 + (nb - (k + 1)) = nb by omega] at e2
              have e3 := HF2.out
              rw [e2] at e3
              rw [← e3]
              exact ⟨none, 0, rfl, PolR.nil _, HBc.out, Nat.le_refl _⟩)
            clear h4
            go_wp2_with fail
            refine bodyPost_ret (results_tmp2 rfl _ _ _) rfl ?_
            exact HR.out
          · have HDE : Hid (dE D = 0) := Lib.hid (by unfold dE; rw [if_neg h4])
            rw [HDE.out]
            have HNX : Hid (runD ls ob q f (k + 1) = some D) := Lib.hid (by rw [HST.out, if_neg h4])
            have K4 : Hid (IntKind.i64.wrap ((k : Int) + 1) = (k : Int) + 1) := Lib.hid (i64w (by have := HLS.out; omega) (by have := HLS.out; omega))
            have k4 := K4.out
            clear h4
            go_wp2_with fail
            clear k4
            go_roundw
            case rel => exact ⟨k + 1, D, by have := HLS.out; go_num, by omega, HNX.out, HOUT.out⟩
            case measure => first | (simp [intOf]; done) | (simp [intOf]; omega)
        · have k2 : ¬ (k : Int) < (nb : Int) := by omega
          obtain rfl : nb = k := by omega
          obtain ⟨A2, c2, d3, hp, hcap⟩ := HOk.out.pol
          have HR : Hid (OuK F w (.returned (.tuple #[.slice A2 L.length c2, .int .i64 0])) wr) := Lib.hid (by
            have e3 := HF2.out
            rw [HRU.out] at e3
            rw [← e3]
            exact ⟨A2, c2, rfl, hp, HBr.out, hcap⟩)
          clear hp hcap
          go_wp2_with fail
          refine bodyPost_ret (results_tmp2 rfl _ _ _) rfl ?_
          exact HR.out
end Go.Proofs.YtflopcogalknhaaDoor.Str
