/-
  Layer 21: the outline of polygons (program): the walk.
-/
import Derived.Test.YtflopcogalknhaaDoorKStrOu
set_option linter.unusedVariables false
set_option linter.unusedSimpArgs false
namespace Go.Proofs.YtflopcogalknhaaDoor.Str
open Go.RowKit Go.Proofs.YtflopcogalknhaaDoor Go.Proofs.YtflopcogalknhaaDoor.NumPure

theorem tab_pos {w : World} (h : Num.Tab w) : 0 < w.heap.size := by
  have h0 := h 0 (by omega)
  unfold World.cell? at h0
  rcases Nat.lt_or_ge 0 w.heap.size with h1 | h1
  · exact h1
  · rw [Array.getElem?_eq_none h1] at h0
    cases h0
set_option maxRecDepth 100000 in
set_option maxHeartbeats 2000000 in
theorem Outline_any (A : Option Addr) (c : Nat) (ls : List (List P2)) (Ab : Option Addr) (cb : Nat) (ob : List Bool) (wd j e : Int) (w : World) (h : PolR w A ls) (hls : ls.length ≤ 140737488355328) (hl2 : ∀ l ∈ ls, l.length ≤ 140737488355328) (hob : BoR w Ab ob) (hobl : ob.length ≤ 4611686018427387904) (hT : Num.Tab w) :
    Calls Tryd.prog 9 #[.slice A ls.length c, .slice Ab ob.length cb, .int .i64 wd, .int .i64 j, .int .i64 e] w (OuC (outF wd j e ls ob) w) := by
  obtain ⟨F, hF⟩ : ∃ F, outF wd j e ls ob = F := ⟨_, rfl⟩
  obtain ⟨n, hn⟩ : ∃ n, ls.length = n := ⟨_, rfl⟩
  obtain ⟨nb, hnb⟩ : ∃ n, ob.length = n := ⟨_, rfl⟩
  rw [hF, hn, hnb]
  unfold outF at hF
  have HC1 := Lib.hid (fun W => Check_any wd j e W)
  have HC2 := Lib.hid (fun W (hW : Below w.heap.size w W) => cov_any A ls c W (h.below hW) hls hl2)
  rw [hn] at HC2
  have HP := Lib.hid h
  have HBo := Lib.hid hob
  have HN := Lib.hid hn
  have HNB := Lib.hid hnb
  have HT := Lib.hid hT
  have HLS : Hid (n ≤ 140737488355328) := Lib.hid (by omega)
  clear h hob hn hnb hT hls hobl hl2
  obtain ⟨e1, he1⟩ : ∃ z, chkE wd j e = z := ⟨_, rfl⟩
  rw [he1] at HC1 hF
  by_cases h1 : e1 = 0
  rotate_left
  · rw [if_pos h1] at hF
    subst hF
    have h1' : (e1 == 0) = false := by simpa using h1
    have HR : Hid (OuC (e1, []) w (.returned (.tuple #[.slice none 0 0, .int .i64 e1])) w) := Lib.hid ⟨none, 0, rfl, PolR.nil _, Below.refl _ _⟩
    clear he1 h1
    go_enter Tryd.func9, Tryd.ntmps9
    go_wp2_with fail
    refine (HC1.out _).mono ?_
    rintro x w' ⟨rfl, rfl⟩
    go_wp2_with fail
    refine bodyPost_ret (results_tmp2 rfl _ _ _) rfl ?_
    exact HR.out
  subst h1
  obtain ⟨w1, w2⟩ := chk_ok he1
  have hF2 := hF
  clear hF
  rw [if_neg (fun h => h rfl)] at hF2
  obtain ⟨e2, he2⟩ : ∃ z, covE ls = z := ⟨_, rfl⟩
  rw [he2] at HC2 hF2
  unfold NmC at HC2
  by_cases h2 : e2 = 0
  rotate_left
  · rw [if_pos h2] at hF2
    subst hF2
    have h2' : (e2 == 0) = false := by simpa using h2
    have HR : Hid (∀ W, Below w.heap.size w W → OuC (e2, []) w (.returned (.tuple #[.slice none 0 0, .int .i64 e2])) W) := Lib.hid fun W hW => ⟨none, 0, rfl, PolR.nil _, hW⟩
    clear he1 h2 he2
    go_enter Tryd.func9, Tryd.ntmps9
    go_wp2_with fail
    refine (HC1.out _).mono ?_
    rintro x w' ⟨rfl, rfl⟩
    go_wp2_with fail
    refine (HC2.out _ (Below.refl _ _)).mono ?_
    rintro x wa ⟨rfl, hba⟩
    have HBa := Lib.hid hba
    clear hba HC2 HC1
    go_wp2_with fail
    refine bodyPost_ret (results_tmp2 rfl _ _ _) rfl ?_
    exact HR.out _ HBa.out
  subst h2
  rw [if_neg (fun h => h rfl)] at hF2
  obtain ⟨hpt, hin⟩ := cov_zero he2
  by_cases h3 : nb = n
  rotate_left
  · rw [if_pos (by rw [HN.out, HNB.out]; exact h3)] at hF2
    subst hF2
    have h3' : ((nb : Int) == (n : Int)) = false := beq_eq_false_iff_ne.2 (by omega)
    have HR : Hid (∀ W, Below w.heap.size w W → OuC (15, []) w (.returned (.tuple #[.slice none 0 0, .int .i64 15])) W) := Lib.hid fun W hW => ⟨none, 0, rfl, PolR.nil _, hW⟩
    clear he1 h3 he2 hpt hin
    go_enter Tryd.func9, Tryd.ntmps9
    go_wp2_with fail
    refine (HC1.out _).mono ?_
    rintro x w' ⟨rfl, rfl⟩
    go_wp2_with fail
    refine (HC2.out _ (Below.refl _ _)).mono ?_
    rintro x wa ⟨rfl, hba⟩
    have HBa := Lib.hid hba
    clear hba HC2 HC1
    go_wp2_with fail
    refine bodyPost_ret (results_tmp2 rfl _ _ _) rfl ?_
    exact HR.out _ HBa.out
  subst h3
  rw [if_neg (by rw [HN.out, HNB.out]; exact fun h => h rfl), HN.out] at hF2
  have HIN := Lib.hid hin
  have HPT := Lib.hid hpt
  have HF2 := Lib.hid hF2
  clear he1 he2 hin hpt hF2
  go_enter Tryd.func9, Tryd.ntmps9
  go_wp2_with fail
  refine (HC1.out _).mono ?_
  rintro x w' ⟨rfl, rfl⟩
  go_wp2_with fail
  refine (HC2.out _ (Below.refl _ _)).mono ?_
  rintro x wa ⟨rfl, hba⟩
  have HBa := Lib.hid hba
  have HS0 := Lib.hid (OL.start wd j e w.heap.size wa hba.size)
  clear hba HC2 HC1
  go_wp2_with fail
  have hbs : Below wa.heap.size wa (wa.alloc (.cells #[.int .i64 wd, .int .i64 j, .int .i64 e, .slice none 0 0, .int .i64 0] 47)) := (Below.refl _ _).alloc (Nat.le_refl _) _
  obtain ⟨W0, hW0⟩ : ∃ W, wa.alloc (.cells #[.int .i64 wd, .int .i64 j, .int .i64 e, .slice none 0 0, .int .i64 0] 47) = W := ⟨_, rfl⟩
  rw [hW0] at HS0 hbs
  rw [hW0]
  have HB0 : Hid (Below w.heap.size w W0) := Lib.hid (HBa.out.trans (hbs.mono HBa.out.size))
  have hgs : w.heap.size ≤ wa.heap.size := HBa.out.size
  obtain ⟨g, hg⟩ : ∃ g, wa.heap.size = g := ⟨_, rfl⟩
  rw [hg] at HS0 hgs
  rw [hg]
  have HG := Lib.hid hgs
  have HSS : Hid (Out (OL wd j e w.heap.size g []) [g] W0 W0) := Lib.hid ⟨_, HS0.out, Tch.refl _ _, fun k hk => Or.inl hk⟩
  clear hbs hW0 hgs hg HS0 HBa
  go_loopw [41] (fun i wr => ∃ (k : Nat) (L : List (List P2)), i = .int .i64 (k : Int) ∧ k ≤ nb ∧ runL wd j e ls ob k = some L ∧ Out (OL wd j e w.heap.size g L) [g] W0 wr) (fun i _ => (nb - intOf i).toNat)
  case atStart => exact ⟨0, [], rfl, by omega, rfl, HSS.out⟩
  case round =>
    clear HSS
    obtain ⟨k, L, rfl, hk, hrun, hr⟩ := hrel
    have HRU := Lib.hid hrun
    obtain ⟨Mc, ho, ht, hmm⟩ := hr
    have HOk := Lib.hid ho
    have HTk := Lib.hid ht
    have HMk := Lib.hid hmm
    have HBr : Hid (Below w.heap.size w wr) := Lib.hid (HB0.out.trans (ht.to_below HB0.out.size (fun k hk => by simp only [List.mem_singleton] at hk; rw [hk]; exact HG.out)))
    clear ho ht hmm hrun
    by_cases hlt : k < nb
    · have k2 : (k : Int) < (nb : Int) := by omega
      have k3 : (0 : Int) ≤ (k : Int) := by omega
      have hk1 : k < ls.length := by have := HN.out; omega
      have hk2 : k < ob.length := by have := HNB.out; omega
      have hP := HP.out.below HBr.out
      have hB := BoR.below HBo.out HBr.out
      obtain ⟨ad, rfl, _⟩ := hP.addr (by omega)
      obtain ⟨bd, rfl, _⟩ := hB.addr (by omega)
      obtain ⟨A1, c1, d0, hpt⟩ := hP.cell k hk1
      have d1 := hB.cell k hk2
      have hmem : ls.getD k [] ∈ ls := by rw [List.getD_eq_getElem?_getD, List.getElem?_eq_getElem hk1]; exact List.getElem_mem _
      have hle := len_le hmem
      have hin := HIN.out _ hmem
      have hst := runL_step HRU.out
      obtain ⟨l, hl⟩ : ∃ l, ls.getD k [] = l := ⟨_, rfl⟩
      obtain ⟨bb, hbb⟩ : ∃ b, ob.getD k false = b := ⟨_, rfl⟩
      rw [hl] at d0 hpt hle hin hst
      rw [hbb] at d1 hst
      obtain ⟨hpn, hgl⟩ := runL_pts HRU.out
      have hgp := hgl.pts
      have HPG : Hid (∀ W, Below wr.heap.size wr W → Calls Tryd.prog 21 #[.pointer (some ⟨g, 0, none⟩), .slice A1 l.length c1, .bool bb] W fun e' w' => e' = .returned (.tuple #[]) ∧ Out (OL wd j e w.heap.size g (one wd j e bb L (red l bb))) Mc W w') := Lib.hid fun W hW =>
        polygon_any (HOk.out.later hW) A1 l c1 bb (hpt.below hW) (by have := HPT.out; omega) hin w1 w2 (tab_below HT.out (HBr.out.trans (hW.mono HBr.out.size))) (tab_pos HT.out) (Nat.le_trans HBr.out.size hW.size) (by omega) hgl
      obtain ⟨L', hL'⟩ : ∃ L', one wd j e bb L (red l bb) = L' := ⟨_, rfl⟩
      rw [hL'] at HPG hst
      have HST := Lib.hid hst
      obtain ⟨m, hm⟩ : ∃ m, l.length = m := ⟨_, rfl⟩
      rw [hm] at d0 HPG
      clear hk1 hk2 hP hB hmem hle hin hst hl hbb hpn hgl hgp hL' hm hpt
      go_wp2_with fail
      refine (HPG.out _ (Below.refl _ _)).mono ?_
      rintro e' wc ⟨rfl, hout⟩
      have HOUT := Lib.hid (out_step HTk.out HMk.out hout)
      clear hout HPG HOk HTk HMk d0 d1 HBr
      obtain ⟨Md, ho, ht, hmd⟩ := HOUT.out
      obtain ⟨A2, c2, _, d4, _⟩ := ho.pol
      have HBc : Hid (Below w.heap.size w wc) := Lib.hid (HB0.out.trans (ht.to_below HB0.out.size (fun k hk => by simp only [List.mem_singleton] at hk; rw [hk]; exact HG.out)))
      clear ho ht hmd
      by_cases h4 : 4096 < ptsN L'
      · have h4' : (4096 : Int) < (ptsN L' : Nat) := by omega
        have HR : Hid (OuC F w (.returned (.tuple #[.slice none 0 0, .int .i64 3])) wc) := Lib.hid (by
          have e1 := HST.out
          rw [if_pos h4] at e1
          have e2 := runL_none e1 (nb - (k + 1))
          rw [show k + 1 + (nb - (k + 1)) = nb by omega] at e2
          have e3 := HF2.out
          rw [e2] at e3
          rw [← e3]
          exact ⟨none, 0, rfl, PolR.nil _, HBc.out⟩)
        clear h4
        go_wp2_with fail
        refine bodyPost_ret (results_tmp2 rfl _ _ _) rfl ?_
        exact HR.out
      · have h4' : ¬ (4096 : Int) < (ptsN L' : Nat) := by omega
        have HNX : Hid (runL wd j e ls ob (k + 1) = some L') := Lib.hid (by rw [HST.out, if_neg h4])
        have k4 : IntKind.i64.wrap ((k : Int) + 1) = (k : Int) + 1 := i64w (by have := HLS.out; omega) (by have := HLS.out; omega)
        clear h4
        go_wp2_with fail
        go_roundw
        case rel => exact ⟨k + 1, L', by go_num, by omega, HNX.out, HOUT.out⟩
        case measure => first | (simp [intOf]; done) | (simp [intOf]; omega)
    · have k2 : ¬ (k : Int) < (nb : Int) := by omega
      obtain rfl : k = nb := by omega
      obtain ⟨A2, c2, d3, _, hp⟩ := HOk.out.pol
      have HR : Hid (OuC F w (.returned (.tuple #[.slice A2 L.length c2, .int .i64 0])) wr) := Lib.hid (by
        have e3 := HF2.out
        rw [HRU.out] at e3
        rw [← e3]
        exact ⟨A2, c2, rfl, hp, HBr.out⟩)
      clear hp
      go_wp2_with fail
      refine bodyPost_ret (results_tmp2 rfl _ _ _) rfl ?_
      exact HR.out
end Go.Proofs.YtflopcogalknhaaDoor.Str
