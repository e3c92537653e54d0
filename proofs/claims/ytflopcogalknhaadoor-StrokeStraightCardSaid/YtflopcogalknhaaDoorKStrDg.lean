/-
  Layer 21: the dashes of a line (program).
-/
import Derived.Test.YtflopcogalknhaaDoorKStrDf
set_option linter.unusedVariables false
set_option linter.unusedSimpArgs false
namespace Go.Proofs.YtflopcogalknhaaDoor.Str
open Go.RowKit Go.Proofs.YtflopcogalknhaaDoor Go.Proofs.YtflopcogalknhaaDoor.NumPure

theorem LnR.tch {w w' : World} {pb ab : Nat} {l : List P2} {M : List Nat} (h : LnR w pb ab l) (ht : Tch M w w') (h1 : pb ∉ M) (h2 : ab ∉ M) : LnR w' pb ab l :=
  ⟨h.p.tch ht fun ad e => by injection e with e; rw [← e]; exact h1, reads_tch h.a ht fun ad e => by injection e with e; rw [← e]; exact h2⟩
theorem length_nil (Ap : Option Addr) (cp ab ca : Nat) (w : World) : Calls Tryd.prog 45 #[.agg #[.slice Ap 0 cp, .slice (some ⟨ab, 0, none⟩) 0 ca]] w (NmC 0 w) := by
  have HB0 : Hid (Below w.heap.size w (w.alloc (.cells #[.slice Ap 0 cp, .slice (some ⟨ab, 0, none⟩) 0 ca] 58))) := Lib.hid ((Below.refl _ _).alloc (Nat.le_refl _) _)
  go_enter Tryd.func45, Tryd.ntmps45
  go_wp2_with fail
  go_ret
  exact ⟨rfl, HB0.out⟩
theorem length_v {Ap : Option Addr} {cp ab ca pb : Nat} {l : List P2} {w : World} (h : LnR w pb ab l) (hl : l.length ≤ 65537) (hA : 0 < l.length → Ap = some ⟨pb, 0, none⟩) :
    Calls Tryd.prog 45 #[.agg #[.slice Ap l.length cp, .slice (some ⟨ab, 0, none⟩) l.length ca]] w (NmC (lenN l : Nat) w) := by
  by_cases h0 : 0 < l.length
  · rw [hA h0]
    exact length_any pb ab cp ca l w h hl h0
  · have e : l.length = 0 := by omega
    have e2 : lenN l = 0 := by unfold lenN; rw [e]; rfl
    rw [e, e2]
    exact length_nil Ap cp ab ca w
theorem lft_is {p : List Nat} (hp : PatB p) {x m : Nat} (h1 : psN p m ≤ x) (h2 : x < psN p (m + 1)) : lft p x = psN p (m + 1) - x ∧ onB p x = decide (m % 2 = 0) := by
  have e := idx_is hp h1 h2
  unfold lft onB
  rw [e]
  exact ⟨rfl, rfl⟩
theorem DL.outLater {pv : Value} {o B g : Nat} {L : List (List P2)} {M : List Nat} {w0 W W' : World} (h : Out (DL pv o B g L) M w0 W) (hb : Below W.heap.size W W') : Out (DL pv o B g L) M w0 W' := by
  obtain ⟨M', h1, h2, h3⟩ := h
  exact ⟨M', h1.later hb, h2.below hb, h3⟩
set_option maxRecDepth 100000 in
set_option maxHeartbeats 2000000 in
theorem dline_any {p : List Nat} {o B g pc : Nat} {pa : Addr} {L : List (List P2)} {M : List Nat} {w : World} (hp : PatB p) (ho : o ≤ 33554432) (hO : DL (.slice (some pa) p.length pc) o B g L w M) (hpat : NaR w pa p) (hpM : pa.block ∉ M) (l : List P2) (hl : Lin l) (v : Value) (b0 : Nat) (hL : LnV b0 w l v) (hb0 : ∀ k ∈ M, k < b0)
    (hBs : B ≤ w.heap.size) (hLp : ptsN L ≤ 4096) (hLl : L.length ≤ ptsN L) : Calls Tryd.prog 27 #[.pointer (some ⟨g, 0, none⟩), v] w fun e' w' => e' = .returned (.int .i64 (dE (dsh L l p o))) ∧ Out (DL (.slice (some pa) p.length pc) o B g (dsh L l p o)) M w w' := by
  obtain ⟨Ap, cp, ab, ca, pb, rfl, hln, hA, hpb, hab⟩ := hL
  have hlen := hl.len
  have HLEN := Lib.hid fun W (hW : Below w.heap.size w W) => length_v (Ap := Ap) (cp := cp) (ca := ca) (hln.below hW) hlen hA
  have HLB := Lib.hid (lenN_bd hl)
  obtain ⟨N, hN⟩ : ∃ N, l.length = N := ⟨_, rfl⟩
  obtain ⟨n, hn⟩ : ∃ N, p.length = N := ⟨_, rfl⟩
  rw [hN] at HLEN hA hlen ⊢
  rw [hn] at hO ⊢
  have HN := Lib.hid hN
  have Hn := Lib.hid hn
  have HA := Lib.hid hA
  have HLI := Lib.hid hl
  have HPT := Lib.hid hp
  have HO := Lib.hid hO
  have HPA := Lib.hid hpat
  have HPM := Lib.hid hpM
  have HB0 := Lib.hid hb0
  have HPAB := Lib.hid (And.intro hpb hab)
  have HBS := Lib.hid hBs
  have HLP := Lib.hid (And.intro hLp hLl)
  have HLR := Lib.hid hln
  have hn16 : 0 < n ∧ n ≤ 16 := by rw [← hn]; exact hp.1
  have HNN := Lib.hid hn16
  have HLE := Lib.hid hlen
  have HP0 := Lib.hid (pat_at hp 0)
  obtain ⟨p0, hp0⟩ : ∃ x, p.getD 0 0 = x := ⟨_, rfl⟩
  have hz : 0 % p.length = 0 := Nat.zero_mod _
  rw [hz, hp0] at HP0
  have HPS0 : Hid (psN p (0 + 1) = p0) := Lib.hid (by show psN p 0 + p.getD (0 % p.length) 0 = p0; rw [hz, hp0]; exact Nat.zero_add _)
  have hb : Below w.heap.size w (w.alloc (.cells #[.slice Ap N cp, .slice (some ⟨ab, 0, none⟩) N ca] 58)) := (Below.refl _ _).alloc (Nat.le_refl _) _
  have HK3 : Hid (Blk (w.alloc (.cells #[.slice Ap N cp, .slice (some ⟨ab, 0, none⟩) N ca] 58)) w.heap.size 58 #[.slice Ap N cp, .slice (some ⟨ab, 0, none⟩) N ca]) := Lib.hid (Blk.new _ _ _)
  obtain ⟨W0, hW0⟩ : ∃ W, w.alloc (.cells #[.slice Ap N cp, .slice (some ⟨ab, 0, none⟩) N ca] 58) = W := ⟨_, rfl⟩
  obtain ⟨g3, hg3⟩ : ∃ q, w.heap.size = q := ⟨_, rfl⟩
  have HG3 := Lib.hid hg3
  rw [hW0] at hb HK3
  rw [hg3] at HK3
  have HBW := Lib.hid hb
  obtain ⟨c0, c1, _⟩ := (hO.later hb).cells
  have hc := NaR.cell (InR.below hpat hb) 0 (by rw [hn]; omega)
  rw [hp0, show pa.add 0 = pa by cases pa; rfl] at hc
  have x1 : IntKind.i64.wrap ((p0 : Int) - (o : Int)) = (p0 : Int) - (o : Int) := i64w (by have := HP0.out; omega) (by have := HP0.out; omega)
  have k1 : 0 < n := hn16.1
  have k2 : (0 : Int) < (n : Int) := by omega
  clear hl hp hO hpat hpM hb0 hpb hab hBs hLp hLl hln hA hN hn hlen hn16 hp0 hz hb
  go_enter Tryd.func27, Tryd.ntmps27
  go_upto_region 2 with fail
  try rw [hW0]
  try rw [hg3]
  clear hW0 hg3
  go_wp2_with fail
  go_quiet (fail)
  have HB1 := Lib.hid (drew_below (n := nq) (Below.refl W0.heap.size W0))
  obtain ⟨W1, hW1⟩ : ∃ W, W0.drewN nq = W := ⟨_, rfl⟩
  rw [hW1] at HB1
  rw [hW1]
  clear hW1 c0 c1 hc x1
  go_wp2_with fail
  go_loopw [5, 6] (fun n1 z wr => ∃ m : Nat, n1 = .int .i64 (m : Int) ∧ z = .int .i64 ((psN p (m + 1) : Nat) - (o : Nat) : Int) ∧ psN p m ≤ o ∧ Below W0.heap.size W0 wr) (fun n1 _ _ => o - (intOf n1).toNat)
  case atStart => exact ⟨0, rfl, by rw [HPS0.out], Nat.zero_le _, HB1.out⟩
  case round =>
    clear HB1
    obtain ⟨m, rfl, rfl, hm, hbw⟩ := hrel
    have HM := Lib.hid hm
    have HBr := Lib.hid hbw
    have HBW2 := Lib.hid (HBW.out.trans (hbw.mono HBW.out.size))
    have hpm := psN_bd HPT.out m
    have hps : psN p (m + 1) = psN p m + p.getD (m % p.length) 0 := rfl
    have hpa := pat_at HPT.out m
    by_cases hlt : psN p (m + 1) ≤ o
    · obtain ⟨c0, c1, _⟩ := (HO.out.later HBW2.out).cells
      obtain ⟨k, hk⟩ : ∃ k, (m + 1) % n = k := ⟨_, rfl⟩
      have hkn : k < n := by rw [← hk]; exact Nat.mod_lt _ k1
      have hc := NaR.cell (InR.below HPA.out HBW2.out) k (by rw [Hn.out]; exact hkn)
      have HNX : Hid (psN p (m + 1 + 1) = psN p (m + 1) + p.getD k 0) := Lib.hid (by rw [← hk, ← Hn.out]; rfl)
      have hp2 := pat_at HPT.out (m + 1)
      rw [Hn.out, hk] at hp2
      have hpm2 := psN_bd HPT.out (m + 1)
      obtain ⟨y, hy⟩ : ∃ y, p.getD k 0 = y := ⟨_, rfl⟩
      obtain ⟨S, hS⟩ : ∃ S, psN p (m + 1) = S := ⟨_, rfl⟩
      obtain ⟨S2, hS2⟩ : ∃ S, psN p (m + 1 + 1) = S := ⟨_, rfl⟩
      rw [hy] at hc HNX hp2
      rw [hS] at HNX hlt hpm2
      rw [hS2] at HNX
      rw [hS]
      have HS := Lib.hid hS
      have HS2 := Lib.hid hS2
      have X1 : Hid (IntKind.i64.wrap ((m : Int) + 1) = (m : Int) + 1) := Lib.hid (i64w (by omega) (by omega))
      have X2 : Hid (IntKind.i64.wrap ((S : Int) - (o : Int) + (y : Int)) = (S : Int) - (o : Int) + (y : Int)) := Lib.hid (i64w (by omega) (by omega))
      have x3 : ((m : Int) + 1).tmod (n : Int) = (k : Int) := by rw [← hk]; rfl
      have k3 : (k : Int) < (n : Int) := by omega
      have k4 : (0 : Int) ≤ (k : Int) := by omega
      have k5 : ¬ n = 0 := by omega
      have k6 : (S : Int) - (o : Int) ≤ 0 := by omega
      have HMO : Hid (m + 1 ≤ o) := Lib.hid (by omega)
      have HSO : Hid (S ≤ o) := Lib.hid hlt
      have x1 := X1.out
      have x2 := X2.out
      clear hm hbw hpm hps hpa hk hkn hp2 hpm2 hy hS hS2 hlt
      go_wp2_with fail
      go_quiet (fail)
      have HBr2 := Lib.hid (drew_below (n := nq) HBr.out)
      clear c0 c1 hc x1 x2 x3
      go_wp2_with fail
      go_roundw
      case rel => exact ⟨m + 1, by go_num, by rw [HS2.out, HNX.out]; congr 1; omega, by rw [HS.out]; exact HSO.out, HBr2.out⟩
      case measure => first | (have := HMO.out; simp [intOf]; done) | (have := HMO.out; simp [intOf]; omega)
    · obtain ⟨S, hS⟩ : ∃ S, psN p (m + 1) = S := ⟨_, rfl⟩
      have HS := Lib.hid hS
      rw [hS] at hlt hps
      have HMO : Hid (psN p m ≤ o ∧ o < psN p (m + 1) ∧ m ≤ o) := Lib.hid (by rw [hS]; omega)
      have k6 : ¬ ((psN p (m + 1) : Nat) : Int) - (o : Int) ≤ 0 := by rw [hS]; omega
      obtain ⟨z0, z1, _⟩ := blk2 (HK3.out.below hbw HK3.out.lt)
      clear hm hbw hpm hps hpa hS hlt HPS0 HP0
      go_wp2_with fail
      refine (HLEN.out _ HBW2.out).mono ?_
      rintro e5 w5 ⟨rfl, hb5⟩
      have HBW5 : Hid (Below w.heap.size w w5) := Lib.hid (HBW2.out.trans (hb5.mono HBW2.out.size))
      have HK5 := Lib.hid ((HK3.out.below HBr.out HK3.out.lt).below hb5 (HK3.out.below HBr.out HK3.out.lt).lt)
      clear hb5 z0 z1 HLEN k6 HBW2 HBr
      have HO5 := Lib.hid (HO.out.later HBW5.out)
      have HTW : Hid (Tch M w w5) := Lib.hid (tch_of_below HBW5.out)
      have HLR5 := Lib.hid (HLR.out.below HBW5.out)
      have HPA5 : Hid (NaR w5 pa p) := Lib.hid (InR.below HPA.out HBW5.out)
      have HB5 : Hid (B ≤ w5.heap.size) := Lib.hid (Nat.le_trans HBS.out HBW5.out.size)
      have HM3 : Hid (g3 ∉ M ∧ pb ∉ M ∧ ab ∉ M) := Lib.hid ⟨fun h => by have := HO.out.size _ h; have := HG3.out; omega, fun h => by have := HB0.out _ h; have := HPAB.out; omega, fun h => by have := HB0.out _ h; have := HPAB.out; omega⟩
      have HLT5 : Hid (g3 < w5.heap.size) := Lib.hid HK5.out.lt
      obtain ⟨E, hE⟩ : ∃ E, lenN l = E := ⟨_, rfl⟩
      rw [hE] at HLB
      rw [hE]
      have HE := Lib.hid hE
      clear hE HK3 HLR HPA
      go_wp2_with fail
      go_loopw [5, 6, 8, 9] (fun n1 z e1 s1 wr => ∃ (k m e s : Nat) (x : Int) (L' : List (List P2)), n1 = .int .i64 (m : Int) ∧ z = .int .i64 x ∧ e1 = .int .i64 (e : Int) ∧ s1 = .int .i64 (s : Int) ∧ itr l p o L k = (s, L') ∧ k ≤ s ∧ s ≤ E ∧ ptsN L' ≤ 4096 ∧ L'.length ≤ ptsN L' ∧ (s < E → psN p m ≤ o + s ∧ o + s < psN p (m + 1) ∧ x = (psN p (m + 1) : Nat) - ((o + s : Nat) : Int) ∧ e + 1 < N ∧ atN l e ≤ s) ∧ Out (DL (.slice (some pa) n pc) o B g L') M w5 wr) (fun _ _ _ s1 _ => E - (intOf s1).toNat)
      case atStart =>
        refine ⟨0, m, 0, 0, _, L, rfl, rfl, rfl, rfl, rfl, Nat.le_refl _, Nat.zero_le _, HLP.out.1, HLP.out.2, fun h => ⟨HMO.out.1, HMO.out.2.1, rfl, ?_, Nat.zero_le _⟩, M, HO5.out, Tch.refl M w5, fun k hk => Or.inl hk⟩
        rcases Nat.lt_or_ge 1 N with h1 | h1
        · exact h1
        · exfalso
          have h2 := HE.out
          unfold lenN at h2
          have h3 : l.length - 1 = 0 := by have := HN.out; omega
          rw [h3] at h2
          have h4 : atN l 0 = 0 := rfl
          omega
      case round =>
        clear HMO HLP HO HO5
        obtain ⟨k, m, e, s, x, L', rfl, rfl, rfl, rfl, hit, hks, hsE, hpt, hll, hin, hr⟩ := hrel
        obtain ⟨Mc, ho9, ht9, hm9⟩ := hr
        have HOk := Lib.hid ho9
        have HTk := Lib.hid ht9
        have HMk := Lib.hid hm9
        have HIT := Lib.hid hit
        have HPL := Lib.hid (And.intro hpt hll)
        have HKS := Lib.hid (And.intro hks hsE)
        by_cases hlt : s < E
        · obtain ⟨i1, i2, rfl, i4, i5⟩ := hin hlt
          obtain ⟨hlf, hon⟩ := lft_is HPT.out i1 i2
          have hlp := lft_pos HPT.out (o + s)
          have hst := itr_step hit (by rw [HE.out]; exact hlt) hpt
          have hmb := psN_bd HPT.out m
          obtain ⟨lf, hlf2⟩ : ∃ q, lft p (o + s) = q := ⟨_, rfl⟩
          have hnx : nxt l p o s = min (s + lf) E := by unfold nxt; rw [hlf2, HE.out]
          obtain ⟨t, ht⟩ : ∃ t, min (s + lf) E = t := ⟨_, rfl⟩
          rw [hnx, ht, hon] at hst
          rw [hlf2] at hlf hlp
          have hx : ((psN p (m + 1) : Nat) : Int) - ((o + s : Nat) : Int) = (lf : Int) := by omega
          rw [hx]
          have HST := Lib.hid hst
          have HLF : Hid (psN p (m + 1) = o + s + lf) := Lib.hid (by omega)
          have HTT : Hid (s < t ∧ t ≤ E ∧ t ≤ s + lf ∧ (t < E → t = s + lf)) := Lib.hid (by omega)
          have X1 : Hid (IntKind.i64.wrap ((s : Int) + (lf : Int)) = (s : Int) + (lf : Int)) := Lib.hid (i64w (by omega) (by have := HLB.out; omega))
          have HMN : Hid ((E < s + lf → t = E) ∧ (¬ E < s + lf → t = s + lf)) := Lib.hid (by omega)
          have HMB : Hid (m ≤ 4398080065536) := Lib.hid (by have := HLB.out; omega)
          have HE1 := Lib.hid (And.intro i4 i5)
          have HNM : Hid (g3 ∉ Mc ∧ pb ∉ Mc ∧ ab ∉ Mc) := Lib.hid (by
            have hlr := HLR5.out
            have f : ∀ q, q ∉ M → q < w5.heap.size → q ∉ Mc := fun q h1 h2 h => by
              rcases HMk.out q h with h3 | h3
              · exact h1 h3
              · omega
            have hN1 : 0 < l.length := by rw [HN.out]; omega
            obtain ⟨ad1, q1, hq1⟩ := hlr.p.addr hN1
            injection q1 with q1
            rw [← q1] at hq1
            obtain ⟨ad2, q2, hq2, _⟩ := hlr.a.2 hN1
            injection q2 with q2
            rw [← q2] at hq2
            exact ⟨f g3 HM3.out.1 HLT5.out, f pb HM3.out.2.1 hq1, f ab HM3.out.2.2 hq2⟩)
          have HKr := Lib.hid (HTk.out.blk HK5.out HM3.out.1)
          have HLRr := Lib.hid (HLR5.out.tch HTk.out HM3.out.2.1 HM3.out.2.2)
          have HBr : Hid (B ≤ wr.heap.size) := Lib.hid (Nat.le_trans HB5.out HTk.out.size)
          obtain ⟨z0, z1, _⟩ := blk2 HKr.out
          have k3 : (s : Int) < (E : Int) := by omega
          have hAp := HA.out (by omega)
          subst hAp
          clear hit hpt hll hks hsE hin hlf hon hlp hst hmb hlf2 hnx ht hx ho9 ht9 hm9 i1 i2 i4 i5
          go_upto_region 10 with fail
          go_cut [10] (fun q wx => q = .int .i64 (t : Int) ∧ wr = wx)
          case first =>
            have x1 := X1.out
            by_cases hmn : E < s + lf
            · have j1 : (E : Int) < (s : Int) + (lf : Int) := by omega
              have j2 := HMN.out.1 hmn
              clear hmn
              go_wp2_with fail
              all_goals go_meet
              all_goals first | exact ⟨by rw [j2], trivial⟩ | exact ⟨by rw [j2], rfl⟩ | (exfalso; omega)
            · have j1 : ¬ (E : Int) < (s : Int) + (lf : Int) := by omega
              have j2 := HMN.out.2 hmn
              have j3 : (t : Int) = (s : Int) + (lf : Int) := by omega
              clear hmn
              go_wp2_with fail
              all_goals go_meet
              all_goals first | exact ⟨by rw [j3], trivial⟩ | exact ⟨by rw [j3], rfl⟩ | (exfalso; omega)
          case rest =>
            obtain ⟨rfl, rfl⟩ := hcut
            go_wp2_with fail
            go_loopw [8] (fun e1 wq => ∃ e2 : Nat, e1 = .int .i64 (e2 : Int) ∧ e2 + 1 < N ∧ atN l e2 ≤ s ∧ wr = wq) (fun e1 _ => N - (intOf e1).toNat)
            case atStart => exact ⟨e, rfl, HE1.out.1, HE1.out.2, rfl⟩
            case round =>
              obtain ⟨e2, rfl, hen, hes, rfl⟩ := hrel
              have a1 := HLRr.out.at_ (e2 + 1) (by rw [HN.out]; exact hen)
              have HEN := Lib.hid (And.intro hen hes)
              obtain ⟨u, hu⟩ : ∃ u, atN l (e2 + 1) = u := ⟨_, rfl⟩
              rw [hu] at a1
              have HU := Lib.hid hu
              have X6 : Hid (IntKind.i64.wrap ((e2 : Int) + 1) = (e2 : Int) + 1) := Lib.hid (i64w (by omega) (by have := HLE.out; omega))
              have j1 : (e2 : Int) + 1 < (N : Int) := by omega
              have j2 : (0 : Int) ≤ (e2 : Int) + 1 := by omega
              have x6 := X6.out
              by_cases h3 : u ≤ s
              · have j3 : (u : Int) ≤ (s : Int) := by omega
                have HNE : Hid (e2 + 1 + 1 < N ∧ atN l (e2 + 1) ≤ s) := Lib.hid (by
                  refine ⟨?_, by rw [hu]; exact h3⟩
                  rcases Nat.lt_or_ge (e2 + 1 + 1) N with h4 | h4
                  · exact h4
                  · exfalso
                    have h5 := HE.out
                    unfold lenN at h5
                    have h6 : l.length - 1 = e2 + 1 := by have := HN.out; omega
                    rw [h6, hu] at h5
                    omega)
                clear hen hes hu h3
                go_wp2_with fail
                go_roundw
                case rel => exact ⟨e2 + 1, by have := HEN.out; have := HLE.out; go_num, HNE.out.1, HNE.out.2, trivial⟩
                case measure => first | (have := HEN.out; simp [intOf]; done) | (have := HEN.out; simp [intOf]; omega)
              · have j3 : ¬ (u : Int) ≤ (s : Int) := by omega
                have hm2 : (m : Int).tmod 2 = ((m % 2 : Nat) : Int) := rfl
                have HCP : Hid (Calls Tryd.prog 46 #[.agg #[.slice (some ⟨pb, 0, none⟩) N cp, .slice (some ⟨ab, 0, none⟩) N ca], .int .i64 (e2 : Int), .int .i64 (s : Int), .int .i64 (t : Int)] wr (OwC (pce l s t) wr)) := Lib.hid (by
                  have h8 := part_any pb ab cp ca l e2 s t wr HLRr.out HLI.out (by rw [HN.out]; exact hen) hes (by rw [hu]; omega) HTT.out.1 (by rw [HE.out]; exact HTT.out.2.1)
                  rw [HN.out] at h8
                  exact h8)
                by_cases hon : m % 2 = 0
                · have hm4 : (m : Int) % 2 = 0 := by omega
                  have hm3 : ((m : Int) % 2 == 0) = true := by rw [hm4]; rfl
                  have hst := HST.out
                  rw [if_pos (by simpa using hon)] at hst
                  have hdl := pce_len HLI.out s t
                  have hpts := addD_pts L' (pce l s t)
                  have HDF : Hid (addD L' (pce l s t) = if 1 < (pce l s t).length then L' ++ [pce l s t] else L') := Lib.hid rfl
                  obtain ⟨D, hD⟩ : ∃ D, pce l s t = D := ⟨_, rfl⟩
                  unfold OwC at HCP
                  rw [hD] at HCP HDF hst hdl hpts
                  obtain ⟨q, hq⟩ : ∃ q, D.length = q := ⟨_, rfl⟩
                  rw [hq] at HCP HDF hdl hpts
                  have HIT2' := Lib.hid hst
                  have HQ := Lib.hid hq
                  have HDL := Lib.hid hdl
                  clear hen hes hu h3 hm2 hon hst hD hpts hdl hm4
                  go_wp2_with fail
                  refine HCP.out.mono ?_
                  rintro e6 w6 ⟨v6, rfl, hown, hb6⟩
                  have hown2 : w6.ownsRow wr.heap.size 30 2 v6 D.length (pts D) := by rw [hq]; exact hown
                  obtain ⟨A6, c6, rfl, _, _⟩ := own_open hown
                  have HB6 := Lib.hid hb6
                  clear z0 z1 a1 hm3 x6 j1 j2 j3 HCP
                  by_cases hd : 1 < q
                  · have hd2 : (1 : Int) < (q : Int) := by omega
                    obtain ⟨p6, c9, cs6, hv6, hp6, hpr6, hpb6⟩ := own_pts hown2 (by omega)
                    rw [hq] at hv6
                    cases hv6
                    have HP6 := Lib.hid hp6
                    have HPR6 := Lib.hid hpr6
                    have HPB6 := Lib.hid hpb6
                    have HL2 : Hid (addD L' D = L' ++ [D]) := Lib.hid (by rw [HDF.out, if_pos hd])
                    rw [HL2.out] at HIT2'
                    have HIT2 := HIT2'
                    obtain ⟨v1, rb, rc, rfl, hdl9⟩ := HOk.out
                    have HO2 := Lib.hid (hdl9.below hb6)
                    obtain ⟨A1, cap1, rfl, _⟩ := own_open HO2.out.r.row
                    have c0 : w6.cell? ⟨g, 2, none⟩ = some (.slice A1 L'.length cap1) := HO2.out.box.cell 2
                    have c1 : w6.cell? ⟨g, 3, none⟩ = some (.int .i64 (ptsN L' : Nat)) := HO2.out.box.cell 3
                    have zf := HO2.out.box.frozen
                    have hsz : B ≤ w6.heap.size := Nat.le_trans HBr.out hb6.size
                    obtain ⟨T, hT⟩ : ∃ T, ptsN L' = T := ⟨_, rfl⟩
                    have HTT2 := Lib.hid hT
                    obtain ⟨hT1, hT2⟩ := HPL.out
                    rw [hT] at c1 hT1 hT2
                    have HT12 := Lib.hid (And.intro hT1 hT2)
                    have X7 : Hid (IntKind.i64.wrap ((T : Int) + (q : Int)) = (T : Int) + (q : Int)) := Lib.hid (i64w (by omega) (by have := HDL.out; omega))
                    have x7 := X7.out
                    clear hT hown hown2 hp6 hpr6 hpb6 hq hb6 hdl9 HOk HDF
                    go_wp2_with (refine wpList_appL (B := B) rfl _ _ rfl (own_below HO2.out.r.row ((Below.refl _ _).alloc (Nat.le_refl _) _)) rfl rfl (Blk.new _ _ _) rfl (by omega) (by simp; omega) ?_)
                    intro v' w7 hown' hgrow hor
                    have HBX : Hid (Blk w7 g 55 #[.slice (some pa) n pc, .int .i64 (o : Int), .slice A1 L'.length cap1, .int .i64 (ptsN L' : Nat)]) := Lib.hid ((HO2.out.box.alloc _).grown hgrow fun e2 => own_ne_blk HO2.out.r.row HO2.out.box (by decide) g e2.symm rfl)
                    have HNW := Lib.hid (dl_push HO2.out HPR6.out HPB6.out (Nat.le_trans HBr.out HP6.out) (by rw [HQ.out]; exact hown') (by rw [HQ.out]; exact hgrow))
                    have HTN : Hid (Tch (g :: fp L' (.slice A1 L'.length cap1) rb) wr ((w7.setCell ⟨g, 2, none⟩ v').setCell ⟨g, 3, none⟩ (.int .i64 ((T : Int) + (q : Int))))) := Lib.hid (((((tch_of_below HB6.out).alloc _).grown hgrow (fun k hk => Or.inl (List.mem_cons_of_mem _ (mem_fp.2 (Or.inl hk))))).setCell (p := ⟨g, 2, none⟩) (Or.inl (by simp)) v').setCell (p := ⟨g, 3, none⟩) (Or.inl (by simp)) (.int .i64 ((T : Int) + (q : Int))))
                    have HOR : Hid (∀ k, v'.ownBlock = some k → k ∈ g :: fp L' (.slice A1 L'.length cap1) rb ∨ wr.heap.size ≤ k) := Lib.hid fun k hk => by
                      rcases hor with h1 | h1
                      · rw [h1] at hk
                        exact Or.inl (List.mem_cons_of_mem _ (mem_fp.2 (Or.inl hk)))
                      · rw [h1] at hk
                        injection hk with hk
                        have := HB6.out.size
                        right
                        omega
                    obtain ⟨A2, cap2, rfl, _⟩ := own_open hown'
                    have d0 : w7.cell? ⟨g, 2, none⟩ = some (.slice A1 L'.length cap1) := HBX.out.cell 2
                    have d1 : w7.cell? ⟨g, 3, none⟩ = some (.int .i64 (ptsN L' : Nat)) := HBX.out.cell 3
                    have zf2 := HBX.out.frozen
                    rw [HTT2.out] at d1
                    have HPN : Hid (ptsN (L' ++ [D]) = T + q) := Lib.hid (by rw [ptsN_snoc, HTT2.out, HQ.out])
                    have HNX : Hid (Out (DL (.slice (some pa) n pc) o B g (L' ++ [D])) (g :: fp L' (.slice A1 L'.length cap1) rb) wr ((w7.setCell ⟨g, 2, none⟩ (.slice A2 (L'.length + 1) cap2)).setCell ⟨g, 3, none⟩ (.int .i64 ((T : Int) + (q : Int))))) := Lib.hid (by
                      have h9 := HNW.out
                      rw [HPN.out, Int.natCast_add] at h9
                      exact ⟨_, ⟨_, _, _, rfl, h9⟩, HTN.out, fun k hk => by
                        rcases List.mem_cons.1 hk with rfl | hk
                        · exact Or.inl (by simp)
                        · exact fp_push HOR.out (fun i hi => List.mem_cons_of_mem _ (mem_fp.2 (Or.inr ⟨i, hi, rfl⟩))) HP6.out k hk⟩)
                    have HOW := Lib.hid (out_step HTk.out HMk.out HNX.out)
                    have HPL2 : Hid (¬ 4096 < T + q → ptsN (L' ++ [D]) ≤ 4096 ∧ (L' ++ [D]).length ≤ ptsN (L' ++ [D])) := Lib.hid fun h => by
                      have h1 := HT12.out
                      rw [HPN.out, List.length_append, List.length_singleton]
                      omega
                    have HDS : Hid (4096 < T + q → dsh L l p o = L' ++ [D] ∧ dE (L' ++ [D]) = 3) := Lib.hid fun h => by
                      refine ⟨itr_done HIT2.out (by rw [HE.out]; have := HTT.out; have := HKS.out; omega) (by rw [HPN.out]; omega), ?_⟩
                      unfold dE
                      rw [if_pos (by rw [HPN.out]; exact h)]
                    clear c0 c1 zf hown' hgrow hor HNX HTN HNW hsz
                    by_cases h4 : 4096 < T + q
                    · have h6 : decide ((4096 : Int) < (T : Int) + (q : Int)) = true := decide_eq_true (by omega)
                      have h5 : (4096 : Int) < (T : Int) + (q : Int) := by omega
                      have HR := Lib.hid (HDS.out h4)
                      have HF := Lib.hid (out_step HTW.out (fun k hk => Or.inl hk) HOW.out)
                      clear h4
                      go_wp2_with fail
                      refine bodyPost_ret (results_tmp rfl _ _ _) rfl ?_
                      exact ⟨by rw [HR.out.1, HR.out.2]; rfl, by rw [HR.out.1]; exact HF.out⟩
                    · have h5 : decide ((4096 : Int) < (T : Int) + (q : Int)) = false := decide_eq_false (by omega)
                      have h6 : ¬ (4096 : Int) < (T : Int) + (q : Int) := by omega
                      have h7 : (T : Int) + (q : Int) ≤ 4096 := by omega
                      have HPL3 := Lib.hid (HPL2.out h4)
                      clear h4 HPL2 HDS
                      have HPL2 := HPL3
                      obtain ⟨Md, ho9, ht9, hm9⟩ := HOW.out
                      have c0 := ho9.cells.1
                      obtain ⟨y, hy⟩ : ∃ q, (m + 1) % n = q := ⟨_, rfl⟩
                      have hyn : y < n := by rw [← hy]; exact Nat.mod_lt _ k1
                      have hc := NaR.cell (HPA5.out.tch ht9 HPM.out) y (by rw [Hn.out]; exact hyn)
                      have HNXT : Hid (psN p (m + 1 + 1) = psN p (m + 1) + p.getD y 0) := Lib.hid (by rw [← hy, ← Hn.out]; rfl)
                      have hp2 := pat_at HPT.out (m + 1)
                      rw [Hn.out, hy] at hp2
                      obtain ⟨yv, hyv⟩ : ∃ q, p.getD y 0 = q := ⟨_, rfl⟩
                      rw [hyv] at hc HNXT hp2
                      have HP2 := Lib.hid hp2
                      have hmb := HMB.out
                      have X5 : Hid (IntKind.i64.wrap ((m : Int) + 1) = (m : Int) + 1) := Lib.hid (i64w (by omega) (by omega))
                      have x3 : ((m : Int) + 1).tmod (n : Int) = (y : Int) := by rw [← hy]; rfl
                      have q1 : (y : Int) < (n : Int) := by omega
                      have q2 : (0 : Int) ≤ (y : Int) := by omega
                      have q3 : ¬ n = 0 := by omega
                      have x5 := X5.out
                      clear ho9 ht9 hm9 hy hyn hp2 hyv hmb
                      go_wp2_with fail
                      go_quiet (fail)
                      have HOX := Lib.hid (DL.outLater HOW.out (drew_below (n := nq) (Below.refl _ _)))
                      clear c0 hc x3 x5 q1 q2 q3 HOW
                      go_wp2_with fail
                      go_roundw
                      case rel =>
                        refine ⟨k + 1, m + 1, e2, t, _, (L' ++ [D]), by have := HMB.out; go_num, rfl, rfl, rfl, HIT2.out, by have := HTT.out; have := HKS.out; omega, HTT.out.2.1, HPL2.out.1, HPL2.out.2, fun h => ?_, HOX.out⟩
                        have h1 := HTT.out
                        have h2 := HLF.out
                        have h3 := HNXT.out
                        have h4 := HP2.out
                        have h5 := HEN.out
                        have h6 := h1.2.2.2 h
                        omega
                      case measure => first | (have := HTT.out; simp [intOf]; done) | (have := HTT.out; simp [intOf]; omega)
                  · have hd2 : ¬ (1 : Int) < (q : Int) := by omega
                    have HL2 : Hid (addD L' D = L') := Lib.hid (by rw [HDF.out, if_neg hd])
                    rw [HL2.out] at HIT2'
                    have HIT2 := HIT2'
                    have HPL2 := HPL
                    have HOW : Hid (Out (DL (.slice (some pa) n pc) o B g L') M w5 w6) := Lib.hid ⟨Mc, HOk.out.later hb6, HTk.out.below hb6, HMk.out⟩
                    have c1 := (HOk.out.later hb6).cells.2.2
                    obtain ⟨T, hT⟩ : ∃ T, ptsN L' = T := ⟨_, rfl⟩
                    have hpl := HPL.out.1
                    rw [hT] at c1 hpl
                    have h5 : ¬ (4096 : Int) < (T : Int) := by omega
                    clear hT hpl hown hown2 hq hb6 HOk HDF hd
                    obtain ⟨Md, ho9, ht9, hm9⟩ := HOW.out
                    have c0 := ho9.cells.1
                    obtain ⟨y, hy⟩ : ∃ q, (m + 1) % n = q := ⟨_, rfl⟩
                    have hyn : y < n := by rw [← hy]; exact Nat.mod_lt _ k1
                    have hc := NaR.cell (HPA5.out.tch ht9 HPM.out) y (by rw [Hn.out]; exact hyn)
                    have HNXT : Hid (psN p (m + 1 + 1) = psN p (m + 1) + p.getD y 0) := Lib.hid (by rw [← hy, ← Hn.out]; rfl)
                    have hp2 := pat_at HPT.out (m + 1)
                    rw [Hn.out, hy] at hp2
                    obtain ⟨yv, hyv⟩ : ∃ q, p.getD y 0 = q := ⟨_, rfl⟩
                    rw [hyv] at hc HNXT hp2
                    have HP2 := Lib.hid hp2
                    have hmb := HMB.out
                    have X5 : Hid (IntKind.i64.wrap ((m : Int) + 1) = (m : Int) + 1) := Lib.hid (i64w (by omega) (by omega))
                    have x3 : ((m : Int) + 1).tmod (n : Int) = (y : Int) := by rw [← hy]; rfl
                    have q1 : (y : Int) < (n : Int) := by omega
                    have q2 : (0 : Int) ≤ (y : Int) := by omega
                    have q3 : ¬ n = 0 := by omega
                    have x5 := X5.out
                    clear ho9 ht9 hm9 hy hyn hp2 hyv hmb
                    go_wp2_with fail
                    go_quiet (fail)
                    have HOX := Lib.hid (DL.outLater HOW.out (drew_below (n := nq) (Below.refl _ _)))
                    clear c0 hc x3 x5 q1 q2 q3 HOW
                    go_wp2_with fail
                    go_roundw
                    case rel =>
                      refine ⟨k + 1, m + 1, e2, t, _, L', by have := HMB.out; go_num, rfl, rfl, rfl, HIT2.out, by have := HTT.out; have := HKS.out; omega, HTT.out.2.1, HPL2.out.1, HPL2.out.2, fun h => ?_, HOX.out⟩
                      have h1 := HTT.out
                      have h2 := HLF.out
                      have h3 := HNXT.out
                      have h4 := HP2.out
                      have h5 := HEN.out
                      have h6 := h1.2.2.2 h
                      omega
                    case measure => first | (have := HTT.out; simp [intOf]; done) | (have := HTT.out; simp [intOf]; omega)
                · have hm4 : (m : Int) % 2 = 1 := by omega
                  have hm3 : ((m : Int) % 2 == 0) = false := by rw [hm4]; rfl
                  have hst := HST.out
                  rw [if_neg (by simpa using hon)] at hst
                  have HIT2 := Lib.hid hst
                  have HPL2 := HPL
                  have HOW : Hid (Out (DL (.slice (some pa) n pc) o B g L') M w5 wr) := Lib.hid ⟨Mc, HOk.out, HTk.out, HMk.out⟩
                  clear hen hes hu h3 hm2 hon hst hm4 HOk HCP
                  obtain ⟨Md, ho9, ht9, hm9⟩ := HOW.out
                  have c0 := ho9.cells.1
                  obtain ⟨y, hy⟩ : ∃ q, (m + 1) % n = q := ⟨_, rfl⟩
                  have hyn : y < n := by rw [← hy]; exact Nat.mod_lt _ k1
                  have hc := NaR.cell (HPA5.out.tch ht9 HPM.out) y (by rw [Hn.out]; exact hyn)
                  have HNXT : Hid (psN p (m + 1 + 1) = psN p (m + 1) + p.getD y 0) := Lib.hid (by rw [← hy, ← Hn.out]; rfl)
                  have hp2 := pat_at HPT.out (m + 1)
                  rw [Hn.out, hy] at hp2
                  obtain ⟨yv, hyv⟩ : ∃ q, p.getD y 0 = q := ⟨_, rfl⟩
                  rw [hyv] at hc HNXT hp2
                  have HP2 := Lib.hid hp2
                  have hmb := HMB.out
                  have X5 : Hid (IntKind.i64.wrap ((m : Int) + 1) = (m : Int) + 1) := Lib.hid (i64w (by omega) (by omega))
                  have x3 : ((m : Int) + 1).tmod (n : Int) = (y : Int) := by rw [← hy]; rfl
                  have q1 : (y : Int) < (n : Int) := by omega
                  have q2 : (0 : Int) ≤ (y : Int) := by omega
                  have q3 : ¬ n = 0 := by omega
                  have x5 := X5.out
                  clear ho9 ht9 hm9 hy hyn hp2 hyv hmb
                  go_wp2_with fail
                  go_quiet (fail)
                  have HOX := Lib.hid (DL.outLater HOW.out (drew_below (n := nq) (Below.refl _ _)))
                  clear c0 hc x3 x5 q1 q2 q3 HOW
                  go_wp2_with fail
                  go_roundw
                  case rel =>
                    refine ⟨k + 1, m + 1, e2, t, _, L', by have := HMB.out; go_num, rfl, rfl, rfl, HIT2.out, by have := HTT.out; have := HKS.out; omega, HTT.out.2.1, HPL2.out.1, HPL2.out.2, fun h => ?_, HOX.out⟩
                    have h1 := HTT.out
                    have h2 := HLF.out
                    have h3 := HNXT.out
                    have h4 := HP2.out
                    have h5 := HEN.out
                    have h6 := h1.2.2.2 h
                    omega
                  case measure => first | (have := HTT.out; simp [intOf]; done) | (have := HTT.out; simp [intOf]; omega)
        · have k3 : ¬ (s : Int) < (E : Int) := by omega
          have HR : Hid (dsh L l p o = L') := Lib.hid (itr_done hit (by rw [HE.out]; omega) (by rw [HE.out]; omega))
          have HDE : Hid (dE L' = 0) := Lib.hid (by unfold dE; rw [if_neg (by omega)])
          have HF : Hid (Out (DL (.slice (some pa) n pc) o B g L') M w wr) := Lib.hid (out_step HTW.out (fun k hk => Or.inl hk) ⟨Mc, ho9, ht9, hm9⟩)
          clear hit hpt hll hks hsE hin ho9 ht9 hm9
          go_wp2_with fail
          refine bodyPost_ret (results_tmp rfl _ _ _) rfl ?_
          exact ⟨by rw [HR.out, HDE.out]; rfl, by rw [HR.out]; exact HF.out⟩
end Go.Proofs.YtflopcogalknhaaDoor.Str
