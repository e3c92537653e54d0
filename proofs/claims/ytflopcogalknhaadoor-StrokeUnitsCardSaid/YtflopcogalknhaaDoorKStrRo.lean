/-
  Layer 21: the stroke of a reduced polygon (the document's).
-/
import Derived.Test.YtflopcogalknhaaDoorKStrRn
set_option linter.unusedVariables false
set_option linter.unusedSimpArgs false
namespace Go.Proofs.YtflopcogalknhaaDoor.Str
open Go.RowKit Go.Proofs.YtflopcogalknhaaDoor Go.Proofs.YtflopcogalknhaaDoor.NumPure

theorem nx_adds (l : List P2) (i : Nat) : nx l (i + l.length) = nx l i := by unfold nx; rw [Nat.add_mod_right]
theorem pts3 {wr W : World} {Mc : List Nat} {pb : Nat} {l : List P2} (_ : PtR wr (some ⟨pb, 0, none⟩) l) (hA : pb ∉ Mc) (ht : Tch Mc wr W) {i0 i1 i2 i3 i4 i5 : Nat} {v0 v1 v2 v3 v4 v5 : Value} (h : wr.cell? ⟨pb, i0, none⟩ = some v0 ∧ wr.cell? ⟨pb, i1, none⟩ = some v1 ∧ wr.cell? ⟨pb, i2, none⟩ = some v2 ∧ wr.cell? ⟨pb, i3, none⟩ = some v3 ∧ wr.cell? ⟨pb, i4, none⟩ = some v4 ∧ wr.cell? ⟨pb, i5, none⟩ = some v5) :
    W.cell? ⟨pb, i0, none⟩ = some v0 ∧ W.cell? ⟨pb, i1, none⟩ = some v1 ∧ W.cell? ⟨pb, i2, none⟩ = some v2 ∧ W.cell? ⟨pb, i3, none⟩ = some v3 ∧ W.cell? ⟨pb, i4, none⟩ = some v4 ∧ W.cell? ⟨pb, i5, none⟩ = some v5 := by
  have g : ∀ (i : Nat) (v : Value), wr.cell? ⟨pb, i, none⟩ = some v → W.cell? ⟨pb, i, none⟩ = some v := fun i v hv => (World.cell?_of_block (ht.block _ (World.block_lt_of_cell? wr ⟨pb, i, none⟩ hv) hA)).trans hv
  exact ⟨g _ _ h.1, g _ _ h.2.1, g _ _ h.2.2.1, g _ _ h.2.2.2.1, g _ _ h.2.2.2.2.1, g _ _ h.2.2.2.2.2⟩
set_option maxRecDepth 100000 in
set_option maxHeartbeats 40000000 in
theorem rone_any {B : Nat} {L : List (List P2)} {v : Value} {M : List Nat} {w : World} (hO : RL B L v w M) (A : Option Addr) (pb : Nat) (r : List P2) (hpA : 0 < r.length → A = some ⟨pb, 0, none⟩) (c : Nat) (o : Bool) (wd j e : Int) (h : PtR w A r) (hl : r.length ≤ 65536) (hin : AllB 16777216 r) (w1 : 1 ≤ wd) (w2 : wd ≤ 4096)
    (hj : 0 ≤ j ∧ j ≤ 2) (he : 0 ≤ e ∧ e ≤ 2) (hpM : pb ∉ M) (hBs : B ≤ w.heap.size) (hL : L.length ≤ 65536) : Calls Tryd.prog 23 #[v, .slice A r.length c, .bool o, .int .i64 wd, .int .i64 j, .int .i64 e] w fun e' w' => LsC B (one wd j e o L r) M w e' w' := by
  obtain ⟨n, hn⟩ : ∃ n, r.length = n := ⟨_, rfl⟩
  rw [hn] at hl hpA ⊢
  have HN := Lib.hid hn
  have HIN := Lib.hid hin
  have HO := Lib.hid hO
  have HR0 := Lib.hid h
  have HNl := Lib.hid hl
  have HLn := Lib.hid hL
  have HBS := Lib.hid hBs
  have HJ := Lib.hid hj
  have hAM := Lib.hid hpM
  clear hO h hl hin hj hpM hBs hL hn
  unfold LsC
  by_cases h0 : n = 0
  · subst h0
    have HS : Hid (one wd j e o L r = L) := Lib.hid (by unfold one; rw [if_pos HN.out])
    have HF : Hid (Out (RL B (one wd j e o L r) v) M w w) := Lib.hid (by rw [HS.out]; exact ⟨M, HO.out, Tch.refl M w, fun k hk => Or.inl hk⟩)
    go_enter Tryd.func23, Tryd.ntmps23
    go_wp2_with fail
    go_ret
    exact ⟨v, rfl, HF.out⟩
  obtain rfl := hpA (by omega)
  clear hpA
  have HPB : Hid (pb < w.heap.size) := Lib.hid (by obtain ⟨ad, e, hb⟩ := HR0.out.addr (by have := HN.out; omega); injection e with e; rw [← e] at hb; exact hb)
  have hA : Hid (∀ ad, some (⟨pb, 0, none⟩ : Addr) = some ad → ad.block ∉ M) := Lib.hid fun ad e => by injection e with e; rw [← e]; exact hAM.out
  have HR := HR0
  by_cases h1 : n = 1
  · subst h1
    have hk0 : 0 < r.length := by have := HN.out; omega
    obtain ⟨b0, b1⟩ := pt_cells0 HR.out 0 hk0
    rw [← nx_at hk0] at b0 b1
    have hp := nx_in HIN.out (by omega) 0
    have HD : Hid (∀ W, Below w.heap.size w W → Calls Tryd.prog 38 #[v, .agg #[.int .i64 (nx r 0).1, .int .i64 (nx r 0).2], .int .i64 wd, .int .i64 e] W fun e' w' => LsC B (sng wd e L (nx r 0)) M W e' w') := Lib.hid fun W hW => rsingle_any (HO.out.later hW) (nx r 0) wd e w1 w2 hp (Nat.le_trans HBS.out hW.size) (by have := HLn.out; omega)
    have HS : Hid (one wd j e o L r = sng wd e L (nx r 0)) := Lib.hid (by unfold one; rw [if_neg (by have := HN.out; omega), if_pos HN.out])
    obtain ⟨⟨p0, p1⟩, hp⟩ : ∃ p, nx r 0 = p := ⟨_, rfl⟩
    rw [hp] at HD HS b0 b1
    dsimp only at HD b0 b1
    clear hp
    go_enter Tryd.func23, Tryd.ntmps23
    go_wp2_with fail
    refine (HD.out _ (Below.refl _ _)).mono ?_
    rintro e' w' ⟨v', rfl, hout⟩
    have HOUT := Lib.hid hout
    clear hout
    go_wp2_with fail
    go_ret
    exact ⟨v', rfl, by rw [HS.out]; exact HOUT.out⟩
  have n2 : 2 ≤ n := by omega
  have h0' : ((n : Int) == 0) = false := beq_eq_false_iff_ne.2 (by omega)
  have h1' : ((n : Int) == 1) = false := beq_eq_false_iff_ne.2 (by omega)
  clear h0 h1
  cases o
  · go_enter Tryd.func23, Tryd.ntmps23
    go_wp2_with fail
    go_loopw [0, 15] (fun v1 i wr => ∃ k : Nat, i = .int .i64 (k : Int) ∧ k ≤ n ∧ Out (RL B (edgL wd r L k) v1) M w wr) (fun _ i _ => n - (intOf i).toNat)
    case atStart => exact ⟨0, rfl, by omega, M, HO.out, Tch.refl M w, fun k hk => Or.inl hk⟩
    case round =>
      obtain ⟨k, rfl, hk, hr⟩ := hrel
      obtain ⟨Mc, ho, ht, hmm⟩ := hr
      have HOk := Lib.hid ho
      have HTk := Lib.hid ht
      have HMk := Lib.hid hmm
      have HRk := Lib.hid (HR.out.tch ht hA.out)
      have HAk : Hid (pb ∉ Mc) := Lib.hid fun h => by
        rcases hmm _ h with h1 | h1
        · exact hAM.out h1
        · have := HPB.out; omega
      have HBk : Hid (B ≤ wr.heap.size) := Lib.hid (Nat.le_trans HBS.out ht.size)
      clear ho ht hmm
      by_cases hlt : k < n
      · skip
        have hkl : k < r.length := by have := HN.out; omega
        obtain ⟨m, hm⟩ : ∃ m, (k + 1) % n = m := ⟨_, rfl⟩
        have hmn : m < n := by rw [← hm]; exact Nat.mod_lt _ (by omega)
        have hml : m < r.length := by have := HN.out; omega
        have e1 := nx_at hkl
        have e2 : nx r (k + 1) = r[m] := nx_mod (by rw [HN.out, hm]) hml
        have SP : Hid (∀ W, Below wr.heap.size wr W → W.cell? ⟨pb, k * 2, none⟩ = some (.int .i64 r[k].1) ∧ W.cell? ⟨pb, k * 2 + 1, none⟩ = some (.int .i64 r[k].2) ∧ W.cell? ⟨pb, m * 2, none⟩ = some (.int .i64 r[m].1) ∧ W.cell? ⟨pb, m * 2 + 1, none⟩ = some (.int .i64 r[m].2)) := Lib.hid fun W hW => by
          obtain ⟨y0, y1⟩ := pt_cells0 (HRk.out.below hW) k hkl
          obtain ⟨y2, y3⟩ := pt_cells0 (HRk.out.below hW) m hml
          exact ⟨y0, y1, y2, y3⟩
        have hU := nx_in HIN.out (by omega) k
        have hV := nx_in HIN.out (by omega) (k + 1)
        have hbd := edgL_bd wd r L k
        have HSX : Hid (edgL wd r L (k + 1) = put (edgL wd r L k) (quad (nx r k) (nx r (k + 1)) (nrm wd (nx r k) (nx r (k + 1))))) := Lib.hid rfl
        rw [e1] at hU HSX
        rw [e2] at hV HSX
        have hNI := (nrm_in w1 w2 hU hV).1
        have CN := fun W => rnormal_any r[k] r[m] wd W w1 w2 hU hV
        obtain ⟨⟨a0, a1⟩, ha⟩ : ∃ p, r[k] = p := ⟨_, rfl⟩
        obtain ⟨⟨b0, b1⟩, hb⟩ : ∃ p, r[m] = p := ⟨_, rfl⟩
        rw [ha] at hU HSX SP hNI CN
        rw [hb] at hV HSX SP hNI CN
        dsimp only at SP CN
        obtain ⟨⟨q0, q1⟩, hq⟩ : ∃ p, nrm wd (a0, a1) (b0, b1) = p := ⟨_, rfl⟩
        unfold PtC at CN
        rw [hq] at hNI CN HSX
        dsimp only at CN
        obtain ⟨P, hP⟩ : ∃ P, edgL wd r L k = P := ⟨_, rfl⟩
        rw [hP] at hbd HSX HOk
        have HU := Lib.hid hU
        have HV := Lib.hid hV
        have HNI := Lib.hid hNI
        have HCN := Lib.hid CN
        have HPL : Hid (P.length ≤ 1000000) := Lib.hid (by have := hbd.1; have := HLn.out; have := HNl.out; have := nEdg_le false n; omega)
        have x1 : IntKind.i64.wrap ((k : Int) + 1) = (k : Int) + 1 := i64w (by have := HNl.out; omega) (by have := HNl.out; omega)
        have x2 : ((k : Int) + 1).tmod (n : Int) = (m : Int) := by rw [← hm]; rfl
        have x9 : ¬ n = 0 := by omega
        have k2 : (k : Int) < (n : Int) := by omega
        have k3 : (0 : Int) ≤ (k : Int) := by omega
        have k4 : (k : Int) < (n : Int) := by omega
        have k5 : (m : Int) < (n : Int) := by omega
        have k6 : (0 : Int) ≤ (m : Int) := by omega
        clear hbd hU hV hNI CN hP ha hb hq e1 e2 hm
        go_wp2_with fail
        go_cut [16, 17] from 42 to 76 (fun s t wx => ∃ g16 g17, s = .pointer (some ⟨g16, 0, none⟩) ∧ t = .pointer (some ⟨g17, 0, none⟩) ∧ Bn wr wx [(g16, 30, #[.int .i64 a0, .int .i64 a1]), (g17, 30, #[.int .i64 b0, .int .i64 b1])] ∧ wr.heap.size ≤ g16 ∧ wr.heap.size ≤ g17)
        case first =>
          have HN : Hid (Bn wr wr.drew []) := Lib.hid (Bn.nil wr).drew
          refine wp_region_held_drew (S := fun W => Below wr.heap.size wr W) (by kernel_rfl) HN.out.b (fun hHeld => ?_)
          refine wpAnyH_take (i := 0) (oi := _) (v := .slice (some ⟨pb, 0, none⟩) n c) rfl (by kernel_rfl) (by kernel_rfl) (by kernel_rfl) (fun _ _ _ h => h) (Or.inl ⟨by rfl, fun W1 hS => by go_simp⟩) (by assumption) ?_
          go_simp
          refine wpAnyH_take (i := 1) (oi := _) (v := .int .i64 (k : Int)) rfl (by kernel_rfl) (by kernel_rfl) (by kernel_rfl) (fun _ _ _ h => h) (Or.inl ⟨by rfl, fun W1 hS => by go_simp⟩) (by assumption) ?_
          go_simp
          refine wpAnyH_take (i := 2) (oi := _) (v := .pointer (some ⟨pb, k * 2, none⟩)) rfl (by kernel_rfl) (by kernel_rfl) (by kernel_rfl) (fun _ _ _ h => h) (Or.inl ⟨by rfl, fun W1 hS => by go_simp⟩) (by assumption) ?_
          go_simp
          refine wpAnyH_take (i := 3) (oi := _) (v := .agg #[.int .i64 a0, .int .i64 a1]) rfl (by kernel_rfl) (by kernel_rfl) (by kernel_rfl) (fun _ _ _ h => h) (Or.inl ⟨by rfl, fun W1 hS => by (obtain ⟨z0, z1, z2, z3⟩ := SP.out _ hS; go_simp)⟩) (by assumption) ?_
          go_simp
          refine wpAnyH_take (i := 4) (oi := _) (v := .slice (some ⟨pb, 0, none⟩) n c) rfl (by kernel_rfl) (by kernel_rfl) (by kernel_rfl) (fun _ _ _ h => h) (Or.inl ⟨by rfl, fun W1 hS => by go_simp⟩) (by assumption) ?_
          go_simp
          refine wpAnyH_take (i := 5) (oi := _) (v := .int .i64 (k : Int)) rfl (by kernel_rfl) (by kernel_rfl) (by kernel_rfl) (fun _ _ _ h => h) (Or.inl ⟨by rfl, fun W1 hS => by go_simp⟩) (by assumption) ?_
          go_simp
          refine wpAnyH_take (i := 6) (oi := _) (v := .int .i64 ((k : Int) + 1)) rfl (by kernel_rfl) (by kernel_rfl) (by kernel_rfl) (fun _ _ _ h => h) (Or.inl ⟨by rfl, fun W1 hS => by go_simp⟩) (by assumption) ?_
          go_simp
          refine wpAnyH_take (i := 7) (oi := _) (v := .int .i64 (n : Int)) rfl (by kernel_rfl) (by kernel_rfl) (by kernel_rfl) (fun _ _ _ h => h) (Or.inl ⟨by rfl, fun W1 hS => by go_simp⟩) (by assumption) ?_
          go_simp
          refine wpAnyH_take (i := 8) (oi := _) (v := .int .i64 (m : Int)) rfl (by kernel_rfl) (by kernel_rfl) (by kernel_rfl) (fun _ _ _ h => h) (Or.inl ⟨by rfl, fun W1 hS => by go_simp⟩) (by assumption) ?_
          go_simp
          refine wpAnyH_take (i := 9) (oi := _) (v := .pointer (some ⟨pb, m * 2, none⟩)) rfl (by kernel_rfl) (by kernel_rfl) (by kernel_rfl) (fun _ _ _ h => h) (Or.inl ⟨by rfl, fun W1 hS => by go_simp⟩) (by assumption) ?_
          go_simp
          refine wpAnyH_take (i := 10) (oi := _) (v := .agg #[.int .i64 b0, .int .i64 b1]) rfl (by kernel_rfl) (by kernel_rfl) (by kernel_rfl) (fun _ _ _ h => h) (Or.inl ⟨by rfl, fun W1 hS => by (obtain ⟨z0, z1, z2, z3⟩ := SP.out _ hS; go_simp)⟩) (by assumption) ?_
          go_simp
          clear hHeld
          refine wpAnyH_ready (rs := [11, 12]) (by kernel_rfl) (by simp) ?_
          refine AllReadyH.cons (o := _) rfl (fun K hK => ?_) (AllReadyH.cons (o := _) rfl (fun K hK => ?_) AllReadyH.nil)
          · rw [if_pos (by rfl)]
            refine wp_allocPt 16 rfl rfl ?_
            have HM := Lib.hid (HN.out.push _ rfl 30 #[.int .i64 0, .int .i64 0])
            have ge_g16 : wr.heap.size ≤ (wr.drew).heap.size := HN.out.b.size
            refine hK.out _ _ HM.out.b (fun hHeld => ?_)
            clear hK hHeld HN
            revert HM ge_g16 
            obtain ⟨g16, hg⟩ : ∃ g, g = (wr.drew).heap.size := ⟨_, rfl⟩
            obtain ⟨Wn0, hW⟩ : ∃ W, W = (wr.drew).alloc (.cells #[.int .i64 0, .int .i64 0] 30) := ⟨_, rfl⟩
            rw [← hg, ← hW]
            clear hg hW
            intro HM  ge_g16
            have HN : Hid (Bn wr Wn0 [(g16, 30, #[.int .i64 0, .int .i64 0])]) := HM
            clear HM
            have hHeld := HN.out.b
            try simp only [Act.put, List.setIfInBounds_toArray, List.set_cons_zero, List.set_cons_succ]
            clear hHeld
            refine wpAnyH_ready (rs := [12]) (by kernel_rfl) (by simp) ?_
            refine AllReadyH.cons (o := _) rfl (fun K hK => ?_) AllReadyH.nil
            rw [if_pos (by rfl)]
            refine wp_allocPt 17 rfl rfl ?_
            have HM := Lib.hid (HN.out.push _ rfl 30 #[.int .i64 0, .int .i64 0])
            have ne_g16_g17 : g16 ≠ (Wn0).heap.size := by have := (HN.out.get 0 rfl).lt; omega
            have ge_g17 : wr.heap.size ≤ (Wn0).heap.size := HN.out.b.size
            refine hK.out _ _ HM.out.b (fun hHeld => ?_)
            clear hK hHeld HN
            revert HM ge_g17 ne_g16_g17
            obtain ⟨g17, hg⟩ : ∃ g, g = (Wn0).heap.size := ⟨_, rfl⟩
            obtain ⟨Wn1, hW⟩ : ∃ W, W = (Wn0).alloc (.cells #[.int .i64 0, .int .i64 0] 30) := ⟨_, rfl⟩
            rw [← hg, ← hW]
            clear hg hW
            intro HM ne_g16_g17 ge_g17
            have HN : Hid (Bn wr Wn1 [(g16, 30, #[.int .i64 0, .int .i64 0]), (g17, 30, #[.int .i64 0, .int .i64 0])]) := HM
            clear HM
            have hHeld := HN.out.b
            try simp only [Act.put, List.setIfInBounds_toArray, List.set_cons_zero, List.set_cons_succ]
            clear hHeld
            refine wpAnyH_ready (rs := [13]) (by kernel_rfl) (by simp) ?_
            refine AllReadyH.cons (o := _) rfl (fun K hK => ?_) AllReadyH.nil
            rw [if_pos (by rfl)]
            refine wp_store_row 30 _ _ rfl g16 #[.int .i64 a0, .int .i64 a1] rfl rfl 30 #[.int .i64 0, .int .i64 0] (HN.out.get 0 rfl) (infoPt (0, 0)) rfl (by simp [Value.oneCell']) ?_
            have HM : Hid (Bn wr (Wn1.setRow g16 #[.int .i64 a0, .int .i64 a1]) [(g16, 30, #[.int .i64 a0, .int .i64 a1]), (g17, 30, #[.int .i64 0, .int .i64 0])]) := Lib.hid (HN.out.row 0 rfl ge_g16 (by (intro j y hj hy; rcases j with _ | _ | _ | _ | _ | _ | j <;> first | exact absurd rfl hj | (simp only [List.getElem?_cons_zero, List.getElem?_cons_succ, Option.some.injEq] at hy; subst hy; dsimp only; omega) | (simp at hy; done))) #[.int .i64 a0, .int .i64 a1])
            refine hK.out _ _ HM.out.b (fun hHeld => ?_)
            clear hK hHeld HN
            have HN := HM
            clear HM
            have hHeld := HN.out.b
            try simp only [Act.put, List.setIfInBounds_toArray, List.set_cons_zero, List.set_cons_succ]
            clear hHeld
            refine wpAnyH_ready (rs := [14]) (by kernel_rfl) (by simp) ?_
            refine AllReadyH.cons (o := _) rfl (fun K hK => ?_) AllReadyH.nil
            rw [if_pos (by rfl)]
            refine wp_store_row 30 _ _ rfl g17 #[.int .i64 b0, .int .i64 b1] rfl rfl 30 #[.int .i64 0, .int .i64 0] (HN.out.get 1 rfl) (infoPt (0, 0)) rfl (by simp [Value.oneCell']) ?_
            have HM : Hid (Bn wr ((Wn1.setRow g16 #[.int .i64 a0, .int .i64 a1]).setRow g17 #[.int .i64 b0, .int .i64 b1]) [(g16, 30, #[.int .i64 a0, .int .i64 a1]), (g17, 30, #[.int .i64 b0, .int .i64 b1])]) := Lib.hid (HN.out.row 1 rfl ge_g17 (by (intro j y hj hy; rcases j with _ | _ | _ | _ | _ | _ | j <;> first | exact absurd rfl hj | (simp only [List.getElem?_cons_zero, List.getElem?_cons_succ, Option.some.injEq] at hy; subst hy; dsimp only; omega) | (simp at hy; done))) #[.int .i64 b0, .int .i64 b1])
            refine hK.out _ _ HM.out.b (fun hHeld => ?_)
            clear hK hHeld HN
            have HN := HM
            clear HM
            have hHeld := HN.out.b
            try simp only [Act.put, List.setIfInBounds_toArray, List.set_cons_zero, List.set_cons_succ]
            clear hHeld
            refine wpAnyH_done (by kernel_rfl) ?_ _
            go_wp2_with fail
            go_meet
            exact ⟨g16, g17, rfl, rfl, Bn.of2 HN.out.b (HN.out.get 0 rfl) (HN.out.get 1 rfl), ge_g16, ge_g17⟩
          · rw [if_pos (by rfl)]
            refine wp_allocPt 17 rfl rfl ?_
            have HM := Lib.hid (HN.out.push _ rfl 30 #[.int .i64 0, .int .i64 0])
            have ge_g17 : wr.heap.size ≤ (wr.drew).heap.size := HN.out.b.size
            refine hK.out _ _ HM.out.b (fun hHeld => ?_)
            clear hK hHeld HN
            revert HM ge_g17 
            obtain ⟨g17, hg⟩ : ∃ g, g = (wr.drew).heap.size := ⟨_, rfl⟩
            obtain ⟨Wn0, hW⟩ : ∃ W, W = (wr.drew).alloc (.cells #[.int .i64 0, .int .i64 0] 30) := ⟨_, rfl⟩
            rw [← hg, ← hW]
            clear hg hW
            intro HM  ge_g17
            have HN : Hid (Bn wr Wn0 [(g17, 30, #[.int .i64 0, .int .i64 0])]) := HM
            clear HM
            have hHeld := HN.out.b
            try simp only [Act.put, List.setIfInBounds_toArray, List.set_cons_zero, List.set_cons_succ]
            clear hHeld
            refine wpAnyH_ready (rs := [11]) (by kernel_rfl) (by simp) ?_
            refine AllReadyH.cons (o := _) rfl (fun K hK => ?_) AllReadyH.nil
            rw [if_pos (by rfl)]
            refine wp_allocPt 16 rfl rfl ?_
            have HM := Lib.hid (HN.out.push _ rfl 30 #[.int .i64 0, .int .i64 0])
            have ne_g17_g16 : g17 ≠ (Wn0).heap.size := by have := (HN.out.get 0 rfl).lt; omega
            have ge_g16 : wr.heap.size ≤ (Wn0).heap.size := HN.out.b.size
            refine hK.out _ _ HM.out.b (fun hHeld => ?_)
            clear hK hHeld HN
            revert HM ge_g16 ne_g17_g16
            obtain ⟨g16, hg⟩ : ∃ g, g = (Wn0).heap.size := ⟨_, rfl⟩
            obtain ⟨Wn1, hW⟩ : ∃ W, W = (Wn0).alloc (.cells #[.int .i64 0, .int .i64 0] 30) := ⟨_, rfl⟩
            rw [← hg, ← hW]
            clear hg hW
            intro HM ne_g17_g16 ge_g16
            have HN : Hid (Bn wr Wn1 [(g17, 30, #[.int .i64 0, .int .i64 0]), (g16, 30, #[.int .i64 0, .int .i64 0])]) := HM
            clear HM
            have hHeld := HN.out.b
            try simp only [Act.put, List.setIfInBounds_toArray, List.set_cons_zero, List.set_cons_succ]
            clear hHeld
            refine wpAnyH_ready (rs := [13]) (by kernel_rfl) (by simp) ?_
            refine AllReadyH.cons (o := _) rfl (fun K hK => ?_) AllReadyH.nil
            rw [if_pos (by rfl)]
            refine wp_store_row 30 _ _ rfl g16 #[.int .i64 a0, .int .i64 a1] rfl rfl 30 #[.int .i64 0, .int .i64 0] (HN.out.get 1 rfl) (infoPt (0, 0)) rfl (by simp [Value.oneCell']) ?_
            have HM : Hid (Bn wr (Wn1.setRow g16 #[.int .i64 a0, .int .i64 a1]) [(g17, 30, #[.int .i64 0, .int .i64 0]), (g16, 30, #[.int .i64 a0, .int .i64 a1])]) := Lib.hid (HN.out.row 1 rfl ge_g16 (by (intro j y hj hy; rcases j with _ | _ | _ | _ | _ | _ | j <;> first | exact absurd rfl hj | (simp only [List.getElem?_cons_zero, List.getElem?_cons_succ, Option.some.injEq] at hy; subst hy; dsimp only; omega) | (simp at hy; done))) #[.int .i64 a0, .int .i64 a1])
            refine hK.out _ _ HM.out.b (fun hHeld => ?_)
            clear hK hHeld HN
            have HN := HM
            clear HM
            have hHeld := HN.out.b
            try simp only [Act.put, List.setIfInBounds_toArray, List.set_cons_zero, List.set_cons_succ]
            clear hHeld
            refine wpAnyH_ready (rs := [14]) (by kernel_rfl) (by simp) ?_
            refine AllReadyH.cons (o := _) rfl (fun K hK => ?_) AllReadyH.nil
            rw [if_pos (by rfl)]
            refine wp_store_row 30 _ _ rfl g17 #[.int .i64 b0, .int .i64 b1] rfl rfl 30 #[.int .i64 0, .int .i64 0] (HN.out.get 0 rfl) (infoPt (0, 0)) rfl (by simp [Value.oneCell']) ?_
            have HM : Hid (Bn wr ((Wn1.setRow g16 #[.int .i64 a0, .int .i64 a1]).setRow g17 #[.int .i64 b0, .int .i64 b1]) [(g17, 30, #[.int .i64 b0, .int .i64 b1]), (g16, 30, #[.int .i64 a0, .int .i64 a1])]) := Lib.hid (HN.out.row 0 rfl ge_g17 (by (intro j y hj hy; rcases j with _ | _ | _ | _ | _ | _ | j <;> first | exact absurd rfl hj | (simp only [List.getElem?_cons_zero, List.getElem?_cons_succ, Option.some.injEq] at hy; subst hy; dsimp only; omega) | (simp at hy; done))) #[.int .i64 b0, .int .i64 b1])
            refine hK.out _ _ HM.out.b (fun hHeld => ?_)
            clear hK hHeld HN
            have HN := HM
            clear HM
            have hHeld := HN.out.b
            try simp only [Act.put, List.setIfInBounds_toArray, List.set_cons_zero, List.set_cons_succ]
            clear hHeld
            refine wpAnyH_done (by kernel_rfl) ?_ _
            go_wp2_with fail
            go_meet
            exact ⟨g16, g17, rfl, rfl, Bn.of2 HN.out.b (HN.out.get 1 rfl) (HN.out.get 0 rfl), ge_g16, ge_g17⟩
        case rest =>
          obtain ⟨g16, g17, rfl, rfl, hbn, h16, h17⟩ := hcut
          obtain ⟨W1, rfl⟩ : ∃ W1, W1 = wc := ⟨_, rfl⟩
          have HB1 := Lib.hid hbn
          have HGE : Hid (wr.heap.size ≤ g16 ∧ wr.heap.size ≤ g17) := Lib.hid ⟨h16, h17⟩
          obtain ⟨y0, y1, y4⟩ := blk2 (HB1.out.get 0 rfl)
          obtain ⟨y2, y3, y5⟩ := blk2 (HB1.out.get 1 rfl)
          clear hbn h16 h17 y4 y5 x1 x2 k2 k3 k4 k5 k6
          go_wp2_with fail
          refine (HCN.out _).mono ?_
          rintro e9 wm ⟨rfl, hbm⟩
          have hbx : Below W1.heap.size W1 (wm.alloc (.cells #[.int .i64 q0, .int .i64 q1] 30)) := hbm.alloc hbm.size _
          have H16 := Lib.hid ((HB1.out.get 0 rfl).below hbx (HB1.out.get 0 rfl).lt)
          have H17 := Lib.hid ((HB1.out.get 1 rfl).below hbx (HB1.out.get 1 rfl).lt)
          have HBK : Hid (Blk (wm.alloc (.cells #[.int .i64 q0, .int .i64 q1] 30)) wm.heap.size 30 #[.int .i64 q0, .int .i64 q1]) := Lib.hid (Blk.new _ _ _)
          have HB2 := Lib.hid (HB1.out.b.trans (hbx.mono HB1.out.b.size))
          have HG18 : Hid (wr.heap.size ≤ wm.heap.size) := Lib.hid (Nat.le_trans HB1.out.b.size hbm.size)
          clear hbm hbx HCN y0 y1 y2 y3
          go_upto_region 14 with fail
          obtain ⟨g18, hg18⟩ : ∃ g, wm.heap.size = g := ⟨_, rfl⟩
          obtain ⟨W2, hW2⟩ : ∃ W, wm.alloc (.cells #[.int .i64 q0, .int .i64 q1] 30) = W := ⟨_, rfl⟩
          rw [hW2, hg18] at HBK
          rw [hg18] at HG18
          rw [hW2] at HB2 H16 H17
          rw [hW2, hg18]
          clear hW2 hg18
          have HMs := Lib.hid HOk.out.size
          have HNM : Hid (g16 ∉ Mc ∧ g17 ∉ Mc ∧ g18 ∉ Mc) := Lib.hid ⟨fun h => by have := HMs.out _ h; have := HGE.out; omega, fun h => by have := HMs.out _ h; have := HGE.out; omega, fun h => by have := HMs.out _ h; have := HG18.out; omega⟩
          have SSX : Hid (∀ W, Tch Mc W2 W → W.cell? ⟨g16, 0, none⟩ = some (.int .i64 a0) ∧ W.cell? ⟨g16, 1, none⟩ = some (.int .i64 a1) ∧ W.cell? ⟨g17, 0, none⟩ = some (.int .i64 b0) ∧ W.cell? ⟨g17, 1, none⟩ = some (.int .i64 b1) ∧ W.cell? ⟨g18, 0, none⟩ = some (.int .i64 q0) ∧ W.cell? ⟨g18, 1, none⟩ = some (.int .i64 q1)) := Lib.hid fun W ht => by
            have h6 := ht.blk H16.out HNM.out.1
            have h7 := ht.blk H17.out HNM.out.2.1
            have h8 := ht.blk HBK.out HNM.out.2.2
            exact ⟨h6.cell 0, h6.cell 1, h7.cell 0, h7.cell 1, h8.cell 0, h8.cell 1⟩
          have HOc := Lib.hid (HOk.out.later HB2.out)
          have HTc := Lib.hid (Tch.refl Mc W2)
          have HMc : Hid (∀ k ∈ Mc, k ∈ Mc ∨ W2.heap.size ≤ k) := Lib.hid fun k hk => Or.inl hk
          have HTW : Hid (Tch M w W2) := Lib.hid (HTk.out.below HB2.out)
          have HBW : Hid (B ≤ W2.heap.size) := Lib.hid (Nat.le_trans HBk.out HB2.out.size)
          have HUB : Hid (Inb 1000000000000 (a0, a1)) := Lib.hid (HU.out.mono (by omega))
          have HVB : Hid (Inb 1000000000000 (b0, b1)) := Lib.hid (HV.out.mono (by omega))
          have HQB : Hid (Inb 1000000000000 (q0, q1)) := Lib.hid (HNI.out.mono (by omega))
          have HQI : Hid (AllB 33554432 [pl (a0, a1) (q0, q1), pl (b0, b1) (q0, q1), mi (b0, b1) (q0, q1), mi (a0, a1) (q0, q1)]) := Lib.hid (quad_in HU.out HV.out HNI.out)
          clear HLn
          have HLn := HPL
          have HTq := Lib.hid HTc.out.drew
          have HOq := Lib.hid (HOc.out.later (Below.refl _ _).drew)
          have HK := SSX.out _ HTq.out
          go_region_held3 (fun W => W.cell? ⟨g16, 0, none⟩ = some (.int .i64 a0) ∧ W.cell? ⟨g16, 1, none⟩ = some (.int .i64 a1) ∧ W.cell? ⟨g17, 0, none⟩ = some (.int .i64 b0) ∧ W.cell? ⟨g17, 1, none⟩ = some (.int .i64 b1) ∧ W.cell? ⟨g18, 0, none⟩ = some (.int .i64 q0) ∧ W.cell? ⟨g18, 1, none⟩ = some (.int .i64 q1))
            (first | exact HK | go_keep)
            (first
              | (go_at_call_of 41 (Value.agg #[Value.int IntKind.i64 a0, Value.int IntKind.i64 a1]); go_at_call_of 41 (Value.agg #[Value.int IntKind.i64 q0, Value.int IntKind.i64 q1]); go_at_call_of 41 (Value.int IntKind.i64 1); refine (radd_p (a0, a1) (q0, q1) _ HUB.out HQB.out).mono ?_; rintro e' w' ⟨rfl, hbq⟩; have HTq := Lib.hid (HTq.out.below hbq); have HOq := Lib.hid (HOq.out.later hbq); have HK := SSX.out _ HTq.out; clear hbq)
              | (go_at_call_of 41 (Value.agg #[Value.int IntKind.i64 b0, Value.int IntKind.i64 b1]); go_at_call_of 41 (Value.agg #[Value.int IntKind.i64 q0, Value.int IntKind.i64 q1]); go_at_call_of 41 (Value.int IntKind.i64 1); refine (radd_p (b0, b1) (q0, q1) _ HVB.out HQB.out).mono ?_; rintro e' w' ⟨rfl, hbq⟩; have HTq := Lib.hid (HTq.out.below hbq); have HOq := Lib.hid (HOq.out.later hbq); have HK := SSX.out _ HTq.out; clear hbq)
              | (go_at_call_of 41 (Value.agg #[Value.int IntKind.i64 b0, Value.int IntKind.i64 b1]); go_at_call_of 41 (Value.agg #[Value.int IntKind.i64 q0, Value.int IntKind.i64 q1]); refine (radd_m (b0, b1) (q0, q1) _ HVB.out HQB.out).mono ?_; rintro e' w' ⟨rfl, hbq⟩; have HTq := Lib.hid (HTq.out.below hbq); have HOq := Lib.hid (HOq.out.later hbq); have HK := SSX.out _ HTq.out; clear hbq)
              | (go_at_call_of 41 (Value.agg #[Value.int IntKind.i64 a0, Value.int IntKind.i64 a1]); go_at_call_of 41 (Value.agg #[Value.int IntKind.i64 q0, Value.int IntKind.i64 q1]); refine (radd_m (a0, a1) (q0, q1) _ HUB.out HQB.out).mono ?_; rintro e' w' ⟨rfl, hbq⟩; have HTq := Lib.hid (HTq.out.below hbq); have HOq := Lib.hid (HOq.out.later hbq); have HK := SSX.out _ HTq.out; clear hbq)
              | (go_at_call 40; refine (rput_any HOq.out _ 4 ([pl (a0, a1) (q0, q1), pl (b0, b1) (q0, q1), mi (b0, b1) (q0, q1), mi (a0, a1) (q0, q1)]) _ ((Below.refl _ _).alloc (Nat.le_refl _) _) (Blk.new _ _ _) (Nat.le_refl _) (Nat.le_trans HBW.out HTq.out.size) (show 3 ≤ 4 by omega) (show 4 ≤ 16 by omega) (HQI.out) HLn.out).mono ?_; rintro e' w' ⟨v9, rfl, hout⟩; have HOUT := Lib.hid (out_step HTq.out HMc.out hout); have HK := SSX.out _ HOUT.out.choose_spec.2.1; clear hout))
          have HFIN : Hid (Out (RL B (edgL wd r L (k + 1)) v9) M w _) := Lib.hid (by rw [HSX.out]; exact out_step HTW.out HMk.out HOUT.out)
          clear HK HOq HTq HOc HTc HMc HOUT HOk HTk HMk SSX HSX
          have hNl := HNl.out
          go_wp2_with fail
          go_roundw
          case rel => exact ⟨k + 1, by go_num, by omega, HFIN.out⟩
          case measure => first | (simp [intOf]; done) | (simp [intOf]; omega)
      · have k2 : ¬ (k : Int) < (n : Int) := by omega
        obtain rfl : n = k := by omega
        obtain ⟨E1, hE1⟩ : ∃ P, edgL wd r L n = P := ⟨_, rfl⟩
        have hbd := edgL_bd wd r L n
        have HE1 : Hid (Out (RL B E1 u0) M w wr) := Lib.hid ⟨Mc, by rw [← hE1]; exact HOk.out, HTk.out, HMk.out⟩
        rw [hE1] at hbd
        have HE1L : Hid (E1.length ≤ 131072) := Lib.hid (by have := hbd.1; have := HLn.out; have := HNl.out; have := nEdg_le false n; omega)
        have HEE := Lib.hid hE1
        clear HOk HTk HMk HRk HAk HBk hbd hE1
        go_wp2_with fail
        go_loopw [0, 19] (fun v2 i wr => ∃ t : Nat, i = .int .i64 (t : Int) ∧ t ≤ n ∧ Out (RL B (crnL wd j false r E1 t) v2) M w wr) (fun _ i _ => n - (intOf i).toNat)
        case atStart => exact ⟨0, rfl, by omega, HE1.out⟩
        case round =>
          obtain ⟨k, rfl, hk, hr⟩ := hrel
          clear HE1
          obtain ⟨Mc, ho, ht, hmm⟩ := hr
          have HOk := Lib.hid ho
          have HTk := Lib.hid ht
          have HMk := Lib.hid hmm
          have HRk := Lib.hid (HR.out.tch ht hA.out)
          have HAk : Hid (pb ∉ Mc) := Lib.hid fun h => by
            rcases hmm _ h with h1 | h1
            · exact hAM.out h1
            · have := HPB.out; omega
          have HBk : Hid (B ≤ wr.heap.size) := Lib.hid (Nat.le_trans HBS.out ht.size)
          clear ho ht hmm
          by_cases hlt : k < n
          · skip
            have hkl : k < r.length := by have := HN.out; omega
            obtain ⟨m, hm⟩ : ∃ m, (k + 1) % n = m := ⟨_, rfl⟩
            have hmn : m < n := by rw [← hm]; exact Nat.mod_lt _ (by omega)
            have hml : m < r.length := by have := HN.out; omega
            have e1 := nx_at hkl
            have e2 : nx r (k + 1) = r[m] := nx_mod (by rw [HN.out, hm]) hml
            obtain ⟨m1, hm1⟩ : ∃ m, (k + n - 1) % n = m := ⟨_, rfl⟩
            have hmn1 : m1 < n := by rw [← hm1]; exact Nat.mod_lt _ (by omega)
            have hml1 : m1 < r.length := by have := HN.out; omega
            have e0 : nx r (k + r.length - 1) = r[m1] := nx_mod (by rw [HN.out, hm1]) hml1
            have SP : Hid (∀ W, Below wr.heap.size wr W → W.cell? ⟨pb, m1 * 2, none⟩ = some (.int .i64 r[m1].1) ∧ W.cell? ⟨pb, m1 * 2 + 1, none⟩ = some (.int .i64 r[m1].2) ∧ W.cell? ⟨pb, k * 2, none⟩ = some (.int .i64 r[k].1) ∧ W.cell? ⟨pb, k * 2 + 1, none⟩ = some (.int .i64 r[k].2) ∧ W.cell? ⟨pb, m * 2, none⟩ = some (.int .i64 r[m].1) ∧ W.cell? ⟨pb, m * 2 + 1, none⟩ = some (.int .i64 r[m].2)) := Lib.hid fun W hW => by
              obtain ⟨y0, y1⟩ := pt_cells0 (HRk.out.below hW) k hkl
              obtain ⟨y2, y3⟩ := pt_cells0 (HRk.out.below hW) m hml
              obtain ⟨y4, y5⟩ := pt_cells0 (HRk.out.below hW) m1 hml1
              exact ⟨y4, y5, y0, y1, y2, y3⟩
            have hbd := crnL_bd wd j false r E1 k
            have HSX : Hid (crnL wd j false r E1 (k + 1) = crn wd j (crnL wd j false r E1 k) r[m1] r[k] r[m]) := Lib.hid (by rw [crnL, if_pos (by rfl), e0, e1, e2])
            have hX := nx_in HIN.out (by omega) (k + r.length - 1)
            have hU := nx_in HIN.out (by omega) k
            have hV := nx_in HIN.out (by omega) (k + 1)
            rw [e0] at hX
            rw [e1] at hU
            rw [e2] at hV
            obtain ⟨⟨s0, s1⟩, hs⟩ : ∃ p, r[m1] = p := ⟨_, rfl⟩
            obtain ⟨⟨a0, a1⟩, ha⟩ : ∃ p, r[k] = p := ⟨_, rfl⟩
            obtain ⟨⟨b0, b1⟩, hb⟩ : ∃ p, r[m] = p := ⟨_, rfl⟩
            rw [hs] at hX HSX SP
            rw [ha] at hU HSX SP
            rw [hb] at hV HSX SP
            dsimp only at SP
            obtain ⟨P, hP⟩ : ∃ P, crnL wd j false r E1 k = P := ⟨_, rfl⟩
            rw [hP] at hbd HSX HOk
            have HCO : Hid (∀ W, Below wr.heap.size wr W → Calls Tryd.prog 42 #[u0, .agg #[.int .i64 s0, .int .i64 s1], .agg #[.int .i64 a0, .int .i64 a1], .agg #[.int .i64 b0, .int .i64 b1], .int .i64 wd, .int .i64 j] W fun e' w' => LsC B (crnL wd j false r E1 (k + 1)) Mc W e' w') := Lib.hid fun W hW => by
              rw [HSX.out]
              exact rcorner_any (HOk.out.later hW) (s0, s1) (a0, a1) (b0, b1) wd j w1 w2 hX hU hV HJ.out (Nat.le_trans HBk.out hW.size) (by have := hbd.1; have := HE1L.out; have := HNl.out; omega)
            have x1 : IntKind.i64.wrap ((k : Int) + 1) = (k : Int) + 1 := i64w (by have := HNl.out; omega) (by have := HNl.out; omega)
            have x2 : ((k : Int) + 1).tmod (n : Int) = (m : Int) := by rw [← hm]; rfl
            have X3 : Hid (IntKind.i64.wrap ((k : Int) + (n : Int)) = (k : Int) + (n : Int)) := Lib.hid (i64w (by have := HNl.out; omega) (by have := HNl.out; omega))
            have X4 : Hid (IntKind.i64.wrap ((k : Int) + (n : Int) - 1) = (k : Int) + (n : Int) - 1) := Lib.hid (i64w (by have := HNl.out; omega) (by have := HNl.out; omega))
            have x5 : ((k : Int) + (n : Int) - 1).tmod (n : Int) = (m1 : Int) := by rw [← hm1, show (k : Int) + (n : Int) - 1 = ((k + n - 1 : Nat) : Int) by omega]; rfl
            have x9 : ¬ n = 0 := by omega
            have k2 : (k : Int) < (n : Int) := by omega
            have k3 : (0 : Int) ≤ (k : Int) := by omega
            have k5 : (m : Int) < (n : Int) := by omega
            have k6 : (0 : Int) ≤ (m : Int) := by omega
            have k7 : (m1 : Int) < (n : Int) := by omega
            have k8 : (0 : Int) ≤ (m1 : Int) := by omega
            clear hbd hX hU hV hP hs ha hb e0 e1 e2 hm hm1
            have x3 := X3.out
            have x4 := X4.out
            go_wp2_with fail
            have HK := SP.out _ (Below.refl _ _).drew
            go_region_held3 (fun W => W.cell? ⟨pb, m1 * 2, none⟩ = some (.int .i64 s0) ∧ W.cell? ⟨pb, m1 * 2 + 1, none⟩ = some (.int .i64 s1) ∧ W.cell? ⟨pb, k * 2, none⟩ = some (.int .i64 a0) ∧ W.cell? ⟨pb, k * 2 + 1, none⟩ = some (.int .i64 a1) ∧ W.cell? ⟨pb, m * 2, none⟩ = some (.int .i64 b0) ∧ W.cell? ⟨pb, m * 2 + 1, none⟩ = some (.int .i64 b1))
              (first | exact HK | go_keep)
              (first | (go_at_call 42; refine (HCO.out _ (Below.refl _ _).drew).mono ?_; rintro e' w' ⟨v9, rfl, hout⟩; have HOUT := Lib.hid (out_step (Tch.refl Mc wr).drew (fun k hk => Or.inl hk) hout); clear HK; have HK := pts3 HRk.out HAk.out HOUT.out.choose_spec.2.1 (SP.out _ (Below.refl _ _)); clear hout))
            have HFIN : Hid (Out (RL B (crnL wd j false r E1 (k + 1)) v9) M w _) := Lib.hid (out_step HTk.out HMk.out HOUT.out)
            clear HK HCO HOUT HOk HTk HMk SP
            have hNl := HNl.out
            go_wp2_with fail
            go_roundw
            case rel => exact ⟨k + 1, by go_num, by omega, HFIN.out⟩
            case measure => first | (simp [intOf]; done) | (simp [intOf]; omega)
          · have k2 : ¬ (k : Int) < (n : Int) := by omega
            obtain rfl : n = k := by omega
            have HS : Hid (one wd j e false L r = crnL wd j false r E1 n) := Lib.hid (by
              unfold one
              rw [if_neg (by have := HN.out; omega), if_neg (by have := HN.out; omega), HN.out]
              dsimp only
              rw [if_neg (by decide), show nEdg false n = n from rfl, HEE.out])
            have HFIN : Hid (Out (RL B (one wd j e false L r) u0) M w wr) := Lib.hid (by rw [HS.out]; exact ⟨Mc, HOk.out, HTk.out, HMk.out⟩)
            go_wp2_with fail
            go_ret
            exact ⟨_, rfl, HFIN.out⟩
  · obtain ⟨E, hE⟩ : ∃ E, n - 1 = E := ⟨_, rfl⟩
    have HEN : Hid (nEdg true n = E) := Lib.hid (by rw [← hE]; rfl)
    have hq1 : IntKind.i64.wrap ((n : Int) - 1) = (E : Int) := by rw [show (n : Int) - 1 = (E : Int) by omega]; exact i64w (by have := HNl.out; omega) (by have := HNl.out; omega)
    have hEn : E < n := by omega
    clear hE
    go_enter Tryd.func23, Tryd.ntmps23
    go_wp2_with fail
    clear hq1
    go_loopw [0, 15] (fun v1 i wr => ∃ k : Nat, i = .int .i64 (k : Int) ∧ k ≤ E ∧ Out (RL B (edgL wd r L k) v1) M w wr) (fun _ i _ => E - (intOf i).toNat)
    case atStart => exact ⟨0, rfl, by omega, M, HO.out, Tch.refl M w, fun k hk => Or.inl hk⟩
    case round =>
      obtain ⟨k, rfl, hk, hr⟩ := hrel
      obtain ⟨Mc, ho, ht, hmm⟩ := hr
      have HOk := Lib.hid ho
      have HTk := Lib.hid ht
      have HMk := Lib.hid hmm
      have HRk := Lib.hid (HR.out.tch ht hA.out)
      have HAk : Hid (pb ∉ Mc) := Lib.hid fun h => by
        rcases hmm _ h with h1 | h1
        · exact hAM.out h1
        · have := HPB.out; omega
      have HBk : Hid (B ≤ wr.heap.size) := Lib.hid (Nat.le_trans HBS.out ht.size)
      clear ho ht hmm
      by_cases hlt : k < E
      · skip
        have hkl : k < r.length := by have := HN.out; omega
        obtain ⟨m, hm⟩ : ∃ m, (k + 1) % n = m := ⟨_, rfl⟩
        have hmn : m < n := by rw [← hm]; exact Nat.mod_lt _ (by omega)
        have hml : m < r.length := by have := HN.out; omega
        have e1 := nx_at hkl
        have e2 : nx r (k + 1) = r[m] := nx_mod (by rw [HN.out, hm]) hml
        have SP : Hid (∀ W, Below wr.heap.size wr W → W.cell? ⟨pb, k * 2, none⟩ = some (.int .i64 r[k].1) ∧ W.cell? ⟨pb, k * 2 + 1, none⟩ = some (.int .i64 r[k].2) ∧ W.cell? ⟨pb, m * 2, none⟩ = some (.int .i64 r[m].1) ∧ W.cell? ⟨pb, m * 2 + 1, none⟩ = some (.int .i64 r[m].2)) := Lib.hid fun W hW => by
          obtain ⟨y0, y1⟩ := pt_cells0 (HRk.out.below hW) k hkl
          obtain ⟨y2, y3⟩ := pt_cells0 (HRk.out.below hW) m hml
          exact ⟨y0, y1, y2, y3⟩
        have hU := nx_in HIN.out (by omega) k
        have hV := nx_in HIN.out (by omega) (k + 1)
        have hbd := edgL_bd wd r L k
        have HSX : Hid (edgL wd r L (k + 1) = put (edgL wd r L k) (quad (nx r k) (nx r (k + 1)) (nrm wd (nx r k) (nx r (k + 1))))) := Lib.hid rfl
        rw [e1] at hU HSX
        rw [e2] at hV HSX
        have hNI := (nrm_in w1 w2 hU hV).1
        have CN := fun W => rnormal_any r[k] r[m] wd W w1 w2 hU hV
        obtain ⟨⟨a0, a1⟩, ha⟩ : ∃ p, r[k] = p := ⟨_, rfl⟩
        obtain ⟨⟨b0, b1⟩, hb⟩ : ∃ p, r[m] = p := ⟨_, rfl⟩
        rw [ha] at hU HSX SP hNI CN
        rw [hb] at hV HSX SP hNI CN
        dsimp only at SP CN
        obtain ⟨⟨q0, q1⟩, hq⟩ : ∃ p, nrm wd (a0, a1) (b0, b1) = p := ⟨_, rfl⟩
        unfold PtC at CN
        rw [hq] at hNI CN HSX
        dsimp only at CN
        obtain ⟨P, hP⟩ : ∃ P, edgL wd r L k = P := ⟨_, rfl⟩
        rw [hP] at hbd HSX HOk
        have HU := Lib.hid hU
        have HV := Lib.hid hV
        have HNI := Lib.hid hNI
        have HCN := Lib.hid CN
        have HPL : Hid (P.length ≤ 1000000) := Lib.hid (by have := hbd.1; have := HLn.out; have := HNl.out; have := nEdg_le true n; omega)
        have x1 : IntKind.i64.wrap ((k : Int) + 1) = (k : Int) + 1 := i64w (by have := HNl.out; omega) (by have := HNl.out; omega)
        have x2 : ((k : Int) + 1).tmod (n : Int) = (m : Int) := by rw [← hm]; rfl
        have x9 : ¬ n = 0 := by omega
        have k2 : (k : Int) < (E : Int) := by omega
        have k3 : (0 : Int) ≤ (k : Int) := by omega
        have k4 : (k : Int) < (n : Int) := by omega
        have k5 : (m : Int) < (n : Int) := by omega
        have k6 : (0 : Int) ≤ (m : Int) := by omega
        clear hbd hU hV hNI CN hP ha hb hq e1 e2 hm
        go_wp2_with fail
        go_cut [16, 17] from 42 to 76 (fun s t wx => ∃ g16 g17, s = .pointer (some ⟨g16, 0, none⟩) ∧ t = .pointer (some ⟨g17, 0, none⟩) ∧ Bn wr wx [(g16, 30, #[.int .i64 a0, .int .i64 a1]), (g17, 30, #[.int .i64 b0, .int .i64 b1])] ∧ wr.heap.size ≤ g16 ∧ wr.heap.size ≤ g17)
        case first =>
          have HN : Hid (Bn wr wr.drew []) := Lib.hid (Bn.nil wr).drew
          refine wp_region_held_drew (S := fun W => Below wr.heap.size wr W) (by kernel_rfl) HN.out.b (fun hHeld => ?_)
          refine wpAnyH_take (i := 0) (oi := _) (v := .slice (some ⟨pb, 0, none⟩) n c) rfl (by kernel_rfl) (by kernel_rfl) (by kernel_rfl) (fun _ _ _ h => h) (Or.inl ⟨by rfl, fun W1 hS => by go_simp⟩) (by assumption) ?_
          go_simp
          refine wpAnyH_take (i := 1) (oi := _) (v := .int .i64 (k : Int)) rfl (by kernel_rfl) (by kernel_rfl) (by kernel_rfl) (fun _ _ _ h => h) (Or.inl ⟨by rfl, fun W1 hS => by go_simp⟩) (by assumption) ?_
          go_simp
          refine wpAnyH_take (i := 2) (oi := _) (v := .pointer (some ⟨pb, k * 2, none⟩)) rfl (by kernel_rfl) (by kernel_rfl) (by kernel_rfl) (fun _ _ _ h => h) (Or.inl ⟨by rfl, fun W1 hS => by go_simp⟩) (by assumption) ?_
          go_simp
          refine wpAnyH_take (i := 3) (oi := _) (v := .agg #[.int .i64 a0, .int .i64 a1]) rfl (by kernel_rfl) (by kernel_rfl) (by kernel_rfl) (fun _ _ _ h => h) (Or.inl ⟨by rfl, fun W1 hS => by (obtain ⟨z0, z1, z2, z3⟩ := SP.out _ hS; go_simp)⟩) (by assumption) ?_
          go_simp
          refine wpAnyH_take (i := 4) (oi := _) (v := .slice (some ⟨pb, 0, none⟩) n c) rfl (by kernel_rfl) (by kernel_rfl) (by kernel_rfl) (fun _ _ _ h => h) (Or.inl ⟨by rfl, fun W1 hS => by go_simp⟩) (by assumption) ?_
          go_simp
          refine wpAnyH_take (i := 5) (oi := _) (v := .int .i64 (k : Int)) rfl (by kernel_rfl) (by kernel_rfl) (by kernel_rfl) (fun _ _ _ h => h) (Or.inl ⟨by rfl, fun W1 hS => by go_simp⟩) (by assumption) ?_
          go_simp
          refine wpAnyH_take (i := 6) (oi := _) (v := .int .i64 ((k : Int) + 1)) rfl (by kernel_rfl) (by kernel_rfl) (by kernel_rfl) (fun _ _ _ h => h) (Or.inl ⟨by rfl, fun W1 hS => by go_simp⟩) (by assumption) ?_
          go_simp
          refine wpAnyH_take (i := 7) (oi := _) (v := .int .i64 (n : Int)) rfl (by kernel_rfl) (by kernel_rfl) (by kernel_rfl) (fun _ _ _ h => h) (Or.inl ⟨by rfl, fun W1 hS => by go_simp⟩) (by assumption) ?_
          go_simp
          refine wpAnyH_take (i := 8) (oi := _) (v := .int .i64 (m : Int)) rfl (by kernel_rfl) (by kernel_rfl) (by kernel_rfl) (fun _ _ _ h => h) (Or.inl ⟨by rfl, fun W1 hS => by go_simp⟩) (by assumption) ?_
          go_simp
          refine wpAnyH_take (i := 9) (oi := _) (v := .pointer (some ⟨pb, m * 2, none⟩)) rfl (by kernel_rfl) (by kernel_rfl) (by kernel_rfl) (fun _ _ _ h => h) (Or.inl ⟨by rfl, fun W1 hS => by go_simp⟩) (by assumption) ?_
          go_simp
          refine wpAnyH_take (i := 10) (oi := _) (v := .agg #[.int .i64 b0, .int .i64 b1]) rfl (by kernel_rfl) (by kernel_rfl) (by kernel_rfl) (fun _ _ _ h => h) (Or.inl ⟨by rfl, fun W1 hS => by (obtain ⟨z0, z1, z2, z3⟩ := SP.out _ hS; go_simp)⟩) (by assumption) ?_
          go_simp
          clear hHeld
          refine wpAnyH_ready (rs := [11, 12]) (by kernel_rfl) (by simp) ?_
          refine AllReadyH.cons (o := _) rfl (fun K hK => ?_) (AllReadyH.cons (o := _) rfl (fun K hK => ?_) AllReadyH.nil)
          · rw [if_pos (by rfl)]
            refine wp_allocPt 16 rfl rfl ?_
            have HM := Lib.hid (HN.out.push _ rfl 30 #[.int .i64 0, .int .i64 0])
            have ge_g16 : wr.heap.size ≤ (wr.drew).heap.size := HN.out.b.size
            refine hK.out _ _ HM.out.b (fun hHeld => ?_)
            clear hK hHeld HN
            revert HM ge_g16 
            obtain ⟨g16, hg⟩ : ∃ g, g = (wr.drew).heap.size := ⟨_, rfl⟩
            obtain ⟨Wn0, hW⟩ : ∃ W, W = (wr.drew).alloc (.cells #[.int .i64 0, .int .i64 0] 30) := ⟨_, rfl⟩
            rw [← hg, ← hW]
            clear hg hW
            intro HM  ge_g16
            have HN : Hid (Bn wr Wn0 [(g16, 30, #[.int .i64 0, .int .i64 0])]) := HM
            clear HM
            have hHeld := HN.out.b
            try simp only [Act.put, List.setIfInBounds_toArray, List.set_cons_zero, List.set_cons_succ]
            clear hHeld
            refine wpAnyH_ready (rs := [12]) (by kernel_rfl) (by simp) ?_
            refine AllReadyH.cons (o := _) rfl (fun K hK => ?_) AllReadyH.nil
            rw [if_pos (by rfl)]
            refine wp_allocPt 17 rfl rfl ?_
            have HM := Lib.hid (HN.out.push _ rfl 30 #[.int .i64 0, .int .i64 0])
            have ne_g16_g17 : g16 ≠ (Wn0).heap.size := by have := (HN.out.get 0 rfl).lt; omega
            have ge_g17 : wr.heap.size ≤ (Wn0).heap.size := HN.out.b.size
            refine hK.out _ _ HM.out.b (fun hHeld => ?_)
            clear hK hHeld HN
            revert HM ge_g17 ne_g16_g17
            obtain ⟨g17, hg⟩ : ∃ g, g = (Wn0).heap.size := ⟨_, rfl⟩
            obtain ⟨Wn1, hW⟩ : ∃ W, W = (Wn0).alloc (.cells #[.int .i64 0, .int .i64 0] 30) := ⟨_, rfl⟩
            rw [← hg, ← hW]
            clear hg hW
            intro HM ne_g16_g17 ge_g17
            have HN : Hid (Bn wr Wn1 [(g16, 30, #[.int .i64 0, .int .i64 0]), (g17, 30, #[.int .i64 0, .int .i64 0])]) := HM
            clear HM
            have hHeld := HN.out.b
            try simp only [Act.put, List.setIfInBounds_toArray, List.set_cons_zero, List.set_cons_succ]
            clear hHeld
            refine wpAnyH_ready (rs := [13]) (by kernel_rfl) (by simp) ?_
            refine AllReadyH.cons (o := _) rfl (fun K hK => ?_) AllReadyH.nil
            rw [if_pos (by rfl)]
            refine wp_store_row 30 _ _ rfl g16 #[.int .i64 a0, .int .i64 a1] rfl rfl 30 #[.int .i64 0, .int .i64 0] (HN.out.get 0 rfl) (infoPt (0, 0)) rfl (by simp [Value.oneCell']) ?_
            have HM : Hid (Bn wr (Wn1.setRow g16 #[.int .i64 a0, .int .i64 a1]) [(g16, 30, #[.int .i64 a0, .int .i64 a1]), (g17, 30, #[.int .i64 0, .int .i64 0])]) := Lib.hid (HN.out.row 0 rfl ge_g16 (by (intro j y hj hy; rcases j with _ | _ | _ | _ | _ | _ | j <;> first | exact absurd rfl hj | (simp only [List.getElem?_cons_zero, List.getElem?_cons_succ, Option.some.injEq] at hy; subst hy; dsimp only; omega) | (simp at hy; done))) #[.int .i64 a0, .int .i64 a1])
            refine hK.out _ _ HM.out.b (fun hHeld => ?_)
            clear hK hHeld HN
            have HN := HM
            clear HM
            have hHeld := HN.out.b
            try simp only [Act.put, List.setIfInBounds_toArray, List.set_cons_zero, List.set_cons_succ]
            clear hHeld
            refine wpAnyH_ready (rs := [14]) (by kernel_rfl) (by simp) ?_
            refine AllReadyH.cons (o := _) rfl (fun K hK => ?_) AllReadyH.nil
            rw [if_pos (by rfl)]
            refine wp_store_row 30 _ _ rfl g17 #[.int .i64 b0, .int .i64 b1] rfl rfl 30 #[.int .i64 0, .int .i64 0] (HN.out.get 1 rfl) (infoPt (0, 0)) rfl (by simp [Value.oneCell']) ?_
            have HM : Hid (Bn wr ((Wn1.setRow g16 #[.int .i64 a0, .int .i64 a1]).setRow g17 #[.int .i64 b0, .int .i64 b1]) [(g16, 30, #[.int .i64 a0, .int .i64 a1]), (g17, 30, #[.int .i64 b0, .int .i64 b1])]) := Lib.hid (HN.out.row 1 rfl ge_g17 (by (intro j y hj hy; rcases j with _ | _ | _ | _ | _ | _ | j <;> first | exact absurd rfl hj | (simp only [List.getElem?_cons_zero, List.getElem?_cons_succ, Option.some.injEq] at hy; subst hy; dsimp only; omega) | (simp at hy; done))) #[.int .i64 b0, .int .i64 b1])
            refine hK.out _ _ HM.out.b (fun hHeld => ?_)
            clear hK hHeld HN
            have HN := HM
            clear HM
            have hHeld := HN.out.b
            try simp only [Act.put, List.setIfInBounds_toArray, List.set_cons_zero, List.set_cons_succ]
            clear hHeld
            refine wpAnyH_done (by kernel_rfl) ?_ _
            go_wp2_with fail
            go_meet
            exact ⟨g16, g17, rfl, rfl, Bn.of2 HN.out.b (HN.out.get 0 rfl) (HN.out.get 1 rfl), ge_g16, ge_g17⟩
          · rw [if_pos (by rfl)]
            refine wp_allocPt 17 rfl rfl ?_
            have HM := Lib.hid (HN.out.push _ rfl 30 #[.int .i64 0, .int .i64 0])
            have ge_g17 : wr.heap.size ≤ (wr.drew).heap.size := HN.out.b.size
            refine hK.out _ _ HM.out.b (fun hHeld => ?_)
            clear hK hHeld HN
            revert HM ge_g17 
            obtain ⟨g17, hg⟩ : ∃ g, g = (wr.drew).heap.size := ⟨_, rfl⟩
            obtain ⟨Wn0, hW⟩ : ∃ W, W = (wr.drew).alloc (.cells #[.int .i64 0, .int .i64 0] 30) := ⟨_, rfl⟩
            rw [← hg, ← hW]
            clear hg hW
            intro HM  ge_g17
            have HN : Hid (Bn wr Wn0 [(g17, 30, #[.int .i64 0, .int .i64 0])]) := HM
            clear HM
            have hHeld := HN.out.b
            try simp only [Act.put, List.setIfInBounds_toArray, List.set_cons_zero, List.set_cons_succ]
            clear hHeld
            refine wpAnyH_ready (rs := [11]) (by kernel_rfl) (by simp) ?_
            refine AllReadyH.cons (o := _) rfl (fun K hK => ?_) AllReadyH.nil
            rw [if_pos (by rfl)]
            refine wp_allocPt 16 rfl rfl ?_
            have HM := Lib.hid (HN.out.push _ rfl 30 #[.int .i64 0, .int .i64 0])
            have ne_g17_g16 : g17 ≠ (Wn0).heap.size := by have := (HN.out.get 0 rfl).lt; omega
            have ge_g16 : wr.heap.size ≤ (Wn0).heap.size := HN.out.b.size
            refine hK.out _ _ HM.out.b (fun hHeld => ?_)
            clear hK hHeld HN
            revert HM ge_g16 ne_g17_g16
            obtain ⟨g16, hg⟩ : ∃ g, g = (Wn0).heap.size := ⟨_, rfl⟩
            obtain ⟨Wn1, hW⟩ : ∃ W, W = (Wn0).alloc (.cells #[.int .i64 0, .int .i64 0] 30) := ⟨_, rfl⟩
            rw [← hg, ← hW]
            clear hg hW
            intro HM ne_g17_g16 ge_g16
            have HN : Hid (Bn wr Wn1 [(g17, 30, #[.int .i64 0, .int .i64 0]), (g16, 30, #[.int .i64 0, .int .i64 0])]) := HM
            clear HM
            have hHeld := HN.out.b
            try simp only [Act.put, List.setIfInBounds_toArray, List.set_cons_zero, List.set_cons_succ]
            clear hHeld
            refine wpAnyH_ready (rs := [13]) (by kernel_rfl) (by simp) ?_
            refine AllReadyH.cons (o := _) rfl (fun K hK => ?_) AllReadyH.nil
            rw [if_pos (by rfl)]
            refine wp_store_row 30 _ _ rfl g16 #[.int .i64 a0, .int .i64 a1] rfl rfl 30 #[.int .i64 0, .int .i64 0] (HN.out.get 1 rfl) (infoPt (0, 0)) rfl (by simp [Value.oneCell']) ?_
            have HM : Hid (Bn wr (Wn1.setRow g16 #[.int .i64 a0, .int .i64 a1]) [(g17, 30, #[.int .i64 0, .int .i64 0]), (g16, 30, #[.int .i64 a0, .int .i64 a1])]) := Lib.hid (HN.out.row 1 rfl ge_g16 (by (intro j y hj hy; rcases j with _ | _ | _ | _ | _ | _ | j <;> first | exact absurd rfl hj | (simp only [List.getElem?_cons_zero, List.getElem?_cons_succ, Option.some.injEq] at hy; subst hy; dsimp only; omega) | (simp at hy; done))) #[.int .i64 a0, .int .i64 a1])
            refine hK.out _ _ HM.out.b (fun hHeld => ?_)
            clear hK hHeld HN
            have HN := HM
            clear HM
            have hHeld := HN.out.b
            try simp only [Act.put, List.setIfInBounds_toArray, List.set_cons_zero, List.set_cons_succ]
            clear hHeld
            refine wpAnyH_ready (rs := [14]) (by kernel_rfl) (by simp) ?_
            refine AllReadyH.cons (o := _) rfl (fun K hK => ?_) AllReadyH.nil
            rw [if_pos (by rfl)]
            refine wp_store_row 30 _ _ rfl g17 #[.int .i64 b0, .int .i64 b1] rfl rfl 30 #[.int .i64 0, .int .i64 0] (HN.out.get 0 rfl) (infoPt (0, 0)) rfl (by simp [Value.oneCell']) ?_
            have HM : Hid (Bn wr ((Wn1.setRow g16 #[.int .i64 a0, .int .i64 a1]).setRow g17 #[.int .i64 b0, .int .i64 b1]) [(g17, 30, #[.int .i64 b0, .int .i64 b1]), (g16, 30, #[.int .i64 a0, .int .i64 a1])]) := Lib.hid (HN.out.row 0 rfl ge_g17 (by (intro j y hj hy; rcases j with _ | _ | _ | _ | _ | _ | j <;> first | exact absurd rfl hj | (simp only [List.getElem?_cons_zero, List.getElem?_cons_succ, Option.some.injEq] at hy; subst hy; dsimp only; omega) | (simp at hy; done))) #[.int .i64 b0, .int .i64 b1])
            refine hK.out _ _ HM.out.b (fun hHeld => ?_)
            clear hK hHeld HN
            have HN := HM
            clear HM
            have hHeld := HN.out.b
            try simp only [Act.put, List.setIfInBounds_toArray, List.set_cons_zero, List.set_cons_succ]
            clear hHeld
            refine wpAnyH_done (by kernel_rfl) ?_ _
            go_wp2_with fail
            go_meet
            exact ⟨g16, g17, rfl, rfl, Bn.of2 HN.out.b (HN.out.get 1 rfl) (HN.out.get 0 rfl), ge_g16, ge_g17⟩
        case rest =>
          obtain ⟨g16, g17, rfl, rfl, hbn, h16, h17⟩ := hcut
          obtain ⟨W1, rfl⟩ : ∃ W1, W1 = wc := ⟨_, rfl⟩
          have HB1 := Lib.hid hbn
          have HGE : Hid (wr.heap.size ≤ g16 ∧ wr.heap.size ≤ g17) := Lib.hid ⟨h16, h17⟩
          obtain ⟨y0, y1, y4⟩ := blk2 (HB1.out.get 0 rfl)
          obtain ⟨y2, y3, y5⟩ := blk2 (HB1.out.get 1 rfl)
          clear hbn h16 h17 y4 y5 x1 x2 k2 k3 k4 k5 k6
          go_wp2_with fail
          refine (HCN.out _).mono ?_
          rintro e9 wm ⟨rfl, hbm⟩
          have hbx : Below W1.heap.size W1 (wm.alloc (.cells #[.int .i64 q0, .int .i64 q1] 30)) := hbm.alloc hbm.size _
          have H16 := Lib.hid ((HB1.out.get 0 rfl).below hbx (HB1.out.get 0 rfl).lt)
          have H17 := Lib.hid ((HB1.out.get 1 rfl).below hbx (HB1.out.get 1 rfl).lt)
          have HBK : Hid (Blk (wm.alloc (.cells #[.int .i64 q0, .int .i64 q1] 30)) wm.heap.size 30 #[.int .i64 q0, .int .i64 q1]) := Lib.hid (Blk.new _ _ _)
          have HB2 := Lib.hid (HB1.out.b.trans (hbx.mono HB1.out.b.size))
          have HG18 : Hid (wr.heap.size ≤ wm.heap.size) := Lib.hid (Nat.le_trans HB1.out.b.size hbm.size)
          clear hbm hbx HCN y0 y1 y2 y3
          go_upto_region 14 with fail
          obtain ⟨g18, hg18⟩ : ∃ g, wm.heap.size = g := ⟨_, rfl⟩
          obtain ⟨W2, hW2⟩ : ∃ W, wm.alloc (.cells #[.int .i64 q0, .int .i64 q1] 30) = W := ⟨_, rfl⟩
          rw [hW2, hg18] at HBK
          rw [hg18] at HG18
          rw [hW2] at HB2 H16 H17
          rw [hW2, hg18]
          clear hW2 hg18
          have HMs := Lib.hid HOk.out.size
          have HNM : Hid (g16 ∉ Mc ∧ g17 ∉ Mc ∧ g18 ∉ Mc) := Lib.hid ⟨fun h => by have := HMs.out _ h; have := HGE.out; omega, fun h => by have := HMs.out _ h; have := HGE.out; omega, fun h => by have := HMs.out _ h; have := HG18.out; omega⟩
          have SSX : Hid (∀ W, Tch Mc W2 W → W.cell? ⟨g16, 0, none⟩ = some (.int .i64 a0) ∧ W.cell? ⟨g16, 1, none⟩ = some (.int .i64 a1) ∧ W.cell? ⟨g17, 0, none⟩ = some (.int .i64 b0) ∧ W.cell? ⟨g17, 1, none⟩ = some (.int .i64 b1) ∧ W.cell? ⟨g18, 0, none⟩ = some (.int .i64 q0) ∧ W.cell? ⟨g18, 1, none⟩ = some (.int .i64 q1)) := Lib.hid fun W ht => by
            have h6 := ht.blk H16.out HNM.out.1
            have h7 := ht.blk H17.out HNM.out.2.1
            have h8 := ht.blk HBK.out HNM.out.2.2
            exact ⟨h6.cell 0, h6.cell 1, h7.cell 0, h7.cell 1, h8.cell 0, h8.cell 1⟩
          have HOc := Lib.hid (HOk.out.later HB2.out)
          have HTc := Lib.hid (Tch.refl Mc W2)
          have HMc : Hid (∀ k ∈ Mc, k ∈ Mc ∨ W2.heap.size ≤ k) := Lib.hid fun k hk => Or.inl hk
          have HTW : Hid (Tch M w W2) := Lib.hid (HTk.out.below HB2.out)
          have HBW : Hid (B ≤ W2.heap.size) := Lib.hid (Nat.le_trans HBk.out HB2.out.size)
          have HUB : Hid (Inb 1000000000000 (a0, a1)) := Lib.hid (HU.out.mono (by omega))
          have HVB : Hid (Inb 1000000000000 (b0, b1)) := Lib.hid (HV.out.mono (by omega))
          have HQB : Hid (Inb 1000000000000 (q0, q1)) := Lib.hid (HNI.out.mono (by omega))
          have HQI : Hid (AllB 33554432 [pl (a0, a1) (q0, q1), pl (b0, b1) (q0, q1), mi (b0, b1) (q0, q1), mi (a0, a1) (q0, q1)]) := Lib.hid (quad_in HU.out HV.out HNI.out)
          clear HLn
          have HLn := HPL
          have HTq := Lib.hid HTc.out.drew
          have HOq := Lib.hid (HOc.out.later (Below.refl _ _).drew)
          have HK := SSX.out _ HTq.out
          go_region_held3 (fun W => W.cell? ⟨g16, 0, none⟩ = some (.int .i64 a0) ∧ W.cell? ⟨g16, 1, none⟩ = some (.int .i64 a1) ∧ W.cell? ⟨g17, 0, none⟩ = some (.int .i64 b0) ∧ W.cell? ⟨g17, 1, none⟩ = some (.int .i64 b1) ∧ W.cell? ⟨g18, 0, none⟩ = some (.int .i64 q0) ∧ W.cell? ⟨g18, 1, none⟩ = some (.int .i64 q1))
            (first | exact HK | go_keep)
            (first
              | (go_at_call_of 41 (Value.agg #[Value.int IntKind.i64 a0, Value.int IntKind.i64 a1]); go_at_call_of 41 (Value.agg #[Value.int IntKind.i64 q0, Value.int IntKind.i64 q1]); go_at_call_of 41 (Value.int IntKind.i64 1); refine (radd_p (a0, a1) (q0, q1) _ HUB.out HQB.out).mono ?_; rintro e' w' ⟨rfl, hbq⟩; have HTq := Lib.hid (HTq.out.below hbq); have HOq := Lib.hid (HOq.out.later hbq); have HK := SSX.out _ HTq.out; clear hbq)
              | (go_at_call_of 41 (Value.agg #[Value.int IntKind.i64 b0, Value.int IntKind.i64 b1]); go_at_call_of 41 (Value.agg #[Value.int IntKind.i64 q0, Value.int IntKind.i64 q1]); go_at_call_of 41 (Value.int IntKind.i64 1); refine (radd_p (b0, b1) (q0, q1) _ HVB.out HQB.out).mono ?_; rintro e' w' ⟨rfl, hbq⟩; have HTq := Lib.hid (HTq.out.below hbq); have HOq := Lib.hid (HOq.out.later hbq); have HK := SSX.out _ HTq.out; clear hbq)
              | (go_at_call_of 41 (Value.agg #[Value.int IntKind.i64 b0, Value.int IntKind.i64 b1]); go_at_call_of 41 (Value.agg #[Value.int IntKind.i64 q0, Value.int IntKind.i64 q1]); refine (radd_m (b0, b1) (q0, q1) _ HVB.out HQB.out).mono ?_; rintro e' w' ⟨rfl, hbq⟩; have HTq := Lib.hid (HTq.out.below hbq); have HOq := Lib.hid (HOq.out.later hbq); have HK := SSX.out _ HTq.out; clear hbq)
              | (go_at_call_of 41 (Value.agg #[Value.int IntKind.i64 a0, Value.int IntKind.i64 a1]); go_at_call_of 41 (Value.agg #[Value.int IntKind.i64 q0, Value.int IntKind.i64 q1]); refine (radd_m (a0, a1) (q0, q1) _ HUB.out HQB.out).mono ?_; rintro e' w' ⟨rfl, hbq⟩; have HTq := Lib.hid (HTq.out.below hbq); have HOq := Lib.hid (HOq.out.later hbq); have HK := SSX.out _ HTq.out; clear hbq)
              | (go_at_call 40; refine (rput_any HOq.out _ 4 ([pl (a0, a1) (q0, q1), pl (b0, b1) (q0, q1), mi (b0, b1) (q0, q1), mi (a0, a1) (q0, q1)]) _ ((Below.refl _ _).alloc (Nat.le_refl _) _) (Blk.new _ _ _) (Nat.le_refl _) (Nat.le_trans HBW.out HTq.out.size) (show 3 ≤ 4 by omega) (show 4 ≤ 16 by omega) (HQI.out) HLn.out).mono ?_; rintro e' w' ⟨v9, rfl, hout⟩; have HOUT := Lib.hid (out_step HTq.out HMc.out hout); have HK := SSX.out _ HOUT.out.choose_spec.2.1; clear hout))
          have HFIN : Hid (Out (RL B (edgL wd r L (k + 1)) v9) M w _) := Lib.hid (by rw [HSX.out]; exact out_step HTW.out HMk.out HOUT.out)
          clear HK HOq HTq HOc HTc HMc HOUT HOk HTk HMk SSX HSX
          have hNl := HNl.out
          go_wp2_with fail
          go_roundw
          case rel => exact ⟨k + 1, by go_num, by omega, HFIN.out⟩
          case measure => first | (simp [intOf]; done) | (simp [intOf]; omega)
      · have k2 : ¬ (k : Int) < (E : Int) := by omega
        obtain rfl : E = k := by omega
        obtain ⟨E1, hE1⟩ : ∃ P, edgL wd r L E = P := ⟨_, rfl⟩
        have hbd := edgL_bd wd r L E
        have HE1 : Hid (Out (RL B E1 u0) M w wr) := Lib.hid ⟨Mc, by rw [← hE1]; exact HOk.out, HTk.out, HMk.out⟩
        rw [hE1] at hbd
        have HE1L : Hid (E1.length ≤ 131072) := Lib.hid (by have := hbd.1; have := HLn.out; have := HNl.out; have := nEdg_le true n; omega)
        have HEE := Lib.hid hE1
        clear HOk HTk HMk HRk HAk HBk hbd hE1
        go_wp2_with fail
        go_loopw [0, 19] (fun v2 i wr => ∃ t : Nat, i = .int .i64 (t : Int) ∧ t ≤ n ∧ Out (RL B (crnL wd j true r E1 t) v2) M w wr) (fun _ i _ => n - (intOf i).toNat)
        case atStart => exact ⟨0, rfl, by omega, HE1.out⟩
        case round =>
          obtain ⟨k, rfl, hk, hr⟩ := hrel
          clear HE1
          obtain ⟨Mc, ho, ht, hmm⟩ := hr
          have HOk := Lib.hid ho
          have HTk := Lib.hid ht
          have HMk := Lib.hid hmm
          have HRk := Lib.hid (HR.out.tch ht hA.out)
          have HAk : Hid (pb ∉ Mc) := Lib.hid fun h => by
            rcases hmm _ h with h1 | h1
            · exact hAM.out h1
            · have := HPB.out; omega
          have HBk : Hid (B ≤ wr.heap.size) := Lib.hid (Nat.le_trans HBS.out ht.size)
          clear ho ht hmm
          by_cases hlt : k < n
          · skip
            have D3 : Hid (IntKind.i64.wrap ((n : Int) - 1) = (n : Int) - 1) := Lib.hid (i64w (by have := HNl.out; omega) (by have := HNl.out; omega))
            by_cases hc : 0 < k ∧ k + 1 < n
            · have d1 : decide ((0 : Int) < (k : Int)) = true := decide_eq_true (by omega)
              have d0 : 0 < k := by omega
              have d2 : decide ((k : Int) < (n : Int) - 1) = true := decide_eq_true (by omega)
              have d3 := D3.out
              have hHC : hasC true r.length k = true := by unfold hasC; rw [HN.out, decide_eq_true hc.1, decide_eq_true hc.2]; rfl
              clear hc
              have hkl : k < r.length := by have := HN.out; omega
              obtain ⟨m, hm⟩ : ∃ m, (k + 1) % n = m := ⟨_, rfl⟩
              have hmn : m < n := by rw [← hm]; exact Nat.mod_lt _ (by omega)
              have hml : m < r.length := by have := HN.out; omega
              have e1 := nx_at hkl
              have e2 : nx r (k + 1) = r[m] := nx_mod (by rw [HN.out, hm]) hml
              obtain ⟨m1, hm1⟩ : ∃ m, (k + n - 1) % n = m := ⟨_, rfl⟩
              have hmn1 : m1 < n := by rw [← hm1]; exact Nat.mod_lt _ (by omega)
              have hml1 : m1 < r.length := by have := HN.out; omega
              have e0 : nx r (k + r.length - 1) = r[m1] := nx_mod (by rw [HN.out, hm1]) hml1
              have SP : Hid (∀ W, Below wr.heap.size wr W → W.cell? ⟨pb, m1 * 2, none⟩ = some (.int .i64 r[m1].1) ∧ W.cell? ⟨pb, m1 * 2 + 1, none⟩ = some (.int .i64 r[m1].2) ∧ W.cell? ⟨pb, k * 2, none⟩ = some (.int .i64 r[k].1) ∧ W.cell? ⟨pb, k * 2 + 1, none⟩ = some (.int .i64 r[k].2) ∧ W.cell? ⟨pb, m * 2, none⟩ = some (.int .i64 r[m].1) ∧ W.cell? ⟨pb, m * 2 + 1, none⟩ = some (.int .i64 r[m].2)) := Lib.hid fun W hW => by
                obtain ⟨y0, y1⟩ := pt_cells0 (HRk.out.below hW) k hkl
                obtain ⟨y2, y3⟩ := pt_cells0 (HRk.out.below hW) m hml
                obtain ⟨y4, y5⟩ := pt_cells0 (HRk.out.below hW) m1 hml1
                exact ⟨y4, y5, y0, y1, y2, y3⟩
              have hbd := crnL_bd wd j true r E1 k
              have HSX : Hid (crnL wd j true r E1 (k + 1) = crn wd j (crnL wd j true r E1 k) r[m1] r[k] r[m]) := Lib.hid (by rw [crnL, if_pos hHC, e0, e1, e2])
              have hX := nx_in HIN.out (by omega) (k + r.length - 1)
              have hU := nx_in HIN.out (by omega) k
              have hV := nx_in HIN.out (by omega) (k + 1)
              rw [e0] at hX
              rw [e1] at hU
              rw [e2] at hV
              obtain ⟨⟨s0, s1⟩, hs⟩ : ∃ p, r[m1] = p := ⟨_, rfl⟩
              obtain ⟨⟨a0, a1⟩, ha⟩ : ∃ p, r[k] = p := ⟨_, rfl⟩
              obtain ⟨⟨b0, b1⟩, hb⟩ : ∃ p, r[m] = p := ⟨_, rfl⟩
              rw [hs] at hX HSX SP
              rw [ha] at hU HSX SP
              rw [hb] at hV HSX SP
              dsimp only at SP
              obtain ⟨P, hP⟩ : ∃ P, crnL wd j true r E1 k = P := ⟨_, rfl⟩
              rw [hP] at hbd HSX HOk
              have HCO : Hid (∀ W, Below wr.heap.size wr W → Calls Tryd.prog 42 #[u0, .agg #[.int .i64 s0, .int .i64 s1], .agg #[.int .i64 a0, .int .i64 a1], .agg #[.int .i64 b0, .int .i64 b1], .int .i64 wd, .int .i64 j] W fun e' w' => LsC B (crnL wd j true r E1 (k + 1)) Mc W e' w') := Lib.hid fun W hW => by
                rw [HSX.out]
                exact rcorner_any (HOk.out.later hW) (s0, s1) (a0, a1) (b0, b1) wd j w1 w2 hX hU hV HJ.out (Nat.le_trans HBk.out hW.size) (by have := hbd.1; have := HE1L.out; have := HNl.out; omega)
              have x1 : IntKind.i64.wrap ((k : Int) + 1) = (k : Int) + 1 := i64w (by have := HNl.out; omega) (by have := HNl.out; omega)
              have x2 : ((k : Int) + 1).tmod (n : Int) = (m : Int) := by rw [← hm]; rfl
              have X3 : Hid (IntKind.i64.wrap ((k : Int) + (n : Int)) = (k : Int) + (n : Int)) := Lib.hid (i64w (by have := HNl.out; omega) (by have := HNl.out; omega))
              have X4 : Hid (IntKind.i64.wrap ((k : Int) + (n : Int) - 1) = (k : Int) + (n : Int) - 1) := Lib.hid (i64w (by have := HNl.out; omega) (by have := HNl.out; omega))
              have x5 : ((k : Int) + (n : Int) - 1).tmod (n : Int) = (m1 : Int) := by rw [← hm1, show (k : Int) + (n : Int) - 1 = ((k + n - 1 : Nat) : Int) by omega]; rfl
              have x9 : ¬ n = 0 := by omega
              have k2 : (k : Int) < (n : Int) := by omega
              have k3 : (0 : Int) ≤ (k : Int) := by omega
              have k5 : (m : Int) < (n : Int) := by omega
              have k6 : (0 : Int) ≤ (m : Int) := by omega
              have k7 : (m1 : Int) < (n : Int) := by omega
              have k8 : (0 : Int) ≤ (m1 : Int) := by omega
              clear hbd hX hU hV hP hs ha hb e0 e1 e2 hm hm1
              have x3 := X3.out
              have x4 := X4.out
              go_wp2_with fail
              have HK := SP.out _ (Below.refl _ _).drew
              go_region_held3 (fun W => W.cell? ⟨pb, m1 * 2, none⟩ = some (.int .i64 s0) ∧ W.cell? ⟨pb, m1 * 2 + 1, none⟩ = some (.int .i64 s1) ∧ W.cell? ⟨pb, k * 2, none⟩ = some (.int .i64 a0) ∧ W.cell? ⟨pb, k * 2 + 1, none⟩ = some (.int .i64 a1) ∧ W.cell? ⟨pb, m * 2, none⟩ = some (.int .i64 b0) ∧ W.cell? ⟨pb, m * 2 + 1, none⟩ = some (.int .i64 b1))
                (first | exact HK | go_keep)
                (first | (go_at_call 42; refine (HCO.out _ (Below.refl _ _).drew).mono ?_; rintro e' w' ⟨v9, rfl, hout⟩; have HOUT := Lib.hid (out_step (Tch.refl Mc wr).drew (fun k hk => Or.inl hk) hout); clear HK; have HK := pts3 HRk.out HAk.out HOUT.out.choose_spec.2.1 (SP.out _ (Below.refl _ _)); clear hout))
              have HFIN : Hid (Out (RL B (crnL wd j true r E1 (k + 1)) v9) M w _) := Lib.hid (out_step HTk.out HMk.out HOUT.out)
              clear HK HCO HOUT HOk HTk HMk SP
              have hNl := HNl.out
              go_wp2_with fail
              go_roundw
              case rel => exact ⟨k + 1, by go_num, by omega, HFIN.out⟩
              case measure => first | (simp [intOf]; done) | (simp [intOf]; omega)
            · have HHC : Hid (crnL wd j true r E1 (k + 1) = crnL wd j true r E1 k) := Lib.hid (by
                rw [crnL, if_neg]
                unfold hasC
                rw [HN.out]
                intro h
                simp only [Bool.not_true, Bool.false_or, Bool.and_eq_true, decide_eq_true_eq] at h
                exact hc h)
              have HFIN : Hid (Out (RL B (crnL wd j true r E1 (k + 1)) u0) M w wr) := Lib.hid (by rw [HHC.out]; exact ⟨Mc, HOk.out, HTk.out, HMk.out⟩)
              clear HHC HOk HTk HMk HRk HAk HBk
              have k2 : (k : Int) < (n : Int) := by omega
              have hNl := HNl.out
              by_cases hk0 : k = 0
              · subst hk0
                go_wp2_with fail
                go_roundw
                case rel => exact ⟨1, by go_num, by omega, HFIN.out⟩
                case measure => first | (simp [intOf]; done) | (simp [intOf]; omega)
              · have d1 : decide ((0 : Int) < (k : Int)) = true := decide_eq_true (by omega)
                have d0 : 0 < k := by omega
                have d2 : decide ((k : Int) < (n : Int) - 1) = false := decide_eq_false (by omega)
                have d3 := D3.out
                clear hc hk0
                go_wp2_with fail
                go_roundw
                case rel => exact ⟨k + 1, by go_num, by omega, HFIN.out⟩
                case measure => first | (simp [intOf]; done) | (simp [intOf]; omega)
          · have k2 : ¬ (k : Int) < (n : Int) := by omega
            obtain rfl : n = k := by omega
            obtain ⟨L2, hL2⟩ : ∃ P, crnL wd j true r E1 n = P := ⟨_, rfl⟩
            have hbd := crnL_bd wd j true r E1 n
            rw [hL2] at hbd HOk
            have HL2 : Hid (L2.length ≤ 900000) := Lib.hid (by have := hbd.1; have := HE1L.out; have := HNl.out; omega)
            have HS : Hid (one wd j e true L r = cap wd e L2 (nx r 0) (nx r 1) (nx r (n - 2)) (nx r (n - 1))) := Lib.hid (by
              unfold one
              rw [if_neg (by have := HN.out; omega), if_neg (by have := HN.out; omega), HN.out]
              dsimp only
              rw [if_pos rfl, show nEdg true n = E from HEN.out, HEE.out, hL2])
            clear hbd hL2
            by_cases h0 : e = 0
            · have h0' : (e == 0) = true := by simpa using h0
              have HC : Hid (cap wd e L2 (nx r 0) (nx r 1) (nx r (n - 2)) (nx r (n - 1)) = L2) := Lib.hid (by unfold cap; rw [if_neg (by omega), if_neg (by omega)])
              have HFIN : Hid (Out (RL B (one wd j e true L r) u0) M w wr) := Lib.hid (by rw [HS.out, HC.out]; exact ⟨Mc, HOk.out, HTk.out, HMk.out⟩)
              clear h0
              go_wp2_with fail
              go_ret
              exact ⟨_, rfl, HFIN.out⟩
            have h0' : (e == 0) = false := by simpa using h0
            by_cases h1 : e = 1
            · have h1' : (e == 1) = true := by simpa using h1
              have hE : n - 1 = E := HEN.out
              have hq1 : IntKind.i64.wrap ((n : Int) - 1) = (E : Int) := by rw [show (n : Int) - 1 = (E : Int) by omega]; exact i64w (by have := HNl.out; omega) (by have := HNl.out; omega)
              have hk0 : 0 < r.length := by have := HN.out; omega
              have hkE : E < r.length := by have := HN.out; omega
              have SSX : Hid (∀ W, Tch Mc wr W → W.cell? ⟨pb, 0, none⟩ = some (.int .i64 r[0].1) ∧ W.cell? ⟨pb, 1, none⟩ = some (.int .i64 r[0].2) ∧ W.cell? ⟨pb, E * 2, none⟩ = some (.int .i64 r[E].1) ∧ W.cell? ⟨pb, E * 2 + 1, none⟩ = some (.int .i64 r[E].2)) := Lib.hid fun W ht => by
                have h9 := HRk.out.tch ht (fun ad e => by injection e with e; rw [← e]; exact HAk.out)
                obtain ⟨y0, y1⟩ := pt_cells0 h9 0 hk0
                obtain ⟨y2, y3⟩ := pt_cells0 h9 E hkE
                exact ⟨y0, y1, y2, y3⟩
              have HAI := Lib.hid (nx_in HIN.out (by omega) 0)
              have HBI := Lib.hid (nx_in HIN.out (by omega) (n - 1))
              have HC : Hid (cap wd e L2 (nx r 0) (nx r 1) (nx r (n - 2)) (nx r (n - 1)) = put (put L2 (crc wd (nx r 0))) (crc wd (nx r (n - 1)))) := Lib.hid (by unfold cap; rw [if_pos h1])
              rw [hE, nx_at hkE] at HBI
              rw [nx_at hk0] at HAI
              have HC2 : Hid (one wd j e true L r = put (put L2 (crc wd r[0])) (crc wd r[E])) := Lib.hid (by rw [HS.out, HC.out, hE, nx_at hkE, nx_at hk0])
              obtain ⟨⟨a0, a1⟩, ha⟩ : ∃ p, r[0] = p := ⟨_, rfl⟩
              obtain ⟨⟨b0, b1⟩, hb⟩ : ∃ p, r[E] = p := ⟨_, rfl⟩
              rw [ha, hb] at SSX HC2
              rw [ha] at HAI
              rw [hb] at HBI
              dsimp only at SSX
              have HPL1 : Hid ((put L2 (crc wd (a0, a1))).length ≤ 1000000) := Lib.hid (by have := put_len L2 (crc wd (a0, a1)); have := HL2.out; omega)
              have HPL0 : Hid (L2.length ≤ 1000000) := Lib.hid (by have := HL2.out; omega)
              have HTq : Hid (Tch Mc wr wr.drew) := Lib.hid (Tch.refl _ _).drew
              have HOq : Hid (RL B L2 u0 wr.drew Mc) := Lib.hid (HOk.out.later (Below.refl _ _).drew)
              have HMq : Hid (∀ k ∈ Mc, k ∈ Mc ∨ wr.heap.size ≤ k) := Lib.hid fun k hk => Or.inl hk
              have HBq : Hid (B ≤ wr.drew.heap.size) := HBk
              have k1 : (0 : Int) < (n : Int) := by omega
              have k2 : (E : Int) < (n : Int) := by omega
              have k3 : (0 : Int) ≤ (E : Int) := by omega
              have k4 : 0 < n := by omega
              have k5 : E < n := by omega
              have k6 : ¬ (n : Int) < (n : Int) := by omega
              clear ha hb h1 h0 hE hk0 hkE
              go_wp2_with fail
              clear h0' h1'
              have HK := SSX.out _ HTq.out
              go_region_held3 (fun W => W.cell? ⟨pb, 0, none⟩ = some (.int .i64 a0) ∧ W.cell? ⟨pb, 1, none⟩ = some (.int .i64 a1) ∧ W.cell? ⟨pb, E * 2, none⟩ = some (.int .i64 b0) ∧ W.cell? ⟨pb, E * 2 + 1, none⟩ = some (.int .i64 b1))
                (first | exact HK | go_keep)
                (first
                  | (go_at_call_of 43 (Value.agg #[Value.int IntKind.i64 a0, Value.int IntKind.i64 a1]); refine (rcircle_any (a0, a1) wd _ w1 w2 HAI.out).mono ?_; rintro e' w5 ⟨v5, rfl, hown, hbq⟩; obtain ⟨p5, c5, cs5, rfl, hp5, hpr5, hpb5⟩ := own_pts hown (by rw [crc_len]; omega); have HP5 := Lib.hid hp5; have HPR5 := Lib.hid hpr5; have HPB5 := Lib.hid hpb5; have HBQ5 := Lib.hid hbq; clear HK; have HK := SSX.out _ (HTq.out.below hbq); clear hp5 hpr5 hpb5 hbq hown)
                  | (go_at_call_of 40 u0; refine (rputP_any HOq.out p5 c5 (crc wd (a0, a1)) _ HBQ5.out HPR5.out HPB5.out HP5.out HBq.out (by rw [crc_len]; omega) (by rw [crc_len]; omega) (crc_in w1 w2 HAI.out) HPL0.out).mono ?_; rintro e' w6 ⟨v6, rfl, hout⟩; have HOUT1 := Lib.hid (out_step HTq.out HMq.out hout); clear HK; have HK := SSX.out _ HOUT1.out.choose_spec.2.1; clear hout)
                  | (go_at_call_of 43 (Value.agg #[Value.int IntKind.i64 b0, Value.int IntKind.i64 b1]); refine (rcircle_any (b0, b1) wd _ w1 w2 HBI.out).mono ?_; rintro e' w7 ⟨v7, rfl, hown, hbq⟩; obtain ⟨p7, c7, cs7, rfl, hp7, hpr7, hpb7⟩ := own_pts hown (by rw [crc_len]; omega); have HP7 := Lib.hid hp7; have HPR7 := Lib.hid hpr7; have HPB7 := Lib.hid hpb7; have HBQ7 := Lib.hid hbq; clear HK; have HK := SSX.out _ (HOUT1.out.choose_spec.2.1.below hbq); clear hp7 hpr7 hpb7 hbq hown)
                  | (go_at_call_of 40 v6; refine (rputP_any HOUT1.out.choose_spec.1 p7 c7 (crc wd (b0, b1)) _ HBQ7.out HPR7.out HPB7.out HP7.out (Nat.le_trans HBk.out HOUT1.out.choose_spec.2.1.size) (by rw [crc_len]; omega) (by rw [crc_len]; omega) (crc_in w1 w2 HBI.out) HPL1.out).mono ?_; rintro e' w8 ⟨v8, rfl, hout⟩; have HOUT2 := Lib.hid (out_step HOUT1.out.choose_spec.2.1 HOUT1.out.choose_spec.2.2 hout); clear HK; have HK := SSX.out _ HOUT2.out.choose_spec.2.1; clear hout))
              have HFIN : Hid (Out (RL B (one wd j e true L r) v8) M w _) := Lib.hid (by rw [HC2.out]; exact out_step HTk.out HMk.out HOUT2.out)
              clear HK
              go_wp2_with fail
              go_ret
              exact ⟨_, rfl, HFIN.out⟩
            have h1' : (e == 1) = false := by simpa using h1
            have h2 : e = 2 := by omega
            have hE : n - 1 = E := HEN.out
            obtain ⟨E2, hE2⟩ : ∃ q, n - 2 = q := ⟨_, rfl⟩
            have HQ1 : Hid (IntKind.i64.wrap ((n : Int) - 1) = (E : Int)) := Lib.hid (by rw [show (n : Int) - 1 = (E : Int) by omega]; exact i64w (by have := HNl.out; omega) (by have := HNl.out; omega))
            have HQ2 : Hid (IntKind.i64.wrap ((n : Int) - 2) = (E2 : Int)) := Lib.hid (by rw [show (n : Int) - 2 = (E2 : Int) by omega]; exact i64w (by have := HNl.out; omega) (by have := HNl.out; omega))
            have HKS : Hid ((0 : Int) < (n : Int) ∧ (E : Int) < (n : Int) ∧ (0 : Int) ≤ (E : Int) ∧ (1 : Int) < (n : Int) ∧ (E2 : Int) < (n : Int) ∧ (0 : Int) ≤ (E2 : Int) ∧ 0 < n ∧ 1 < n) := Lib.hid (by omega)
            have hk0 : 0 < r.length := by have := HN.out; omega
            have hk1 : 1 < r.length := by have := HN.out; omega
            have hkE : E < r.length := by have := HN.out; omega
            have hkE2 : E2 < r.length := by have := HN.out; omega
            have SP : Hid (∀ W, Tch Mc wr W → (W.cell? ⟨pb, 0, none⟩ = some (.int .i64 r[0].1) ∧ W.cell? ⟨pb, 1, none⟩ = some (.int .i64 r[0].2)) ∧ (W.cell? ⟨pb, E * 2, none⟩ = some (.int .i64 r[E].1) ∧ W.cell? ⟨pb, E * 2 + 1, none⟩ = some (.int .i64 r[E].2)) ∧ (W.cell? ⟨pb, 2, none⟩ = some (.int .i64 r[1].1) ∧ W.cell? ⟨pb, 3, none⟩ = some (.int .i64 r[1].2)) ∧ (W.cell? ⟨pb, E2 * 2, none⟩ = some (.int .i64 r[E2].1) ∧ W.cell? ⟨pb, E2 * 2 + 1, none⟩ = some (.int .i64 r[E2].2))) := Lib.hid fun W ht => by
              have h9 := HRk.out.tch ht (fun ad e => by injection e with e; rw [← e]; exact HAk.out)
              exact ⟨pt_cells0 h9 0 hk0, pt_cells0 h9 E hkE, pt_cells0 h9 1 hk1, pt_cells0 h9 E2 hkE2⟩
            have hA := nx_in HIN.out (by omega) 0
            have hS := nx_in HIN.out (by omega) 1
            have hR := nx_in HIN.out (by omega) (n - 2)
            have hB := nx_in HIN.out (by omega) (n - 1)
            have HC : Hid (one wd j e true L r = put (put L2 (capA (nx r 0) (nrm wd (nx r 0) (nx r 1)) (ext wd (nx r 0) (nx r 1)))) (capB (nx r (n - 1)) (nrm wd (nx r (n - 2)) (nx r (n - 1))) (ext wd (nx r (n - 2)) (nx r (n - 1))))) := Lib.hid (by rw [HS.out]; unfold cap; rw [if_neg h1, if_pos h2])
            rw [hE, nx_at hkE] at hB
            rw [hE2, nx_at hkE2] at hR
            rw [nx_at hk0] at hA
            rw [nx_at hk1] at hS
            rw [hE, hE2, nx_at hkE, nx_at hkE2, nx_at hk0, nx_at hk1] at HC
            obtain ⟨⟨a0, a1⟩, ha⟩ : ∃ p, r[0] = p := ⟨_, rfl⟩
            obtain ⟨⟨s0, s1⟩, hs⟩ : ∃ p, r[1] = p := ⟨_, rfl⟩
            obtain ⟨⟨r0, r1⟩, hr⟩ : ∃ p, r[E2] = p := ⟨_, rfl⟩
            obtain ⟨⟨b0, b1⟩, hb⟩ : ∃ p, r[E] = p := ⟨_, rfl⟩
            rw [ha, hb, hs, hr] at SP HC
            rw [ha] at hA
            rw [hs] at hS
            rw [hr] at hR
            rw [hb] at hB
            dsimp only at SP
            have HN1 := Lib.hid (nrm_in w1 w2 hA hS).1
            have HX1 := Lib.hid (nrm_in w1 w2 hA hS).2
            have HN2 := Lib.hid (nrm_in w1 w2 hR hB).1
            have HX2 := Lib.hid (nrm_in w1 w2 hR hB).2
            have CN1 := fun W => rnormal_any (a0, a1) (s0, s1) wd W w1 w2 hA hS
            have CX1 := fun W => rextension_any (a0, a1) (s0, s1) wd W w1 w2 hA hS
            have CN2 := fun W => rnormal_any (r0, r1) (b0, b1) wd W w1 w2 hR hB
            have CX2 := fun W => rextension_any (r0, r1) (b0, b1) wd W w1 w2 hR hB
            obtain ⟨⟨m0, m1⟩, hm⟩ : ∃ p, nrm wd (a0, a1) (s0, s1) = p := ⟨_, rfl⟩
            obtain ⟨⟨x0, x1⟩, hx⟩ : ∃ p, ext wd (a0, a1) (s0, s1) = p := ⟨_, rfl⟩
            obtain ⟨⟨q0, q1⟩, hq⟩ : ∃ p, nrm wd (r0, r1) (b0, b1) = p := ⟨_, rfl⟩
            obtain ⟨⟨y0, y1⟩, hy⟩ : ∃ p, ext wd (r0, r1) (b0, b1) = p := ⟨_, rfl⟩
            unfold PtC at CN1 CX1 CN2 CX2
            rw [hm] at HN1 CN1
            rw [hx] at HX1 CX1
            rw [hq] at HN2 CN2
            rw [hy] at HX2 CX2
            rw [hm, hx, hq, hy] at HC
            dsimp only at CN1 CX1 CN2 CX2
            have HCN1 := Lib.hid CN1
            have HCX1 := Lib.hid CX1
            have HCN2 := Lib.hid CN2
            have HCX2 := Lib.hid CX2
            have HA := Lib.hid hA
            have HB := Lib.hid hB
            have hx1 := HX1.out
            have hx2 := HX2.out
            have CM := fun W => radd_m (a0, a1) (x0, x1) W (hA.mono (by omega)) (hx1.mono (by omega))
            have CP := fun W => radd_p (b0, b1) (y0, y1) W (hB.mono (by omega)) (hx2.mono (by omega))
            unfold PtC mi at CM
            unfold PtC pl at CP
            dsimp only at CM CP
            obtain ⟨t0, ht0⟩ : ∃ z, a0 - x0 = z := ⟨_, rfl⟩
            obtain ⟨t1, ht1⟩ : ∃ z, a1 - x1 = z := ⟨_, rfl⟩
            obtain ⟨c0, hv0⟩ : ∃ z, b0 + y0 = z := ⟨_, rfl⟩
            obtain ⟨c1, hv1⟩ : ∃ z, b1 + y1 = z := ⟨_, rfl⟩
            rw [ht0, ht1] at CM
            rw [hv0, hv1] at CP
            have HCM := Lib.hid CM
            have HCP := Lib.hid CP
            have hT0 : Inb 16781312 (t0, t1) := by unfold Inb at hA hx1 ⊢; dsimp only at hA hx1 ⊢; omega
            have hV0 : Inb 16781312 (c0, c1) := by unfold Inb at hB hx2 ⊢; dsimp only at hB hx2 ⊢; omega
            have HTB : Hid (Inb 1000000000000 (t0, t1)) := Lib.hid (hT0.mono (by omega))
            have HVB : Hid (Inb 1000000000000 (c0, c1)) := Lib.hid (hV0.mono (by omega))
            have HAB : Hid (Inb 1000000000000 (a0, a1)) := Lib.hid (hA.mono (by omega))
            have HBB : Hid (Inb 1000000000000 (b0, b1)) := Lib.hid (hB.mono (by omega))
            have HMB : Hid (Inb 1000000000000 (m0, m1)) := Lib.hid (HN1.out.mono (by omega))
            have HQB : Hid (Inb 1000000000000 (q0, q1)) := Lib.hid (HN2.out.mono (by omega))
            have HPA : Hid ([pl (t0, t1) (m0, m1), pl (a0, a1) (m0, m1), mi (a0, a1) (m0, m1), mi (t0, t1) (m0, m1)] = capA (a0, a1) (m0, m1) (x0, x1)) := Lib.hid (by unfold capA; rw [show mi (a0, a1) (x0, x1) = (t0, t1) by unfold mi; dsimp only; rw [ht0, ht1]])
            have HPB2 : Hid ([pl (b0, b1) (q0, q1), pl (c0, c1) (q0, q1), mi (c0, c1) (q0, q1), mi (b0, b1) (q0, q1)] = capB (b0, b1) (q0, q1) (y0, y1)) := Lib.hid (by unfold capB; rw [show pl (b0, b1) (y0, y1) = (c0, c1) by unfold pl; dsimp only; rw [hv0, hv1]])
            have HIA : Hid (AllB 33554432 [pl (t0, t1) (m0, m1), pl (a0, a1) (m0, m1), mi (a0, a1) (m0, m1), mi (t0, t1) (m0, m1)]) := Lib.hid (by rw [HPA.out]; exact capA_in hA HN1.out HX1.out)
            have HIB : Hid (AllB 33554432 [pl (b0, b1) (q0, q1), pl (c0, c1) (q0, q1), mi (c0, c1) (q0, q1), mi (b0, b1) (q0, q1)]) := Lib.hid (by rw [HPB2.out]; exact capB_in hB HN2.out HX2.out)
            obtain ⟨P1, hP1⟩ : ∃ P, put L2 [pl (t0, t1) (m0, m1), pl (a0, a1) (m0, m1), mi (a0, a1) (m0, m1), mi (t0, t1) (m0, m1)] = P := ⟨_, rfl⟩
            rw [← HPA.out, ← HPB2.out, hP1] at HC
            have HP1 := Lib.hid hP1
            have HL1 : Hid (P1.length ≤ 1000000) := Lib.hid (by have h9 := put_len L2 [pl (t0, t1) (m0, m1), pl (a0, a1) (m0, m1), mi (a0, a1) (m0, m1), mi (t0, t1) (m0, m1)]; rw [hP1] at h9; have := HL2.out; omega)
            have HL0 : Hid (L2.length ≤ 1000000) := Lib.hid (by have := HL2.out; omega)
            clear hA hS hR hB hx1 hx2 hT0 hV0 ht0 ht1 hv0 hv1 CM CP CN1 CX1 CN2 CX2 hm hx hq hy ha hs hr hb hP1 hE hE2 hk0 hk1 hkE hkE2 h1 h2 h0
            have k9 : ¬ (n : Int) < (n : Int) := by omega
            go_upto_region 24 with fail
            clear k9 h0' h1'
            go_cut [20, 21] (fun s t wx => ∃ g20 g21, s = .pointer (some ⟨g20, 0, none⟩) ∧ t = .pointer (some ⟨g21, 0, none⟩) ∧ Bn wr wx [(g20, 30, #[.int .i64 a0, .int .i64 a1]), (g21, 30, #[.int .i64 b0, .int .i64 b1])] ∧ wr.heap.size ≤ g20 ∧ wr.heap.size ≤ g21)
            case first =>
              have hq1 := HQ1.out
              obtain ⟨k0, k1, k2, k3, k4, k5, k6, k7⟩ := HKS.out
              have HN : Hid (Bn wr wr.drew []) := Lib.hid (Bn.nil wr).drew
              refine wp_region_held_drew (S := fun W => Below wr.heap.size wr W) (by kernel_rfl) HN.out.b (fun hHeld => ?_)
              refine wpAnyH_take (i := 0) (oi := _) (v := .slice (some ⟨pb, 0, none⟩) n c) rfl (by kernel_rfl) (by kernel_rfl) (by kernel_rfl) (fun _ _ _ h => h) (Or.inl ⟨by rfl, fun W1 hS => by go_simp⟩) (by assumption) ?_
              go_simp
              refine wpAnyH_take (i := 1) (oi := _) (v := .pointer (some ⟨pb, 0, none⟩)) rfl (by kernel_rfl) (by kernel_rfl) (by kernel_rfl) (fun _ _ _ h => h) (Or.inl ⟨by rfl, fun W1 hS => by go_simp⟩) (by assumption) ?_
              go_simp
              refine wpAnyH_take (i := 2) (oi := _) (v := .agg #[.int .i64 a0, .int .i64 a1]) rfl (by kernel_rfl) (by kernel_rfl) (by kernel_rfl) (fun _ _ _ h => h) (Or.inl ⟨by rfl, fun W1 hS => by (obtain ⟨⟨z0, z1⟩, ⟨z2, z3⟩, _⟩ := SP.out _ (tch_of_below hS); go_simp)⟩) (by assumption) ?_
              go_simp
              refine wpAnyH_take (i := 3) (oi := _) (v := .slice (some ⟨pb, 0, none⟩) n c) rfl (by kernel_rfl) (by kernel_rfl) (by kernel_rfl) (fun _ _ _ h => h) (Or.inl ⟨by rfl, fun W1 hS => by go_simp⟩) (by assumption) ?_
              go_simp
              refine wpAnyH_take (i := 4) (oi := _) (v := .int .i64 (n : Int)) rfl (by kernel_rfl) (by kernel_rfl) (by kernel_rfl) (fun _ _ _ h => h) (Or.inl ⟨by rfl, fun W1 hS => by go_simp⟩) (by assumption) ?_
              go_simp
              refine wpAnyH_take (i := 5) (oi := _) (v := .int .i64 (E : Int)) rfl (by kernel_rfl) (by kernel_rfl) (by kernel_rfl) (fun _ _ _ h => h) (Or.inl ⟨by rfl, fun W1 hS => by go_simp⟩) (by assumption) ?_
              go_simp
              refine wpAnyH_take (i := 6) (oi := _) (v := .pointer (some ⟨pb, E * 2, none⟩)) rfl (by kernel_rfl) (by kernel_rfl) (by kernel_rfl) (fun _ _ _ h => h) (Or.inl ⟨by rfl, fun W1 hS => by go_simp⟩) (by assumption) ?_
              go_simp
              refine wpAnyH_take (i := 7) (oi := _) (v := .agg #[.int .i64 b0, .int .i64 b1]) rfl (by kernel_rfl) (by kernel_rfl) (by kernel_rfl) (fun _ _ _ h => h) (Or.inl ⟨by rfl, fun W1 hS => by (obtain ⟨⟨z0, z1⟩, ⟨z2, z3⟩, _⟩ := SP.out _ (tch_of_below hS); go_simp)⟩) (by assumption) ?_
              go_simp
              clear hHeld
              refine wpAnyH_ready (rs := [8, 9]) (by kernel_rfl) (by simp) ?_
              refine AllReadyH.cons (o := _) rfl (fun K hK => ?_) (AllReadyH.cons (o := _) rfl (fun K hK => ?_) AllReadyH.nil)
              · rw [if_pos (by rfl)]
                refine wp_allocPt 20 rfl rfl ?_
                have HM := Lib.hid (HN.out.push _ rfl 30 #[.int .i64 0, .int .i64 0])
                have ge_g20 : wr.heap.size ≤ (wr.drew).heap.size := HN.out.b.size
                refine hK.out _ _ HM.out.b (fun hHeld => ?_)
                clear hK hHeld HN
                revert HM ge_g20 
                obtain ⟨g20, hg⟩ : ∃ g, g = (wr.drew).heap.size := ⟨_, rfl⟩
                obtain ⟨Wn0, hW⟩ : ∃ W, W = (wr.drew).alloc (.cells #[.int .i64 0, .int .i64 0] 30) := ⟨_, rfl⟩
                rw [← hg, ← hW]
                clear hg hW
                intro HM  ge_g20
                have HN : Hid (Bn wr Wn0 [(g20, 30, #[.int .i64 0, .int .i64 0])]) := HM
                clear HM
                have hHeld := HN.out.b
                try simp only [Act.put, List.setIfInBounds_toArray, List.set_cons_zero, List.set_cons_succ]
                clear hHeld
                refine wpAnyH_ready (rs := [9]) (by kernel_rfl) (by simp) ?_
                refine AllReadyH.cons (o := _) rfl (fun K hK => ?_) AllReadyH.nil
                rw [if_pos (by rfl)]
                refine wp_allocPt 21 rfl rfl ?_
                have HM := Lib.hid (HN.out.push _ rfl 30 #[.int .i64 0, .int .i64 0])
                have ne_g20_g21 : g20 ≠ (Wn0).heap.size := by have := (HN.out.get 0 rfl).lt; omega
                have ge_g21 : wr.heap.size ≤ (Wn0).heap.size := HN.out.b.size
                refine hK.out _ _ HM.out.b (fun hHeld => ?_)
                clear hK hHeld HN
                revert HM ge_g21 ne_g20_g21
                obtain ⟨g21, hg⟩ : ∃ g, g = (Wn0).heap.size := ⟨_, rfl⟩
                obtain ⟨Wn1, hW⟩ : ∃ W, W = (Wn0).alloc (.cells #[.int .i64 0, .int .i64 0] 30) := ⟨_, rfl⟩
                rw [← hg, ← hW]
                clear hg hW
                intro HM ne_g20_g21 ge_g21
                have HN : Hid (Bn wr Wn1 [(g20, 30, #[.int .i64 0, .int .i64 0]), (g21, 30, #[.int .i64 0, .int .i64 0])]) := HM
                clear HM
                have hHeld := HN.out.b
                try simp only [Act.put, List.setIfInBounds_toArray, List.set_cons_zero, List.set_cons_succ]
                clear hHeld
                refine wpAnyH_ready (rs := [10]) (by kernel_rfl) (by simp) ?_
                refine AllReadyH.cons (o := _) rfl (fun K hK => ?_) AllReadyH.nil
                rw [if_pos (by rfl)]
                refine wp_store_row 30 _ _ rfl g20 #[.int .i64 a0, .int .i64 a1] rfl rfl 30 #[.int .i64 0, .int .i64 0] (HN.out.get 0 rfl) (infoPt (0, 0)) rfl (by simp [Value.oneCell']) ?_
                have HM : Hid (Bn wr (Wn1.setRow g20 #[.int .i64 a0, .int .i64 a1]) [(g20, 30, #[.int .i64 a0, .int .i64 a1]), (g21, 30, #[.int .i64 0, .int .i64 0])]) := Lib.hid (HN.out.row 0 rfl ge_g20 (by (intro j y hj hy; rcases j with _ | _ | _ | _ | _ | _ | j <;> first | exact absurd rfl hj | (simp only [List.getElem?_cons_zero, List.getElem?_cons_succ, Option.some.injEq] at hy; subst hy; dsimp only; omega) | (simp at hy; done))) #[.int .i64 a0, .int .i64 a1])
                refine hK.out _ _ HM.out.b (fun hHeld => ?_)
                clear hK hHeld HN
                have HN := HM
                clear HM
                have hHeld := HN.out.b
                try simp only [Act.put, List.setIfInBounds_toArray, List.set_cons_zero, List.set_cons_succ]
                clear hHeld
                refine wpAnyH_ready (rs := [11]) (by kernel_rfl) (by simp) ?_
                refine AllReadyH.cons (o := _) rfl (fun K hK => ?_) AllReadyH.nil
                rw [if_pos (by rfl)]
                refine wp_store_row 30 _ _ rfl g21 #[.int .i64 b0, .int .i64 b1] rfl rfl 30 #[.int .i64 0, .int .i64 0] (HN.out.get 1 rfl) (infoPt (0, 0)) rfl (by simp [Value.oneCell']) ?_
                have HM : Hid (Bn wr ((Wn1.setRow g20 #[.int .i64 a0, .int .i64 a1]).setRow g21 #[.int .i64 b0, .int .i64 b1]) [(g20, 30, #[.int .i64 a0, .int .i64 a1]), (g21, 30, #[.int .i64 b0, .int .i64 b1])]) := Lib.hid (HN.out.row 1 rfl ge_g21 (by (intro j y hj hy; rcases j with _ | _ | _ | _ | _ | _ | j <;> first | exact absurd rfl hj | (simp only [List.getElem?_cons_zero, List.getElem?_cons_succ, Option.some.injEq] at hy; subst hy; dsimp only; omega) | (simp at hy; done))) #[.int .i64 b0, .int .i64 b1])
                refine hK.out _ _ HM.out.b (fun hHeld => ?_)
                clear hK hHeld HN
                have HN := HM
                clear HM
                have hHeld := HN.out.b
                try simp only [Act.put, List.setIfInBounds_toArray, List.set_cons_zero, List.set_cons_succ]
                clear hHeld
                refine wpAnyH_done (by kernel_rfl) ?_ _
                go_wp2_with fail
                go_meet
                exact ⟨g20, g21, rfl, rfl, Bn.of2 HN.out.b (HN.out.get 0 rfl) (HN.out.get 1 rfl), ge_g20, ge_g21⟩
              · rw [if_pos (by rfl)]
                refine wp_allocPt 21 rfl rfl ?_
                have HM := Lib.hid (HN.out.push _ rfl 30 #[.int .i64 0, .int .i64 0])
                have ge_g21 : wr.heap.size ≤ (wr.drew).heap.size := HN.out.b.size
                refine hK.out _ _ HM.out.b (fun hHeld => ?_)
                clear hK hHeld HN
                revert HM ge_g21 
                obtain ⟨g21, hg⟩ : ∃ g, g = (wr.drew).heap.size := ⟨_, rfl⟩
                obtain ⟨Wn0, hW⟩ : ∃ W, W = (wr.drew).alloc (.cells #[.int .i64 0, .int .i64 0] 30) := ⟨_, rfl⟩
                rw [← hg, ← hW]
                clear hg hW
                intro HM  ge_g21
                have HN : Hid (Bn wr Wn0 [(g21, 30, #[.int .i64 0, .int .i64 0])]) := HM
                clear HM
                have hHeld := HN.out.b
                try simp only [Act.put, List.setIfInBounds_toArray, List.set_cons_zero, List.set_cons_succ]
                clear hHeld
                refine wpAnyH_ready (rs := [8]) (by kernel_rfl) (by simp) ?_
                refine AllReadyH.cons (o := _) rfl (fun K hK => ?_) AllReadyH.nil
                rw [if_pos (by rfl)]
                refine wp_allocPt 20 rfl rfl ?_
                have HM := Lib.hid (HN.out.push _ rfl 30 #[.int .i64 0, .int .i64 0])
                have ne_g21_g20 : g21 ≠ (Wn0).heap.size := by have := (HN.out.get 0 rfl).lt; omega
                have ge_g20 : wr.heap.size ≤ (Wn0).heap.size := HN.out.b.size
                refine hK.out _ _ HM.out.b (fun hHeld => ?_)
                clear hK hHeld HN
                revert HM ge_g20 ne_g21_g20
                obtain ⟨g20, hg⟩ : ∃ g, g = (Wn0).heap.size := ⟨_, rfl⟩
                obtain ⟨Wn1, hW⟩ : ∃ W, W = (Wn0).alloc (.cells #[.int .i64 0, .int .i64 0] 30) := ⟨_, rfl⟩
                rw [← hg, ← hW]
                clear hg hW
                intro HM ne_g21_g20 ge_g20
                have HN : Hid (Bn wr Wn1 [(g21, 30, #[.int .i64 0, .int .i64 0]), (g20, 30, #[.int .i64 0, .int .i64 0])]) := HM
                clear HM
                have hHeld := HN.out.b
                try simp only [Act.put, List.setIfInBounds_toArray, List.set_cons_zero, List.set_cons_succ]
                clear hHeld
                refine wpAnyH_ready (rs := [10]) (by kernel_rfl) (by simp) ?_
                refine AllReadyH.cons (o := _) rfl (fun K hK => ?_) AllReadyH.nil
                rw [if_pos (by rfl)]
                refine wp_store_row 30 _ _ rfl g20 #[.int .i64 a0, .int .i64 a1] rfl rfl 30 #[.int .i64 0, .int .i64 0] (HN.out.get 1 rfl) (infoPt (0, 0)) rfl (by simp [Value.oneCell']) ?_
                have HM : Hid (Bn wr (Wn1.setRow g20 #[.int .i64 a0, .int .i64 a1]) [(g21, 30, #[.int .i64 0, .int .i64 0]), (g20, 30, #[.int .i64 a0, .int .i64 a1])]) := Lib.hid (HN.out.row 1 rfl ge_g20 (by (intro j y hj hy; rcases j with _ | _ | _ | _ | _ | _ | j <;> first | exact absurd rfl hj | (simp only [List.getElem?_cons_zero, List.getElem?_cons_succ, Option.some.injEq] at hy; subst hy; dsimp only; omega) | (simp at hy; done))) #[.int .i64 a0, .int .i64 a1])
                refine hK.out _ _ HM.out.b (fun hHeld => ?_)
                clear hK hHeld HN
                have HN := HM
                clear HM
                have hHeld := HN.out.b
                try simp only [Act.put, List.setIfInBounds_toArray, List.set_cons_zero, List.set_cons_succ]
                clear hHeld
                refine wpAnyH_ready (rs := [11]) (by kernel_rfl) (by simp) ?_
                refine AllReadyH.cons (o := _) rfl (fun K hK => ?_) AllReadyH.nil
                rw [if_pos (by rfl)]
                refine wp_store_row 30 _ _ rfl g21 #[.int .i64 b0, .int .i64 b1] rfl rfl 30 #[.int .i64 0, .int .i64 0] (HN.out.get 0 rfl) (infoPt (0, 0)) rfl (by simp [Value.oneCell']) ?_
                have HM : Hid (Bn wr ((Wn1.setRow g20 #[.int .i64 a0, .int .i64 a1]).setRow g21 #[.int .i64 b0, .int .i64 b1]) [(g21, 30, #[.int .i64 b0, .int .i64 b1]), (g20, 30, #[.int .i64 a0, .int .i64 a1])]) := Lib.hid (HN.out.row 0 rfl ge_g21 (by (intro j y hj hy; rcases j with _ | _ | _ | _ | _ | _ | j <;> first | exact absurd rfl hj | (simp only [List.getElem?_cons_zero, List.getElem?_cons_succ, Option.some.injEq] at hy; subst hy; dsimp only; omega) | (simp at hy; done))) #[.int .i64 b0, .int .i64 b1])
                refine hK.out _ _ HM.out.b (fun hHeld => ?_)
                clear hK hHeld HN
                have HN := HM
                clear HM
                have hHeld := HN.out.b
                try simp only [Act.put, List.setIfInBounds_toArray, List.set_cons_zero, List.set_cons_succ]
                clear hHeld
                refine wpAnyH_done (by kernel_rfl) ?_ _
                go_wp2_with fail
                go_meet
                exact ⟨g20, g21, rfl, rfl, Bn.of2 HN.out.b (HN.out.get 1 rfl) (HN.out.get 0 rfl), ge_g20, ge_g21⟩
            case rest =>
              obtain ⟨g20, g21, rfl, rfl, hbn, h20, h21⟩ := hcut
              obtain ⟨W1, rfl⟩ : ∃ W1, W1 = wc := ⟨_, rfl⟩
              have HB1 := Lib.hid hbn
              have HGE := Lib.hid (And.intro h20 h21)
              clear hbn h20 h21
              go_wp2_with fail
              go_cut [22, 23] (fun s t wx => ∃ g22 g23, s = .pointer (some ⟨g22, 0, none⟩) ∧ t = .pointer (some ⟨g23, 0, none⟩) ∧ Bn W1 wx [(g22, 30, #[.int .i64 m0, .int .i64 m1]), (g23, 30, #[.int .i64 x0, .int .i64 x1])] ∧ W1.heap.size ≤ g22 ∧ W1.heap.size ≤ g23 ∧ g22 ≠ g23)
              case first =>
                obtain ⟨k0, k1, k2, k3, k4, k5, k6, k7⟩ := HKS.out
                have HN : Hid (Bn W1 W1.drew []) := Lib.hid (Bn.nil W1).drew
                refine wp_region_held_drew (S := fun W => Below W1.heap.size W1 W) (by kernel_rfl) HN.out.b (fun hHeld => ?_)
                refine wpAnyH_take (i := 0) (oi := _) (v := .agg #[.int .i64 a0, .int .i64 a1]) rfl (by kernel_rfl) (by kernel_rfl) (by kernel_rfl) (fun _ _ _ h => h) (Or.inl ⟨by rfl, fun W1 hS => by (obtain ⟨z0, z1, _⟩ := blk2 ((HB1.out.get 0 rfl).below hS (HB1.out.get 0 rfl).lt); go_simp)⟩) (by assumption) ?_
                go_simp
                refine wpAnyH_take (i := 1) (oi := _) (v := .slice (some ⟨pb, 0, none⟩) n c) rfl (by kernel_rfl) (by kernel_rfl) (by kernel_rfl) (fun _ _ _ h => h) (Or.inl ⟨by rfl, fun W1 hS => by go_simp⟩) (by assumption) ?_
                go_simp
                refine wpAnyH_take (i := 2) (oi := _) (v := .pointer (some ⟨pb, 2, none⟩)) rfl (by kernel_rfl) (by kernel_rfl) (by kernel_rfl) (fun _ _ _ h => h) (Or.inl ⟨by rfl, fun W1 hS => by go_simp⟩) (by assumption) ?_
                go_simp
                refine wpAnyH_take (i := 3) (oi := _) (v := .agg #[.int .i64 s0, .int .i64 s1]) rfl (by kernel_rfl) (by kernel_rfl) (by kernel_rfl) (fun _ _ _ h => h) (Or.inl ⟨by rfl, fun W1 hS => by (obtain ⟨_, _, ⟨z4, z5⟩, _⟩ := SP.out _ (tch_of_below (HB1.out.b.trans (hS.mono HB1.out.b.size))); go_simp)⟩) (by assumption) ?_
                go_simp
                refine wpAnyH_take (i := 4) (oi := _) (v := .int .i64 wd) rfl (by kernel_rfl) (by kernel_rfl) (by kernel_rfl) (fun _ _ _ h => h) (Or.inl ⟨by rfl, fun W1 hS => by go_simp⟩) (by assumption) ?_
                go_simp
                refine wpAnyH_take (i := 6) (oi := _) (v := .agg #[.int .i64 a0, .int .i64 a1]) rfl (by kernel_rfl) (by kernel_rfl) (by kernel_rfl) (fun _ _ _ h => h) (Or.inl ⟨by rfl, fun W1 hS => by (obtain ⟨z0, z1, _⟩ := blk2 ((HB1.out.get 0 rfl).below hS (HB1.out.get 0 rfl).lt); go_simp)⟩) (by assumption) ?_
                go_simp
                refine wpAnyH_take (i := 7) (oi := _) (v := .slice (some ⟨pb, 0, none⟩) n c) rfl (by kernel_rfl) (by kernel_rfl) (by kernel_rfl) (fun _ _ _ h => h) (Or.inl ⟨by rfl, fun W1 hS => by go_simp⟩) (by assumption) ?_
                go_simp
                refine wpAnyH_take (i := 8) (oi := _) (v := .pointer (some ⟨pb, 2, none⟩)) rfl (by kernel_rfl) (by kernel_rfl) (by kernel_rfl) (fun _ _ _ h => h) (Or.inl ⟨by rfl, fun W1 hS => by go_simp⟩) (by assumption) ?_
                go_simp
                refine wpAnyH_take (i := 9) (oi := _) (v := .agg #[.int .i64 s0, .int .i64 s1]) rfl (by kernel_rfl) (by kernel_rfl) (by kernel_rfl) (fun _ _ _ h => h) (Or.inl ⟨by rfl, fun W1 hS => by (obtain ⟨_, _, ⟨z4, z5⟩, _⟩ := SP.out _ (tch_of_below (HB1.out.b.trans (hS.mono HB1.out.b.size))); go_simp)⟩) (by assumption) ?_
                go_simp
                refine wpAnyH_take (i := 10) (oi := _) (v := .int .i64 wd) rfl (by kernel_rfl) (by kernel_rfl) (by kernel_rfl) (fun _ _ _ h => h) (Or.inl ⟨by rfl, fun W1 hS => by go_simp⟩) (by assumption) ?_
                go_simp
                clear hHeld
                refine c2a2s2f (i1 := 5) (i2 := 11) (j1 := 12) (j2 := 13) (k1 := 14) (k2 := 15) (o1 := _) (o2 := _) (p1 := _) (p2 := _) (q1 := _) (q2 := _) (d1 := 155) (d2 := 161) (e1 := 22) (e2 := 23) (u1 := #[.int .i64 m0, .int .i64 m1]) (u2 := #[.int .i64 x0, .int .i64 x1])
                  (fun c b1 b2 => #[true, true, true, true, true, Nat.ble 1 c, true, true, true, true, true, Nat.ble 2 c, b1, b2, false, false]) (by kernel_rfl)
                  (fun a => a.eval (.tmp 150) = .agg #[.int .i64 a0, .int .i64 a1] ∧ a.eval (.tmp 153) = .agg #[.int .i64 s0, .int .i64 s1] ∧ a.eval (.tmp 154) = .int .i64 wd ∧ a.eval (.tmp 156) = .agg #[.int .i64 a0, .int .i64 a1] ∧ a.eval (.tmp 159) = .agg #[.int .i64 s0, .int .i64 s1] ∧ a.eval (.tmp 160) = .int .i64 wd)
                  ?hw rfl rfl rfl rfl rfl rfl ?hA0 ?hAp (by decide) ?hsz ?c1 ?c2 ?ha1 ?ha2 ?hs1 ?hs2 ⟨rfl, by simp [Value.oneCell']⟩ ⟨rfl, by simp [Value.oneCell']⟩ ?hr ?hl ?hl1 ?hl2 (by kernel_rfl) (by kernel_rfl) ?hQ (Below.refl _ _).drew
                case hw => rintro o (rfl | rfl | rfl | rfl | rfl | rfl) a <;> rfl
                case ha1 => exact ⟨rfl, rfl⟩
                case ha2 => exact ⟨rfl, rfl⟩
                case hs1 => exact ⟨rfl, rfl⟩
                case hs2 => exact ⟨rfl, rfl⟩
                case hA0 => exact ⟨rfl, rfl, rfl, rfl, rfl, rfl⟩
                case hAp =>
                  rintro a v d hd ⟨h1, h2, h3, h4, h5, h6⟩
                  rcases hd with rfl | rfl | rfl | rfl <;> exact ⟨(eval_far _ (by decide) _).trans h1, (eval_far _ (by decide) _).trans h2, (eval_far _ (by decide) _).trans h3, (eval_far _ (by decide) _).trans h4, (eval_far _ (by decide) _).trans h5, (eval_far _ (by decide) _).trans h6⟩
                case hsz => exact ⟨by simp, by simp, by simp, by simp⟩
                case c1 =>
                  rintro a W K ⟨h1, h2, h3, _, _, _⟩ hk
                  refine wp_call3 h1 h2 h3 rfl rfl (fun _ _ => by kernel_rfl) ?_
                  refine (HCN1.out _).mono ?_
                  rintro e W' ⟨rfl, hb⟩
                  exact hk W' hb
                case c2 =>
                  rintro a W K ⟨_, _, _, h1, h2, h3⟩ hk
                  refine wp_call3 h1 h2 h3 rfl rfl (fun _ _ => by kernel_rfl) ?_
                  refine (HCX1.out _).mono ?_
                  rintro e W' ⟨rfl, hb⟩
                  exact hk W' hb
                case hr =>
                  intro c b1 b2 hc
                  rcases (show c = 0 ∨ c = 1 ∨ c = 2 by omega) with rfl | rfl | rfl <;> cases b1 <;> cases b2 <;> kernel_rfl
                case hl => intro b1 b2; cases b1 <;> cases b2 <;> exact ⟨rfl, rfl⟩
                case hl1 =>
                  intro c b2 hc
                  rcases (show c = 0 ∨ c = 1 ∨ c = 2 by omega) with rfl | rfl | rfl <;> cases b2 <;> rfl
                case hl2 =>
                  intro c b1 hc
                  rcases (show c = 0 ∨ c = 1 ∨ c = 2 by omega) with rfl | rfl | rfl <;> cases b1 <;> rfl
                case hQ =>
                  intro g22 g23 W hbn h1 h2 hne
                  show Exit.then _ _ .normal _ _
                  simp only [putO, putC, Act.put, List.setIfInBounds_toArray, List.set_cons_zero, List.set_cons_succ, ptrV]
                  go_wp2_with fail
                  go_meet
                  exact ⟨g22, g23, rfl, rfl, hbn, h1, h2, hne⟩
              case rest =>
                obtain ⟨g22, g23, rfl, rfl, hbn, h22, h23, hne⟩ := hcut
                obtain ⟨W3, rfl⟩ : ∃ W1, W1 = wc := ⟨_, rfl⟩
                have HB3 := Lib.hid hbn
                have HGF := Lib.hid (And.intro h22 (And.intro h23 hne))
                have HBW3 := Lib.hid (HB1.out.b.trans (hbn.b.mono HB1.out.b.size))
                have HMs := Lib.hid HOk.out.size
                have HSZ : Hid (wr.heap.size ≤ W1.heap.size) := Lib.hid HB1.out.b.size
                have HNM : Hid (g20 ∉ Mc ∧ g21 ∉ Mc ∧ g22 ∉ Mc ∧ g23 ∉ Mc) := Lib.hid ⟨fun h => by have := HMs.out _ h; have := HGE.out; omega, fun h => by have := HMs.out _ h; have := HGE.out; omega, fun h => by have := HMs.out _ h; have := HSZ.out; omega, fun h => by have := HMs.out _ h; have := HSZ.out; omega⟩
                have H20 := Lib.hid ((HB1.out.get 0 rfl).below HB3.out.b (HB1.out.get 0 rfl).lt)
                have H21 := Lib.hid ((HB1.out.get 1 rfl).below HB3.out.b (HB1.out.get 1 rfl).lt)
                have SSX : Hid (∀ W, Tch Mc W3 W → W.cell? ⟨g20, 0, none⟩ = some (.int .i64 a0) ∧ W.cell? ⟨g20, 1, none⟩ = some (.int .i64 a1) ∧ W.cell? ⟨g22, 0, none⟩ = some (.int .i64 m0) ∧ W.cell? ⟨g22, 1, none⟩ = some (.int .i64 m1) ∧ W.cell? ⟨g23, 0, none⟩ = some (.int .i64 x0) ∧ W.cell? ⟨g23, 1, none⟩ = some (.int .i64 x1)) := Lib.hid fun W ht => by
                  have h0 := ht.blk H20.out HNM.out.1
                  have h2 := ht.blk (HB3.out.get 0 rfl) HNM.out.2.2.1
                  have h3 := ht.blk (HB3.out.get 1 rfl) HNM.out.2.2.2
                  exact ⟨h0.cell 0, h0.cell 1, h2.cell 0, h2.cell 1, h3.cell 0, h3.cell 1⟩
                have HOc := Lib.hid (HOk.out.later HBW3.out)
                have HTc := Lib.hid (Tch.refl Mc W3)
                have HMc : Hid (∀ k ∈ Mc, k ∈ Mc ∨ W3.heap.size ≤ k) := Lib.hid fun k hk => Or.inl hk
                have HTW3 : Hid (Tch Mc wr W3) := Lib.hid (tch_of_below HBW3.out)
                have HBW : Hid (B ≤ W3.heap.size) := Lib.hid (Nat.le_trans HBk.out HBW3.out.size)
                clear HLn hbn h22 h23 hne
                have HLn := HL0
                go_wp2_with fail
                have HTq := Lib.hid HTc.out.drew
                have HOq := Lib.hid (HOc.out.later (Below.refl _ _).drew)
                have HK := SSX.out _ HTq.out
                go_region_held3 (fun W => W.cell? ⟨g20, 0, none⟩ = some (.int .i64 a0) ∧ W.cell? ⟨g20, 1, none⟩ = some (.int .i64 a1) ∧ W.cell? ⟨g22, 0, none⟩ = some (.int .i64 m0) ∧ W.cell? ⟨g22, 1, none⟩ = some (.int .i64 m1) ∧ W.cell? ⟨g23, 0, none⟩ = some (.int .i64 x0) ∧ W.cell? ⟨g23, 1, none⟩ = some (.int .i64 x1))
                  (first | exact HK | go_keep)
                  (first
                    | (go_at_call_of 41 (Value.agg #[Value.int IntKind.i64 a0, Value.int IntKind.i64 a1]); go_at_call_of 41 (Value.agg #[Value.int IntKind.i64 x0, Value.int IntKind.i64 x1]); refine (HCM.out _).mono ?_; rintro e' w' ⟨rfl, hbq⟩; have HTq := Lib.hid (HTq.out.below hbq); have HOq := Lib.hid (HOq.out.later hbq); have HK := SSX.out _ HTq.out; clear hbq)
                    | (go_at_call_of 41 (Value.agg #[Value.int IntKind.i64 t0, Value.int IntKind.i64 t1]); go_at_call_of 41 (Value.agg #[Value.int IntKind.i64 m0, Value.int IntKind.i64 m1]); go_at_call_of 41 (Value.int IntKind.i64 1); refine (radd_p (t0, t1) (m0, m1) _ HTB.out HMB.out).mono ?_; rintro e' w' ⟨rfl, hbq⟩; have HTq := Lib.hid (HTq.out.below hbq); have HOq := Lib.hid (HOq.out.later hbq); have HK := SSX.out _ HTq.out; clear hbq)
                    | (go_at_call_of 41 (Value.agg #[Value.int IntKind.i64 a0, Value.int IntKind.i64 a1]); go_at_call_of 41 (Value.agg #[Value.int IntKind.i64 m0, Value.int IntKind.i64 m1]); go_at_call_of 41 (Value.int IntKind.i64 1); refine (radd_p (a0, a1) (m0, m1) _ HAB.out HMB.out).mono ?_; rintro e' w' ⟨rfl, hbq⟩; have HTq := Lib.hid (HTq.out.below hbq); have HOq := Lib.hid (HOq.out.later hbq); have HK := SSX.out _ HTq.out; clear hbq)
                    | (go_at_call_of 41 (Value.agg #[Value.int IntKind.i64 a0, Value.int IntKind.i64 a1]); go_at_call_of 41 (Value.agg #[Value.int IntKind.i64 m0, Value.int IntKind.i64 m1]); refine (radd_m (a0, a1) (m0, m1) _ HAB.out HMB.out).mono ?_; rintro e' w' ⟨rfl, hbq⟩; have HTq := Lib.hid (HTq.out.below hbq); have HOq := Lib.hid (HOq.out.later hbq); have HK := SSX.out _ HTq.out; clear hbq)
                    | (go_at_call_of 41 (Value.agg #[Value.int IntKind.i64 t0, Value.int IntKind.i64 t1]); go_at_call_of 41 (Value.agg #[Value.int IntKind.i64 m0, Value.int IntKind.i64 m1]); refine (radd_m (t0, t1) (m0, m1) _ HTB.out HMB.out).mono ?_; rintro e' w' ⟨rfl, hbq⟩; have HTq := Lib.hid (HTq.out.below hbq); have HOq := Lib.hid (HOq.out.later hbq); have HK := SSX.out _ HTq.out; clear hbq)
                    | (go_at_call 40; refine (rput_any HOq.out _ 4 ([pl (t0, t1) (m0, m1), pl (a0, a1) (m0, m1), mi (a0, a1) (m0, m1), mi (t0, t1) (m0, m1)]) _ ((Below.refl _ _).alloc (Nat.le_refl _) _) (Blk.new _ _ _) (Nat.le_refl _) (Nat.le_trans HBW.out HTq.out.size) (show 3 ≤ 4 by omega) (show 4 ≤ 16 by omega) (HIA.out) HLn.out).mono ?_; rintro e' w' ⟨v9, rfl, hout⟩; have HOUT := Lib.hid (out_step HTq.out HMc.out hout); have HK := SSX.out _ HOUT.out.choose_spec.2.1; clear hout))
                clear HK HOq HTq HOc HTc HMc SSX
                obtain ⟨Md, ho2, ht2, hm2⟩ := HOUT.out
                rw [HP1.out] at ho2
                have HO6 := Lib.hid ho2
                have HT6 := Lib.hid ht2
                have HM6 := Lib.hid hm2
                have HLT : Hid (g21 < W3.heap.size ∧ g22 < W3.heap.size ∧ g23 < W3.heap.size) := Lib.hid ⟨H21.out.lt, (HB3.out.get 0 rfl).lt, (HB3.out.get 1 rfl).lt⟩
                have HND : Hid (g21 ∉ Md ∧ g22 ∉ Md ∧ g23 ∉ Md) := Lib.hid (by
                  have f : ∀ k, k ∉ Mc → k < W3.heap.size → k ∉ Md := fun k h1 h2 h => by
                    rcases HM6.out k h with h3 | h3
                    · exact h1 h3
                    · omega
                  exact ⟨f g21 HNM.out.2.1 HLT.out.1, f g22 HNM.out.2.2.1 HLT.out.2.1, f g23 HNM.out.2.2.2 HLT.out.2.2⟩)
                have HPBN : Hid (pb ∉ [g22, g23]) := Lib.hid (by
                  have hp := HPB.out
                  have h8 := HTk.out.size
                  have h9 := HSZ.out
                  have h7 := HGF.out
                  simp only [List.mem_cons, List.not_mem_nil, or_false]
                  omega)
                have HG21 : Hid (g21 ∉ [g22, g23]) := Lib.hid (by
                  have h6 := (HB1.out.get 1 rfl).lt
                  have h7 := HGF.out
                  simp only [List.mem_cons, List.not_mem_nil, or_false]
                  omega)
                clear ho2 ht2 hm2 HOUT HLn
                have HLn := HL1
                obtain ⟨W6, hW6⟩ : ∃ W, w' = W := ⟨_, rfl⟩
                rw [hW6] at HO6 HT6
                rw [hW6]
                clear hW6
                have H21c := Lib.hid (HT6.out.blk H21.out HNM.out.2.1)
                have H22c := Lib.hid (HT6.out.blk (HB3.out.get 0 rfl) HNM.out.2.2.1)
                have H23c := Lib.hid (HT6.out.blk (HB3.out.get 1 rfl) HNM.out.2.2.2)
                have SPR : Hid (∀ W, Tch [g22, g23] W6 W → (W.cell? ⟨pb, E2 * 2, none⟩ = some (.int .i64 r0) ∧ W.cell? ⟨pb, E2 * 2 + 1, none⟩ = some (.int .i64 r1)) ∧ (W.cell? ⟨g21, 0, none⟩ = some (.int .i64 b0) ∧ W.cell? ⟨g21, 1, none⟩ = some (.int .i64 b1))) := Lib.hid fun W ht => by
                  obtain ⟨_, _, _, h5, h6⟩ := SP.out _ (HTW3.out.trans HT6.out fun k hk => Or.inl hk)
                  have g : ∀ (i : Nat) (v : Value), W6.cell? ⟨pb, i, none⟩ = some v → W.cell? ⟨pb, i, none⟩ = some v := fun i v hv => (World.cell?_of_block (ht.block _ (World.block_lt_of_cell? W6 ⟨pb, i, none⟩ hv) HPBN.out)).trans hv
                  have h7 := ht.blk H21c.out HG21.out
                  exact ⟨⟨g _ _ h5, g _ _ h6⟩, h7.cell 0, h7.cell 1⟩
                obtain ⟨k0, k1, k2, k3, k4, k5, k6, k7⟩ := HKS.out
                have hq2 := HQ2.out
                go_upto_region 27 with fail
                refine wp_region_held_drew (S := fun W => Tch [g22, g23] W6 W) (by kernel_rfl) (Tch.refl _ W6).drew (fun hHeld => ?_)
                have HT : Hid (Tch [g22, g23] W6 W6.drew) := Lib.hid (Tch.refl _ W6).drew
                have H22 : Hid (Blk W6.drew g22 30 #[.int .i64 m0, .int .i64 m1]) := Lib.hid H22c.out.drew
                have H23 : Hid (Blk W6.drew g23 30 #[.int .i64 x0, .int .i64 x1]) := Lib.hid H23c.out.drew
                refine wpAnyH_take (i := 0) (oi := _) (v := .slice (some ⟨pb, 0, none⟩) n c) rfl (by kernel_rfl) (by kernel_rfl) (by kernel_rfl) (fun _ _ _ h => h) (Or.inl ⟨by rfl, fun W1 hS => by go_simp⟩) (by assumption) ?_
                go_simp
                refine wpAnyH_take (i := 1) (oi := _) (v := .int .i64 (n : Int)) rfl (by kernel_rfl) (by kernel_rfl) (by kernel_rfl) (fun _ _ _ h => h) (Or.inl ⟨by rfl, fun W1 hS => by go_simp⟩) (by assumption) ?_
                go_simp
                refine wpAnyH_take (i := 2) (oi := _) (v := .int .i64 (E2 : Int)) rfl (by kernel_rfl) (by kernel_rfl) (by kernel_rfl) (fun _ _ _ h => h) (Or.inl ⟨by rfl, fun W1 hS => by go_simp⟩) (by assumption) ?_
                go_simp
                refine wpAnyH_take (i := 3) (oi := _) (v := .pointer (some ⟨pb, E2 * 2, none⟩)) rfl (by kernel_rfl) (by kernel_rfl) (by kernel_rfl) (fun _ _ _ h => h) (Or.inl ⟨by rfl, fun W1 hS => by go_simp⟩) (by assumption) ?_
                go_simp
                refine wpAnyH_take (i := 4) (oi := _) (v := .agg #[.int .i64 r0, .int .i64 r1]) rfl (by kernel_rfl) (by kernel_rfl) (by kernel_rfl) (fun _ _ _ h => h) (Or.inl ⟨by rfl, fun W1 hS => by (obtain ⟨⟨z0, z1⟩, z2, z3⟩ := SPR.out _ hS; go_simp)⟩) (by assumption) ?_
                go_simp
                refine wpAnyH_take (i := 5) (oi := _) (v := .agg #[.int .i64 b0, .int .i64 b1]) rfl (by kernel_rfl) (by kernel_rfl) (by kernel_rfl) (fun _ _ _ h => h) (Or.inl ⟨by rfl, fun W1 hS => by (obtain ⟨⟨z0, z1⟩, z2, z3⟩ := SPR.out _ hS; go_simp)⟩) (by assumption) ?_
                go_simp
                refine wpAnyH_take (i := 6) (oi := _) (v := .int .i64 wd) rfl (by kernel_rfl) (by kernel_rfl) (by kernel_rfl) (fun _ _ _ h => h) (Or.inl ⟨by rfl, fun W1 hS => by go_simp⟩) (by assumption) ?_
                go_simp
                refine wpAnyH_take (i := 8) (oi := _) (v := .slice (some ⟨pb, 0, none⟩) n c) rfl (by kernel_rfl) (by kernel_rfl) (by kernel_rfl) (fun _ _ _ h => h) (Or.inl ⟨by rfl, fun W1 hS => by go_simp⟩) (by assumption) ?_
                go_simp
                refine wpAnyH_take (i := 9) (oi := _) (v := .int .i64 (n : Int)) rfl (by kernel_rfl) (by kernel_rfl) (by kernel_rfl) (fun _ _ _ h => h) (Or.inl ⟨by rfl, fun W1 hS => by go_simp⟩) (by assumption) ?_
                go_simp
                refine wpAnyH_take (i := 10) (oi := _) (v := .int .i64 (E2 : Int)) rfl (by kernel_rfl) (by kernel_rfl) (by kernel_rfl) (fun _ _ _ h => h) (Or.inl ⟨by rfl, fun W1 hS => by go_simp⟩) (by assumption) ?_
                go_simp
                refine wpAnyH_take (i := 11) (oi := _) (v := .pointer (some ⟨pb, E2 * 2, none⟩)) rfl (by kernel_rfl) (by kernel_rfl) (by kernel_rfl) (fun _ _ _ h => h) (Or.inl ⟨by rfl, fun W1 hS => by go_simp⟩) (by assumption) ?_
                go_simp
                refine wpAnyH_take (i := 12) (oi := _) (v := .agg #[.int .i64 r0, .int .i64 r1]) rfl (by kernel_rfl) (by kernel_rfl) (by kernel_rfl) (fun _ _ _ h => h) (Or.inl ⟨by rfl, fun W1 hS => by (obtain ⟨⟨z0, z1⟩, z2, z3⟩ := SPR.out _ hS; go_simp)⟩) (by assumption) ?_
                go_simp
                refine wpAnyH_take (i := 13) (oi := _) (v := .agg #[.int .i64 b0, .int .i64 b1]) rfl (by kernel_rfl) (by kernel_rfl) (by kernel_rfl) (fun _ _ _ h => h) (Or.inl ⟨by rfl, fun W1 hS => by (obtain ⟨⟨z0, z1⟩, z2, z3⟩ := SPR.out _ hS; go_simp)⟩) (by assumption) ?_
                go_simp
                refine wpAnyH_take (i := 14) (oi := _) (v := .int .i64 wd) rfl (by kernel_rfl) (by kernel_rfl) (by kernel_rfl) (fun _ _ _ h => h) (Or.inl ⟨by rfl, fun W1 hS => by go_simp⟩) (by assumption) ?_
                go_simp
                clear hHeld
                refine wpAnyH_ready (rs := [7]) (by kernel_rfl) (by simp) ?_
                refine AllReadyH.cons (o := _) rfl (fun K hK => ?_) AllReadyH.nil
                go_simp
                go_at_call 39
                refine (HCN2.out _).mono ?_
                rintro e w71 ⟨rfl, hbq⟩
                go_wp2_with fail
                have HM := Lib.hid (HT.out.below hbq)
                have HX := Lib.hid (H22.out.below hbq H22.out.lt)
                have HY := Lib.hid (H23.out.below hbq H23.out.lt)
                clear hbq H22 H23
                refine hK.out _ _ HM.out (fun hHeld => ?_)
                clear hK HT
                have HT := HM
                have H22 := HX
                have H23 := HY
                clear HM HX HY
                try simp only [Act.put, List.setIfInBounds_toArray, List.set_cons_zero, List.set_cons_succ]
                clear hHeld
                refine wpAnyH_ready (rs := [15]) (by kernel_rfl) (by simp) ?_
                refine AllReadyH.cons (o := _) rfl (fun K hK => ?_) AllReadyH.nil
                go_simp
                go_at_call 44
                refine (HCX2.out _).mono ?_
                rintro e w72 ⟨rfl, hbq⟩
                go_wp2_with fail
                have HM := Lib.hid (HT.out.below hbq)
                have HX := Lib.hid (H22.out.below hbq H22.out.lt)
                have HY := Lib.hid (H23.out.below hbq H23.out.lt)
                clear hbq H22 H23
                refine hK.out _ _ HM.out (fun hHeld => ?_)
                clear hK HT
                have HT := HM
                have H22 := HX
                have H23 := HY
                clear HM HX HY
                try simp only [Act.put, List.setIfInBounds_toArray, List.set_cons_zero, List.set_cons_succ]
                clear hHeld
                refine wpAnyH_ready (rs := [16]) (by kernel_rfl) (by simp) ?_
                refine AllReadyH.cons (o := _) rfl (fun K hK => ?_) AllReadyH.nil
                rw [if_pos (by rfl)]
                refine wp_store_row 30 _ _ rfl g22 #[.int .i64 q0, .int .i64 q1] rfl rfl 30 #[.int .i64 m0, .int .i64 m1] H22.out (infoPt (0, 0)) rfl (by simp [Value.oneCell']) ?_
                have HM : Hid (Tch [g22, g23] W6 (w72.setRow g22 #[.int .i64 q0, .int .i64 q1])) := Lib.hid (tch_setRow HT.out (Or.inl (by simp)) _)
                have HX : Hid (Blk (w72.setRow g22 #[.int .i64 q0, .int .i64 q1]) g22 30 #[.int .i64 q0, .int .i64 q1]) := Lib.hid (Blk.row H22.out _)
                have HY : Hid (Blk (w72.setRow g22 #[.int .i64 q0, .int .i64 q1]) g23 30 #[.int .i64 x0, .int .i64 x1]) := Lib.hid (Blk.rowFar H23.out (fun h => HGF.out.2.2 h.symm) _)
                refine hK.out _ _ HM.out (fun hHeld => ?_)
                clear hK HT H22 H23
                have HT := HM
                have H22 := HX
                have H23 := HY
                clear HM HX HY
                try simp only [Act.put, List.setIfInBounds_toArray, List.set_cons_zero, List.set_cons_succ]
                clear hHeld
                refine wpAnyH_ready (rs := [17]) (by kernel_rfl) (by simp) ?_
                refine AllReadyH.cons (o := _) rfl (fun K hK => ?_) AllReadyH.nil
                rw [if_pos (by rfl)]
                refine wp_store_row 30 _ _ rfl g23 #[.int .i64 y0, .int .i64 y1] rfl rfl 30 #[.int .i64 x0, .int .i64 x1] H23.out (infoPt (0, 0)) rfl (by simp [Value.oneCell']) ?_
                have HM : Hid (Tch [g22, g23] W6 ((w72.setRow g22 #[.int .i64 q0, .int .i64 q1]).setRow g23 #[.int .i64 y0, .int .i64 y1])) := Lib.hid (tch_setRow HT.out (Or.inl (by simp)) _)
                have HX : Hid (Blk ((w72.setRow g22 #[.int .i64 q0, .int .i64 q1]).setRow g23 #[.int .i64 y0, .int .i64 y1]) g22 30 #[.int .i64 q0, .int .i64 q1]) := Lib.hid (Blk.rowFar H22.out HGF.out.2.2 _)
                have HY : Hid (Blk ((w72.setRow g22 #[.int .i64 q0, .int .i64 q1]).setRow g23 #[.int .i64 y0, .int .i64 y1]) g23 30 #[.int .i64 y0, .int .i64 y1]) := Lib.hid (Blk.row H23.out _)
                refine hK.out _ _ HM.out (fun hHeld => ?_)
                clear hK HT H22 H23
                have HT := HM
                have H22 := HX
                have H23 := HY
                clear HM HX HY
                try simp only [Act.put, List.setIfInBounds_toArray, List.set_cons_zero, List.set_cons_succ]
                clear hHeld
                refine wpAnyH_done (by kernel_rfl) ?_ _
                obtain ⟨W7, hW7⟩ : ∃ W, (w72.setRow g22 #[.int .i64 q0, .int .i64 q1]).setRow g23 #[.int .i64 y0, .int .i64 y1] = W := ⟨_, rfl⟩
                rw [hW7] at HT H22 H23
                rw [hW7]
                clear hW7 k0 k1 k2 k3 k4 k5 k6 k7 hq2
                have H21d := Lib.hid (HT.out.blk H21c.out HG21.out)
                have SSX : Hid (∀ W, Tch Md W7 W → W.cell? ⟨g21, 0, none⟩ = some (.int .i64 b0) ∧ W.cell? ⟨g21, 1, none⟩ = some (.int .i64 b1) ∧ W.cell? ⟨g22, 0, none⟩ = some (.int .i64 q0) ∧ W.cell? ⟨g22, 1, none⟩ = some (.int .i64 q1) ∧ W.cell? ⟨g23, 0, none⟩ = some (.int .i64 y0) ∧ W.cell? ⟨g23, 1, none⟩ = some (.int .i64 y1)) := Lib.hid fun W ht => by
                  have h1 := ht.blk H21d.out HND.out.1
                  have h2 := ht.blk H22.out HND.out.2.1
                  have h3 := ht.blk H23.out HND.out.2.2
                  exact ⟨h1.cell 0, h1.cell 1, h2.cell 0, h2.cell 1, h3.cell 0, h3.cell 1⟩
                have HOc : Hid (RL B P1 v9 W7 Md) := Lib.hid (HO6.out.tch HT.out (fun k hk h => by
                  simp only [List.mem_cons, List.not_mem_nil, or_false] at h
                  rcases h with h | h
                  · rw [h] at hk; exact HND.out.2.1 hk
                  · rw [h] at hk; exact HND.out.2.2 hk))
                have HTc := Lib.hid (Tch.refl Md W7)
                have HMc : Hid (∀ k ∈ Md, k ∈ Md ∨ W7.heap.size ≤ k) := Lib.hid fun k hk => Or.inl hk
                have HBW7 : Hid (B ≤ W7.heap.size) := Lib.hid (Nat.le_trans HBW.out (Nat.le_trans HT6.out.size HT.out.size))
                have HTW7 : Hid (Tch Mc wr W7) := Lib.hid ((HTW3.out.trans HT6.out fun k hk => Or.inl hk).trans HT.out (fun k hk => by
                  have h7 := HGF.out
                  have h9 := HSZ.out
                  simp only [List.mem_cons, List.not_mem_nil, or_false] at hk
                  right
                  omega))
                have HMW7 : Hid (∀ k ∈ Md, k ∈ Mc ∨ wr.heap.size ≤ k) := Lib.hid fun k hk => by
                  rcases HM6.out k hk with h | h
                  · exact Or.inl h
                  · exact Or.inr (Nat.le_trans HBW3.out.size h)
                go_wp2_with fail
                have HTq := Lib.hid HTc.out.drew
                have HOq := Lib.hid (HOc.out.later (Below.refl _ _).drew)
                have HK := SSX.out _ HTq.out
                go_region_held3 (fun W => W.cell? ⟨g21, 0, none⟩ = some (.int .i64 b0) ∧ W.cell? ⟨g21, 1, none⟩ = some (.int .i64 b1) ∧ W.cell? ⟨g22, 0, none⟩ = some (.int .i64 q0) ∧ W.cell? ⟨g22, 1, none⟩ = some (.int .i64 q1) ∧ W.cell? ⟨g23, 0, none⟩ = some (.int .i64 y0) ∧ W.cell? ⟨g23, 1, none⟩ = some (.int .i64 y1))
                  (first | exact HK | go_keep)
                  (first
                    | (go_at_call_of 41 (Value.agg #[Value.int IntKind.i64 b0, Value.int IntKind.i64 b1]); go_at_call_of 41 (Value.agg #[Value.int IntKind.i64 y0, Value.int IntKind.i64 y1]); refine (HCP.out _).mono ?_; rintro e' w' ⟨rfl, hbq⟩; have HTq := Lib.hid (HTq.out.below hbq); have HOq := Lib.hid (HOq.out.later hbq); have HK := SSX.out _ HTq.out; clear hbq)
                    | (go_at_call_of 41 (Value.agg #[Value.int IntKind.i64 b0, Value.int IntKind.i64 b1]); go_at_call_of 41 (Value.agg #[Value.int IntKind.i64 q0, Value.int IntKind.i64 q1]); go_at_call_of 41 (Value.int IntKind.i64 1); refine (radd_p (b0, b1) (q0, q1) _ HBB.out HQB.out).mono ?_; rintro e' w' ⟨rfl, hbq⟩; have HTq := Lib.hid (HTq.out.below hbq); have HOq := Lib.hid (HOq.out.later hbq); have HK := SSX.out _ HTq.out; clear hbq)
                    | (go_at_call_of 41 (Value.agg #[Value.int IntKind.i64 c0, Value.int IntKind.i64 c1]); go_at_call_of 41 (Value.agg #[Value.int IntKind.i64 q0, Value.int IntKind.i64 q1]); go_at_call_of 41 (Value.int IntKind.i64 1); refine (radd_p (c0, c1) (q0, q1) _ HVB.out HQB.out).mono ?_; rintro e' w' ⟨rfl, hbq⟩; have HTq := Lib.hid (HTq.out.below hbq); have HOq := Lib.hid (HOq.out.later hbq); have HK := SSX.out _ HTq.out; clear hbq)
                    | (go_at_call_of 41 (Value.agg #[Value.int IntKind.i64 c0, Value.int IntKind.i64 c1]); go_at_call_of 41 (Value.agg #[Value.int IntKind.i64 q0, Value.int IntKind.i64 q1]); refine (radd_m (c0, c1) (q0, q1) _ HVB.out HQB.out).mono ?_; rintro e' w' ⟨rfl, hbq⟩; have HTq := Lib.hid (HTq.out.below hbq); have HOq := Lib.hid (HOq.out.later hbq); have HK := SSX.out _ HTq.out; clear hbq)
                    | (go_at_call_of 41 (Value.agg #[Value.int IntKind.i64 b0, Value.int IntKind.i64 b1]); go_at_call_of 41 (Value.agg #[Value.int IntKind.i64 q0, Value.int IntKind.i64 q1]); refine (radd_m (b0, b1) (q0, q1) _ HBB.out HQB.out).mono ?_; rintro e' w' ⟨rfl, hbq⟩; have HTq := Lib.hid (HTq.out.below hbq); have HOq := Lib.hid (HOq.out.later hbq); have HK := SSX.out _ HTq.out; clear hbq)
                    | (go_at_call 40; refine (rput_any HOq.out _ 4 ([pl (b0, b1) (q0, q1), pl (c0, c1) (q0, q1), mi (c0, c1) (q0, q1), mi (b0, b1) (q0, q1)]) _ ((Below.refl _ _).alloc (Nat.le_refl _) _) (Blk.new _ _ _) (Nat.le_refl _) (Nat.le_trans HBW7.out HTq.out.size) (show 3 ≤ 4 by omega) (show 4 ≤ 16 by omega) (HIB.out) HLn.out).mono ?_; rintro e' w' ⟨v9, rfl, hout⟩; have HOUT := Lib.hid (out_step HTq.out HMc.out hout); have HK := SSX.out _ HOUT.out.choose_spec.2.1; clear hout))
                have HFIN : Hid (Out (RL B (one wd j e true L r) v9) M w _) := Lib.hid (by rw [HC.out]; exact out_step HTk.out HMk.out (out_step HTW7.out HMW7.out HOUT.out))
                clear HK
                go_wp2_with fail
                go_ret
                exact ⟨_, rfl, HFIN.out⟩
end Go.Proofs.YtflopcogalknhaaDoor.Str
