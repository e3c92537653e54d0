/-
  Layer 21: the document's put for a polygon in a row of one's own.
-/
import Derived.Test.YtflopcogalknhaaDoorKStrOv
set_option linter.unusedVariables false
set_option linter.unusedSimpArgs false
namespace Go.Proofs.YtflopcogalknhaaDoor.Str
open Go.RowKit Go.Proofs.YtflopcogalknhaaDoor Go.Proofs.YtflopcogalknhaaDoor.NumPure

theorem pt_cells0 {w : World} {p : Nat} {l : List P2} (h : PtR w (some ⟨p, 0, none⟩) l) (j : Nat) (hj : j < l.length) : w.cell? ⟨p, j * 2, none⟩ = some (.int .i64 l[j].1) ∧ w.cell? ⟨p, j * 2 + 1, none⟩ = some (.int .i64 l[j].2) := by
  have := pt_cells h j hj
  rw [Addr.add_mid, Nat.zero_add] at this
  exact this
set_option maxRecDepth 100000 in
set_option maxHeartbeats 8000000 in
theorem rputP_any {B : Nat} {L : List (List P2)} {v : Value} {M : List Nat} {w0 : World} (hO : RL B L v w0 M) (p c : Nat) (l : List P2) (W : World) (hb : Below w0.heap.size w0 W) (hpr : PtR W (some ⟨p, 0, none⟩) l) {cs0 : Array Value} (hp : Blk W p 30 cs0) (hp0 : w0.heap.size ≤ p) (hBs : B ≤ w0.heap.size) (h3 : 3 ≤ l.length) (h16 : l.length ≤ 16)
    (hin : AllB 33554432 l) (hL : L.length ≤ 1000000) : Calls Tryd.prog 40 #[v, .slice (some ⟨p, 0, none⟩) l.length c] W fun e' w' => LsC B (put L l) M w0 e' w' := by
  obtain ⟨rb, rc, rfl, hO⟩ := hO
  have C1 := rArea_any (some ⟨p, 0, none⟩) l c W hpr hin h16
  obtain ⟨a, ha⟩ : ∃ a, area l = a := ⟨_, rfl⟩
  unfold NmC at C1
  rw [ha] at C1
  obtain ⟨n, hn⟩ : ∃ n, l.length = n := ⟨_, rfl⟩
  rw [hn] at C1 h3 h16 ⊢
  have HA := Lib.hid ha
  have HN := Lib.hid hn
  have HO := Lib.hid hO
  have HB0 := Lib.hid hb
  have HP := Lib.hid hp
  have HPR := Lib.hid hpr
  have HP0 := Lib.hid hp0
  have HBS := Lib.hid hBs
  clear ha hn hO hb hp hpr hp0 hBs hin
  unfold LsC
  go_enter Tryd.func40, Tryd.ntmps40
  go_wp2_with fail
  refine C1.mono ?_
  rintro e1 w1 ⟨rfl, hb1⟩
  have HB1 := Lib.hid (HB0.out.trans (hb1.mono HB0.out.size))
  have HP1 := Lib.hid (HP.out.below hb1 HP.out.lt)
  have HPR1 := Lib.hid (HPR.out.below hb1)
  clear C1 hb1 HB0 HP HPR
  by_cases h0 : a = 0
  · have HE : Hid (put L l = L) := Lib.hid (by unfold put; rw [if_pos (by rw [HA.out]; exact h0)])
    have HF : Hid (Out (RL B (put L l) v) (fp L v rb) w0 w1) := Lib.hid (by rw [HE.out]; exact ⟨_, ⟨rb, rc, rfl, HO.out.below HB1.out⟩, tch_of_below HB1.out, fun k hk => Or.inl hk⟩)
    subst h0
    go_wp2_with fail
    go_ret
    exact ⟨_, rfl, HF.out⟩
  have z0 : (a == 0) = false := by simpa using h0
  by_cases h1 : a < 0
  · have HE : Hid (put L l = L ++ [l.reverse]) := Lib.hid (by unfold put; rw [HA.out, if_neg h0, if_pos h1])
    have HS : Hid (R1 30 2 w1 (.slice none 0 0) 0 (pts (l.reverse.take 0)) none w1) := Lib.hid (R1.start w1)
    have HRD := HPR1
    obtain ⟨t0, hi0, hz0, hz1, hz2⟩ := info_parts infoP
    go_wp2_with fail
    go_loopw [6, 7] (fun u i wr => ∃ j k : Nat, i = .int .i64 ((k : Int) - 1) ∧ j + k = n ∧ R1 30 2 w1 u j (pts (l.reverse.take j)) none wr) (fun _ i _ => (intOf i + 1).toNat)
    case atStart => exact ⟨0, n, by go_num, by omega, HS.out⟩
    case round =>
      obtain ⟨j, k, rfl, hjk, hr⟩ := hrel
      have HR := Lib.hid hr
      clear hr HS
      by_cases hk : k = 0
      · subst hk
        have hjn : j = n := by omega
        subst hjn
        have hv := HR.out.row
        rw [List.take_of_length_le (by rw [List.length_reverse, HN.out]; exact Nat.le_refl _)] at hv
        have hjr : l.reverse.length = j := by rw [List.length_reverse, HN.out]
        have hvv : wr.ownsRow w1.heap.size 30 2 u6 l.reverse.length (pts l.reverse) := by rw [hjr]; exact hv
        rcases hv.2 with ⟨_, h⟩ | ⟨g9, cap9, cur9, rfl, hg9, hh9, hn9, hm9, hs9, hx9⟩
        · omega
        have HRW : Hid (PtR wr (some ⟨g9, 0, none⟩) l.reverse) := Lib.hid (by have h := Reads.of_own hv; unfold PtR; rw [hjr]; exact h)
        have HBK : Hid (Blk wr g9 30 cur9) := Lib.hid hh9
        have HG9 : Hid (w0.heap.size ≤ g9) := Lib.hid (by have := HB1.out.size; omega)
        have HO2 : Hid (RLv B L v rb rc wr) := Lib.hid ((HO.out.below HB1.out).below HR.out.below)
        have HT2 : Hid (Tch (fp L v rb) w0 wr) := Lib.hid (tch_of_below (HB1.out.trans (HR.out.below.mono HB1.out.size)))
        have HB2 : Hid (B ≤ wr.heap.size) := Lib.hid (by have := HT2.out.size; have := HBS.out; omega)
        have HJR := Lib.hid hjr
        clear HO HB1 HP1 HP0 HPR1 HRD HR hv hvv hg9 hh9 hn9 hm9 hs9 hx9 hjr
        go_wp2_with (refine wpList_appL (B := B) rfl _ _ rfl (own_below HO2.out.row ((Below.refl _ _).alloc (Nat.le_refl _) _)) rfl rfl (Blk.new _ _ _) rfl (by omega) (by simp; have := HB2.out; omega) ?_)
        intro v' w7 hown' hgrow hor
        have HNW := Lib.hid (HO2.out.push (l := l.reverse) rfl ⟨rfl, rfl⟩ HRW.out HBK.out (Nat.le_trans HBS.out HG9.out) (by rw [HJR.out]; exact hown') (by rw [HJR.out]; exact hgrow))
        have HTN := Lib.hid ((HT2.out.alloc _).grown hgrow (fun k hk => Or.inl (mem_fp.2 (Or.inl hk))))
        have HOR : Hid (∀ k, v'.ownBlock = some k → k ∈ fp L v rb ∨ w0.heap.size ≤ k) := Lib.hid fun k hk => by
          rcases hor with h1 | h1
          · rw [h1] at hk
            exact Or.inl (mem_fp.2 (Or.inl hk))
          · rw [h1] at hk
            injection hk with hk
            have := HT2.out.size
            right
            rw [← hk]
            omega
        clear hown' hgrow hor
        go_wp2_with fail
        go_ret
        have h9 := HNW.out
        rw [← HE.out] at h9
        exact ⟨v', rfl, _, ⟨_, _, rfl, h9⟩, HTN.out, fun k hk => by
          rw [HE.out] at hk
          exact fp_push HOR.out (fun i hi => mem_fp.2 (Or.inr ⟨i, hi, rfl⟩)) HG9.out k hk⟩
      · obtain ⟨q, rfl⟩ : ∃ q, k = q + 1 := ⟨k - 1, by omega⟩
        have hql : q < l.length := by have := HN.out; omega
        obtain ⟨c0, c1⟩ := pt_cells0 (HPR1.out.below HR.out.below) q hql
        obtain ⟨⟨x, y⟩, hp⟩ : ∃ p, l[q] = p := ⟨_, rfl⟩
        rw [hp] at c0 c1
        dsimp only at c0 c1
        have HNX : Hid (pts (l.reverse.take j) ++ (#[.int .i64 x, .int .i64 y] : Array Value).toList = pts (l.reverse.take (j + 1))) := Lib.hid (by
          rw [List.take_succ_eq_append_getElem (by rw [List.length_reverse]; have := HN.out; omega), pts_app, List.getElem_reverse]
          have e : l[l.length - 1 - j]'(by omega) = l[q] := by congr 1; have := HN.out; omega
          rw [e, hp]
          rfl)
        rw [show (((q + 1 : Nat) : Int) - 1) = (q : Int) by omega]
        clear hp
        go_wp2_with (refine wpList_plain rfl fun K hK => wp_appP 28 rfl _ _ rfl (HR.out.lit #[.int .i64 x, .int .i64 y]) rfl rfl rfl (fun y hy => by (simp only [List.mem_cons, List.not_mem_nil, or_false] at hy; rcases hy with rfl | rfl <;> rfl)) (by omega) (fun vK wk R2 => hK _ _ ?_))
        have HR2 := Lib.hid R2
        clear R2 HR c0 c1
        go_wp2_with fail
        go_roundw
        case rel => exact ⟨j + 1, q, rfl, by omega, HNX.out ▸ HR2.out⟩
        case measure => first | (simp [intOf]; done) | (simp [intOf]; omega)
  · have h2 : ¬ a < 0 := h1
    have HE : Hid (put L l = L ++ [l]) := Lib.hid (by unfold put; rw [HA.out, if_neg h0, if_neg h1])
    have HO2 := Lib.hid (HO.out.below HB1.out)
    have HP2 := HP1
    have HPR2 := HPR1
    have HT2 : Hid (Tch (fp L v rb) w0 w1) := Lib.hid (tch_of_below HB1.out)
    have HB2 : Hid (B ≤ w1.heap.size) := Lib.hid (by have := HT2.out.size; have := HBS.out; omega)
    clear HO HB1 HP1 HPR1
    go_wp2_with (refine wpList_appL (B := B) rfl _ _ rfl (own_below HO2.out.row ((Below.refl _ _).alloc (Nat.le_refl _) _)) rfl rfl (Blk.new _ _ _) rfl (by omega) (by simp; have := HB2.out; omega) ?_)
    intro v' w7 hown' hgrow hor
    have HNW := Lib.hid (HO2.out.push (l := l) rfl ⟨rfl, rfl⟩ HPR2.out HP2.out (Nat.le_trans HBS.out HP0.out) (by rw [HN.out]; exact hown') (by rw [HN.out]; exact hgrow))
    have HTN := Lib.hid ((HT2.out.alloc _).grown hgrow (fun k hk => Or.inl (mem_fp.2 (Or.inl hk))))
    have HOR : Hid (∀ k, v'.ownBlock = some k → k ∈ fp L v rb ∨ w0.heap.size ≤ k) := Lib.hid fun k hk => by
      rcases hor with h1 | h1
      · rw [h1] at hk
        exact Or.inl (mem_fp.2 (Or.inl hk))
      · rw [h1] at hk
        injection hk with hk
        have := HT2.out.size
        right
        rw [← hk]
        omega
    clear hown' hgrow hor
    go_wp2_with fail
    go_ret
    have h9 := HNW.out
    rw [← HE.out] at h9
    exact ⟨v', rfl, _, ⟨_, _, rfl, h9⟩, HTN.out, fun k hk => by
      rw [HE.out] at hk
      exact fp_push HOR.out (fun i hi => mem_fp.2 (Or.inr ⟨i, hi, rfl⟩)) HP0.out k hk⟩
end Go.Proofs.YtflopcogalknhaaDoor.Str
