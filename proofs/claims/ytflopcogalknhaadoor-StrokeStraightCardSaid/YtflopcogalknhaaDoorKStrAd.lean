/-
  Layer 21: a polygon is added, both sides.
-/
import Derived.Test.YtflopcogalknhaaDoorKStrOb
set_option linter.unusedVariables false
set_option linter.unusedSimpArgs false
namespace Go.Proofs.YtflopcogalknhaaDoor.Str
open Go.RowKit Go.Proofs.YtflopcogalknhaaDoor Go.Proofs.YtflopcogalknhaaDoor.NumPure

theorem ol_push {wd j e : Int} {B g : Nat} {L : List (List P2)} {v v' : Value} {rb rc : Nat → Nat} {W w7 : World} {p c : Nat} {l : List P2} (h : OLv wd j e B g L v rb rc W) (hp : Blk W p 30 (pts l).toArray) (hBp : B ≤ p)
    (ho : w7.ownsRow B 36 1 v' (L.length + 1) (slcs (fun i => some ⟨rb i, 0, none⟩) rc L ++ [.slice (some ⟨p, 0, none⟩) l.length c])) (hg : (W.alloc (.cells #[.slice (some ⟨p, 0, none⟩) l.length c] 36)).grownBy w7 v.ownBlock) :
    OLv wd j e B g (L ++ [l]) v' (fun i => if i < L.length then rb i else p) (fun i => if i < L.length then rc i else c) ((w7.setCell ⟨g, 3, none⟩ v').setCell ⟨g, 4, none⟩ (.int .i64 (ptsN (L ++ [l]) : Nat))) := by
  have h1 := h.r.push rfl ⟨rfl, rfl⟩ (ptr_of_blk hp) hp hBp ho hg
  have hbx : Blk w7 g 47 #[.int .i64 wd, .int .i64 j, .int .i64 e, v, .int .i64 (ptsN L : Nat)] := ((h.box.alloc _).grown hg fun e2 => own_ne_blk h.r.row h.box (by decide) g e2.symm rfl)
  refine ⟨h1.keep (by simp [World.setCell]) (fun k hk => ?_) (fun k cs hc _ => ?_), ?_, ?_⟩
  · have hne := own_ne_blk h1.row hbx (by decide) k hk
    rw [Below.heap_setCell _ _ _ _ hne, Below.heap_setCell _ _ _ _ hne]
  · have hne : k ≠ g := blk_ne hc hbx (by decide)
    rw [Below.heap_setCell _ _ _ _ hne, Below.heap_setCell _ _ _ _ hne]
  · exact (hbx.set_ 3 v').set_ 4 _
  · exact h.low

set_option maxRecDepth 100000 in
set_option maxHeartbeats 8000000 in
theorem add_any {wd j e : Int} {g B : Nat} {L : List (List P2)} {M : List Nat} {w0 : World} (hO : OL wd j e B g L w0 M) (p c : Nat) (l : List P2) (W : World) (hb : Below w0.heap.size w0 W) (hp : Blk W p 30 (pts l).toArray) (hp0 : w0.heap.size ≤ p) (hBs : B ≤ w0.heap.size) (h3 : 3 ≤ l.length) (h16 : l.length ≤ 16)
    (hin : AllB 33554432 l) (hL : L.length ≤ 1000000) (hG : GL L) : Calls Tryd.prog 33 #[.pointer (some ⟨g, 0, none⟩), .slice (some ⟨p, 0, none⟩) l.length c] W fun e' w' => e' = .returned (.tuple #[]) ∧ Out (OL wd j e B g (put L l)) M w0 w' := by
  obtain ⟨v, rb, rc, rfl, hO⟩ := hO
  have C1 := twice_any (some ⟨p, 0, none⟩) l c W (ptr_of_blk hp) hin h16
  obtain ⟨a, ha⟩ : ∃ a, area l = a := ⟨_, rfl⟩
  unfold NmC at C1
  rw [ha] at C1
  obtain ⟨n, hn⟩ : ∃ n, l.length = n := ⟨_, rfl⟩
  rw [hn] at C1 h3 h16 ⊢
  have HA := Lib.hid ha
  have HN := Lib.hid hn
  have HGL := Lib.hid hG
  have HO := Lib.hid hO
  have HB0 := Lib.hid hb
  have HP := Lib.hid hp
  have HP0 := Lib.hid hp0
  have HBS := Lib.hid hBs
  clear ha hn hG hO hb hp hp0 hBs hin
  go_enter Tryd.func33, Tryd.ntmps33
  go_wp2_with fail
  refine C1.mono ?_
  rintro e1 w1 ⟨rfl, hb1⟩
  have HB1 := Lib.hid (HB0.out.trans (hb1.mono HB0.out.size))
  have HP1 := Lib.hid (HP.out.below hb1 HP.out.lt)
  clear C1 hb1 HB0 HP
  by_cases h0 : a = 0
  · have HE : Hid (put L l = L) := Lib.hid (by unfold put; rw [if_pos (by rw [HA.out]; exact h0)])
    have HF : Hid (Out (OL wd j e B g (put L l)) (g :: fp L v rb) w0 w1) := Lib.hid (by rw [HE.out]; exact ⟨_, ⟨v, rb, rc, rfl, HO.out.below HB1.out⟩, tch_of_below HB1.out, fun k hk => Or.inl hk⟩)
    subst h0
    go_wp2_with fail
    refine bodyPost_ret (results_none rfl _ _ _) rfl ?_
    exact ⟨rfl, HF.out⟩
  have z0 : (a == 0) = false := by simpa using h0
  by_cases h1 : a < 0
  · have HE : Hid (put L l = L ++ [l.reverse]) := Lib.hid (by unfold put; rw [HA.out, if_neg h0, if_pos h1])
    have CR := Reverse_any p c l w1 HP1.out (by have := HN.out; omega) (by have := HN.out; omega)
    rw [HN.out] at CR
    go_wp2_with fail
    refine CR.mono ?_
    rintro e2 w2 ⟨rfl, hp2, ht⟩
    have hlt := HP0.out
    have HO2 : Hid (OLv wd j e B g L v rb rc w2) := Lib.hid (by
      have h := HO.out.below HB1.out
      refine ⟨h.r.keep ht.size (fun k hk => ht.block k (own_lt h.r.row k hk) ?_) (fun k cs hc hi => ht.block k hc.lt ?_), ht.blk h.box ?_, h.low⟩
      · have := own_lt HO.out.r.row k hk
        simp only [List.mem_singleton]
        omega
      · obtain ⟨i, hi, rfl⟩ := hi
        obtain ⟨_, cs', hc'⟩ := HO.out.r.pol i hi
        have := hc'.lt
        simp only [List.mem_singleton]
        omega
      · have := HO.out.box.lt
        simp only [List.mem_singleton]
        omega)
    have HP2 : Hid (Blk w2 p 30 (pts l.reverse).toArray) := Lib.hid hp2
    have HT2 : Hid (Tch (g :: fp L v rb) w0 w2) := Lib.hid ((tch_of_below HB1.out).trans ht (fun k hk => by simp only [List.mem_singleton] at hk; right; omega))
    have HB2 : Hid (B ≤ w2.heap.size) := Lib.hid (by have := HT2.out.size; have := HBS.out; omega)
    have HRL : Hid (l.reverse.length = n) := Lib.hid (by rw [List.length_reverse, HN.out])
    clear CR hp2 ht hlt HO HB1 HP1
    obtain ⟨A1, cap1, rfl, _⟩ := own_open HO2.out.r.row
    have c0 : w2.cell? ⟨g, 3, none⟩ = some (.slice A1 L.length cap1) := HO2.out.box.cell 3
    have c1 : w2.cell? ⟨g, 4, none⟩ = some (.int .i64 (ptsN L : Nat)) := HO2.out.box.cell 4
    have zf := HO2.out.box.frozen
    have hsz := HB2.out
    obtain ⟨T, hT⟩ : ∃ T, ptsN L = T := ⟨_, rfl⟩
    have HTT := Lib.hid hT
    have hTle : T ≤ 16000000 := by have := (HGL.out).pts; omega
    rw [hT] at c1
    clear hT
    go_wp2_with (refine wpList_appL (B := B) rfl _ _ rfl (own_below HO2.out.r.row ((Below.refl _ _).alloc (Nat.le_refl _) _)) rfl rfl (Blk.new _ _ _) rfl (by omega) (by simp; omega) ?_)
    intro v' w7 hown' hgrow hor
    have HBX : Hid (Blk w7 g 47 _) := Lib.hid ((HO2.out.box.alloc _).grown hgrow fun e2 => own_ne_blk HO2.out.r.row HO2.out.box (by decide) g e2.symm rfl)
    have HNW := Lib.hid (ol_push HO2.out HP2.out (Nat.le_trans HBS.out HP0.out) (by rw [HRL.out]; exact hown') (by rw [HRL.out]; exact hgrow))
    have HTN := Lib.hid ((((HT2.out.alloc _).grown hgrow (fun k hk => Or.inl (List.mem_cons_of_mem _ (mem_fp.2 (Or.inl hk))))).setCell (p := ⟨g, 3, none⟩) (Or.inl (by simp)) v').setCell (p := ⟨g, 4, none⟩) (Or.inl (by simp)) (.int .i64 ((T : Int) + n)))
    have HOR : Hid (∀ k, v'.ownBlock = some k → k ∈ g :: fp L (.slice A1 L.length cap1) rb ∨ w0.heap.size ≤ k) := Lib.hid fun k hk => by
      rcases hor with h1 | h1
      · rw [h1] at hk
        exact Or.inl (List.mem_cons_of_mem _ (mem_fp.2 (Or.inl hk)))
      · rw [h1] at hk
        injection hk with hk
        have := HT2.out.size
        right
        rw [← hk]
        omega
    obtain ⟨A2, cap2, rfl, _⟩ := own_open hown'
    have d0 : w7.cell? ⟨g, 3, none⟩ = some (.slice A1 L.length cap1) := HBX.out.cell 3
    have d1 : w7.cell? ⟨g, 4, none⟩ = some (.int .i64 (ptsN L : Nat)) := HBX.out.cell 4
    have zf2 := HBX.out.frozen
    rw [HTT.out] at d1
    clear c0 c1 zf hown' hgrow hor
    go_wp2_with fail
    go_end0
    have h9 := HNW.out
    rw [ptsN_snoc, HTT.out, HRL.out, ← HE.out, Int.natCast_add] at h9
    exact ⟨rfl, _, ⟨_, _, _, rfl, h9⟩, HTN.out, fun k hk => by
      rcases List.mem_cons.1 hk with rfl | hk
      · exact Or.inl (by simp)
      · rw [HE.out] at hk
        exact fp_push HOR.out (fun i hi => List.mem_cons_of_mem _ (mem_fp.2 (Or.inr ⟨i, hi, rfl⟩))) HP0.out k hk⟩
  · have h2 : ¬ a < 0 := h1
    have HE : Hid (put L l = L ++ [l]) := Lib.hid (by unfold put; rw [HA.out, if_neg h0, if_neg h1])
    have HO2 := Lib.hid (HO.out.below HB1.out)
    have HP2 := HP1
    have HT2 : Hid (Tch (g :: fp L v rb) w0 w1) := Lib.hid (tch_of_below HB1.out)
    have HB2 : Hid (B ≤ w1.heap.size) := Lib.hid (by have := HT2.out.size; have := HBS.out; omega)
    clear HO HB1 HP1
    obtain ⟨A1, cap1, rfl, _⟩ := own_open HO2.out.r.row
    have c0 : w1.cell? ⟨g, 3, none⟩ = some (.slice A1 L.length cap1) := HO2.out.box.cell 3
    have c1 : w1.cell? ⟨g, 4, none⟩ = some (.int .i64 (ptsN L : Nat)) := HO2.out.box.cell 4
    have zf := HO2.out.box.frozen
    have hsz := HB2.out
    obtain ⟨T, hT⟩ : ∃ T, ptsN L = T := ⟨_, rfl⟩
    have HTT := Lib.hid hT
    have hTle : T ≤ 16000000 := by have := (HGL.out).pts; omega
    rw [hT] at c1
    clear hT
    go_wp2_with (refine wpList_appL (B := B) rfl _ _ rfl (own_below HO2.out.r.row ((Below.refl _ _).alloc (Nat.le_refl _) _)) rfl rfl (Blk.new _ _ _) rfl (by omega) (by simp; omega) ?_)
    intro v' w7 hown' hgrow hor
    have HBX : Hid (Blk w7 g 47 _) := Lib.hid ((HO2.out.box.alloc _).grown hgrow fun e2 => own_ne_blk HO2.out.r.row HO2.out.box (by decide) g e2.symm rfl)
    have HNW := Lib.hid (ol_push HO2.out HP2.out (Nat.le_trans HBS.out HP0.out) (by rw [HN.out]; exact hown') (by rw [HN.out]; exact hgrow))
    have HTN := Lib.hid ((((HT2.out.alloc _).grown hgrow (fun k hk => Or.inl (List.mem_cons_of_mem _ (mem_fp.2 (Or.inl hk))))).setCell (p := ⟨g, 3, none⟩) (Or.inl (by simp)) v').setCell (p := ⟨g, 4, none⟩) (Or.inl (by simp)) (.int .i64 ((T : Int) + n)))
    have HOR : Hid (∀ k, v'.ownBlock = some k → k ∈ g :: fp L (.slice A1 L.length cap1) rb ∨ w0.heap.size ≤ k) := Lib.hid fun k hk => by
      rcases hor with h1 | h1
      · rw [h1] at hk
        exact Or.inl (List.mem_cons_of_mem _ (mem_fp.2 (Or.inl hk)))
      · rw [h1] at hk
        injection hk with hk
        have := HT2.out.size
        right
        rw [← hk]
        omega
    obtain ⟨A2, cap2, rfl, _⟩ := own_open hown'
    have d0 : w7.cell? ⟨g, 3, none⟩ = some (.slice A1 L.length cap1) := HBX.out.cell 3
    have d1 : w7.cell? ⟨g, 4, none⟩ = some (.int .i64 (ptsN L : Nat)) := HBX.out.cell 4
    have zf2 := HBX.out.frozen
    rw [HTT.out] at d1
    clear c0 c1 zf hown' hgrow hor
    go_wp2_with fail
    go_end0
    have h9 := HNW.out
    rw [ptsN_snoc, HTT.out, HN.out, ← HE.out, Int.natCast_add] at h9
    exact ⟨rfl, _, ⟨_, _, _, rfl, h9⟩, HTN.out, fun k hk => by
      rcases List.mem_cons.1 hk with rfl | hk
      · exact Or.inl (by simp)
      · rw [HE.out] at hk
        exact fp_push HOR.out (fun i hi => List.mem_cons_of_mem _ (mem_fp.2 (Or.inr ⟨i, hi, rfl⟩))) HP0.out k hk⟩

/-- A call that returns a list of polygons. -/
def LsC (B : Nat) (L : List (List P2)) (M : List Nat) (w : World) (e : Ending) (w' : World) : Prop := ∃ v, e = .returned v ∧ Out (RL B L v) M w w'
set_option maxRecDepth 100000 in
set_option maxHeartbeats 8000000 in
theorem rput_any {B : Nat} {L : List (List P2)} {v : Value} {M : List Nat} {w0 : World} (hO : RL B L v w0 M) (p c : Nat) (l : List P2) (W : World) (hb : Below w0.heap.size w0 W) (hp : Blk W p 30 (pts l).toArray) (hp0 : w0.heap.size ≤ p) (hBs : B ≤ w0.heap.size) (h3 : 3 ≤ l.length) (h16 : l.length ≤ 16)
    (hin : AllB 33554432 l) (hL : L.length ≤ 1000000) : Calls Tryd.prog 40 #[v, .slice (some ⟨p, 0, none⟩) l.length c] W fun e' w' => LsC B (put L l) M w0 e' w' := by
  obtain ⟨rb, rc, rfl, hO⟩ := hO
  have C1 := rArea_any (some ⟨p, 0, none⟩) l c W (ptr_of_blk hp) hin h16
  obtain ⟨a, ha⟩ : ∃ a, area l = a := ⟨_, rfl⟩
  unfold NmC at C1
  rw [ha] at C1
  obtain ⟨n, hn⟩ : ∃ n, l.length = n := ⟨_, rfl⟩
  rw [hn] at C1 h3 h16 ⊢
  have HA := Lib.hid ha
  have HN := Lib.hid hn
  have HO := Lib.hid hO
  have HB0 := Lib.hid hb
  have HP := Lib.hid hp
  have HP0 := Lib.hid hp0
  have HBS := Lib.hid hBs
  clear ha hn hO hb hp hp0 hBs hin
  unfold LsC
  go_enter Tryd.func40, Tryd.ntmps40
  go_wp2_with fail
  refine C1.mono ?_
  rintro e1 w1 ⟨rfl, hb1⟩
  have HB1 := Lib.hid (HB0.out.trans (hb1.mono HB0.out.size))
  have HP1 := Lib.hid (HP.out.below hb1 HP.out.lt)
  clear C1 hb1 HB0 HP
  by_cases h0 : a = 0
  · have HE : Hid (put L l = L) := Lib.hid (by unfold put; rw [if_pos (by rw [HA.out]; exact h0)])
    have HF : Hid (Out (RL B (put L l) v) (fp L v rb) w0 w1) := Lib.hid (by rw [HE.out]; exact ⟨_, ⟨rb, rc, rfl, HO.out.below HB1.out⟩, tch_of_below HB1.out, fun k hk => Or.inl hk⟩)
    subst h0
    go_wp2_with fail
    go_ret
    exact ⟨_, rfl, HF.out⟩
  have z0 : (a == 0) = false := by simpa using h0
  by_cases h1 : a < 0
  · have HE : Hid (put L l = L ++ [l.reverse]) := Lib.hid (by unfold put; rw [HA.out, if_neg h0, if_pos h1])
    have HS : Hid (R1 30 2 w1 (.slice none 0 0) 0 (pts (l.reverse.take 0)) none w1) := Lib.hid (R1.start w1)
    have HRD := Lib.hid (ptr_of_blk HP1.out)
    obtain ⟨t0, hi0, hz0, hz1, hz2⟩ := info_parts infoP
    go_wp2_with fail
    go_loopw [6, 7] (fun u i wr => ∃ j k : Nat, i = .int .i64 ((k : Int) - 1) ∧ j + k = n ∧ R1 30 2 w1 u j (pts (l.reverse.take j)) none wr) (fun _ i _ => (intOf i + 1).toNat)
    case atStart => exact ⟨0, n, by go_num, by omega, HS.out⟩
    case round =>
      obtain ⟨j, k, rfl, hjk, hr⟩ := hrel
      have HR := Lib.hid hr
      clear hr HS
      by_cases hk : k = 0
      · subst hk
        have hjn : j = n := by omega
        subst hjn
        have hv := HR.out.row
        rw [List.take_of_length_le (by rw [List.length_reverse, HN.out]; exact Nat.le_refl _)] at hv
        have hjr : l.reverse.length = j := by rw [List.length_reverse, HN.out]
        have hvv : wr.ownsRow w1.heap.size 30 2 u6 l.reverse.length (pts l.reverse) := by rw [hjr]; exact hv
        rcases hv.2 with ⟨_, h⟩ | ⟨g9, cap9, cur9, rfl, hg9, hh9, hn9, hm9, hs9, hx9⟩
        · omega
        have HRW : Hid (PtR wr (some ⟨g9, 0, none⟩) l.reverse) := Lib.hid (by have h := Reads.of_own hv; unfold PtR; rw [hjr]; exact h)
        have HBK : Hid (Blk wr g9 30 cur9) := Lib.hid hh9
        have HG9 : Hid (w0.heap.size ≤ g9) := Lib.hid (by have := HB1.out.size; omega)
        have HO2 : Hid (RLv B L v rb rc wr) := Lib.hid ((HO.out.below HB1.out).below HR.out.below)
        have HT2 : Hid (Tch (fp L v rb) w0 wr) := Lib.hid (tch_of_below (HB1.out.trans (HR.out.below.mono HB1.out.size)))
        have HB2 : Hid (B ≤ wr.heap.size) := Lib.hid (by have := HT2.out.size; have := HBS.out; omega)
        have HJR := Lib.hid hjr
        clear HO HB1 HP1 HP0 HRD HR hv hvv hg9 hh9 hn9 hm9 hs9 hx9 hjr
        go_wp2_with (refine wpList_appL (B := B) rfl _ _ rfl (own_below HO2.out.row ((Below.refl _ _).alloc (Nat.le_refl _) _)) rfl rfl (Blk.new _ _ _) rfl (by omega) (by simp; have := HB2.out; omega) ?_)
        intro v' w7 hown' hgrow hor
        have HNW := Lib.hid (HO2.out.push (l := l.reverse) rfl ⟨rfl, rfl⟩ HRW.out HBK.out (Nat.le_trans HBS.out HG9.out) (by rw [HJR.out]; exact hown') (by rw [HJR.out]; exact hgrow))
        have HTN := Lib.hid ((HT2.out.alloc _).grown hgrow (fun k hk => Or.inl (mem_fp.2 (Or.inl hk))))
        have HOR : Hid (∀ k, v'.ownBlock = some k → k ∈ fp L v rb ∨ w0.heap.size ≤ k) := Lib.hid fun k hk => by
          rcases hor with h1 | h1
          · rw [h1] at hk
            exact Or.inl (mem_fp.2 (Or.inl hk))
          · rw [h1] at hk
            injection hk with hk
            have := HT2.out.size
            right
            rw [← hk]
            omega
        clear hown' hgrow hor
        go_wp2_with fail
        go_ret
        have h9 := HNW.out
        rw [← HE.out] at h9
        exact ⟨v', rfl, _, ⟨_, _, rfl, h9⟩, HTN.out, fun k hk => by
          rw [HE.out] at hk
          exact fp_push HOR.out (fun i hi => mem_fp.2 (Or.inr ⟨i, hi, rfl⟩)) HG9.out k hk⟩
      · obtain ⟨q, rfl⟩ : ∃ q, k = q + 1 := ⟨k - 1, by omega⟩
        have hql : q < l.length := by have := HN.out; omega
        obtain ⟨c0, c1⟩ := pt_blk (HP1.out.below HR.out.below HP1.out.lt) q hql
        obtain ⟨⟨x, y⟩, hp⟩ : ∃ p, l[q] = p := ⟨_, rfl⟩
        rw [hp] at c0 c1
        dsimp only at c0 c1
        have HNX : Hid (pts (l.reverse.take j) ++ (#[.int .i64 x, .int .i64 y] : Array Value).toList = pts (l.reverse.take (j + 1))) := Lib.hid (by
          rw [List.take_succ_eq_append_getElem (by rw [List.length_reverse]; have := HN.out; omega), pts_app, List.getElem_reverse]
          have e : l[l.length - 1 - j]'(by omega) = l[q] := by congr 1; have := HN.out; omega
          rw [e, hp]
          rfl)
        rw [show (((q + 1 : Nat) : Int) - 1) = (q : Int) by omega]
        clear hp
        go_wp2_with (refine wpList_plain rfl fun K hK => wp_appP 28 rfl _ _ rfl (HR.out.lit #[.int .i64 x, .int .i64 y]) rfl rfl rfl (fun y hy => by (simp only [List.mem_cons, List.not_mem_nil, or_false] at hy; rcases hy with rfl | rfl <;> rfl)) (by omega) (fun vK wk R2 => hK _ _ ?_))
        have HR2 := Lib.hid R2
        clear R2 HR c0 c1
        go_wp2_with fail
        go_roundw
        case rel => exact ⟨j + 1, q, rfl, by omega, HNX.out ▸ HR2.out⟩
        case measure => first | (simp [intOf]; done) | (simp [intOf]; omega)
  · have h2 : ¬ a < 0 := h1
    have HE : Hid (put L l = L ++ [l]) := Lib.hid (by unfold put; rw [HA.out, if_neg h0, if_neg h1])
    have HO2 := Lib.hid (HO.out.below HB1.out)
    have HP2 := HP1
    have HT2 : Hid (Tch (fp L v rb) w0 w1) := Lib.hid (tch_of_below HB1.out)
    have HB2 : Hid (B ≤ w1.heap.size) := Lib.hid (by have := HT2.out.size; have := HBS.out; omega)
    clear HO HB1 HP1
    go_wp2_with (refine wpList_appL (B := B) rfl _ _ rfl (own_below HO2.out.row ((Below.refl _ _).alloc (Nat.le_refl _) _)) rfl rfl (Blk.new _ _ _) rfl (by omega) (by simp; have := HB2.out; omega) ?_)
    intro v' w7 hown' hgrow hor
    have HNW := Lib.hid (HO2.out.push (l := l) rfl ⟨rfl, rfl⟩ (ptr_of_blk HP2.out) HP2.out (Nat.le_trans HBS.out HP0.out) (by rw [HN.out]; exact hown') (by rw [HN.out]; exact hgrow))
    have HTN := Lib.hid ((HT2.out.alloc _).grown hgrow (fun k hk => Or.inl (mem_fp.2 (Or.inl hk))))
    have HOR : Hid (∀ k, v'.ownBlock = some k → k ∈ fp L v rb ∨ w0.heap.size ≤ k) := Lib.hid fun k hk => by
      rcases hor with h1 | h1
      · rw [h1] at hk
        exact Or.inl (mem_fp.2 (Or.inl hk))
      · rw [h1] at hk
        injection hk with hk
        have := HT2.out.size
        right
        rw [← hk]
        omega
    clear hown' hgrow hor
    go_wp2_with fail
    go_ret
    have h9 := HNW.out
    rw [← HE.out] at h9
    exact ⟨v', rfl, _, ⟨_, _, rfl, h9⟩, HTN.out, fun k hk => by
      rw [HE.out] at hk
      exact fp_push HOR.out (fun i hi => mem_fp.2 (Or.inr ⟨i, hi, rfl⟩)) HP0.out k hk⟩
end Go.Proofs.YtflopcogalknhaaDoor.Str
