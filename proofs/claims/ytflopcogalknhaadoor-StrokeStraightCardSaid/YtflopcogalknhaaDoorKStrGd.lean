/-
  Layer 21, plain: what the polygons of an outline hold: their points, their bounds, their areas.
-/
import Derived.Test.YtflopcogalknhaaDoorKStrOu
set_option linter.unusedVariables false
set_option linter.unusedSimpArgs false
namespace Go.Proofs.YtflopcogalknhaaDoor.Str
open Go.RowKit Go.Proofs.YtflopcogalknhaaDoor Go.Proofs.YtflopcogalknhaaDoor.NumPure

theorem sumN_congr {f g : Nat → Int} : ∀ n, (∀ i, i < n → f i = g i) → sumN f n = sumN g n
  | 0, _ => rfl
  | n + 1, h => by rw [sumN, sumN, sumN_congr n (fun i hi => h i (by omega)), h n (by omega)]
theorem sumN_add (f g : Nat → Int) : ∀ n, sumN (fun i => f i + g i) n = sumN f n + sumN g n
  | 0 => rfl
  | n + 1 => by rw [sumN, sumN, sumN, sumN_add f g n]; omega
theorem sumN_neg (f : Nat → Int) : ∀ n, sumN (fun i => -f i) n = -sumN f n
  | 0 => rfl
  | n + 1 => by rw [sumN, sumN, sumN_neg f n]; omega
theorem sumN_head (f : Nat → Int) : ∀ n, sumN f (n + 1) = f 0 + sumN (fun i => f (i + 1)) n
  | 0 => by rw [sumN, sumN, sumN]; omega
  | n + 1 => by rw [sumN, sumN_head f n, sumN]; omega
theorem sumN_rev (f : Nat → Int) : ∀ n, sumN (fun i => f (n - 1 - i)) n = sumN f n
  | 0 => rfl
  | n + 1 => by
    have e : sumN (fun i => f (n + 1 - 1 - (i + 1))) n = sumN (fun i => f (n - 1 - i)) n := sumN_congr n fun i hi => by congr 1; omega
    rw [sumN_head, sumN, e, sumN_rev f n, show n + 1 - 1 - 0 = n by omega]
    omega
theorem cr_swap (a b : P2) : cr b a = -cr a b := by unfold cr; omega
theorem nx_rot (l : List P2) (i : Nat) : nx l (i + l.length) = nx l i := by unfold nx; rw [Nat.add_mod_right]
theorem nx_rev {l : List P2} {i : Nat} (hi : i < l.length) : nx l.reverse i = nx l (l.length - 1 - i) := by
  rw [nx_at (by rw [List.length_reverse]; exact hi), nx_at (by omega), List.getElem_reverse]
/-- A polygon that is turned round has the opposite area. -/
theorem area_rev (l : List P2) : area l.reverse = -area l := by
  rcases Nat.eq_zero_or_pos l.length with h0 | h0
  · have h1 : l = [] := List.eq_nil_of_length_eq_zero h0
    subst h1
    rfl
  obtain ⟨n, hn⟩ : ∃ n, l.length = n := ⟨_, rfl⟩
  have hrot := nx_rot l
  rw [hn] at hrot h0
  have hrev : ∀ i, i < n → nx l.reverse i = nx l (n - 1 - i) := fun i hi => by
    have := nx_rev (l := l) (i := i) (by omega)
    rwa [hn] at this
  have hrr : nx l.reverse n = nx l.reverse 0 := by
    have := nx_rot l.reverse 0
    rwa [List.length_reverse, hn, Nat.zero_add] at this
  have h1 : areaN l.reverse n = sumN (fun i => (fun m => cr (nx l m) (nx l (m + (n - 1)))) (n - 1 - i)) n := by
    unfold areaN
    refine sumN_congr n fun i hi => ?_
    dsimp only
    have e1 := hrev i hi
    by_cases h : i + 1 < n
    · have e2 := hrev (i + 1) h
      have e3 := hrot (n - 1 - (i + 1))
      rw [show n - 1 - (i + 1) + n = n - 1 - i + (n - 1) by omega] at e3
      rw [e1, e2, e3]
    · have e2 := hrev 0 h0
      rw [e1, show i + 1 = n by omega, hrr, e2, show n - 1 - i + (n - 1) = n - 1 - 0 by omega]
  have h2 : sumN (fun m => cr (nx l m) (nx l (m + (n - 1)))) n = sumN (fun m => -(cr (nx l (m + (n - 1))) (nx l (m + (n - 1) + 1)))) n := sumN_congr n fun m _ => by
    rw [show m + (n - 1) + 1 = m + n by omega, hrot]
    exact cr_swap _ _
  unfold area
  rw [List.length_reverse, hn, h1, sumN_rev (fun m => cr (nx l m) (nx l (m + (n - 1)))), h2, sumN_neg]
  congr 1
  obtain ⟨k, rfl⟩ : ∃ k, n = k + 1 := ⟨n - 1, by omega⟩
  unfold areaN
  rw [sumN_head, sumN]
  have h3 : sumN (fun i => cr (nx l (i + 1 + (k + 1 - 1))) (nx l (i + 1 + (k + 1 - 1) + 1))) k = sumN (fun i => cr (nx l i) (nx l (i + 1))) k := sumN_congr k fun i _ => by
    rw [show i + 1 + (k + 1 - 1) + 1 = i + 1 + (k + 1) by omega, show i + 1 + (k + 1 - 1) = i + (k + 1) by omega, hrot, hrot]
  rw [h3, show 0 + (k + 1 - 1) = k by omega]
  omega

/-- Polygons of an outline. -/
def Good (L : List (List P2)) : Prop := ∀ l ∈ L, (3 ≤ l.length ∧ l.length ≤ 16) ∧ AllB 33554432 l ∧ 0 < area l
theorem Good.nil : Good [] := fun _ h => by simp at h
theorem Good.put {L : List (List P2)} {l : List P2} (h : Good L) (h3 : 3 ≤ l.length) (h16 : l.length ≤ 16) (hb : AllB 33554432 l) : Good (put L l) := by
  unfold Str.put
  split
  · exact h
  · next h0 =>
    split
    · next h1 =>
      intro x hx
      rcases List.mem_append.1 hx with hx | hx
      · exact h x hx
      · simp only [List.mem_singleton] at hx
        rw [hx, List.length_reverse, area_rev]
        exact ⟨⟨h3, h16⟩, fun p hp => hb p (List.mem_reverse.1 hp), by omega⟩
    · next h1 =>
      intro x hx
      rcases List.mem_append.1 hx with hx | hx
      · exact h x hx
      · simp only [List.mem_singleton] at hx
        rw [hx]
        exact ⟨⟨h3, h16⟩, hb, by omega⟩
section
variable {wd : Int} (w1 : 1 ≤ wd) (w2 : wd ≤ 4096)
include w1 w2
theorem crn_good {j : Int} {L : List (List P2)} (h : Good L) {a c b : P2} (ha : Inb 16777216 a) (hc : Inb 16777216 c) (hb : Inb 16777216 b) : Good (crn wd j L a c b) := by
  have hm := (nrm_in w1 w2 ha hc).1
  have hn := (nrm_in w1 w2 hc hb).1
  unfold crn
  split
  · exact h.put (by rw [crc_len]; omega) (by rw [crc_len]; omega) (crc_in w1 w2 hc)
  · have g2 := (h.put (l := tri c (nrm wd a c) (nrm wd c b) true) (by rw [tri_len]; omega) (by rw [tri_len]; omega) (tri_in hc hm hn true)).put (l := tri c (nrm wd a c) (nrm wd c b) false) (by rw [tri_len]; omega) (by rw [tri_len]; omega) (tri_in hc hm hn false)
    dsimp only
    split
    · exact g2
    · next hk =>
      split
      · exact g2
      · next hh =>
        refine g2.put (by rw [mitre_len]; omega) (by rw [mitre_len]; omega) (mitre_in hc hm (tsmall w2 (tin w1 w2 hm hn ?_) hh) hn _)
        omega
theorem edgL_good {l : List P2} (hl : AllB 16777216 l) {L : List (List P2)} (h : Good L) : ∀ n, Good (edgL wd l L n)
  | 0 => h
  | n + 1 => by
    have ha := nx_in hl (by omega) n
    have hb := nx_in hl (by omega) (n + 1)
    rw [edgL]
    exact (edgL_good hl h n).put (l := quad (nx l n) (nx l (n + 1)) (nrm wd (nx l n) (nx l (n + 1)))) (show 3 ≤ 4 by omega) (show 4 ≤ 16 by omega) (quad_in ha hb (nrm_in w1 w2 ha hb).1)
theorem crnL_good {j : Int} {o : Bool} {l : List P2} (hl : AllB 16777216 l) {L : List (List P2)} (h : Good L) : ∀ n, Good (crnL wd j o l L n)
  | 0 => h
  | n + 1 => by
    have ih := crnL_good (j := j) (o := o) hl h n
    rw [crnL]
    split
    · exact crn_good w1 w2 ih (nx_in hl (by omega) _) (nx_in hl (by omega) _) (nx_in hl (by omega) _)
    · exact ih
theorem sng_good {e : Int} {L : List (List P2)} (h : Good L) {c : P2} (hc : Inb 16777216 c) : Good (sng wd e L c) := by
  have hr := half_in w1 w2
  unfold sng
  split
  · exact h.put (by rw [crc_len]; omega) (by rw [crc_len]; omega) (crc_in w1 w2 hc)
  · split
    · exact h.put (l := sngB (dvr wd 2) c) (show 3 ≤ 4 by omega) (show 4 ≤ 16 by omega) (sngB_in hc hr.1 hr.2)
    · exact h
theorem cap_good {e : Int} {L : List (List P2)} (h : Good L) {a s r b : P2} (ha : Inb 16777216 a) (hs : Inb 16777216 s) (hr : Inb 16777216 r) (hb : Inb 16777216 b) : Good (cap wd e L a s r b) := by
  unfold cap
  split
  · exact (h.put (by rw [crc_len]; omega) (by rw [crc_len]; omega) (crc_in w1 w2 ha)).put (by rw [crc_len]; omega) (by rw [crc_len]; omega) (crc_in w1 w2 hb)
  · split
    · have g1 := nrm_in w1 w2 ha hs
      have g2 := nrm_in w1 w2 hr hb
      exact (h.put (l := capA a (nrm wd a s) (ext wd a s)) (show 3 ≤ 4 by omega) (show 4 ≤ 16 by omega) (capA_in ha g1.1 g1.2)).put (l := capB b (nrm wd r b) (ext wd r b)) (show 3 ≤ 4 by omega) (show 4 ≤ 16 by omega) (capB_in hb g2.1 g2.2)
    · exact h
theorem one_good {j e : Int} {o : Bool} {l : List P2} (hl : AllB 16777216 l) {L : List (List P2)} (h : Good L) : Good (one wd j e o L l) := by
  unfold one
  split
  · exact h
  · split
    · exact sng_good w1 w2 h (nx_in hl (by omega) 0)
    · have g := crnL_good (j := j) (o := o) w1 w2 hl (edgL_good w1 w2 hl h (nEdg o l.length)) l.length
      dsimp only
      split
      · exact cap_good w1 w2 g (nx_in hl (by omega) _) (nx_in hl (by omega) _) (nx_in hl (by omega) _) (nx_in hl (by omega) _)
      · exact g
theorem runL_good {j e : Int} {ls : List (List P2)} (hl : ∀ l ∈ ls, AllB 16777216 l) {ob : List Bool} : ∀ {i : Nat} {L : List (List P2)}, runL wd j e ls ob i = some L → Good L
  | 0, L, h => by
    rw [runL] at h
    injection h with h
    subst h
    exact Good.nil
  | i + 1, L, h => by
    rw [runL] at h
    split at h
    · cases h
    · rename_i L0 h0
      have g := runL_good hl h0
      split at h
      · cases h
      · injection h with h
        subst h
        refine one_good w1 w2 (red_in ?_ _) g
        by_cases hi : i < ls.length
        · rw [List.getD_eq_getElem?_getD, List.getElem?_eq_getElem hi]
          exact hl _ (List.getElem_mem hi)
        · rw [List.getD_eq_getElem?_getD, List.getElem?_eq_none (by omega)]
          exact AllB.nil _
end
/-- What an outline holds. -/
theorem outF_good (wd j e : Int) (ls : List (List P2)) (ob : List Bool) : Good (outF wd j e ls ob).2 ∧ ptsN (outF wd j e ls ob).2 ≤ 4096 ∧ (outF wd j e ls ob).2.length ≤ 4096 := by
  have z : ∀ n : Int, Good (n, ([] : List (List P2))).2 ∧ ptsN (n, ([] : List (List P2))).2 ≤ 4096 ∧ (n, ([] : List (List P2))).2.length ≤ 4096 := fun n => ⟨Good.nil, by simp [ptsN], by simp⟩
  unfold outF
  split
  · exact z _
  · next h1 =>
    split
    · exact z _
    · next h2 =>
      split
      · exact z _
      · obtain ⟨w1, w2⟩ := chk_ok (Decidable.not_not.1 h1)
        have hin := (cov_zero (Decidable.not_not.1 h2)).2
        split
        · exact z _
        · next L hL =>
          obtain ⟨h3, h4⟩ := runL_pts hL
          have := h4.pts
          exact ⟨runL_good w1 w2 hin hL, h3, by dsimp only; omega⟩
theorem outF_err {wd j e : Int} {ls : List (List P2)} {ob : List Bool} (h : (outF wd j e ls ob).1 ≠ 0) : (outF wd j e ls ob).2 = [] := by
  revert h
  unfold outF
  split
  · exact fun _ => rfl
  · split
    · exact fun _ => rfl
    · split
      · exact fun _ => rfl
      · split
        · exact fun _ => rfl
        · exact fun h => absurd rfl h
end Go.Proofs.YtflopcogalknhaaDoor.Str
