/-
  Layer 21, plain: lines, their distances and their parts.
-/
import Derived.Test.YtflopcogalknhaaDoorKStrDp
set_option linter.unusedVariables false
set_option linter.unusedSimpArgs false
namespace Go.Proofs.YtflopcogalknhaaDoor.Str
open Go.RowKit Go.Proofs.YtflopcogalknhaaDoor Go.Proofs.YtflopcogalknhaaDoor.NumPure

/-! rounded quotients -/
theorem dvr_mul {a h : Int} (hh : 1 ≤ h) : dvr (a * h) h = a := by
  have hf : (a * h).fdiv h = a := Int.mul_fdiv_cancel _ (by omega)
  have hu : up (a * h) h = false := by
    unfold up
    rw [hf, decide_eq_false_iff_not, Int.mul_comm h a]
    omega
  unfold dvr
  rw [if_neg (by omega), if_neg (by omega), hu, hf]
  rfl
theorem dvr_of_zero {h : Int} (hh : 1 ≤ h) : dvr 0 h = 0 := by
  have := dvr_mul (a := 0) hh
  rwa [Int.zero_mul] at this

/-! lengths of edges -/
theorem hyp_le {x y : Int} (hx : -4611686018427387904 ≤ x ∧ x ≤ 4611686018427387904) (hy : -4611686018427387904 ≤ y ∧ y ≤ 4611686018427387904) : Num.hypU x y ≤ (x.natAbs : Int) + y.natAbs := by
  obtain ⟨a, ha⟩ : ∃ a, x.natAbs = a := ⟨_, rfl⟩
  obtain ⟨b, hb⟩ : ∃ b, y.natAbs = b := ⟨_, rfl⟩
  have ha1 : a ≤ 4611686018427387904 := by omega
  have hb1 : b ≤ 4611686018427387904 := by omega
  have m1 := Nat.mul_le_mul ha1 ha1
  have m2 := Nat.mul_le_mul hb1 hb1
  unfold Num.hypU
  rw [ha, hb]
  obtain ⟨s1, s2⟩ := sqGo_spec (a * a + b * b) 64 0 (by omega) (by simp; omega)
  obtain ⟨r, hr⟩ : ∃ r, sqGo (a * a + b * b) 64 0 = r := ⟨_, rfl⟩
  rw [hr] at s1 s2 ⊢
  have g : r ≤ a + b := by
    rcases Nat.lt_or_ge (a + b) r with h | h
    · have := Nat.mul_le_mul (show a + b + 1 ≤ r by omega) (show a + b + 1 ≤ r by omega)
      have e : (a + b + 1) * (a + b + 1) = a * a + b * b + (2 * (a * b) + 2 * a + 2 * b + 1) := by
        rw [Nat.add_mul, Nat.mul_add, Nat.add_mul, Nat.mul_add, Nat.mul_add, Nat.mul_comm b a]
        omega
      omega
    · exact h
  omega
theorem hypN_is {a b : P2} (ha : Inb 16777216 a) (hb : Inb 16777216 b) : Num.hypU (b.1 - a.1) (b.2 - a.2) = (hypN a b : Nat) ∧ hypN a b ≤ 67108864 ∧ (b.1 - a.1).natAbs ≤ hypN a b ∧ (b.2 - a.2).natAbs ≤ hypN a b := by
  unfold Inb at ha hb
  have h := hyp_ge (x := b.1 - a.1) (y := b.2 - a.2) (by omega) (by omega)
  have h2 := hyp_le (x := b.1 - a.1) (y := b.2 - a.2) (by omega) (by omega)
  unfold hypN
  omega
theorem hypN_pos {a b : P2} (ha : Inb 16777216 a) (hb : Inb 16777216 b) (hn : a ≠ b) : 1 ≤ hypN a b := by
  have h := hypN_is ha hb
  by_cases h1 : b.1 = a.1
  · have h2 : b.2 ≠ a.2 := fun h2 => hn (Prod.ext h1.symm h2.symm)
    omega
  · omega

/-! lines -/
/-- A line: its points within bounds, its edges of a length. -/
structure Lin (l : List P2) : Prop where
  inb : AllB 16777216 l
  dif : ∀ i, i + 1 < l.length → gp l i ≠ gp l (i + 1)
  len : l.length ≤ 65537
theorem gp_in {B : Int} {l : List P2} (h : AllB B l) {i : Nat} (hi : i < l.length) : Inb B (gp l i) := by
  unfold gp
  rw [List.getD_eq_getElem?_getD, List.getElem?_eq_getElem hi]
  exact h _ (List.getElem_mem hi)
theorem Lin.hyp {l : List P2} (h : Lin l) {i : Nat} (hi : i + 1 < l.length) : 1 ≤ hypN (gp l i) (gp l (i + 1)) ∧ hypN (gp l i) (gp l (i + 1)) ≤ 67108864 :=
  ⟨hypN_pos (gp_in h.inb (by omega)) (gp_in h.inb hi) (h.dif i hi), (hypN_is (gp_in h.inb (by omega)) (gp_in h.inb hi)).2.1⟩
theorem atN_up {l : List P2} (h : Lin l) {i : Nat} (hi : i + 1 < l.length) : atN l i < atN l (i + 1) := by
  have := h.hyp hi
  rw [atN]; omega
theorem atN_le (l : List P2) (i : Nat) : ∀ d, atN l i ≤ atN l (i + d)
  | 0 => Nat.le_refl _
  | d + 1 => by
    have := atN_le l i d
    rw [← Nat.add_assoc, atN]; omega
theorem atN_mono {l : List P2} {i j : Nat} (h : i ≤ j) : atN l i ≤ atN l j := by
  have := atN_le l i (j - i)
  rwa [show i + (j - i) = j by omega] at this
theorem atN_bd {l : List P2} (h : Lin l) : ∀ i, i < l.length → atN l i ≤ 67108864 * i
  | 0, _ => by simp [atN]
  | i + 1, hi => by
    have h1 := atN_bd h i (by omega)
    have h2 := h.hyp hi
    rw [atN]; omega
theorem lenN_bd {l : List P2} (h : Lin l) : lenN l ≤ 4398046511104 := by
  unfold lenN
  rcases Nat.eq_zero_or_pos l.length with h0 | h0
  · rw [h0]; simp [atN]
  · have := atN_bd h (l.length - 1) (by omega)
    have := h.len
    omega
theorem plc_start {l : List P2} (h : Lin l) {i : Nat} (hi : i + 1 < l.length) : plc l i (atN l i) = gp l i := by
  have hh := h.hyp hi
  unfold plc
  rw [Int.sub_self, Int.mul_zero, Int.mul_zero, dvr_of_zero (by omega), Int.add_zero, Int.add_zero]
theorem plc_end {l : List P2} (h : Lin l) {i : Nat} (hi : i + 1 < l.length) : plc l i (atN l (i + 1)) = gp l (i + 1) := by
  have hh := h.hyp hi
  have e : ((atN l (i + 1) : Nat) : Int) - (atN l i : Nat) = (hypN (gp l i) (gp l (i + 1)) : Nat) := by rw [atN]; omega
  unfold plc
  rw [e, dvr_mul (by omega), dvr_mul (by omega)]
  refine Prod.ext ?_ ?_
  · dsimp only; omega
  · dsimp only; omega
theorem plc_bd {l : List P2} (h : Lin l) {i s : Nat} (hi : i + 1 < l.length) (h0 : atN l i ≤ s) (h1 : s ≤ atN l (i + 1)) :
    (-1152921504606846976 ≤ ((gp l (i + 1)).1 - (gp l i).1) * ((s : Int) - (atN l i : Nat)) ∧ ((gp l (i + 1)).1 - (gp l i).1) * ((s : Int) - (atN l i : Nat)) ≤ 1152921504606846976) ∧
    (-1152921504606846976 ≤ ((gp l (i + 1)).2 - (gp l i).2) * ((s : Int) - (atN l i : Nat)) ∧ ((gp l (i + 1)).2 - (gp l i).2) * ((s : Int) - (atN l i : Nat)) ≤ 1152921504606846976) ∧
    (-33554432 ≤ dvr (((gp l (i + 1)).1 - (gp l i).1) * ((s : Int) - (atN l i : Nat))) (hypN (gp l i) (gp l (i + 1)) : Nat) ∧ dvr (((gp l (i + 1)).1 - (gp l i).1) * ((s : Int) - (atN l i : Nat))) (hypN (gp l i) (gp l (i + 1)) : Nat) ≤ 33554432) ∧
    (-33554432 ≤ dvr (((gp l (i + 1)).2 - (gp l i).2) * ((s : Int) - (atN l i : Nat))) (hypN (gp l i) (gp l (i + 1)) : Nat) ∧ dvr (((gp l (i + 1)).2 - (gp l i).2) * ((s : Int) - (atN l i : Nat))) (hypN (gp l i) (gp l (i + 1)) : Nat) ≤ 33554432) := by
  have hh := h.hyp hi
  have ha := gp_in h.inb (show i < l.length by omega)
  have hb := gp_in h.inb hi
  unfold Inb at ha hb
  have e : atN l (i + 1) = atN l i + hypN (gp l i) (gp l (i + 1)) := rfl
  obtain ⟨H, hH⟩ : ∃ H, hypN (gp l i) (gp l (i + 1)) = H := ⟨_, rfl⟩
  rw [hH] at hh e ⊢
  obtain ⟨d, hd⟩ : ∃ d : Int, (s : Int) - (atN l i : Nat) = d := ⟨_, rfl⟩
  rw [hd]
  have d0 : 0 ≤ d ∧ d ≤ H := by omega
  obtain ⟨x, hx⟩ : ∃ x : Int, (gp l (i + 1)).1 - (gp l i).1 = x := ⟨_, rfl⟩
  obtain ⟨y, hy⟩ : ∃ y : Int, (gp l (i + 1)).2 - (gp l i).2 = y := ⟨_, rfl⟩
  rw [hx, hy]
  have m1 := mul_in (a := x) (b := d) (A := 33554432) (B := H) (by omega) (by omega) (by omega) (by omega)
  have m2 := mul_in (a := y) (b := d) (A := 33554432) (B := H) (by omega) (by omega) (by omega) (by omega)
  refine ⟨by omega, by omega, dvr_bd (by omega) (by omega) m1.1 m1.2, dvr_bd (by omega) (by omega) m2.1 m2.2⟩
theorem plc_in {l : List P2} (h : Lin l) {i s : Nat} (hi : i + 1 < l.length) (h0 : atN l i ≤ s) (h1 : s ≤ atN l (i + 1)) : Inb 50331648 (plc l i s) := by
  have hb := plc_bd h hi h0 h1
  have ha := gp_in h.inb (show i < l.length by omega)
  unfold Inb at ha ⊢
  unfold plc
  dsimp only
  omega

/-! parts -/
theorem addp_ne (l : List P2) (p : P2) : addp l p ≠ [] := by
  unfold addp
  split
  · next h => intro h0; rw [h0] at h; simp at h
  · simp
theorem addp_last (l : List P2) (p : P2) : (addp l p).getLast? = some p := by
  unfold addp
  split
  · assumption
  · simp
theorem addp_again (l : List P2) (p : P2) : addp (addp l p) p = addp l p := by
  rw [addp, if_pos (addp_last l p)]
theorem addp_len (l : List P2) (p : P2) : (addp l p).length ≤ l.length + 1 := by
  unfold addp
  split
  · omega
  · simp
/-- The part up to the beginning of the edge with the number i. -/
def pbg (l : List P2) (a b i : Nat) : List P2 := addp (pceN l a b i) (plc l i (max a (atN l i)))
theorem pceN_low {l : List P2} {a b e : Nat} (he : e + 1 < l.length) (ha : atN l e ≤ a) : ∀ i, i ≤ e → pceN l a b i = []
  | 0, _ => rfl
  | i + 1, hi => by
    rw [pceN, if_pos (Or.inl ⟨Nat.le_trans (atN_mono hi) ha, by omega⟩)]
    exact pceN_low he ha i (by omega)
theorem pbg_start {l : List P2} {a b e : Nat} (he : e + 1 < l.length) (ha : atN l e ≤ a) : pbg l a b e = [plc l e a] := by
  unfold pbg
  rw [pceN_low he ha e (Nat.le_refl _), Nat.max_eq_left ha]
  rfl
theorem pceN_go {l : List P2} {a b i : Nat} (ha : a < atN l (i + 1)) (hb : atN l i < b) : pceN l a b (i + 1) = addp (pbg l a b i) (plc l i (min b (atN l (i + 1)))) := by
  rw [pceN, if_neg (by omega)]
  rfl
theorem pbg_step {l : List P2} (h : Lin l) {a b i : Nat} (hi : i + 2 < l.length) (ha : a < atN l (i + 1)) (h0 : atN l i < b) (hb : atN l (i + 1) < b) : pbg l a b (i + 1) = addp (pbg l a b i) (gp l (i + 1)) := by
  rw [pbg, pceN_go ha h0, Nat.min_eq_right (by omega), Nat.max_eq_right (by omega), plc_end h (by omega), plc_start h hi, addp_again]
theorem pceN_high {l : List P2} {a b j : Nat} (hb : b ≤ atN l j) : ∀ d, pceN l a b (j + d) = pceN l a b j
  | 0 => rfl
  | d + 1 => by
    rw [← Nat.add_assoc, pceN, if_pos (Or.inr (Nat.le_trans hb (atN_le l j d))), pceN_high hb d]
theorem pce_end {l : List P2} {a b i : Nat} (hi : i + 1 < l.length) (ha : a < atN l (i + 1)) (h0 : atN l i < b) (hb : b ≤ atN l (i + 1)) : pce l a b = addp (pbg l a b i) (plc l i b) := by
  have e := pceN_high (a := a) hb (l.length - 1 - (i + 1))
  rw [show i + 1 + (l.length - 1 - (i + 1)) = l.length - 1 by omega] at e
  unfold pce
  rw [e, pceN_go ha h0, Nat.min_eq_left hb]
theorem pceN_len (l : List P2) (a b : Nat) : ∀ i, (pceN l a b i).length ≤ 2 * i
  | 0 => Nat.le_refl _
  | i + 1 => by
    have ih := pceN_len l a b i
    rw [pceN]
    split
    · omega
    · have h1 := addp_len (pceN l a b i) (plc l i (max a (atN l i)))
      have h2 := addp_len (addp (pceN l a b i) (plc l i (max a (atN l i)))) (plc l i (min b (atN l (i + 1))))
      omega
theorem pbg_len (l : List P2) (a b i : Nat) : (pbg l a b i).length ≤ 2 * i + 1 := by
  have h1 := pceN_len l a b i
  have h2 := addp_len (pceN l a b i) (plc l i (max a (atN l i)))
  unfold pbg
  omega

/-! the line of a polygon -/
theorem gp_app_l {a b : List P2} {i : Nat} (h : i < a.length) : gp (a ++ b) i = gp a i := by
  unfold gp
  rw [List.getD_eq_getElem?_getD, List.getD_eq_getElem?_getD, List.getElem?_append_left h]
theorem gp_app_r (a : List P2) (p : P2) : gp (a ++ [p]) a.length = p := by
  unfold gp
  rw [List.getD_eq_getElem?_getD, List.getElem?_append_right (Nat.le_refl _), Nat.sub_self]
  rfl
theorem dd_dif (l : List P2) : ∀ j, ∀ i, i + 1 < (ddN l j).length → gp (ddN l j) i ≠ gp (ddN l j) (i + 1)
  | 0, i, h => by simp [ddN] at h
  | j + 1, i, h => by
    have ih := dd_dif l j
    by_cases hd : ddN l j = [] ∨ (ddN l j).getLast? ≠ some (l.getD j (0, 0))
    · rw [dd_add hd] at h ⊢
      rw [List.length_append, List.length_singleton] at h
      rw [gp_app_l (show i < (ddN l j).length by omega)]
      by_cases hi : i + 1 < (ddN l j).length
      · rw [gp_app_l hi]
        exact ih i hi
      · have hi2 : i + 1 = (ddN l j).length := by omega
        rw [hi2, gp_app_r]
        rcases hd with hd | hd
        · rw [hd] at hi2; simp at hi2
        · rw [List.getLast?_eq_getElem?, ← hi2, Nat.add_sub_cancel, List.getElem?_eq_getElem (by omega)] at hd
          intro he
          apply hd
          rw [← he]
          unfold gp
          rw [List.getD_eq_getElem?_getD, List.getElem?_eq_getElem (by omega)]
          rfl
    · rw [dd_keep hd] at h ⊢
      exact ih i h
theorem trm_take (o : Bool) (l : List P2) : ∀ k, ∃ m, m ≤ k ∧ trm o l k = l.take m ∧ (0 < k → 0 < m) ∧ (o = false → 1 < m → l.getD (m - 1) (0, 0) ≠ l.getD 0 (0, 0))
  | 0 => ⟨0, Nat.le_refl _, rfl, id, fun _ h => absurd h (by omega)⟩
  | k + 1 => by
    rw [trm]
    split
    · next h =>
      obtain ⟨m, h1, h2, h3, h4⟩ := trm_take o l k
      exact ⟨m, by omega, h2, fun _ => h3 (by omega), h4⟩
    · next h => exact ⟨k + 1, Nat.le_refl _, rfl, id, fun ho hm he => h ⟨ho, hm, he⟩⟩
theorem lin_of {l : List P2} (h : AllB 16777216 l) (hl : l.length ≤ 65536) (o : Bool) : Lin (lin l o) := by
  obtain ⟨m, h1, h2, h3, h4⟩ := trm_take o (ddN l l.length) (ddN l l.length).length
  have hd := dd_dif l l.length
  have hr := red_in h o
  have hn := red_len l o
  have e : red l o = (ddN l l.length).take m := h2
  have hlen : (red l o).length = m := by rw [e, List.length_take]; omega
  have g : ∀ i, i < m → gp (red l o) i = gp (ddN l l.length) i := fun i hi => by
    unfold gp
    rw [e, List.getD_eq_getElem?_getD, List.getD_eq_getElem?_getD, List.getElem?_take_of_lt hi]
  unfold lin
  split
  · next hc =>
    obtain ⟨ho, hc⟩ := hc
    rw [hlen] at hc
    have ga : ∀ i, i < m → gp (red l o ++ [(red l o).getD 0 (0, 0)]) i = gp (ddN l l.length) i := fun i hi => by
      rw [← g i hi]
      unfold gp
      rw [List.getD_eq_getElem?_getD, List.getElem?_append_left (by omega), ← List.getD_eq_getElem?_getD]
    refine ⟨fun p hp => ?_, fun i hi => ?_, by rw [List.length_append, List.length_singleton]; omega⟩
    · rcases List.mem_append.1 hp with hp | hp
      · exact hr p hp
      · simp only [List.mem_singleton] at hp
        rw [hp]
        exact gp_in hr (by omega)
    · rw [List.length_append, List.length_singleton, hlen] at hi
      rw [ga i (by omega)]
      by_cases hi2 : i + 1 < m
      · rw [ga (i + 1) hi2]
        exact hd i (by omega)
      · obtain rfl : m = i + 1 := by omega
        have e2 : gp (red l o ++ [(red l o).getD 0 (0, 0)]) (i + 1) = gp (ddN l l.length) 0 := by
          rw [← g 0 (by omega)]
          unfold gp
          rw [List.getD_eq_getElem?_getD, List.getElem?_append_right (by omega), hlen, Nat.sub_self]
          rfl
        rw [e2]
        have := h4 ho hc
        rwa [Nat.add_sub_cancel] at this
  · refine ⟨hr, fun i hi => ?_, by omega⟩
    rw [hlen] at hi
    rw [g i (by omega), g (i + 1) hi]
    exact hd i (by omega)

/-! offsets that differ by whole double rounds -/
theorem dsh_rounds {p : List Nat} (hp : PatB p) (L : List (List P2)) (l : List P2) (o q : Nat) : dsh L l p (o + 2 * q * psS p) = dsh L l p o := by
  have e : ∀ s, nxt l p (o + 2 * q * psS p) s = nxt l p o s ∧ onB p (o + 2 * q * psS p + s) = onB p (o + s) := fun s => by
    have h := onB_rounds hp (o + s) q
    rw [show o + 2 * q * psS p + s = o + s + 2 * q * psS p by omega]
    unfold nxt
    rw [show o + 2 * q * psS p + s = o + s + 2 * q * psS p by omega, h.1, h.2]
    exact ⟨rfl, rfl⟩
  have f : ∀ k, itr l p (o + 2 * q * psS p) L k = itr l p o L k := fun k => by
    induction k with
    | zero => rfl
    | succ k ih =>
      rw [itr, itr, ih]
      unfold stp
      rw [(e _).1, (e _).2]
  unfold dsh
  rw [f]
theorem itr_le {l : List P2} {p : List Nat} (hp : PatB p) {o : Nat} {L : List (List P2)} : ∀ k, (itr l p o L k).1 ≤ lenN l ∧ ((itr l p o L k).1 < lenN l → ptsN (itr l p o L k).2 ≤ 4096 → k ≤ (itr l p o L k).1)
  | 0 => ⟨Nat.zero_le _, fun _ _ => Nat.zero_le _⟩
  | k + 1 => by
    obtain ⟨h1, h2⟩ := itr_le (l := l) hp (o := o) (L := L) k
    rw [itr, stp]
    split
    · next h =>
      have := nxt_gt hp l o _ h.1
      exact ⟨this.2, fun _ _ => by have := h2 h.1 h.2; dsimp only; omega⟩
    · next h => exact ⟨h1, fun a b => absurd ⟨a, b⟩ h⟩
end Go.Proofs.YtflopcogalknhaaDoor.Str
