/-
  Layer 21: bounds of what a polygon's stroke holds; the row of its edges.
-/
import Derived.Test.YtflopcogalknhaaDoorKStrEs
set_option linter.unusedVariables false
set_option linter.unusedSimpArgs false
namespace Go.Proofs.YtflopcogalknhaaDoor.Str
open Go.RowKit Go.Proofs.YtflopcogalknhaaDoor Go.Proofs.YtflopcogalknhaaDoor.NumPure

/-! bounds -/
theorem crn_bd (wd j : Int) (L : List (List P2)) (a c b : P2) : (crn wd j L a c b).length ≤ L.length + 3 ∧ (GL L → GL (crn wd j L a c b)) := by
  unfold crn
  split
  · exact ⟨by have := put_len L (crc wd c); omega, fun h => h.put (by rw [crc_len]; omega) (by rw [crc_len]; omega)⟩
  · obtain ⟨X, hX⟩ : ∃ X, put L (tri c (nrm wd a c) (nrm wd c b) true) = X := ⟨_, rfl⟩
    obtain ⟨Y, hY⟩ : ∃ Y, put X (tri c (nrm wd a c) (nrm wd c b) false) = Y := ⟨_, rfl⟩
    have e1 := put_len L (tri c (nrm wd a c) (nrm wd c b) true)
    have e2 := put_len X (tri c (nrm wd a c) (nrm wd c b) false)
    have g2 : GL L → GL Y := fun h => by
      have h1 : GL X := by rw [← hX]; exact h.put (by rw [tri_len]; omega) (by rw [tri_len]; omega)
      rw [← hY]
      exact h1.put (by rw [tri_len]; omega) (by rw [tri_len]; omega)
    rw [hX] at e1 ⊢
    rw [hY] at e2 ⊢
    dsimp only
    split
    · exact ⟨by omega, g2⟩
    · split
      · exact ⟨by omega, g2⟩
      · refine ⟨?_, fun h => (g2 h).put (by rw [mitre_len]; omega) (by rw [mitre_len]; omega)⟩
        have := put_len Y (mitre c (nrm wd a c) (tV wd (nrm wd a c) (nrm wd c b)) (nrm wd c b) (decide (0 < zV a c b)))
        omega
theorem edgL_bd (wd : Int) (l : List P2) (L : List (List P2)) : ∀ n, (edgL wd l L n).length ≤ L.length + n ∧ (GL L → GL (edgL wd l L n))
  | 0 => ⟨Nat.le_refl _, id⟩
  | n + 1 => by
    obtain ⟨h1, h2⟩ := edgL_bd wd l L n
    rw [edgL]
    refine ⟨?_, fun h => (h2 h).put (l := quad (nx l n) (nx l (n + 1)) (nrm wd (nx l n) (nx l (n + 1)))) (show 3 ≤ 4 by omega) (show 4 ≤ 16 by omega)⟩
    have := put_len (edgL wd l L n) (quad (nx l n) (nx l (n + 1)) (nrm wd (nx l n) (nx l (n + 1))))
    omega
theorem crnL_bd (wd j : Int) (o : Bool) (l : List P2) (L : List (List P2)) : ∀ n, (crnL wd j o l L n).length ≤ L.length + 3 * n ∧ (GL L → GL (crnL wd j o l L n))
  | 0 => ⟨Nat.le_refl _, id⟩
  | n + 1 => by
    obtain ⟨h1, h2⟩ := crnL_bd wd j o l L n
    rw [crnL]
    split
    · obtain ⟨h3, h4⟩ := crn_bd wd j (crnL wd j o l L n) (nx l (n + l.length - 1)) (nx l n) (nx l (n + 1))
      exact ⟨by omega, fun h => h4 (h2 h)⟩
    · exact ⟨by omega, h2⟩
theorem sng_bd (wd e : Int) (L : List (List P2)) (c : P2) : (sng wd e L c).length ≤ L.length + 1 ∧ (GL L → GL (sng wd e L c)) := by
  unfold sng
  split
  · exact ⟨put_len _ _, fun h => h.put (by rw [crc_len]; omega) (by rw [crc_len]; omega)⟩
  · split
    · exact ⟨put_len _ _, fun h => h.put (l := sngB (dvr wd 2) c) (show 3 ≤ 4 by omega) (show 4 ≤ 16 by omega)⟩
    · exact ⟨by omega, id⟩
theorem cap_bd (wd e : Int) (L : List (List P2)) (a s r b : P2) : (cap wd e L a s r b).length ≤ L.length + 2 ∧ (GL L → GL (cap wd e L a s r b)) := by
  unfold cap
  split
  · refine ⟨?_, fun h => (h.put (by rw [crc_len]; omega) (by rw [crc_len]; omega)).put (by rw [crc_len]; omega) (by rw [crc_len]; omega)⟩
    have h1 := put_len L (crc wd a)
    have h2 := put_len (put L (crc wd a)) (crc wd b)
    omega
  · split
    · refine ⟨?_, fun h => (h.put (l := capA a (nrm wd a s) (ext wd a s)) (show 3 ≤ 4 by omega) (show 4 ≤ 16 by omega)).put (l := capB b (nrm wd r b) (ext wd r b)) (show 3 ≤ 4 by omega) (show 4 ≤ 16 by omega)⟩
      have h1 := put_len L (capA a (nrm wd a s) (ext wd a s))
      have h2 := put_len (put L (capA a (nrm wd a s) (ext wd a s))) (capB b (nrm wd r b) (ext wd r b))
      omega
    · exact ⟨by omega, id⟩
theorem nEdg_le (o : Bool) (n : Nat) : nEdg o n ≤ n := by unfold nEdg; split <;> omega
theorem one_bd (wd j e : Int) (o : Bool) (L : List (List P2)) (l : List P2) : (one wd j e o L l).length ≤ L.length + 4 * l.length + 2 ∧ (GL L → GL (one wd j e o L l)) := by
  unfold one
  split
  · exact ⟨by omega, id⟩
  · split
    · obtain ⟨h1, h2⟩ := sng_bd wd e L (nx l 0)
      exact ⟨by omega, h2⟩
    · obtain ⟨h1, h2⟩ := edgL_bd wd l L (nEdg o l.length)
      obtain ⟨h3, h4⟩ := crnL_bd wd j o l (edgL wd l L (nEdg o l.length)) l.length
      have h5 := nEdg_le o l.length
      dsimp only
      split
      · obtain ⟨h6, h7⟩ := cap_bd wd e (crnL wd j o l (edgL wd l L (nEdg o l.length)) l.length) (nx l 0) (nx l 1) (nx l (l.length - 2)) (nx l (l.length - 1))
        exact ⟨by omega, fun h => h7 (h4 (h2 h))⟩
      · exact ⟨by omega, fun h => h4 (h2 h)⟩

/-! the row of edges -/
/-- A block that begins with these cells. -/
def EdB (W : World) (g : Nat) (t : TypeId) (xs : List Value) : Prop := ∃ c : Array Value, Blk W g t c ∧ ∀ (j : Nat) (u : Value), xs[j]? = some u → c[j]? = some u
theorem EdB.tch {M : List Nat} {W W' : World} {g : Nat} {t : TypeId} {xs : List Value} (h : EdB W g t xs) (ht : Tch M W W') (hg : g ∉ M) : EdB W' g t xs := by
  obtain ⟨c, h1, h2⟩ := h
  exact ⟨c, ht.blk h1 hg, h2⟩
theorem EdB.below {W W' : World} {g : Nat} {t : TypeId} {xs : List Value} (h : EdB W g t xs) (hb : Below W.heap.size W W') : EdB W' g t xs := by
  obtain ⟨c, h1, h2⟩ := h
  exact ⟨c, h1.below hb h1.lt, h2⟩
theorem EdB.lt {W : World} {g : Nat} {t : TypeId} {xs : List Value} (h : EdB W g t xs) : g < W.heap.size := by
  obtain ⟨c, h1, h2⟩ := h
  exact h1.lt
theorem EdB.of_own {W : World} {base n sz : Nat} {t : TypeId} {v : Value} {xs : List Value} (h : W.ownsRow base t sz v n xs) (hn : 0 < n) : ∃ g cap, v = .slice (some ⟨g, 0, none⟩) n cap ∧ base ≤ g ∧ EdB W g t xs := by
  rcases h.2 with ⟨_, h0⟩ | ⟨g, cap, cur, hv, hb, hg, _, _, _, hx⟩
  · omega
  · refine ⟨g, cap, hv, hb, cur, hg, fun j u hu => ?_⟩
    rw [← hx, List.getElem?_take] at hu
    split at hu
    · rwa [Array.getElem?_toList] at hu
    · simp at hu
theorem EdB.range {W : World} {g n i : Nat} {wd : Int} {l : List P2} (h : EdB W g 65 (edV wd l n)) (hi : i < n) : W.rangeAt g (i * 10) (edc wd (nx l i) (nx l (i + 1))).toList := fun j v hv => by
  obtain ⟨c, h1, h2⟩ := h
  have hj : j < 10 := by
    have h3 : (edc wd (nx l i) (nx l (i + 1))).toList.length = 10 := rfl
    have h4 := (List.getElem?_eq_some_iff.1 hv).1
    omega
  exact (h1.cell _).trans (h2 _ _ ((edV_at wd l n i j hi hj).trans hv))
theorem edc_len (wd : Int) (a b : P2) : (Tryd.prog.info? 65).map (·.size) = some (edc wd a b).toList.length := infoE (edc wd a b) rfl
end Go.Proofs.YtflopcogalknhaaDoor.Str
