/-
  Layer 44: what appending answers, by cases.
-/
import Derived.Test.YtelacdaehmfcaaaJouC3
namespace Go.Proofs.Ytelacdaehmfcaaa.JouC
open Go.RowKit Go.Proofs.Ytelacdaehmfcaaa Go.Proofs.Ytelacdaehmfcaaa.WirePure Go.Proofs.Ytelacdaehmfcaaa.DigPure Go.Proofs.Ytelacdaehmfcaaa.JouPure

theorem scanL_len (f : Nat) : ∀ (s : List UInt8) (q : Nat), (scanL f s q).1.length ≤ f := by
  induction f with
  | zero => intro s q; simp [scanL]
  | succ f ih =>
    intro s q
    rw [scanL]
    split
    · simp
    · split
      · simp
      · simp only [List.length_cons]
        have := ih (s.drop (recR s q).2.1) (q + 1)
        omega
theorem scanJ_len (j : List UInt8) : (scanJ j).2.1.length ≤ j.length := by
  unfold scanJ
  split
  · simp
  · simp only
    unfold scanR
    refine Nat.le_trans (scanL_len (j.drop (headS j).2.1).length (j.drop (headS j).2.1) 1) ?_
    rw [List.length_drop]
    omega
theorem encR_len (k q : Int) (d : List UInt8) : (encR k q d).1.length ≤ 1048600 := by
  by_cases h1 : k < 1 ∨ 6 < k
  · unfold encR; rw [if_pos h1]; simp
  · by_cases h2 : q < 1 ∨ 1073741824 < q
    · unfold encR; rw [if_neg h1, if_pos h2]; simp
    · rw [encR_fr k q d h1 h2]; exact frR_len _
theorem app_len (j : List UInt8) (k q : Int) (d : List UInt8) : (appJ j k q d).1.length ≤ j.length + 1048600 := by
  unfold appJ
  have := encR_len k q d
  split
  · simp
  · split
    · simp
    · split
      · simp
      · split
        · simp
        · simp only [List.length_append]; omega
theorem app_cases (j : List UInt8) (k q : Int) (d : List UInt8) (g m : Nat) (l : List (Nat × List UInt8)) (x y : Int) (eb : List UInt8) (h : scanJ j = (g, l, m, x)) (he : encR k q d = (eb, y)) :
    (x ≠ 0 ∧ appJ j k q d = ([], x)) ∨ (x = 0 ∧ q ≠ l.length + 1 ∧ appJ j k q d = ([], 24)) ∨ (x = 0 ∧ q = l.length + 1 ∧ y ≠ 0 ∧ appJ j k q d = ([], y)) ∨
    (x = 0 ∧ q = l.length + 1 ∧ y = 0 ∧ 1048576 < j.length + eb.length ∧ appJ j k q d = ([], 22)) ∨ (x = 0 ∧ q = l.length + 1 ∧ y = 0 ∧ j.length + eb.length ≤ 1048576 ∧ appJ j k q d = (j ++ eb, 0)) := by
  unfold appJ
  rw [h, he]
  simp only
  by_cases h1 : x = 0
  · rw [if_neg (by simpa using h1)]
    by_cases h2 : q = l.length + 1
    · rw [if_neg (by simpa using h2)]
      by_cases h3 : y = 0
      · rw [if_neg (by simpa using h3)]
        by_cases h4 : 1048576 < j.length + eb.length
        · exact .inr (.inr (.inr (.inl ⟨h1, h2, h3, h4, if_pos h4⟩)))
        · exact .inr (.inr (.inr (.inr ⟨h1, h2, h3, by omega, if_neg h4⟩)))
      · exact .inr (.inr (.inl ⟨h1, h2, h3, if_pos h3⟩))
    · exact .inr (.inl ⟨h1, h2, if_pos h2⟩)
  · exact .inl ⟨h1, if_pos h1⟩
theorem SP_of {J : Nat × List (Nat × List UInt8) × Nat × Int} {g m : Nat} {l : List (Nat × List UInt8)} {x : Int} (h : J = (g, l, m, x)) {w : World} {e : Ending} {w' : World} (hs : SP J w e w') :
    ∃ A c, e = .returned (.tuple #[.int .i64 (g : Nat), .slice A l.length c, .int .i64 (m : Nat), .int .i64 x]) ∧ w'.ownsRow w.heap.size 23 3 (.slice A l.length c) l.length (rcs 1 l) ∧ Below w.heap.size w w' := by
  subst h
  obtain ⟨v, rfl, hown, hb⟩ := hs
  obtain ⟨A, c, rfl⟩ := own_form hown
  exact ⟨A, c, rfl, hown, hb⟩

end Go.Proofs.Ytelacdaehmfcaaa.JouC
