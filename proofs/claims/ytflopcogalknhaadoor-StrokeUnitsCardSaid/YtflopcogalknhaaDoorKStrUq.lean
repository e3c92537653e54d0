/-
  Layer 21, plain: the dashes of a horizontal line.
-/
import Derived.Test.YtflopcogalknhaaDoorKStrUp
set_option linter.unusedVariables false
set_option linter.unusedSimpArgs false
namespace Go.Proofs.YtflopcogalknhaaDoor.Str
open Go.RowKit Go.Proofs.YtflopcogalknhaaDoor Go.Proofs.YtflopcogalknhaaDoor.NumPure

theorem dsh_at {L : List (List P2)} {l : List P2} {p : List Nat} {o m : Nat} (h : lenN l = m) : dsh L l p o = (itr l p o L m).2 := by
  subst h
  rfl
theorem itr_at {L : List (List P2)} {l : List P2} {p : List Nat} (hp : PatB p) {o m : Nat} (h : lenN l = m) (k : Nat) : (itr l p o L k).1 < m → ptsN (itr l p o L k).2 ≤ 4096 → k ≤ (itr l p o L k).1 := by
  subst h
  exact (itr_le hp k).2
theorem unit_d2 {p : List Nat} {n o : Nat} (h2 : n ≤ 4000) (x : Nat × List (List P2)) (hu : x.1 ≤ n ∧ ∃ S : List (Nat × Nat), x.2 = S.map sg ∧ InvS p o n x.1 S) (hle : x.1 < n → ptsN x.2 ≤ 4096 → n ≤ x.1) : ∃ S : List (Nat × Nat), x.2 = S.map sg ∧ InvS p o n n S := by
  obtain ⟨s, L⟩ := x
  obtain ⟨hs, S, hS, hi⟩ := hu
  dsimp only at hs hS hi hle ⊢
  rw [hS, ptsN_sg] at hle
  have hc := hi.cnt
  have e : s = n := by
    rcases Nat.lt_or_ge s n with h | h
    · have := hle h (by omega)
      omega
    · omega
  rw [e] at hi
  exact ⟨S, hS, hi⟩
/-- The dashes of a horizontal line. -/
theorem unit_dsh {p : List Nat} (hp : PatB p) {n : Nat} (h1 : 1 ≤ n) (h2 : n ≤ 4000) (o : Nat) : ∃ S : List (Nat × Nat), dsh [] [(0, 0), ((n : Int), 0)] p o = S.map sg ∧ InvS p o n n S := by
  obtain ⟨S, hS, hi⟩ := unit_d2 h2 _ (unit_itr hp h1 h2 o n) (itr_at hp (unit_len h1 h2) n)
  exact ⟨S, (dsh_at (unit_len h1 h2)).trans hS, hi⟩
theorem unit_dasF {q : List Int} {z : Int} {n : Nat} (h1 : 1 ≤ n) (h2 : n ≤ 4000) (he : ptnE q z = 0) : ∃ (p : List Nat) (o : Nat) (S : List (Nat × Nat)), q = p.map Int.ofNat ∧ z = (o : Int) ∧ o ≤ 1048576 ∧ PatB p ∧ dasF [[(0, 0), ((n : Int), 0)]] [true] q z = (0, S.map sg) ∧ InvS p o n n S := by
  obtain ⟨p, o, hq, hz, ho, hp⟩ := ptn_ok he
  obtain ⟨S, hS, hi⟩ := unit_dsh hp h1 h2 o
  have hin : AllB 16777216 [(0, 0), ((n : Int), 0)] := (unit_lin h1 h2).inb
  refine ⟨p, o, S, hq, hz, ho, hp, ?_, hi⟩
  have hc : covE [[(0, 0), ((n : Int), 0)]] = 0 := by
    rw [covE_ok (fun l hl => by simp only [List.mem_singleton] at hl; rw [hl]; exact hin)]
    rfl
  have hr : runD [[(0, 0), ((n : Int), 0)]] [true] (q.map Int.toNat) z.toNat 1 = some (S.map sg) := by
    have e : runD [[(0, 0), ((n : Int), 0)]] [true] (q.map Int.toNat) z.toNat 1 = if 4096 < ptsN (dsh [] (lin [(0, 0), ((n : Int), 0)] true) (q.map Int.toNat) z.toNat) then none else some (dsh [] (lin [(0, 0), ((n : Int), 0)] true) (q.map Int.toNat) z.toNat) := rfl
    have hm : q.map Int.toNat = p := by
      rw [hq, List.map_map]
      conv => rhs; rw [← List.map_id p]
      apply List.map_congr_left
      intro m _
      rfl
    have hcn := hi.cnt
    rw [e, hm, hz, Int.toNat_natCast, lin_two (fun h => by injection h with h _; omega), hS, ptsN_sg, if_neg (by omega)]
  unfold dasF
  rw [he, hc, if_neg (fun h => h rfl), if_neg (fun h => h rfl), if_neg (fun h => h rfl)]
  show (match runD [[(0, 0), ((n : Int), 0)]] [true] (q.map Int.toNat) z.toNat 1 with | none => ((3 : Int), []) | some L => (0, L)) = _
  rw [hr]
/-- Whether one of the first k dashes holds a place. -/
def fnS (S : List (Nat × Nat)) (t k : Nat) : Bool := (S.take k).any fun x => decide (x.1 ≤ t) && decide (t < x.2)
theorem fnS_step {S : List (Nat × Nat)} {t k : Nat} (h : k < S.length) : fnS S t (k + 1) = (fnS S t k || (decide ((S.getD k (0, 0)).1 ≤ t) && decide (t < (S.getD k (0, 0)).2))) := by
  unfold fnS
  rw [List.take_succ_eq_append_getElem h, List.any_append, List.getD_eq_getElem?_getD, List.getElem?_eq_getElem h]
  simp
theorem fnS_all {p : List Nat} {o n : Nat} {S : List (Nat × Nat)} (h : InvS p o n n S) {t : Nat} (ht : t < n) : fnS S t S.length = onB p (o + t) := by
  unfold fnS
  rw [List.take_length, Bool.eq_iff_iff, h.cov t ht, List.any_eq_true]
  simp

end Go.Proofs.YtflopcogalknhaaDoor.Str
