/-
  Layer 21, plain: the dashes of a horizontal line; the outline of a straight edge.
-/
import Derived.Test.YtflopcogalknhaaDoorKStrMv
set_option linter.unusedVariables false
set_option linter.unusedSimpArgs false
namespace Go.Proofs.YtflopcogalknhaaDoor.Str
open Go.RowKit Go.Proofs.YtflopcogalknhaaDoor Go.Proofs.YtflopcogalknhaaDoor.NumPure

theorem hyp_x {x : Int} (h0 : 0 ≤ x) (h1 : x ≤ 4611686018427387904) : Num.hypU x 0 = x := by
  have h2 := hyp_ge (x := x) (y := 0) (by omega) (by omega)
  have h3 := hyp_le (x := x) (y := 0) (by omega) (by omega)
  omega
theorem hyp_y {x : Int} (h0 : 0 ≤ x) (h1 : x ≤ 4611686018427387904) : Num.hypU 0 x = x := by
  have h2 := hyp_ge (x := 0) (y := x) (by omega) (by omega)
  have h3 := hyp_le (x := 0) (y := x) (by omega) (by omega)
  omega
theorem red_two {a b : P2} (h : a ≠ b) : red [a, b] true = [a, b] := by
  have e1 : ddN [a, b] 1 = [a] := by rw [ddN, if_pos (Or.inl (show ddN [a, b] 0 = [] from rfl))]; rfl
  have e2 : ddN [a, b] 2 = [a, b] := by
    rw [ddN, e1, if_pos (Or.inr (by show ([a] : List P2).getLast? ≠ some b; simp; exact h))]
    rfl
  have e3 : red [a, b] true = trm true (ddN [a, b] 2) (ddN [a, b] 2).length := rfl
  rw [e3, e2]
  show trm true [a, b] 2 = [a, b]
  rw [trm, if_neg (fun h => by have := h.1; cases this)]
  rfl
theorem lin_two {a b : P2} (h : a ≠ b) : lin [a, b] true = [a, b] := by
  unfold lin
  rw [if_neg (fun h => by have := h.1; cases this), red_two h]

/-! dashes -/
section
variable {n : Nat} (h1 : 1 ≤ n) (h2 : n ≤ 4000)
include h1 h2
theorem unit_lin : Lin [(0, 0), ((n : Int), 0)] := by
  have := lin_of (l := [(0, 0), ((n : Int), 0)]) (.cons ⟨⟨by dsimp only; omega, by dsimp only; omega⟩, by dsimp only; omega, by dsimp only; omega⟩ (.cons ⟨⟨by dsimp only; omega, by dsimp only; omega⟩, by dsimp only; omega, by dsimp only; omega⟩ (.nil _))) (by simp) true
  rwa [lin_two (fun h => by injection h with h _; omega)] at this
theorem unit_hyp : hypN (0, 0) ((n : Int), 0) = n := by
  unfold hypN
  dsimp only
  rw [Int.sub_zero, Int.sub_zero, hyp_x (by omega) (by omega)]
  omega
theorem unit_at : atN [(0, 0), ((n : Int), 0)] 1 = n := by
  show 0 + hypN (0, 0) ((n : Int), 0) = n
  rw [unit_hyp h1 h2, Nat.zero_add]
theorem unit_len : lenN [(0, 0), ((n : Int), 0)] = n := unit_at h1 h2
theorem unit_plc (s : Nat) : plc [(0, 0), ((n : Int), 0)] 0 s = ((s : Int), 0) := by
  have e : plc [(0, 0), ((n : Int), 0)] 0 s = (0 + dvr (((n : Int) - 0) * ((s : Int) - (0 : Nat))) (hypN (0, 0) ((n : Int), 0) : Nat), 0 + dvr (((0 : Int) - 0) * ((s : Int) - (0 : Nat))) (hypN (0, 0) ((n : Int), 0) : Nat)) := rfl
  rw [e, unit_hyp h1 h2, Int.sub_zero, Int.natCast_zero, Int.sub_zero, Int.mul_comm, dvr_mul (by omega), Int.sub_self, Int.zero_mul, dvr_of_zero (by omega), Int.zero_add, Int.zero_add]
theorem unit_pce {a b : Nat} (ha : a < b) (hb : b ≤ n) : pce [(0, 0), ((n : Int), 0)] a b = [((a : Int), 0), ((b : Int), 0)] := by
  have hat := unit_at h1 h2
  rw [pce_end (i := 0) (by simp) (by rw [Nat.zero_add, hat]; omega) (by show 0 < b; omega) (by rw [Nat.zero_add, hat]; exact hb), pbg_start (by simp) (Nat.zero_le _), unit_plc h1 h2, unit_plc h1 h2]
  unfold addp
  rw [if_neg (fun h => by simp at h; omega)]
  rfl
end
/-- A dash from x to y. -/
def sg (x : Nat × Nat) : List P2 := [((x.1 : Int), 0), ((x.2 : Int), 0)]
/-- Where the dash ahead of the one with the number i ends. -/
def atS (S : List (Nat × Nat)) : Nat → Nat
  | 0 => 0
  | i + 1 => (S.getD i (0, 0)).2
structure InvS (p : List Nat) (o n s : Nat) (S : List (Nat × Nat)) : Prop where
  ord : ∀ i, i < S.length → atS S i ≤ (S.getD i (0, 0)).1 ∧ (S.getD i (0, 0)).1 < (S.getD i (0, 0)).2 ∧ (S.getD i (0, 0)).2 ≤ s
  cov : ∀ t, t < s → (onB p (o + t) = true ↔ ∃ x ∈ S, x.1 ≤ t ∧ t < x.2)
  cnt : 2 * S.length ≤ s + 1
  nxt : s < n → onB p (o + s) = true → 2 * S.length ≤ s
theorem ptsN_sg (S : List (Nat × Nat)) : ptsN (S.map sg) = 2 * S.length := by
  induction S with
  | nil => rfl
  | cons a r ih =>
    have e : ptsN ((a :: r).map sg) = 2 + ptsN (r.map sg) := by simp [ptsN, sg]
    rw [e, ih, List.length_cons]
    omega
theorem getD_snoc {S : List (Nat × Nat)} {x : Nat × Nat} {i : Nat} (h : i < S.length) : (S ++ [x]).getD i (0, 0) = S.getD i (0, 0) := by
  rw [List.getD_eq_getElem?_getD, List.getD_eq_getElem?_getD, List.getElem?_append_left h]
theorem getD_snoc2 (S : List (Nat × Nat)) (x : Nat × Nat) : (S ++ [x]).getD S.length (0, 0) = x := by
  rw [List.getD_eq_getElem?_getD, List.getElem?_append_right (Nat.le_refl _), Nat.sub_self]
  rfl
theorem atS_snoc {S : List (Nat × Nat)} {x : Nat × Nat} : ∀ {i : Nat}, i ≤ S.length → atS (S ++ [x]) i = atS S i
  | 0, _ => rfl
  | i + 1, h => by rw [atS, atS, getD_snoc (by omega)]
theorem on_same {p : List Nat} (hp : PatB p) {x y : Nat} (h0 : x ≤ y) (h1 : y < x + lft p x) : onB p y = onB p x := by
  obtain ⟨k1, k2⟩ := idx_spec hp x
  unfold lft at h1
  have e := idx_is hp (x := y) (m := idx p x) (by omega) (by omega)
  unfold onB
  rw [e]
theorem on_next {p : List Nat} (hp : PatB p) (x : Nat) : onB p (x + lft p x) = !onB p x := by
  obtain ⟨k1, k2⟩ := idx_spec hp x
  have hlt := psN_lt hp (idx p x + 1)
  have e0 : x + lft p x = psN p (idx p x + 1) := by unfold lft; omega
  have e := idx_is hp (x := x + lft p x) (m := idx p x + 1) (by omega) (by omega)
  unfold onB
  rw [e]
  by_cases h : idx p x % 2 = 0
  · rw [decide_eq_true h, decide_eq_false (by omega)]; rfl
  · rw [decide_eq_false h, decide_eq_true (by omega)]; rfl
theorem InvS.start (p : List Nat) (o n : Nat) : InvS p o n 0 [] :=
  ⟨fun i h => absurd h (by simp), fun t h => absurd h (by omega), by simp, fun _ _ => by simp⟩
theorem InvS.step {p : List Nat} (hp : PatB p) {o n s : Nat} {S : List (Nat × Nat)} (h : InvS p o n s S) (hs : s < n) :
    InvS p o n (min (s + lft p (o + s)) n) (if onB p (o + s) = true then S ++ [(s, min (s + lft p (o + s)) n)] else S) := by
  have hl := lft_pos hp (o + s)
  obtain ⟨e, he⟩ : ∃ e, min (s + lft p (o + s)) n = e := ⟨_, rfl⟩
  rw [he]
  have hse : s < e ∧ e ≤ n := by omega
  have hon : ∀ t, s ≤ t → t < e → onB p (o + t) = onB p (o + s) := fun t a b => on_same hp (by omega) (by omega)
  have hnx : e < n → onB p (o + e) = !onB p (o + s) := fun a => by
    have := on_next hp (o + s)
    rwa [show o + s + lft p (o + s) = o + e by omega] at this
  by_cases hb : onB p (o + s) = true
  · rw [if_pos hb]
    have hc := h.nxt hs hb
    refine ⟨fun i hi => ?_, fun t ht => ?_, ?_, fun a b => ?_⟩
    · rw [List.length_append, List.length_singleton] at hi
      rw [atS_snoc (by omega)]
      by_cases hlt : i < S.length
      · rw [getD_snoc hlt]
        have := h.ord i hlt
        omega
      · obtain rfl : i = S.length := by omega
        rw [getD_snoc2]
        dsimp only
        refine ⟨?_, hse.1, Nat.le_refl _⟩
        rcases Nat.eq_zero_or_pos S.length with h0 | h0
        · rw [h0]; exact Nat.zero_le _
        · obtain ⟨k, hk⟩ : ∃ k, S.length = k + 1 := ⟨S.length - 1, by omega⟩
          rw [hk, atS]
          exact (h.ord k (by omega)).2.2
    · by_cases hts : t < s
      · rw [h.cov t hts]
        constructor
        · rintro ⟨x, hx, h3⟩
          exact ⟨x, List.mem_append_left _ hx, h3⟩
        · rintro ⟨x, hx, h3⟩
          rcases List.mem_append.1 hx with hx | hx
          · exact ⟨x, hx, h3⟩
          · simp only [List.mem_singleton] at hx
            rw [hx] at h3
            dsimp only at h3
            omega
      · rw [hon t (by omega) ht]
        exact ⟨fun _ => ⟨(s, e), by simp, by dsimp only; omega, ht⟩, fun _ => hb⟩
    · rw [List.length_append, List.length_singleton]; omega
    · rw [hnx a, hb] at b
      cases b
  · rw [if_neg hb]
    refine ⟨fun i hi => ?_, fun t ht => ?_, ?_, fun a b => ?_⟩
    · have := h.ord i hi
      omega
    · by_cases hts : t < s
      · exact h.cov t hts
      · rw [hon t (by omega) ht]
        refine ⟨fun h3 => absurd h3 hb, ?_⟩
        rintro ⟨x, hx, h3⟩
        obtain ⟨i, hi, rfl⟩ := List.getElem_of_mem hx
        have := h.ord i hi
        rw [List.getD_eq_getElem?_getD, List.getElem?_eq_getElem hi] at this
        simp only [Option.getD_some] at this
        omega
    · have := h.cnt; omega
    · have := h.cnt; omega
theorem unit_itr {p : List Nat} (hp : PatB p) {n : Nat} (h1 : 1 ≤ n) (h2 : n ≤ 4000) (o : Nat) : ∀ k, (itr [(0, 0), ((n : Int), 0)] p o [] k).1 ≤ n ∧ ∃ S : List (Nat × Nat), (itr [(0, 0), ((n : Int), 0)] p o [] k).2 = S.map sg ∧ InvS p o n (itr [(0, 0), ((n : Int), 0)] p o [] k).1 S
  | 0 => ⟨Nat.zero_le _, [], rfl, InvS.start p o n⟩
  | k + 1 => by
    obtain ⟨hs, S, hS, hi⟩ := unit_itr hp h1 h2 o k
    have hln := unit_len h1 h2
    obtain ⟨⟨s, L⟩, hx⟩ : ∃ x, itr [(0, 0), ((n : Int), 0)] p o [] k = x := ⟨_, rfl⟩
    rw [hx] at hs hS hi
    dsimp only at hs hS hi
    subst hS
    have hc := hi.cnt
    rw [itr, hx, stp]
    dsimp only
    rw [hln, ptsN_sg]
    by_cases hlt : s < n
    · rw [if_pos ⟨hlt, by omega⟩]
      have hst := hi.step hp hlt
      have hlf := lft_pos hp (o + s)
      have he : nxt [(0, 0), ((n : Int), 0)] p o s = min (s + lft p (o + s)) n := by unfold nxt; rw [hln]
      rw [he]
      dsimp only
      refine ⟨by omega, _, ?_, hst⟩
      by_cases hb : onB p (o + s) = true
      · rw [if_pos hb, if_pos hb, unit_pce h1 h2 (by omega) (by omega)]
        unfold addD
        rw [if_pos (by simp), List.map_append]
        rfl
      · rw [if_neg hb, if_neg hb]
    · rw [if_neg (fun h => hlt h.1)]
      exact ⟨hs, S, rfl, hi⟩
end Go.Proofs.YtflopcogalknhaaDoor.Str
