/-
  Layer 44: what is still to come of a scan.
-/
import Derived.Test.YtelacdaehmfcaaaJouC2
namespace Go.Proofs.Ytelacdaehmfcaaa.JouC
open Go.RowKit Go.Proofs.Ytelacdaehmfcaaa Go.Proofs.Ytelacdaehmfcaaa.WirePure Go.Proofs.Ytelacdaehmfcaaa.DigPure Go.Proofs.Ytelacdaehmfcaaa.JouPure

/-- What Scan returns: the list lies in memory of the call's own. -/
def SP (J : Nat × List (Nat × List UInt8) × Nat × Int) (w : World) (e : Ending) (w' : World) : Prop :=
  ∃ v, e = .returned (.tuple #[.int .i64 (J.1 : Nat), v, .int .i64 (J.2.2.1 : Nat), .int .i64 J.2.2.2]) ∧ w'.ownsRow w.heap.size 23 3 v J.2.1.length (rcs 1 J.2.1) ∧ Below w.heap.size w w'

/-- What is still to come of a scan: acc is read, p bytes are behind it. -/
def SR (L : List UInt8) (lF : List (Nat × List UInt8)) (mF : Nat) (eF : Int) (acc : List (Nat × List UInt8)) (p : Nat) : Prop :=
  lF = acc ++ (scanR (L.drop p) (1 + acc.length)).1 ∧ mF = p + (scanR (L.drop p) (1 + acc.length)).2.1 ∧ eF = (scanR (L.drop p) (1 + acc.length)).2.2
theorem SR.step {L : List UInt8} {lF acc : List (Nat × List UInt8)} {mF p n : Nat} {eF : Int} {r : Nat × List UInt8} (h : SR L lF mF eF acc p) (hr : recR (L.drop p) (1 + acc.length) = (r, n, 0)) : SR L lF mF eF (acc ++ [r]) (p + n) := by
  obtain ⟨h1, h2, h3⟩ := h
  rw [scanR_step _ _ _ _ hr, List.drop_drop] at h1 h2 h3
  simp only at h1 h2 h3
  unfold SR
  have e : 1 + (acc ++ [r]).length = 1 + acc.length + 1 := by simp; omega
  rw [e]
  exact ⟨by rw [h1, List.append_assoc]; rfl, by omega, h3⟩
theorem SR.stop {L : List UInt8} {lF acc : List (Nat × List UInt8)} {mF p n : Nat} {eF x : Int} {r : Nat × List UInt8} (h : SR L lF mF eF acc p) (hr : recR (L.drop p) (1 + acc.length) = (r, n, x)) (hx : x ≠ 0) (hp : p < L.length) : lF = acc ∧ mF = p ∧ eF = x := by
  obtain ⟨h1, h2, h3⟩ := h
  rw [scanR_err _ _ (by rw [List.length_drop]; omega) (by rw [hr]; exact hx), hr] at h1 h2 h3
  exact ⟨by simpa using h1, by simpa using h2, h3⟩
theorem SR.done {L : List UInt8} {lF acc : List (Nat × List UInt8)} {mF p : Nat} {eF : Int} (h : SR L lF mF eF acc p) (hp : L.length ≤ p) : lF = acc ∧ mF = p ∧ eF = 0 := by
  obtain ⟨h1, h2, h3⟩ := h
  rw [List.drop_eq_nil_of_le hp, scanR_nil] at h1 h2 h3
  exact ⟨by simpa using h1, by simpa using h2, h3⟩
theorem scan_start (L : List UInt8) (g n : Nat) (h : headS L = (g, n, 0)) : ∃ lF mF eF, scanJ L = (g, lF, mF, eF) ∧ SR L lF mF eF [] n := by
  obtain ⟨l, m, e, hs⟩ : ∃ l m e, scanR (L.drop n) 1 = (l, m, e) := ⟨_, _, _, rfl⟩
  refine ⟨l, n + m, e, scanJ_of L g n m e l h hs, ?_, ?_, ?_⟩ <;> simp [hs]
theorem rec_room (L : List UInt8) (q n : Nat) (r : Nat × List UInt8) (h : recR L q = (r, n, 0)) : 5 ≤ n ∧ n ≤ L.length := by
  have := recR_len L q (by rw [h])
  rw [h] at this
  exact this
theorem own_base {w : World} {base e size n : Nat} {v : Value} {xs : List Value} (h : w.ownsRow base e size v n xs) : ∀ k, v.ownBlock = some k → base ≤ k := fun k hk => by
  rcases h.2 with ⟨rfl, rfl⟩ | ⟨g, cap, cur, rfl, hb, _⟩
  · simp [Value.ownBlock] at hk
  · obtain rfl : g = k := by simpa [Value.ownBlock] using hk
    exact hb
theorem grown_below {a w : World} (h : Below a.heap.size a w) : a.grownBy w none := ⟨h.os, h.tape, h.output, h.size, fun i hi _ => h.block i hi⟩
theorem head_room (L : List UInt8) (g n : Nat) (h : headS L = (g, n, 0)) : n ≤ L.length := by
  obtain ⟨_, m, _, _, _, h4, h5⟩ := headS_ok L (by rw [h])
  rw [h] at h4
  simp only at h4
  omega

end Go.Proofs.Ytelacdaehmfcaaa.JouC
