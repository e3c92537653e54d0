/-
  The plain side of package num: the sine of a part of a quarter turn.
-/
import Derived.Test.YtdchcnggjamifaaDoorNumPure
namespace Go.Proofs.YtdchcnggjamifaaDoor.NumPure

/-- The table of sines, and the sine of a part of a quarter turn. -/
def sinL : List Int := [0, 1608, 3216, 4821, 6424, 8022, 9616, 11204, 12785, 14359, 15924, 17479, 19024, 20557, 22078, 23586, 25080, 26558, 28020, 29466, 30893, 32303, 33692, 35062, 36410, 37736, 39040, 40320, 41576, 42806, 44011, 45190, 46341, 47464, 48559, 49624, 50660, 51665, 52639, 53581, 54491, 55368, 56212, 57022, 57798, 58538, 59244, 59914, 60547, 61145, 61705, 62228, 62714, 63162, 63572, 63944, 64277, 64571, 64827, 65043, 65220, 65358, 65457, 65516, 65536]
def sinT (i : Nat) : Int := sinL.getD i 0
def qrt (u : Nat) : Int := if u < 16384 then sinT (u / 256) + dvr ((sinT (u / 256 + 1) - sinT (u / 256)) * (u % 256 : Nat)) 256 else sinT 64
theorem qrt_of (u : Nat) (h : u < 16384) : qrt u = sinT (u / 256) + dvr ((sinT (u / 256 + 1) - sinT (u / 256)) * (u % 256 : Nat)) 256 := if_pos h
theorem sinT_all : ∀ i : Fin 65, 0 ≤ sinT i.val ∧ sinT i.val ≤ 65536 := by decide +kernel
theorem sinT_bd (i : Nat) : 0 ≤ sinT i ∧ sinT i ≤ 65536 := by
  by_cases h : i < 65
  · exact sinT_all ⟨i, h⟩
  · have : sinT i = 0 := by
      unfold sinT
      rw [List.getD_eq_getElem?_getD, List.getElem?_eq_none (by simp only [sinL, List.length_cons, List.length_nil]; omega)]
      rfl
    omega
def allB (p : Nat → Bool) : Nat → Bool
  | 0 => true
  | n + 1 => p n && allB p n
theorem allB_of {p : Nat → Bool} {n : Nat} (h : allB p n = true) : ∀ k, k < n → p k = true := by
  induction n with
  | zero => intro k hk; omega
  | succ n ih =>
    intro k hk
    simp only [allB, Bool.and_eq_true] at h
    by_cases e : k = n
    · rw [e]; exact h.1
    · exact ih h.2 k (by omega)
theorem qrt_all : allB (fun i => allB (fun f => decide (0 ≤ qrt (i * 256 + f) ∧ qrt (i * 256 + f) ≤ 65536)) 256) 65 = true := by decide +kernel
theorem qrt_bd (u : Nat) (h : u ≤ 16384) : 0 ≤ qrt u ∧ qrt u ≤ 65536 := by
  have h1 := allB_of (allB_of qrt_all (u / 256) (by omega)) (u % 256) (by omega)
  rw [Nat.div_add_mod' u 256] at h1
  exact of_decide_eq_true h1

/-- The sine of an angle (65536: a full turn), in units of 65536. -/
def sinA (a : Nat) : Int := if a / 16384 = 0 then qrt (a % 16384) else if a / 16384 = 1 then qrt (16384 - a % 16384) else if a / 16384 = 2 then -qrt (a % 16384) else -qrt (16384 - a % 16384)
def sinZ (z : Int) : Int := sinA (z % 65536).toNat
def cosZ (z : Int) : Int := sinA (((z % 65536).toNat + 16384) % 65536)

end Go.Proofs.YtdchcnggjamifaaDoor.NumPure
