/-
  The plain side of package num: the squares of sine and cosine in a quarter turn, angle by angle.
-/
import Derived.Test.YtdchcnggjamifaaDoorNumSin
namespace Go.Proofs.YtdchcnggjamifaaDoor.NumPure

def circB (u : Nat) : Bool := decide (-2097152 ≤ qrt u * qrt u + qrt (16384 - u) * qrt (16384 - u) - 4294967296 ∧ qrt u * qrt u + qrt (16384 - u) * qrt (16384 - u) - 4294967296 ≤ 2097152)
theorem circ_all : allB (fun i => allB (fun f => circB (i * 256 + f)) 256) 64 = true := by decide +kernel
theorem circ_last : circB 16384 = true := by decide +kernel
theorem circ_u (u : Nat) (h : u ≤ 16384) : -2097152 ≤ qrt u * qrt u + qrt (16384 - u) * qrt (16384 - u) - 4294967296 ∧ qrt u * qrt u + qrt (16384 - u) * qrt (16384 - u) - 4294967296 ≤ 2097152 := by
  have h1 : circB u = true := by
    by_cases e : u = 16384
    · rw [e]; exact circ_last
    · have h1 := allB_of (allB_of circ_all (u / 256) (by omega)) (u % 256) (by omega)
      rwa [Nat.div_add_mod' u 256] at h1
  exact of_decide_eq_true h1

end Go.Proofs.YtdchcnggjamifaaDoor.NumPure
