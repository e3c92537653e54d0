/-
  The law's own 'step', whatever the kind of the call; what is left never grows.
-/
import Derived.Test.YtmnlijeflcedcaaWireStep
namespace Go.Proofs.Ytmnlijeflcedcaa.WireRd
open Go.RowKit Go.Proofs.Ytmnlijeflcedcaa Go.Proofs.Ytmnlijeflcedcaa.WirePure Go.Proofs.Ytmnlijeflcedcaa.WireShortest

def stepA (kind most : Int) (a : A) : A :=
  if kind = 0 then a.uint.2 else if kind = 1 then a.int.2 else if kind = 2 then (a.text most).2 else if kind = 3 then (a.count most).2 else if kind = 4 then (a.ints most).2 else if kind = 5 then a.fail most else a

theorem uint_left (a : A) : a.uint.2.left ≤ a.left := by
  cases a with
  | bad e => simp [A.uint, A.left]
  | ready l =>
    simp only [A.uint]
    split
    · rename_i h
      have := uv_len l 0 0 h
      simp only [A.left]
      omega
    · simp [A.left]
theorem count_leftA (a : A) (most : Int) : (a.count most).2.left ≤ a.left := by
  have h := uint_left a
  unfold A.count
  split
  · simp [A.left]
  · rename_i n l hu
    rw [hu] at h
    split
    · simp [A.left]
    · exact h
theorem intsN_left (n : Nat) : ∀ l : List UInt8, (intsN n l).2.left ≤ l.length := by
  induction n with
  | zero => intro l; simp [intsN, A.left]
  | succ n ih =>
    intro l
    unfold intsN
    split
    · simp [A.left]
    · rename_i z l' hz
      have h1 := int_len _ _ _ hz
      have h2 := ih l'
      split
      · simp [A.left]
      · rename_i zs l'' hN
        rw [hN] at h2
        simp only [A.left] at h2 ⊢
        omega
theorem stepA_left (kind most : Int) (a : A) : (stepA kind most a).left ≤ a.left := by
  unfold stepA
  split
  · exact uint_left a
  · split
    · exact uint_left a
    · split
      · have h := count_leftA a most
        unfold A.text
        split
        · simp [A.left]
        · rename_i n l hu
          rw [hu] at h
          split
          · simp [A.left]
          · simp only [A.left, List.length_drop] at h ⊢
            omega
      · split
        · exact count_leftA a most
        · split
          · have h := count_leftA a most
            unfold A.ints
            split
            · simp [A.left]
            · rename_i n l hu
              rw [hu] at h
              have := intsN_left n l
              simp only [A.left] at h ⊢
              exact Nat.le_trans this h
          · split
            · cases a with
              | bad e => simp [A.fail]
              | ready l =>
                simp only [A.fail]
                split <;> simp [A.left]
            · exact Nat.le_refl _
theorem stepA_bad (kind most e : Int) : stepA kind most (.bad e) = .bad e := by
  unfold stepA
  simp [A.uint, A.int, A.text, A.count, A.ints, A.fail]

theorem step_any (B : Nat) (g g' : Option Nat) (a : A) (kind most : Int) (w : World) (hi : Is w g a) (hr : Ref04Rd.Is w g' a) (hne : ∀ b, g = some b → some b ≠ g') (hB : B ≤ w.heap.size) (hgB : ∀ b, g = some b → B ≤ b) (hgB' : ∀ b, g' = some b → B ≤ b) (hm : most ≤ 9223372036854775807) (hroom : a.left ≤ 1048586) :
    Calls Try.prog 28 #[pt g, Ref04Rd.pt g', .agg #[.int .i64 kind, .int .i64 most]] w (SP B g g' (stepA kind most a) w) := by
  by_cases k0 : kind = 0
  · have h := step0 B g g' a kind most w hi hr hne hB hgB hgB' hm k0
    rwa [show a.uint.2 = stepA kind most a by unfold stepA; rw [if_pos k0]] at h
  · by_cases k1 : kind = 1
    · have h := step1 B g g' a kind most w hi hr hne hB hgB hgB' hm k1
      rwa [show a.int.2 = stepA kind most a by unfold stepA; rw [if_neg k0, if_pos k1]] at h
    · by_cases k2 : kind = 2
      · have h := step2 B g g' a kind most w hi hr hne hB hgB hgB' hm k2
        rwa [show (a.text most).2 = stepA kind most a by unfold stepA; rw [if_neg k0, if_neg k1, if_pos k2]] at h
      · by_cases k3 : kind = 3
        · have h := step3 B g g' a kind most w hi hr hne hB hgB hgB' hm k3
          rwa [show (a.count most).2 = stepA kind most a by unfold stepA; rw [if_neg k0, if_neg k1, if_neg k2, if_pos k3]] at h
        · by_cases k4 : kind = 4
          · have h := step4 B g g' a kind most w hi hr hne hB hgB hgB' hm hroom k4
            rwa [show (a.ints most).2 = stepA kind most a by unfold stepA; rw [if_neg k0, if_neg k1, if_neg k2, if_neg k3, if_pos k4]] at h
          · by_cases k5 : kind = 5
            · have h := step5 B g g' a kind most w hi hr hne hB hgB hgB' hm k5
              rwa [show a.fail most = stepA kind most a by unfold stepA; rw [if_neg k0, if_neg k1, if_neg k2, if_neg k3, if_neg k4, if_pos k5]] at h
            · have h := step6 B g g' a kind most w hi hr hne hB hgB hgB' hm (by omega)
              rwa [show a = stepA kind most a by unfold stepA; rw [if_neg k0, if_neg k1, if_neg k2, if_neg k3, if_neg k4, if_neg k5]] at h

end Go.Proofs.Ytmnlijeflcedcaa.WireRd
