/-
  Layer 21: the number of points (the document's).
-/
import Derived.Test.YtflopcogalknhaaDoorKStrRs
set_option linter.unusedVariables false
set_option linter.unusedSimpArgs false
namespace Go.Proofs.YtflopcogalknhaaDoor.Str
open Go.RowKit Go.Proofs.YtflopcogalknhaaDoor Go.Proofs.YtflopcogalknhaaDoor.NumPure

set_option maxRecDepth 100000 in
set_option maxHeartbeats 2000000 in
theorem rPoints_any (A : Option Addr) (L : List (List P2)) (c : Nat) (w : World) (h : PolR w A L) (hn : L.length ≤ 140737488355328) (hp : ptsN L ≤ 4611686018427387904) : Calls Tryd.prog 25 #[.slice A L.length c] w (NmC (ptsN L : Nat) w) := by
  obtain ⟨n, hnn⟩ : ∃ n, L.length = n := ⟨_, rfl⟩
  rw [hnn] at hn ⊢
  have HN := Lib.hid hnn
  have HR := Lib.hid h
  have HP := Lib.hid hp
  clear hnn h hp
  unfold NmC
  go_enter Tryd.func25, Tryd.ntmps25
  go_wp2_with fail
  go_loopw [3, 7] (fun s i wr => ∃ k m : Nat, i = .int .i64 (k : Int) ∧ k ≤ n ∧ s = .int .i64 (m : Int) ∧ m = ptsTo L k ∧ Below w.heap.size w wr) (fun _ i _ => (n - intOf i).toNat)
  case atStart => exact ⟨0, 0, rfl, by omega, rfl, by simp [ptsTo, ptsN], Below.refl _ _⟩
  case round =>
    obtain ⟨k, m, rfl, hk, rfl, hm, hb⟩ := hrel
    have HB := Lib.hid hb
    have HM := Lib.hid hm
    clear hb hm
    by_cases hlt : k < n
    · have hkl : k < L.length := by have := HN.out; omega
      have hr := HR.out.below HB.out
      obtain ⟨ad, rfl, _⟩ := hr.addr (by omega)
      obtain ⟨A1, c1, d0, _⟩ := hr.cell k hkl
      have hnx := ptsTo_next L k hkl
      have hle := ptsTo_le L (k + 1)
      obtain ⟨q, hq⟩ : ∃ q, (L.getD k []).length = q := ⟨_, rfl⟩
      rw [hq] at d0 hnx
      rw [← HM.out] at hnx
      have HNX : Hid (m + q = ptsTo L (k + 1)) := Lib.hid hnx.symm
      have hpb := HP.out
      have k1 : IntKind.i64.wrap ((m : Int) + (q : Int)) = (m : Int) + (q : Int) := i64w (by omega) (by omega)
      have k2 : (k : Int) < (n : Int) := by omega
      have k3 : (0 : Int) ≤ (k : Int) := by omega
      have k4 : IntKind.i64.wrap ((k : Int) + 1) = (k : Int) + 1 := i64w (by omega) (by omega)
      clear hr hkl hq hnx hle hpb
      go_wp2_with fail
      go_roundw
      case rel => exact ⟨k + 1, m + q, by go_num, by omega, by go_num, HNX.out, HB.out⟩
      case measure => first | (simp [intOf]; done) | (simp [intOf]; omega)
    · have k2 : ¬ (k : Int) < (n : Int) := by omega
      have HF : Hid ((Ending.returned (.int .i64 (m : Int))) = .returned (.int .i64 (ptsN L : Nat))) := Lib.hid (by rw [HM.out, show k = L.length by have := HN.out; omega, ptsTo_all])
      go_wp2_with fail
      go_ret
      exact ⟨HF.out, HB.out⟩
end Go.Proofs.YtflopcogalknhaaDoor.Str
