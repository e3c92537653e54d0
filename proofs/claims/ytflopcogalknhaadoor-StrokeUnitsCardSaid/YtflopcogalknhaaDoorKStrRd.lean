/-
  Layer 21: the document's pattern.
-/
import Derived.Test.YtflopcogalknhaaDoorKStrDf
set_option linter.unusedVariables false
set_option linter.unusedSimpArgs false
namespace Go.Proofs.YtflopcogalknhaaDoor.Str
open Go.RowKit Go.Proofs.YtflopcogalknhaaDoor Go.Proofs.YtflopcogalknhaaDoor.NumPure

theorem fnd_go {p : List Nat} {x f i : Nat} (h : ¬ x < psN p (i + 1)) : fnd p x (f + 1) i = fnd p x f (i + 1) := by rw [fnd, if_neg h]
theorem fnd_at {p : List Nat} {x f i : Nat} (h : x < psN p (i + 1)) : fnd p x (f + 1) i = i := by rw [fnd, if_pos h]
set_option maxRecDepth 100000 in
set_option maxHeartbeats 2000000 in
theorem On_any {p : List Nat} {pa : Addr} {pc : Nat} {w : World} (hp : PatB p) (hpat : NaR w pa p) (x : Nat) (hx : x ≤ 4503599627370496) :
    Calls Tryd.prog 19 #[.slice (some pa) p.length pc, .int .i64 (x : Int)] w fun e w' => e = .returned (.tuple #[.bool (onB p x), .int .i64 (lft p x : Nat)]) ∧ Below w.heap.size w w' := by
  obtain ⟨n, hn⟩ : ∃ n, p.length = n := ⟨_, rfl⟩
  have hsb := psS_bd hp
  have hn16 := hp.1
  have hids := idx_spec hp x
  have hlp := lft_pos hp x
  rw [hn] at hsb hn16 ⊢
  have HSE : Hid (psN p n = psS p) := Lib.hid (by rw [← hn]; rfl)
  obtain ⟨S, hS⟩ : ∃ S, psS p = S := ⟨_, rfl⟩
  rw [hS] at hsb HSE
  obtain ⟨R, hR⟩ : ∃ R, x / S = R := ⟨_, rfl⟩
  obtain ⟨y, hy⟩ : ∃ y, x % S = y := ⟨_, rfl⟩
  have hyS : y < S := by rw [← hy]; exact Nat.mod_lt _ (by omega)
  have hxx : S * R + y = x := by rw [← hR, ← hy]; exact Nat.div_add_mod x S
  obtain ⟨Q, hQ⟩ : ∃ Q, R * S = Q := ⟨_, rfl⟩
  have hQ2 : S * R = Q := by rw [Nat.mul_comm]; exact hQ
  rw [hQ2] at hxx
  have hRx : R ≤ x := by rw [← hR]; exact Nat.div_le_self _ _
  have HID : Hid (idx p x = fnd p y n 0 + R * n) := Lib.hid (by unfold idx; rw [hS, hy, hR, hn])
  have HNN := Lib.hid hn16
  have Hn := Lib.hid hn
  have HP := Lib.hid hp
  have HPA := Lib.hid hpat
  have HXB := Lib.hid hx
  have HY := Lib.hid hyS
  have HSB := Lib.hid hsb
  have HXX := Lib.hid hxx
  have HQR := Lib.hid hQ
  have HRX := Lib.hid hRx
  have HDV : Hid ((x : Int).tdiv (S : Int) = (R : Int)) := Lib.hid (by rw [← hR]; rfl)
  clear hp hpat hx hn hsb hn16 hids hlp hS hR hy hyS hxx hQ hQ2 hRx
  go_enter Tryd.func19, Tryd.ntmps19
  go_wp2_with fail
  go_loopw [6, 12] (fun s i wr => ∃ k : Nat, i = .int .i64 (k : Int) ∧ k ≤ n ∧ s = .int .i64 (psN p k : Nat) ∧ w = wr) (fun _ i _ => n - (intOf i).toNat)
  case atStart => exact ⟨0, rfl, by omega, rfl, rfl⟩
  case round =>
    obtain ⟨k, rfl, hk, rfl, rfl⟩ := hrel
    by_cases hlt : k < n
    · have hc := NaR.cell HPA.out k (by rw [Hn.out]; exact hlt)
      have hst : psN p (k + 1) = psN p k + p.getD k 0 := by rw [psN, Hn.out, Nat.mod_eq_of_lt hlt]
      have hb1 := psN_bd HP.out (k + 1)
      have hnn := HNN.out
      obtain ⟨T, hT⟩ : ∃ S, psN p k = S := ⟨_, rfl⟩
      obtain ⟨z, hz⟩ : ∃ S, p.getD k 0 = S := ⟨_, rfl⟩
      rw [hz] at hc hst
      rw [hT] at hst
      rw [hT]
      have HNX : Hid (psN p (k + 1) = T + z) := Lib.hid hst
      have X1 : Hid (IntKind.i64.wrap ((T : Int) + (z : Int)) = (T : Int) + (z : Int)) := Lib.hid (i64w (by omega) (by omega))
      have X2 : Hid (IntKind.i64.wrap ((k : Int) + 1) = (k : Int) + 1) := Lib.hid (i64w (by omega) (by omega))
      have k2 : (k : Int) < (n : Int) := by omega
      have k3 : (0 : Int) ≤ (k : Int) := by omega
      have x1 := X1.out
      have x2 := X2.out
      clear hst hb1 hnn hT hz
      go_wp2_with fail
      clear x1 x2
      go_roundw
      case rel => exact ⟨k + 1, by have := HNN.out; go_num, by omega, by rw [HNX.out]; rfl, trivial⟩
      case measure => first | (simp [intOf]; done) | (simp [intOf]; omega)
    · have k2 : ¬ (k : Int) < (n : Int) := by omega
      obtain rfl : n = k := by omega
      rw [HSE.out]
      have x1 := HDV.out
      have k3 : ¬ S = 0 := by have := HSB.out; have := HNN.out; omega
      have X2 : Hid (IntKind.i64.wrap (R : Int) = (R : Int)) := Lib.hid (i64w (by omega) (by have := HRX.out; have := HXB.out; omega))
      have X3 : Hid (IntKind.i64.wrap ((R : Int) * (S : Int)) = (Q : Int)) := Lib.hid (by rw [← Int.natCast_mul, HQR.out]; exact i64w (by omega) (by have := HXX.out; have := HXB.out; omega))
      have X4 : Hid (IntKind.i64.wrap ((x : Int) - (Q : Int)) = (y : Int)) := Lib.hid (by rw [show (x : Int) - (Q : Int) = (y : Int) by have := HXX.out; omega]; exact i64w (by omega) (by have := HXX.out; have := HXB.out; omega))
      have x2 := X2.out
      have x3 := X3.out
      have x4 := X4.out
      clear hk hlt
      go_wp2_with fail
      clear x1 x2 x3 x4
      go_loopw [1, 32] (fun q i wr => ∃ k z : Nat, i = .int .i64 (k : Int) ∧ k ≤ n ∧ q = .int .i64 (z : Int) ∧ psN p k + z = y ∧ fnd p y (n - k) k = fnd p y n 0 ∧ w = wr) (fun _ i _ => n - (intOf i).toNat)
      case atStart => exact ⟨0, y, rfl, Nat.zero_le _, rfl, by simp [psN], rfl, rfl⟩
      case round =>
        obtain ⟨k, z, rfl, hk, rfl, hz, hf, rfl⟩ := hrel
        have hkn : k < n := by
          rcases Nat.lt_or_ge k n with h | h
          · exact h
          · exfalso
            obtain rfl : k = n := by omega
            rw [HSE.out] at hz
            have := HY.out
            omega
        have hc := NaR.cell HPA.out k (by rw [Hn.out]; exact hkn)
        have hst : psN p (k + 1) = psN p k + p.getD k 0 := by rw [psN, Hn.out, Nat.mod_eq_of_lt hkn]
        have hpt := pat_at HP.out k
        rw [Hn.out, Nat.mod_eq_of_lt hkn] at hpt
        obtain ⟨f, hf0⟩ : ∃ f, n - k = f + 1 := ⟨n - k - 1, by omega⟩
        rw [hf0] at hf
        obtain ⟨v, hv⟩ : ∃ S, p.getD k 0 = S := ⟨_, rfl⟩
        rw [hv] at hc hst hpt
        have k2 : (k : Int) < (n : Int) := by omega
        have k4 : (0 : Int) ≤ (k : Int) := by omega
        have HYB : Hid (y ≤ 4503599627370496) := Lib.hid (by have := HXX.out; have := HXB.out; omega)
        by_cases hlt : z < v
        · have hfa := fnd_at (p := p) (x := y) (f := f) (i := k) (by omega)
          rw [hfa] at hf
          have hid := HID.out
          rw [← hf] at hid
          have k5 : (z : Int) < (v : Int) := by omega
          obtain ⟨U, hU⟩ : ∃ U, R * n = U := ⟨_, rfl⟩
          rw [hU] at hid
          have hUb : U ≤ 16 * 4503599627370496 := by
            rw [← hU]
            have h1 := HRX.out
            have h2 := HXB.out
            have h3 := HNN.out
            calc R * n ≤ 4503599627370496 * 16 := Nat.mul_le_mul (by omega) (by omega)
              _ = 16 * 4503599627370496 := by omega
          have hxb := HXB.out
          have hnn := HNN.out
          have X1 : Hid (IntKind.i64.wrap ((R : Int) * (n : Int)) = (U : Int)) := Lib.hid (by rw [← Int.natCast_mul, hU]; exact i64w (by omega) (by omega))
          have X2 : Hid (IntKind.i64.wrap ((k : Int) + (U : Int)) = (k : Int) + (U : Int)) := Lib.hid (i64w (by omega) (by omega))
          have X3 : Hid (IntKind.i64.wrap ((v : Int) - (z : Int)) = (v : Int) - (z : Int)) := Lib.hid (i64w (by omega) (by omega))
          have HLF : Hid (lft p x = v - z) := Lib.hid (by
            unfold lft
            rw [hid]
            have h1 := psN_rounds (p := p) (k + 1) R
            rw [Hn.out, hU] at h1
            have h2 : psS p = S := by rw [← HSE.out, ← Hn.out]; rfl
            rw [h2, HQR.out] at h1
            rw [show k + U + 1 = k + 1 + U by omega, h1, hst]
            have := HXX.out
            omega)
          have HON : Hid (onB p x = decide ((k + U) % 2 = 0)) := Lib.hid (by unfold onB; rw [hid])
          have HVZ : Hid (z < v) := Lib.hid hlt
          clear hst hpt hf0 hf hv hz hfa hid hU hUb hxb hnn hlt
          have x1 := X1.out
          have x2 := X2.out
          have x3 := X3.out
          go_wp2_with fail
          go_quiet (fail)
          have HBF : Hid (Below w.heap.size w (w.drewN nq)) := Lib.hid (drew_below (Below.refl _ _))
          have HE1 : Hid ((((k : Int) + (U : Int)) % 2 == 0) = onB p x) := Lib.hid (by
            rw [HON.out]
            by_cases h : (k + U) % 2 = 0
            · rw [decide_eq_true h, show ((k : Int) + (U : Int)) % 2 = 0 by omega]; rfl
            · rw [decide_eq_false h, show ((k : Int) + (U : Int)) % 2 = 1 by omega]; rfl)
          have HE2 : Hid ((v : Int) - (z : Int) = (lft p x : Nat)) := Lib.hid (by rw [HLF.out]; have := HVZ.out; omega)
          clear x1 x2 x3
          go_wp2_with fail
          refine bodyPost_ret (results_tmp2 rfl _ _ _) rfl ?_
          exact ⟨by rw [← HE1.out, ← HE2.out]; rfl, HBF.out⟩
        · have hfg := fnd_go (p := p) (x := y) (f := f) (i := k) (by omega)
          rw [hfg] at hf
          have k5 : ¬ (z : Int) < (v : Int) := by omega
          have HNX : Hid (psN p (k + 1) + (z - v) = y ∧ fnd p y (n - (k + 1)) (k + 1) = fnd p y n 0) := Lib.hid ⟨by omega, by rw [show n - (k + 1) = f by omega]; exact hf⟩
          have hyb := HYB.out
          have hnn := HNN.out
          have X1 : Hid (IntKind.i64.wrap ((z : Int) - (v : Int)) = ((z - v : Nat) : Int)) := Lib.hid (by rw [show ((z - v : Nat) : Int) = (z : Int) - (v : Int) by omega]; exact i64w (by omega) (by omega))
          have X2 : Hid (IntKind.i64.wrap ((k : Int) + 1) = (k : Int) + 1) := Lib.hid (i64w (by omega) (by omega))
          have x1 := X1.out
          have x2 := X2.out
          clear hst hpt hf0 hf hv hz hfg hyb hnn hlt
          go_wp2_with fail
          clear x1 x2
          go_roundw
          case rel => exact ⟨k + 1, z - v, by have := HNN.out; go_num, by omega, rfl, HNX.out.1, HNX.out.2, trivial⟩
          case measure => first | (simp [intOf]; done) | (simp [intOf]; omega)
end Go.Proofs.YtflopcogalknhaaDoor.Str
