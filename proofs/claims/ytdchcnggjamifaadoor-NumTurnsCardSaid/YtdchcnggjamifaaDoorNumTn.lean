/-
  Package num: sine and cosine.
-/
import Derived.Test.YtdchcnggjamifaaDoorNumRt
import Derived.Test.YtdchcnggjamifaaDoorNumSin
import Derived.Deep.QuietTactic
import Derived.BigQuiet
namespace Go.Proofs.YtdchcnggjamifaaDoor.Num
open Go.RowKit Go.Proofs.YtdchcnggjamifaaDoor Go.Proofs.YtdchcnggjamifaaDoor.NumPure

/-- The table of sines lies in its variable. -/
def Tab (w : World) : Prop := ∀ i, i < 65 → w.cell? ⟨2, i, none⟩ = some (.int .i64 (sinT i))
theorem Tab.drewN {w : World} (h : Tab w) (n : Nat) : Tab (w.drewN n) := h

theorem quiet_left {P : Program} {f : FuncId} {args : Array Value} {w : World} {n : Nat} {v : Value} (h : Calls P f args (w.drewN n) fun e w' => e = .returned v ∧ w.drewN n = w') : Calls P f args (w.drewN n) fun e w'' => e = .returned v ∧ ∃ m, w'' = w.drewN m :=
  h.mono fun _ _ ⟨he, hm⟩ => ⟨he, n, hm.symm⟩

set_option maxHeartbeats 1000000 in
theorem quarter_any (u : Nat) (hu : u ≤ 16384) (w : World) (hT : Tab w) :
    Calls Tryd.prog 49 #[.int .i64 (u : Int)] w fun e w' => e = .returned (.int .i64 (qrt u)) ∧ ∃ n, w' = w.drewN n := by
  by_cases hb : u = 16384
  · subst hb
    have c := hT 64 (by omega)
    have HF : Hid (qrt 16384 = sinT 64) := Lib.hid rfl
    clear hT
    go_enter Tryd.func49, Tryd.ntmps49
    go_wp2
    go_ret
    exact ⟨ret_int HF.out.symm, 0, rfl⟩
  obtain ⟨i, hi⟩ : ∃ i, u / 256 = i := ⟨_, rfl⟩
  obtain ⟨f, hf⟩ : ∃ f, u % 256 = f := ⟨_, rfl⟩
  have hi64 : i < 64 := by omega
  have hf256 : f < 256 := by omega
  have hui : (u : Int) / 256 = (i : Int) := by omega
  have huf : (u : Int) - 256 * (i : Int) = (f : Int) := by omega
  have c0 := hT i (by omega)
  have c1 := hT (i + 1) (by omega)
  have b0 := sinT_bd i
  have b1 := sinT_bd (i + 1)
  have hq : qrt u = sinT i + dvr ((sinT (i + 1) - sinT i) * (f : Int)) 256 := by rw [qrt_of u (by omega), hi, hf]
  have bq := qrt_bd u hu
  rw [hq] at bq
  obtain ⟨s0, hs0⟩ : ∃ s, sinT i = s := ⟨_, rfl⟩
  obtain ⟨s1, hs1⟩ : ∃ s, sinT (i + 1) = s := ⟨_, rfl⟩
  rw [hs0, hs1] at hq bq
  rw [hs0] at c0 b0
  rw [hs1] at c1 b1
  have HF := Lib.hid hq
  obtain ⟨p, hp⟩ : ∃ p, (s1 - s0) * (f : Int) = p := ⟨_, rfl⟩
  have bp : -16777216 ≤ p ∧ p ≤ 16777216 := by
    rw [← hp]
    have h1 := Int.mul_le_mul_of_nonneg_right (show s1 - s0 ≤ 65536 by omega) (show (0 : Int) ≤ f by omega)
    have h2 := Int.mul_le_mul_of_nonneg_right (show -65536 ≤ s1 - s0 by omega) (show (0 : Int) ≤ f by omega)
    omega
  rw [hp] at bq
  obtain ⟨dd, hdd⟩ : ∃ dd, dd = dvr p 256 := ⟨_, rfl⟩
  rw [← hdd] at bq
  have HD := Lib.hid hdd
  have HP := Lib.hid hp
  have e1 : IntKind.i64.wrap ((i : Int) + 1) = (i : Int) + 1 := IntWalk.i64_in _ (by omega)
  have e2 : IntKind.i64.wrap (256 * (i : Int)) = 256 * (i : Int) := IntWalk.i64_in _ (by omega)
  have e3 : IntKind.i64.wrap ((u : Int) - 256 * (i : Int)) = (f : Int) := by rw [huf]; exact IntWalk.i64_in _ (by omega)
  have e4 : IntKind.i64.wrap (s1 - s0) = s1 - s0 := IntWalk.i64_in _ (by omega)
  have e5 : IntKind.i64.wrap ((s1 - s0) * (f : Int)) = p := by rw [hp]; exact IntWalk.i64_in _ (by omega)
  have e6 : IntKind.i64.wrap (s0 + dd) = s0 + dd := IntWalk.i64_in _ (by omega)
  have e7 : ((i : Int) + 1).toNat = i + 1 := by omega
  have e8 : (0 : Int) ≤ (i : Int) + 1 := by omega
  have e9 : ((i : Int) + 1) < 65 := by omega
  have hdc : ∀ n, Calls Tryd.prog 14 #[.int .i64 p, .int .i64 256] (w.drewN n) fun e w'' => e = .returned (.int .i64 dd) ∧ ∃ m, w'' = w.drewN m := fun n => quiet_left (by rw [HD.out]; exact div_any p 256 (by omega) (by omega) (by omega) (by omega) _)
  have HC := Lib.hid hdc
  clear hT hi hf huf hs0 hs1 hq bq bp hdd hp hdc hb
  go_enter Tryd.func49, Tryd.ntmps49
  go_wp2
  go_quiet ((go_at_call 14; exact HC.out _))
  go_wp2
  go_ret
  exact ⟨ret_int (by rw [HF.out, HP.out, ← HD.out]), _, rfl⟩

theorem quarter_is (z : Int) (u : Nat) (hz : z = u) (hu : u ≤ 16384) (w : World) (hT : Tab w) :
    Calls Tryd.prog 49 #[.int .i64 z] w fun e w' => e = .returned (.int .i64 (qrt u)) ∧ ∃ n, w' = w.drewN n := by
  subst hz
  exact quarter_any u hu w hT

set_option maxHeartbeats 1000000 in
theorem sine_any (a : Nat) (ha : a < 65536) (w : World) (hT : Tab w) :
    Calls Tryd.prog 46 #[.int .i64 (a : Int)] w fun e w' => e = .returned (.int .i64 (sinA a)) ∧ ∃ n, w' = w.drewN n := by
  obtain ⟨q, hq⟩ : ∃ q, a / 16384 = q := ⟨_, rfl⟩
  obtain ⟨r, hr⟩ : ∃ r, a % 16384 = r := ⟨_, rfl⟩
  have hr' : r < 16384 := by omega
  have rq : (a : Int) / 16384 = (q : Int) := by omega
  have rr : (a : Int) - 16384 * (q : Int) = (r : Int) := by omega
  have hF : sinA a = if q = 0 then qrt r else if q = 1 then qrt (16384 - r) else if q = 2 then -qrt r else -qrt (16384 - r) := by rw [sinA, hq, hr]
  have b1 := qrt_bd r (by omega)
  have b2 := qrt_bd (16384 - r) (by omega)
  have HT := Lib.hid hT
  clear hT
  have hcase : q = 0 ∨ q = 1 ∨ q = 2 ∨ q = 3 := by omega
  obtain ⟨x1, hx1⟩ : ∃ x, qrt r = x := ⟨_, rfl⟩
  obtain ⟨x2, hx2⟩ : ∃ x, qrt (16384 - r) = x := ⟨_, rfl⟩
  rw [hx1, hx2] at hF
  rw [hx1] at b1
  rw [hx2] at b2
  have X1 := Lib.hid hx1
  have X2 := Lib.hid hx2
  clear hq hr hx1 hx2
  rcases hcase with rfl | rfl | rfl | rfl
  · have HF := Lib.hid hF
    clear hF
    go_enter Tryd.func46, Tryd.ntmps46
    go_wp2_with fail
    refine (quarter_is _ r (by omega) (by omega) _ HT.out).mono ?_
    rintro e w' ⟨rfl, n, rfl⟩
    rw [X1.out]
    go_wp2
    go_ret
    exact ⟨ret_int HF.out.symm, _, rfl⟩
  · have HF := Lib.hid hF
    clear hF
    go_enter Tryd.func46, Tryd.ntmps46
    go_wp2_with fail
    refine (quarter_is _ (16384 - r) (by omega) (by omega) _ HT.out).mono ?_
    rintro e w' ⟨rfl, n, rfl⟩
    rw [X2.out]
    go_wp2
    go_ret
    exact ⟨ret_int HF.out.symm, _, rfl⟩
  · have HF := Lib.hid hF
    clear hF
    go_enter Tryd.func46, Tryd.ntmps46
    go_wp2_with fail
    refine (quarter_is _ r (by omega) (by omega) _ HT.out).mono ?_
    rintro e w' ⟨rfl, n, rfl⟩
    rw [X1.out]
    go_wp2
    go_ret
    exact ⟨ret_int HF.out.symm, _, rfl⟩
  · have HF := Lib.hid hF
    clear hF
    go_enter Tryd.func46, Tryd.ntmps46
    go_wp2_with fail
    refine (quarter_is _ (16384 - r) (by omega) (by omega) _ HT.out).mono ?_
    rintro e w' ⟨rfl, n, rfl⟩
    rw [X2.out]
    go_wp2
    go_ret
    exact ⟨ret_int HF.out.symm, _, rfl⟩

theorem sine_is (z : Int) (a : Nat) (hz : z = a) (ha : a < 65536) (w : World) (hT : Tab w) :
    Calls Tryd.prog 46 #[.int .i64 z] w fun e w' => e = .returned (.int .i64 (sinA a)) ∧ ∃ n, w' = w.drewN n := by
  subst hz
  exact sine_any a ha w hT

theorem i64_mask16 (n : Int) : bits .and .i64 n 65535 = n % 65536 := by
  have h127 : (BitVec.ofInt 64 65535).toNat = 2 ^ 16 - 1 := by decide
  have key : (BitVec.ofInt 64 n &&& BitVec.ofInt 64 65535).toNat = (n % ((2 ^ 64 : Nat) : Int)).toNat % 2 ^ 16 := by
    rw [BitVec.toNat_and, BitVec.toNat_ofInt, h127, Nat.and_two_pow_sub_one_eq_mod]
  show IntKind.i64.wrap ((BitVec.ofInt 64 n &&& BitVec.ofInt 64 65535).toNat : Nat) = n % 65536
  rw [key, IntKind.wrap_i64]
  omega

theorem ret_two {a b c d : Int} (h1 : a = c) (h2 : b = d) : Ending.returned (.tuple #[.int .i64 a, .int .i64 b]) = .returned (.tuple #[.int .i64 c, .int .i64 d]) := by rw [h1, h2]

set_option maxHeartbeats 1000000 in
theorem turn_any (z : Int) (w : World) (hT : Tab w) :
    Calls Tryd.prog 33 #[.int .i64 z] w fun e w' => e = .returned (.tuple #[.int .i64 (sinZ z), .int .i64 (cosZ z)]) ∧ ∃ n, w' = w.drewN n := by
  obtain ⟨a, ha⟩ : ∃ a, (z % 65536).toNat = a := ⟨_, rfl⟩
  have ha2 : a < 65536 := by omega
  have hm : bits .and .i64 z 65535 = (a : Int) := by rw [i64_mask16]; omega
  have HS : Hid (sinZ z = sinA a) := Lib.hid (by rw [sinZ, ha])
  have HC : Hid (cosZ z = sinA ((a + 16384) % 65536)) := Lib.hid (by rw [cosZ, ha])
  have HT := Lib.hid hT
  clear hT ha
  go_enter Tryd.func33, Tryd.ntmps33
  go_wp2_with fail
  refine (sine_any a ha2 _ HT.out).mono ?_
  rintro e w' ⟨rfl, n, rfl⟩
  go_wp2_with fail
  refine (sine_is _ ((a + 16384) % 65536) (by omega) (by omega) _ (HT.out.drewN _)).mono ?_
  rintro e w' ⟨rfl, n2, rfl⟩
  go_wp2
  go_ret2
  exact ⟨ret_two HS.out.symm HC.out.symm, _, rfl⟩

end Go.Proofs.YtdchcnggjamifaaDoor.Num
