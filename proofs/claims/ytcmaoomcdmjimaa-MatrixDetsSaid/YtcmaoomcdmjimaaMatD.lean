/-
  Package matrix: cofactors and determinants.
-/
import Derived.Test.YtcmaoomcdmjimaaMatC
namespace Go.Proofs.Ytcmaoomcdmjimaa.Mat
open Go.RowKit Go.Proofs.Ytcmaoomcdmjimaa Go.Proofs.Ytcmaoomcdmjimaa.NumPure Go.Proofs.Ytcmaoomcdmjimaa.MatPure

def cof (m : Nat → Int) (i j : Nat) : Int := m (3 * ((i + 1) % 3) + (j + 1) % 3) * m (3 * ((i + 2) % 3) + (j + 2) % 3) - m (3 * ((i + 1) % 3) + (j + 2) % 3) * m (3 * ((i + 2) % 3) + (j + 1) % 3)
theorem cof_in (m : Nat → Int) (hm : okM m = true) (i j : Nat) : -2199023255552 ≤ cof m i j ∧ cof m i j ≤ 2199023255552 := by
  have h := okM_iff.1 hm
  have a1 := h (3 * ((i + 1) % 3) + (j + 1) % 3) (by omega)
  have a2 := h (3 * ((i + 2) % 3) + (j + 2) % 3) (by omega)
  have a3 := h (3 * ((i + 1) % 3) + (j + 2) % 3) (by omega)
  have a4 := h (3 * ((i + 2) % 3) + (j + 1) % 3) (by omega)
  have p1 := prod_in a1.1 a1.2 a2.1 a2.2
  have p2 := prod_in a3.1 a3.2 a4.1 a4.2
  unfold cof
  omega

set_option maxHeartbeats 2000000 in
set_option maxRecDepth 100000 in
theorem cof_any (m : Nat → Int) (hm : okM m = true) (i j : Nat) (hi : i < 3) (hj : j < 3) (w : World) :
    Calls Try.prog 30 #[.agg (ac 9 m), .int .i64 (i : Int), .int .i64 (j : Int)] w fun e w' => e = .returned (.int .i64 (cof m i j)) ∧ Below w.heap.size w w' := by
  obtain ⟨r, hr⟩ : ∃ r, 3 * ((i + 1) % 3) = r := ⟨_, rfl⟩
  obtain ⟨s, hs⟩ : ∃ r, 3 * ((i + 2) % 3) = r := ⟨_, rfl⟩
  obtain ⟨c, hc⟩ : ∃ r, (j + 1) % 3 = r := ⟨_, rfl⟩
  obtain ⟨d, hd⟩ : ∃ r, (j + 2) % 3 = r := ⟨_, rfl⟩
  have HR : Hid (m (r + c) * m (s + d) - m (r + d) * m (s + c) = cof m i j) := Lib.hid (by unfold cof; rw [hr, hs, hc, hd])
  have br : r ≤ 6 := by omega
  have bs : s ≤ 6 := by omega
  have bc : c ≤ 2 := by omega
  have bd : d ≤ 2 := by omega
  have er : 3 * (((i : Int) + 1) % 3) = (r : Int) := by omega
  have es : 3 * (((i : Int) + 2) % 3) = (s : Int) := by omega
  have ec : ((j : Int) + 1) % 3 = (c : Int) := by omega
  have ed : ((j : Int) + 2) % 3 = (d : Int) := by omega
  have h := okM_iff.1 hm
  have a1 := h (r + c) (by omega)
  have a2 := h (s + d) (by omega)
  have a3 := h (r + d) (by omega)
  have a4 := h (s + c) (by omega)
  have p1 := prod_in a1.1 a1.2 a2.1 a2.2
  have p2 := prod_in a3.1 a3.2 a4.1 a4.2
  have k1 := ac_at (n := 9) m (show r + c < 9 by omega)
  have k2 := ac_at (n := 9) m (show s + d < 9 by omega)
  have k3 := ac_at (n := 9) m (show r + d < 9 by omega)
  have k4 := ac_at (n := 9) m (show s + c < 9 by omega)
  have w1 : IntKind.i64.wrap ((r : Int) + c) = (r : Int) + c := IntWalk.i64_in _ (by omega)
  have w2 : IntKind.i64.wrap ((s : Int) + d) = (s : Int) + d := IntWalk.i64_in _ (by omega)
  have w3 : IntKind.i64.wrap ((r : Int) + d) = (r : Int) + d := IntWalk.i64_in _ (by omega)
  have w4 : IntKind.i64.wrap ((s : Int) + c) = (s : Int) + c := IntWalk.i64_in _ (by omega)
  have w5 : IntKind.i64.wrap (m (r + c) * m (s + d)) = m (r + c) * m (s + d) := IntWalk.i64_in _ (by omega)
  have w6 : IntKind.i64.wrap (m (r + d) * m (s + c)) = m (r + d) * m (s + c) := IntWalk.i64_in _ (by omega)
  have w7 : IntKind.i64.wrap (m (r + c) * m (s + d) - m (r + d) * m (s + c)) = m (r + c) * m (s + d) - m (r + d) * m (s + c) := IntWalk.i64_in _ (by omega)
  have q1 : (0 : Int) ≤ (r : Int) + c := by omega
  have q2 : (0 : Int) ≤ (s : Int) + d := by omega
  have q3 : (0 : Int) ≤ (r : Int) + d := by omega
  have q4 : (0 : Int) ≤ (s : Int) + c := by omega
  have o1 : (r : Int) + c < 9 := by omega
  have o2 : (s : Int) + d < 9 := by omega
  have o3 : (r : Int) + d < 9 := by omega
  have o4 : (s : Int) + c < 9 := by omega
  have n1 : ((r : Int) + c).toNat = r + c := by omega
  have n2 : ((s : Int) + d).toNat = s + d := by omega
  have n3 : ((r : Int) + d).toNat = r + d := by omega
  have n4 : ((s : Int) + c).toNat = s + c := by omega
  clear hr hs hc hd h hm
  go_enter Try.func30, Try.ntmps30
  go_wp2_with fail
  go_quiet (fail)
  go_wp2_with fail
  go_ret
  exact ⟨Num.ret_int HR.out, below_drewN ((Below.refl _ _).alloc (Nat.le_refl _) _) _⟩

def esum (m : Nat → Int) : Nat → Int
  | 0 => 0
  | k + 1 => esum m k + m k * cof m 0 k
def det9 (m : Nat → Int) : Int := esum m 3
theorem cprod_in {x y : Int} (x0 : -1048576 ≤ x) (x1 : x ≤ 1048576) (y0 : -2199023255552 ≤ y) (y1 : y ≤ 2199023255552) : -2305843009213693952 ≤ x * y ∧ x * y ≤ 2305843009213693952 := by
  have := abs_mul_le x0 x1 (by omega) 2199023255552 y0 y1 (by omega)
  omega
theorem esum_in (m : Nat → Int) (hm : okM m = true) : ∀ k : Nat, k ≤ 3 → -(2305843009213693952 * (k : Int)) ≤ esum m k ∧ esum m k ≤ 2305843009213693952 * (k : Int)
  | 0, _ => by simp [esum]
  | k + 1, hk => by
    have h := esum_in m hm k (by omega)
    have h1 := okM_iff.1 hm k (by omega)
    have h2 := cof_in m hm 0 k
    have h3 := cprod_in h1.1 h1.2 h2.1 h2.2
    simp only [esum]
    omega
theorem det9_in (m : Nat → Int) (hm : okM m = true) : -6917529027641081856 ≤ det9 m ∧ det9 m ≤ 6917529027641081856 := by
  have := esum_in m hm 3 (by omega)
  unfold det9
  omega
def detM (m : Nat → Int) : Int := if okM m then dvr (det9 m) 4294967296 else 0

/-- A boxed matrix, and all that was there before the call. -/
def Box (B g : Nat) (w : World) (m : Nat → Int) (j : Nat) (wr : World) : Prop :=
  wr.cell? ⟨g, j, none⟩ = some (.int .i64 (m j)) ∧
  wr.rangeAt g 0 (al 9 m) ∧
  Blk wr g 22 (ac 9 m) ∧ Below B w wr ∧ B ≤ g
theorem Box.of {B g : Nat} {w : World} {m : Nat → Int} {wr : World} (h : Blk wr g 22 (ac 9 m)) (hb : Below B w wr) (hg : B ≤ g) (j : Nat) (hj : j < 9) : Box B g w m j wr :=
  ⟨by rw [h.cell j, ac_at _ hj], range9 h, h, hb, hg⟩
theorem Box.blk {B g : Nat} {w : World} {m : Nat → Int} {j : Nat} {wr : World} (h : Box B g w m j wr) : Blk wr g 22 (ac 9 m) := h.2.2.1
theorem Box.bel {B g : Nat} {w : World} {m : Nat → Int} {j : Nat} {wr : World} (h : Box B g w m j wr) : Below B w wr := h.2.2.2.1
theorem Box.below {B g : Nat} {w : World} {m : Nat → Int} {j : Nat} {wr w' : World} (h : Box B g w m j wr) (hj : j < 9) (hb : Below wr.heap.size wr w') : Box B g w m j w' :=
  Box.of (h.2.2.1.below hb h.2.2.1.lt) (h.2.2.2.1.trans (hb.mono (by have := h.2.2.1.lt; have := h.2.2.2.2; omega))) h.2.2.2.2 j hj

set_option maxHeartbeats 2000000 in
set_option maxRecDepth 100000 in
theorem exact_any (m : Nat → Int) (hm : okM m = true) (w : World) : Calls Try.prog 28 #[.agg (ac 9 m)] w fun e w' => e = .returned (.int .i64 (det9 m)) ∧ Below w.heap.size w w' := by
  obtain ⟨B, hB⟩ : ∃ B, B = w.heap.size := ⟨_, rfl⟩
  rw [← hB]
  have HA := Lib.hid hm
  clear hm
  go_enter Try.func28, Try.ntmps28
  go_wp2_with fail
  have H0 := Blk.new w 22 (ac 9 m)
  have hb0 : Below B w (w.alloc (.cells (ac 9 m) 22)) := by rw [hB]; exact (Below.refl _ _).alloc (Nat.le_refl _) _
  obtain ⟨W, hW⟩ : ∃ W, W = w.alloc (.cells (ac 9 m) 22) := ⟨_, rfl⟩
  obtain ⟨g, eg⟩ : ∃ g, g = w.heap.size := ⟨_, rfl⟩
  rw [← hW, ← eg] at H0 ⊢
  rw [← hW] at hb0
  have hg : B ≤ g := by omega
  clear hW hB eg
  go_loopw [3, 5] (fun v3 v5 wr => ∃ k : Nat, k ≤ 3 ∧ v5 = .int .i64 k ∧ v3 = .int .i64 (esum m k) ∧ Blk wr g 22 (ac 9 m) ∧ Below B w wr) (fun _ v5 _ => 3 - (intOf v5).toNat)
  case atStart => exact ⟨0, by omega, rfl, rfl, H0, hb0⟩
  case round =>
    clear H0 hb0
    obtain ⟨k, hk, rfl, rfl, H1, hb1⟩ := hrel
    by_cases hlt : k < 3
    · have hbox := Lib.hid (Box.of H1 hb1 hg k (by omega))
      have hbox' := Lib.hid (Box.of (wr := wr.drew) H1 hb1.drew hg k (by omega))
      have KK : Hid (∀ W W' : World, Box B g w m k W → Below W.heap.size W W' → Box B g w m k W') := Lib.hid (fun W W' h hq => h.below (by omega) hq)
      have b1 := okM_iff.1 HA.out k (by omega)
      have b2 := cof_in m HA.out 0 k
      have b3 := cprod_in b1.1 b1.2 b2.1 b2.2
      have b4 := esum_in m HA.out k (by omega)
      have hc := fun W => cof_any m HA.out 0 k (by omega) hlt W
      have HP : Hid (esum m (k + 1) = esum m k + m k * cof m 0 k) := Lib.hid rfl
      have i1 : (0 : Int) ≤ (k : Int) := by omega
      have i2 : (k : Int) < 9 := by omega
      have i3 : IntKind.i64.wrap (m k * cof m 0 k) = m k * cof m 0 k := IntWalk.i64_in _ (by omega)
      have i4 : IntKind.i64.wrap (esum m k + m k * cof m 0 k) = esum m k + m k * cof m 0 k := IntWalk.i64_in _ (by omega)
      have hu := Try.underlying22
      have hsz := size9 m
      clear H1 hb1
      go_wp2_with fail
      go_region_held3 (fun wr => wr.cell? ⟨g, k, none⟩ = some (.int .i64 (m k)) ∧
  wr.rangeAt g 0 (al 9 m) ∧
  Blk wr g 22 (ac 9 m) ∧ Below B w wr ∧ B ≤ g)
        (first | exact hbox'.out | exact KK.out _ _ (by assumption) hbq | exact KK.out _ _ hbox'.out hbq | go_keep)
        (first | (go_at_call 30; refine (hc _).mono ?_; rintro e w' ⟨rfl, hbq⟩))
      go_wp2_with fail
      go_roundw
      case rel => exact ⟨k + 1, by omega, by go_num, by rw [HP.out], Box.blk (B := B) (w := w) (j := k) (by assumption), Box.bel (g := g) (m := m) (j := k) (by assumption)⟩
      case measure => simp [intOf]; omega
    · obtain rfl : k = 3 := by omega
      go_wp2_with fail
      go_ret
      exact ⟨rfl, hb1⟩

end Go.Proofs.Ytcmaoomcdmjimaa.Mat
