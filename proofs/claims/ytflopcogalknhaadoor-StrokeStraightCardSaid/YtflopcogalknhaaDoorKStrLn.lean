/-
  Layer 21's laws: polylines that are given by numbers.
-/
import Derived.Test.YtflopcogalknhaaDoorKStrAl
import Derived.Test.YtflopcogalknhaaDoorKStr0
set_option linter.unusedVariables false
set_option linter.unusedSimpArgs false
namespace Go.Proofs.YtflopcogalknhaaDoor.Str
open Go.RowKit Go.Proofs.YtflopcogalknhaaDoor Go.Proofs.YtflopcogalknhaaDoor.NumPure

def prs : List Int → List P2
  | x :: y :: r => (x, y) :: prs r
  | _ => []
theorem prs_len : ∀ zs : List Int, (prs zs).length = zs.length / 2
  | [] => by simp [prs]
  | [_] => by simp [prs]
  | x :: y :: r => by
    rw [prs, List.length_cons, prs_len r, List.length_cons, List.length_cons]
    omega
theorem prs_at : ∀ (zs : List Int) (k : Nat) (h : k < (prs zs).length), 2 * k + 1 < zs.length ∧ (prs zs)[k] = (zs.getD (2 * k) 0, zs.getD (2 * k + 1) 0)
  | [], k, h => by simp [prs] at h
  | [_], k, h => by simp [prs] at h
  | x :: y :: r, 0, h => ⟨by simp, rfl⟩
  | x :: y :: r, k + 1, h => by
    have h2 : k < (prs r).length := by rw [prs, List.length_cons] at h; omega
    obtain ⟨h3, h4⟩ := prs_at r k h2
    refine ⟨by simp; omega, ?_⟩
    have e1 : 2 * (k + 1) = 2 * k + 1 + 1 := by omega
    rw [e1]
    show (prs r)[k] = _
    rw [h4]
    simp [List.getD_cons_succ]
/-- A call that returns a list of one polygon. -/
def LnO (l : List P2) (w : World) (e : Ending) (w' : World) : Prop := ∃ A c, e = .returned (.slice A 1 c) ∧ PolR w' A [l] ∧ Below w.heap.size w w'
set_option maxRecDepth 100000 in
set_option maxHeartbeats 2000000 in
theorem line_any (g : Nat) (c : Nat) (zs : List Int) (w : World) (h : InR w (some ⟨g, 0, none⟩) zs) (hl : zs.length ≤ 1048576) : Calls Tryd.prog 18 #[.slice (some ⟨g, 0, none⟩) zs.length c] w (LnO (prs zs) w) := by
  obtain ⟨n, hn⟩ : ∃ n, zs.length = n := ⟨_, rfl⟩
  have hpl := prs_len zs
  rw [hn] at hl hpl ⊢
  have HN := Lib.hid hn
  have HR := Lib.hid h
  have HPL := Lib.hid hpl
  clear h hn hpl
  go_enter Tryd.func18, Tryd.ntmps18
  go_wp2_with fail
  go_loopw [3, 4] (fun v i wr => ∃ k i0 : Nat, i = .int .i64 (i0 : Int) ∧ i0 = 2 * k ∧ i0 ≤ n ∧ R1 30 2 w v k (pts ((prs zs).take k)) none wr) (fun _ i _ => n - (intOf i).toNat)
  case atStart => exact ⟨0, 0, rfl, rfl, Nat.zero_le _, R1.start w⟩
  case round =>
    obtain ⟨k, i0, rfl, hi0, hin, hr⟩ := hrel
    have HR1 := Lib.hid hr
    have HI := Lib.hid hi0
    clear hr
    by_cases hlt : i0 + 1 < n
    · have hkp : k < (prs zs).length := by have := HPL.out; omega
      obtain ⟨_, hat⟩ := prs_at zs k hkp
      have SS : Hid (∀ W, Below w.heap.size w W → W.cell? ⟨g, i0, none⟩ = some (.int .i64 (zs.getD i0 0)) ∧ W.cell? ⟨g, i0 + 1, none⟩ = some (.int .i64 (zs.getD (i0 + 1) 0))) := Lib.hid fun W hW => by
        have h1 := InR.cell (InR.below HR.out hW) i0 (by have := HN.out; omega)
        have h2 := InR.cell (InR.below HR.out hW) (i0 + 1) (by have := HN.out; omega)
        rw [Addr.add_mid, Nat.zero_add] at h1 h2
        exact ⟨h1, h2⟩
      rw [← hi0] at hat
      obtain ⟨x, hx⟩ : ∃ x, zs.getD i0 0 = x := ⟨_, rfl⟩
      obtain ⟨y, hy⟩ : ∃ x, zs.getD (i0 + 1) 0 = x := ⟨_, rfl⟩
      rw [hx, hy] at SS hat
      have HNX : Hid (pts ((prs zs).take (k + 1)) = pts ((prs zs).take k) ++ [.int .i64 x, .int .i64 y]) := Lib.hid (by
        rw [List.take_succ_eq_append_getElem hkp, pts_app, hat]
        rfl)
      have X1 : Hid (IntKind.i64.wrap ((i0 : Int) + 1) = (i0 : Int) + 1) := Lib.hid (i64w (by omega) (by omega))
      have k1 : (i0 : Int) + 1 < (n : Int) := by omega
      have k2 : (i0 : Int) < (n : Int) := by omega
      have k3 : (0 : Int) ≤ (i0 : Int) := by omega
      have k4 : (0 : Int) ≤ (i0 : Int) + 1 := by omega
      have HKN : Hid (k < 1048576) := Lib.hid (by omega)
      clear hkp hat hx hy hi0
      have x1 := X1.out
      go_wp2_with fail
      have HRq := Lib.hid HR1.out.drew
      have HK := SS.out _ HRq.out.below
      go_region_held3 (fun W => W.cell? ⟨g, i0, none⟩ = some (.int .i64 x) ∧ W.cell? ⟨g, i0 + 1, none⟩ = some (.int .i64 y))
        (first | exact HK | exact SS.out _ (R1.lit HRq.out _).below | go_keep)
        (first
          | (rw [if_pos (by rfl)]; refine wp_appP 24 rfl _ _ rfl (R1.lit HRq.out #[.int .i64 x, .int .i64 y]) rfl rfl rfl (fun y hy => by (simp only [List.mem_cons, List.not_mem_nil, or_false] at hy; rcases hy with rfl | rfl <;> rfl)) (by have := HKN.out; omega) (fun vK wk R2 => ?_); have HRq := Lib.hid R2; have HK := SS.out _ HRq.out.below; clear R2))
      have HF : Hid (R1 30 2 w vK (k + 1) (pts ((prs zs).take (k + 1))) none wk) := Lib.hid (HNX.out ▸ HRq.out)
      clear HRq HK x1
      go_wp2_with fail
      go_roundw
      case rel => exact ⟨k + 1, i0 + 2, by go_num, by have := HI.out; omega, by omega, HF.out⟩
      case measure => first | (simp [intOf]; done) | (simp [intOf]; omega)
    · have k1 : ¬ (i0 : Int) + 1 < (n : Int) := by omega
      have X1 : Hid (IntKind.i64.wrap ((i0 : Int) + 1) = (i0 : Int) + 1) := Lib.hid (i64w (by omega) (by omega))
      have hk : k = (prs zs).length := by have := HPL.out; omega
      have hrow := HR1.out.row
      rw [List.take_of_length_le (by omega)] at hrow
      obtain ⟨A1, c1, rfl, hp⟩ := ptr_of_own hrow hk
      have hb : Below wr.heap.size wr (wr.alloc (.cells #[.slice A1 k c1] 36)) := (Below.refl _ _).alloc (Nat.le_refl _) _
      have HP : Hid (PolR (wr.alloc (.cells #[.slice A1 k c1] 36)) (some ⟨wr.heap.size, 0, none⟩) [prs zs]) := Lib.hid (by
        refine ⟨fun _ => A1, fun _ => c1, ⟨rfl, fun _ => ⟨_, rfl, (Blk.new _ _ _).lt, fun i u hu => ?_⟩⟩, fun i hi => ?_⟩
        · have h9 := World.news_of_block (Blk.new wr 36 #[.slice A1 k c1]) i u
          apply h9
          rw [hk]
          exact hu
        · have : i = 0 := by simpa using hi
          subst this
          exact hp.below hb)
      have HBF : Hid (Below w.heap.size w (wr.alloc (.cells #[.slice A1 k c1] 36))) := Lib.hid (HR1.out.below.alloc HR1.out.below.size _)
      clear hrow hp hb hi0 hk
      have x1 := X1.out
      go_wp2_with fail
      go_ret
      exact ⟨_, _, rfl, HP.out, HBF.out⟩
theorem inr_blk {w : World} {g : Nat} {cs : Array Value} (zs : List Int) (h : Blk w g 3 cs) (hz : cs.toList = zs.map (Value.int .i64)) : InR w (some ⟨g, 0, none⟩) zs :=
  ⟨by simp, fun _ => ⟨_, rfl, h.lt, fun i u hu => World.news_of_block h i u (by rw [hz]; exact hu)⟩⟩
theorem line4 (a b c d : Int) (w : World) : Calls Tryd.prog 18 #[.slice (some ⟨w.heap.size, 0, none⟩) 4 4] (w.alloc (.cells #[.int .i64 a, .int .i64 b, .int .i64 c, .int .i64 d] 3)) (LnO [(a, b), (c, d)] w) := by
  have hb : Below w.heap.size w (w.alloc (.cells #[.int .i64 a, .int .i64 b, .int .i64 c, .int .i64 d] 3)) := (Below.refl _ _).alloc (Nat.le_refl _) _
  refine (line_any w.heap.size 4 [a, b, c, d] _ (inr_blk [a, b, c, d] (Blk.new w 3 _) rfl) (show 4 ≤ 1048576 by omega)).mono ?_
  rintro e w' ⟨A, cc, rfl, hp, hb'⟩
  exact ⟨A, cc, rfl, hp, hb.trans (hb'.mono hb.size)⟩
theorem line8 (a b c d a2 b2 c2 d2 : Int) (w : World) : Calls Tryd.prog 18 #[.slice (some ⟨w.heap.size, 0, none⟩) 8 8] (w.alloc (.cells #[.int .i64 a, .int .i64 b, .int .i64 c, .int .i64 d, .int .i64 a2, .int .i64 b2, .int .i64 c2, .int .i64 d2] 3)) (LnO [(a, b), (c, d), (a2, b2), (c2, d2)] w) := by
  have hb : Below w.heap.size w (w.alloc (.cells #[.int .i64 a, .int .i64 b, .int .i64 c, .int .i64 d, .int .i64 a2, .int .i64 b2, .int .i64 c2, .int .i64 d2] 3)) := (Below.refl _ _).alloc (Nat.le_refl _) _
  refine (line_any w.heap.size 8 [a, b, c, d, a2, b2, c2, d2] _ (inr_blk [a, b, c, d, a2, b2, c2, d2] (Blk.new w 3 _) rfl) (show 8 ≤ 1048576 by omega)).mono ?_
  rintro e w' ⟨A, cc, rfl, hp, hb'⟩
  exact ⟨A, cc, rfl, hp, hb.trans (hb'.mono hb.size)⟩
end Go.Proofs.YtflopcogalknhaaDoor.Str
