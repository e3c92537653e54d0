/-
  Layer 36's laws: images compared.
-/
import Derived.Test.YtkdokipgakncjaaCacBoth
import Derived.BigQuiet
namespace Go.Proofs.Ytkdokipgakncjaa.Cac
open Go.RowKit Go.Proofs.Ytkdokipgakncjaa

theorem add_cell (a : Addr) (i j : Nat) : (a.add i).add j = a.add (i + j) := add_of_add a i j
/-- A pixel's four cells. -/
theorem pix_cells {w : World} {B n : Nat} {ad : Addr} {px : List P4} (h : Reads w B 4 (some ad) n (pcs px)) (j : Nat) (hj : j < px.length) :
    w.cell? (ad.add (j * 4)) = some (.int .i64 px[j].1) ∧ w.cell? ⟨(ad.add (j * 4)).block, (ad.add (j * 4)).off + 1, none⟩ = some (.int .i64 px[j].2.1) ∧ w.cell? ⟨(ad.add (j * 4)).block, (ad.add (j * 4)).off + 2, none⟩ = some (.int .i64 px[j].2.2.1) ∧ w.cell? ⟨(ad.add (j * 4)).block, (ad.add (j * 4)).off + 3, none⟩ = some (.int .i64 px[j].2.2.2) := by
  have hn : 0 < n := by have := h.1; rw [pcs_len] at this; omega
  obtain ⟨a, e, _, hc⟩ := h.2 hn
  injection e with e
  subst e
  have k := fun c (hc4 : c < 4) (u : Value) (hu : (pc px[j])[c]? = some u) => hc (j * 4 + c) u ((pcs_at px j hj c hc4).trans hu)
  have f : ∀ c, 0 < c → (⟨(ad.add (j * 4)).block, (ad.add (j * 4)).off + c, none⟩ : Addr) = ad.add (j * 4 + c) := fun c hc => by
    rw [← add_cell]
    generalize ad.add (j * 4) = b
    unfold Addr.add
    rw [if_neg (by omega)]
  rw [f 1 (by omega), f 2 (by omega), f 3 (by omega)]
  exact ⟨k 0 (by omega) _ rfl, k 1 (by omega) _ rfl, k 2 (by omega) _ rfl, k 3 (by omega) _ rfl⟩
theorem ImgR.addr {w : World} {B : Nat} {A : Option Addr} {i : Img} {q : Nat} (h : Reads w B 4 A q (pcs i.px)) (hq : 0 < q) : ∃ ad, A = some ad ∧ ad.block < B := by
  obtain ⟨a, e, hb, _⟩ := h.2 hq
  exact ⟨a, e, hb⟩

set_option maxHeartbeats 2000000 in
theorem same_img (v1 v2 : Value) (i : Img) (w : World) (h1 : ImgR w w.heap.size v1 i) (h2 : ImgR w w.heap.size v2 i) (hp : i.px.length ≤ 4398046511104) :
    Calls Try.prog 20 #[v1, v2] w fun e w' => e = .returned (.bool true) ∧ Below w.heap.size w w' := by
  obtain ⟨A1, c1, rfl, r1, _⟩ := h1
  obtain ⟨A2, c2, rfl, r2, _⟩ := h2
  obtain ⟨q, hq⟩ : ∃ q, i.px.length = q := ⟨_, rfl⟩
  rw [hq] at r1 r2 hp ⊢
  obtain ⟨iW, hiW⟩ : ∃ z, i.W = z := ⟨_, rfl⟩
  obtain ⟨iH, hiH⟩ : ∃ z, i.H = z := ⟨_, rfl⟩
  rw [hiW, hiH]
  clear hiW hiH
  have HQ := Lib.hid hq
  have R1 := Lib.hid r1
  have R2 := Lib.hid r2
  clear hq r1 r2
  have B0 : Blk ((w.alloc (.cells #[.int .i64 iW, .int .i64 iH, .slice A1 q c1] 32)).alloc (.cells #[.int .i64 iW, .int .i64 iH, .slice A2 q c2] 32)) w.heap.size 32 #[.int .i64 iW, .int .i64 iH, .slice A1 q c1] := (Blk.new _ _ _).alloc _
  have B1 : Blk ((w.alloc (.cells #[.int .i64 iW, .int .i64 iH, .slice A1 q c1] 32)).alloc (.cells #[.int .i64 iW, .int .i64 iH, .slice A2 q c2] 32)) (w.heap.size + 1) 32 #[.int .i64 iW, .int .i64 iH, .slice A2 q c2] := by
    have := Blk.new (w.alloc (.cells #[.int .i64 iW, .int .i64 iH, .slice A1 q c1] 32)) 32 #[.int .i64 iW, .int .i64 iH, .slice A2 q c2]
    simpa using this
  have BB : Below w.heap.size w ((w.alloc (.cells #[.int .i64 iW, .int .i64 iH, .slice A1 q c1] 32)).alloc (.cells #[.int .i64 iW, .int .i64 iH, .slice A2 q c2] 32)) := ((Below.refl _ _).alloc (Nat.le_refl _) _).alloc (by simp) _
  go_enter Try.func20, Try.ntmps20
  go_wp2_with fail
  go_loopw [5] (fun i wr => ∃ j : Nat, i = .int .i64 j ∧ j ≤ q ∧ Blk wr w.heap.size 32 #[.int .i64 iW, .int .i64 iH, .slice A1 q c1] ∧ Blk wr (w.heap.size + 1) 32 #[.int .i64 iW, .int .i64 iH, .slice A2 q c2] ∧ Below w.heap.size w wr) (fun i _ => q - (intOf i).toNat)
  case atStart => exact ⟨0, rfl, by omega, B0, B1, BB⟩
  case round =>
    clear B0 B1 BB
    obtain ⟨j, rfl, hj, b0, b1, hb⟩ := hrel
    obtain ⟨x0, x1, x2, xf⟩ := blk3 b0
    obtain ⟨y0, y1, y2, yf⟩ := blk3 b1
    have HB := Lib.hid hb
    have H0 := Lib.hid b0
    have H1 := Lib.hid b1
    clear hb b0 b1
    by_cases hlt : j < q
    · have hjl : j < i.px.length := by have := HQ.out; omega
      obtain ⟨a1, rfl, hl1⟩ := ImgR.addr R1.out (by omega)
      obtain ⟨a2, rfl, hl2⟩ := ImgR.addr R2.out (by omega)
      obtain ⟨p0, p1, p2, p3⟩ := pix_cells (R1.out.below HB.out) j hjl
      obtain ⟨q0, q1, q2, q3⟩ := pix_cells (R2.out.below HB.out) j hjl
      obtain ⟨y, hy⟩ : ∃ y, i.px[j]'hjl = y := ⟨_, rfl⟩
      rw [hy] at p0 p1 p2 p3 q0 q1 q2 q3
      have hn := fun W => neqPix y y W
      unfold pagg at hn
      rw [decide_eq_true rfl] at hn
      clear hy
      go_wp2_with fail
      go_quiet (fail)
      go_wp2_with fail
      go_roundw
      case rel => exact ⟨j + 1, by go_num, by omega, H0.out, H1.out, HB.out.trans ⟨rfl, rfl, rfl, Nat.le_refl _, fun _ _ => rfl⟩⟩
      case measure => simp [intOf]; omega
    · obtain rfl : j = q := by omega
      go_wp2_with fail
      go_ret
      exact ⟨rfl, HB.out⟩

end Go.Proofs.Ytkdokipgakncjaa.Cac
