/-
  Layer 36, the document's answer: an entry taken out.
-/
import Derived.Test.YtkdokipgakncjaaRCacB
namespace Go.Proofs.Ytkdokipgakncjaa.Cac
open Go.RowKit Go.Proofs.Ytkdokipgakncjaa Go.Proofs.Ytkdokipgakncjaa.RegG

/-- The first j entries but for number i. -/
def cutE (L : List E3) (i j : Nat) : List E3 := (L.take j).eraseIdx i
theorem cut_zero (L : List E3) (i : Nat) : cutE L i 0 = [] := by simp [cutE]
theorem cut_all (L : List E3) (i : Nat) : cutE L i L.length = L.eraseIdx i := by simp [cutE]
theorem cut_next (L : List E3) (i j : Nat) (hj : j < L.length) (h : j ≠ i) : cutE L i (j + 1) = cutE L i j ++ [L[j]] := by
  unfold cutE
  rw [List.take_succ_eq_append_getElem hj]
  have hl : (L.take j).length = j := by rw [List.length_take]; omega
  by_cases h1 : i < j
  · rw [List.eraseIdx_append_of_lt_length (by omega)]
  · rw [List.eraseIdx_of_length_le (by simp; omega), List.eraseIdx_of_length_le (by omega)]
theorem cut_skip (L : List E3) (i : Nat) (hj : i < L.length) : cutE L i (i + 1) = cutE L i i := by
  unfold cutE
  rw [List.take_succ_eq_append_getElem hj]
  have hl : (L.take i).length = i := by rw [List.length_take]; omega
  rw [List.eraseIdx_append_of_length_le (by omega), hl, Nat.sub_self, List.eraseIdx_of_length_le (l := L.take i) (by omega)]
  simp
theorem cut_len (L : List E3) (i j : Nat) : (cutE L i j).length ≤ j := by
  unfold cutE
  have := List.length_eraseIdx_le (L.take j) i
  rw [List.length_take] at this
  omega
theorem row_one {w : World} {base e size n : Nat} {v : Value} {xs : List Value} (h : w.ownsRow base e size v n xs) : v.oneCell' = true := by
  rcases h.2 with ⟨rfl, _⟩ | ⟨g, cap, cur, rfl, _⟩ <;> rfl
/-- An image's three cells in a row of one's own. -/
theorem img_cells {w : World} {base o n cap : Nat} {L : List E3} (h : w.ownsRow base 32 3 (.slice (some ⟨o, 0, none⟩) n cap) n (ics L)) (j : Nat) (hj : j < L.length) :
    w.cell? ⟨o, j * 3, none⟩ = some (.int .i64 L[j].2.1.W) ∧ w.cell? ⟨o, j * 3 + 1, none⟩ = some (.int .i64 L[j].2.1.H) ∧ w.cell? ⟨o, j * 3 + 2, none⟩ = some L[j].2.2 := by
  have hl := h.1
  rw [ics_len] at hl
  have k := fun c (hc : c < 3) => (h.cellAt (j * 3 + c) (by omega)).trans (ics_at L j hj c hc)
  exact ⟨k 0 (by omega), k 1 (by omega), k 2 (by omega)⟩
theorem kys_at (L : List E3) (j : Nat) (hj : j < L.length) : (kys L)[j]'(by rw [kys_len]; exact hj) = L[j].1 := by simp [kys]

def TakenC (B g b en : Nat) (L : List E3) (w : World) (e : Ending) (w' : World) : Prop :=
  e = .returned (.tuple #[]) ∧ ∃ kv iv, RC w' B g kv iv b L en ∧ Tch [g] w w' ∧ (∀ k, kv.ownBlock = some k → w.heap.size ≤ k) ∧ ∀ k, iv.ownBlock = some k → w.heap.size ≤ k
theorem TakenC.mk {B g b en : Nat} {L : List E3} {w wr : World} {A A2 : Option Addr} {n cap cap2 : Nat} {c2 c3 : Value} (hB : B ≤ w.heap.size) (hg : B ≤ g) (hn : n = L.length) (hT : Tch [g] w wr) (hx : Blk wr g 50 #[.int .i64 b, .int .i64 en, c2, c3, .bool true])
    (hk : wr.ownsRow w.heap.size 29 5 (.slice A n cap) n (kcs (kys L))) (hi : wr.ownsRow w.heap.size 32 3 (.slice A2 n cap2) n (ics L)) (hp : ∀ p ∈ L, w.ownsRow B 63 4 p.2.2 p.2.1.px.length (pcs p.2.1.px)) (hgp : NoPix w [g]) :
    TakenC B g b en L w (.returned (.tuple #[])) ((wr.setCell ⟨g, 2, none⟩ (.slice A n cap)).setCell ⟨g, 3, none⟩ (.slice A2 n cap2)) := by
  subst hn
  have T : Tch [g] wr ((wr.setCell ⟨g, 2, none⟩ (.slice A L.length cap)).setCell ⟨g, 3, none⟩ (.slice A2 L.length cap2)) := ((Tch.refl _ _).setCell (.inl (by simp)) _).setCell (.inl (by simp)) _
  have n1 := own_ne_blk hk hx (by decide)
  have n2 := own_ne_blk hi hx (by decide)
  have TT := hT.trans T (fun k hk => .inl hk)
  refine ⟨rfl, .slice A L.length cap, .slice A2 L.length cap2, ⟨?_, own_mono (T.own hk (fun k h1 h2 => n1 k h1 (by simpa using h2))) hB, own_mono (T.own hi (fun k h1 h2 => n2 k h1 (by simpa using h2))) hB, fun p hp' => pix_tch (hp p hp') TT hgp, hg⟩, TT, own_low hk, own_low hi⟩
  have := (hx.set_ 2 (.slice A L.length cap)).set_ 3 (.slice A2 L.length cap2)
  simpa using this
theorem cut_rows {L : List E3} {i j cn : Nat} (hj : j < L.length) (h : j ≠ i) (hcn : (cutE L i j).length = cn) {y0 y1 y2 y3 y4 : Int} {iW iH : Int} {px : List P4} {rv : Value} (hy : L[j] = ((y0, y1, y2, y3, y4), ⟨iW, iH, px⟩, rv)) :
    (cutE L i (j + 1)).length = cn + 1 ∧ kcs (kys (cutE L i (j + 1))) = kcs (kys (cutE L i j)) ++ (#[.int .i64 y0, .int .i64 y1, .int .i64 y2, .int .i64 y3, .int .i64 y4] : Array Value).toList ∧ ics (cutE L i (j + 1)) = ics (cutE L i j) ++ (#[.int .i64 iW, .int .i64 iH, rv] : Array Value).toList := by
  rw [cut_next L i j hj h, hy, kys_app, kcs_app, ics_app]
  exact ⟨by simp [hcn], rfl, rfl⟩

set_option maxRecDepth 100000 in
set_option maxHeartbeats 8000000 in
theorem rtake_any (B g b en : Nat) (kv iv : Value) (L : List E3) (i : Nat) (w : World) (h : RC w B g kv iv b L en) (hi : i < L.length) (hmax : L.length ≤ 1048576) (hB : B ≤ w.heap.size) :
    Calls Try.prog 41 #[.pointer (some ⟨g, 0, none⟩), .int .i64 (i : Int)] w (TakenC B g b en (L.eraseIdx i) w) := by
  obtain ⟨n, hn⟩ : ∃ n, L.length = n := ⟨_, rfl⟩
  obtain ⟨A, cap, A2, cap2, rfl, rfl, hk, hii, hbox⟩ := h.shapes n hn
  rw [hn] at hmax hi
  obtain ⟨o1, rfl⟩ := own_some hk (by omega)
  obtain ⟨o2, rfl⟩ := own_some hii (by omega)
  have hgl := hbox.lt
  have hpix := h.pix
  have hlow := h.low
  have hnp : NoPix w [g] := fun k hk => by
    simp only [List.mem_singleton] at hk
    subst hk
    exact NoPix.cells hbox (by decide)
  have n1 := own_ne_blk hk hbox (by decide)
  have n2 := own_ne_blk hii hbox (by decide)
  obtain ⟨x0, x1, x2, x3, x4, xf⟩ := blk5 hbox
  have hzz : Tch [g] w ((w.alloc (.cells #[] 29)).alloc (.cells #[] 32)) := ((Tch.refl _ _).alloc _).alloc _
  have hz1 : ((w.alloc (.cells #[] 29)).alloc (.cells #[] 32)).ownsRow w.heap.size 29 5 (.slice (some ⟨w.heap.size, 0, none⟩) 0 0) 0 [] := (World.ownsRow_made (e := 29) (size := 5) w #[] 0 (Nat.le_refl _) (by decide) rfl).alloc _
  have hz2 : ((w.alloc (.cells #[] 29)).alloc (.cells #[] 32)).ownsRow w.heap.size 32 3 (.slice (some ⟨w.heap.size + 1, 0, none⟩) 0 0) 0 [] := by
    have := World.ownsRow_made (e := 32) (size := 3) (w.alloc (.cells #[] 29)) #[] 0 (base := w.heap.size) (by simp) (by decide) rfl
    simpa using this
  have hzb := (hbox.alloc (.cells #[] 29)).alloc (.cells #[] 32)
  have HN := Lib.hid hn
  have HK := Lib.hid hk
  have HI := Lib.hid hii
  have HP := Lib.hid hpix
  have HNP := Lib.hid hnp
  have HZ := Lib.hid hzz
  have HZ1 := Lib.hid hz1
  have HZ2 := Lib.hid hz2
  have HZB := Lib.hid hzb
  have N1 := Lib.hid n1
  have N2 := Lib.hid n2
  clear h hn hk hii hpix hnp hzz hz1 hz2 hzb n1 n2
  go_enter Try.func41, Try.ntmps41
  go_wp2_with fail
  go_loopw [4, 5, 6] (fun v4 v5 jj wr => ∃ (j cn : Nat), jj = .int .i64 j ∧ j ≤ n ∧ (cutE L i j).length = cn ∧ wr.ownsRow w.heap.size 29 5 v4 cn (kcs (kys (cutE L i j))) ∧ wr.ownsRow w.heap.size 32 3 v5 cn (ics (cutE L i j)) ∧ Tch [g] w wr ∧ Blk wr g 50 #[.int .i64 b, .int .i64 en, .slice (some ⟨o1, 0, none⟩) n cap, .slice (some ⟨o2, 0, none⟩) n cap2, .bool true]) (fun _ _ i _ => n - (intOf i).toNat)
  case atStart => exact ⟨0, 0, rfl, by omega, by rw [cut_zero]; rfl, by rw [cut_zero]; exact HZ1.out, by rw [cut_zero]; exact HZ2.out, HZ.out, HZB.out⟩
  case round =>
    clear x0 x1 x2 x3 x4
    obtain ⟨j, cn, rfl, hj, hcn, ok, oi, hT, hbx⟩ := hrel
    obtain ⟨x0, x1, x2, x3, x4, xf'⟩ := blk5 hbx
    have hcl := cut_len L i j
    rw [hcn] at hcl
    by_cases hlt : j < n
    · have hjl : j < L.length := by have := HN.out; omega
      by_cases hji : j = i
      · subst hji
        have hne : ((j : Int) != (j : Int)) = false := by simp
        have hcs := cut_skip L j hjl
        have HC := Lib.hid hcs
        have HCN := Lib.hid hcn
        have OK := Lib.hid ok
        have OI := Lib.hid oi
        have HT := Lib.hid hT
        have HBX := Lib.hid hbx
        clear hcs hcn ok oi hT hbx
        go_wp2_with fail
        go_roundw
        case rel => exact ⟨j + 1, cn, by go_num, by omega, by rw [HC.out, HCN.out], by rw [HC.out]; exact OK.out, by rw [HC.out]; exact OI.out, HT.out, HBX.out⟩
        case measure => simp [intOf]; omega
      · have hne : ((j : Int) != (i : Int)) = true := by simpa using (by omega : ¬ (j : Int) = (i : Int))
        obtain ⟨⟨⟨y0, y1, y2, y3, y4⟩, ⟨iW, iH, px⟩, rv⟩, hy⟩ : ∃ y, L[j]'hjl = y := ⟨_, rfl⟩
        obtain ⟨c1, c2, c3⟩ := cut_rows hjl hji hcn hy
        have hrv : rv.oneCell' = true := by
          have := row_one (HP.out _ (List.getElem_mem hjl))
          rw [hy] at this
          exact this
        have ST : Hid (∀ W, (Tch [g] w W ∧ Blk W g 50 #[.int .i64 b, .int .i64 en, .slice (some ⟨o1, 0, none⟩) n cap, .slice (some ⟨o2, 0, none⟩) n cap2, .bool true]) → W.cell? ⟨g, 0, none⟩ = some (.int .i64 b) ∧ W.cell? ⟨g, 1, none⟩ = some (.int .i64 en) ∧ W.cell? ⟨g, 2, none⟩ = some (.slice (some ⟨o1, 0, none⟩) n cap) ∧ W.cell? ⟨g, 3, none⟩ = some (.slice (some ⟨o2, 0, none⟩) n cap2) ∧ W.cell? ⟨g, 4, none⟩ = some (.bool true) ∧
            W.cell? ⟨o1, j * 5, none⟩ = some (.int .i64 y0) ∧ W.cell? ⟨o1, j * 5 + 1, none⟩ = some (.int .i64 y1) ∧ W.cell? ⟨o1, j * 5 + 2, none⟩ = some (.int .i64 y2) ∧ W.cell? ⟨o1, j * 5 + 3, none⟩ = some (.int .i64 y3) ∧ W.cell? ⟨o1, j * 5 + 4, none⟩ = some (.int .i64 y4) ∧
            W.cell? ⟨o2, j * 3, none⟩ = some (.int .i64 iW) ∧ W.cell? ⟨o2, j * 3 + 1, none⟩ = some (.int .i64 iH) ∧ W.cell? ⟨o2, j * 3 + 2, none⟩ = some rv) := Lib.hid (fun W hW => by
          obtain ⟨z0, z1, z2, z3, z4, _⟩ := blk5 hW.2
          have r1 := hW.1.own HK.out (fun k h1 h2 => N1.out k h1 (by simpa using h2))
          have r2 := hW.1.own HI.out (fun k h1 h2 => N2.out k h1 (by simpa using h2))
          obtain ⟨k0, k1, k2, k3, k4⟩ := key_cells r1 j (by rw [kys_len]; exact hjl)
          rw [kys_at L j hjl, hy] at k0 k1 k2 k3 k4
          obtain ⟨i0, i1, i2⟩ := img_cells r2 j hjl
          rw [hy] at i0 i1 i2
          exact ⟨z0, z1, z2, z3, z4, k0, k1, k2, k3, k4, i0, i1, i2⟩)
        have R0 : RW 29 5 32 3 50 [g] w w.heap.size g #[.int .i64 b, .int .i64 en, .slice (some ⟨o1, 0, none⟩) n cap, .slice (some ⟨o2, 0, none⟩) n cap2, .bool true] u4 cn (kcs (kys (cutE L i j))) none u5 cn (ics (cutE L i j)) none [] wr.drew :=
          RW.drew ⟨hT, hbx, ⟨ok, fun _ _ e => by cases e⟩, ⟨oi, fun _ _ e => by cases e⟩, fun k hk => .inr (own_low ok k hk), fun k hk => .inr (own_low oi k hk), .inl (by simp), Nat.le_refl _, by decide, fun p hp => by simp at hp, .inl rfl⟩
        have HCN1 := Lib.hid c1
        have HKC := Lib.hid c2
        have HIC := Lib.hid c3
        have HRV := Lib.hid hrv
        clear c1 c2 c3 hrv hy ok oi hT hbx hcn
        go_wp2_with fail
        refine wp_region_G (S := S1 99 (fun _ => True) (fun W => Tch [g] w W ∧ Blk W g 50 #[.int .i64 b, .int .i64 en, .slice (some ⟨o1, 0, none⟩) n cap, .slice (some ⟨o2, 0, none⟩) n cap2, .bool true])) (by kernel_rfl) ⟨fun _ => trivial, R0.tch, R0.box⟩ (fun hHeld => ?_)
        refine wpAnyG_take (i := 0) (oi := _) (v := u4) rfl (by kernel_rfl) (by kernel_rfl) (by kernel_rfl) (fun _ _ _ h => h) (fun _ _ => S1.un (by decide)) (by kernel_rfl) (Or.inl ⟨by rfl, fun W1 _ => by go_simp⟩) (S1.set (by decide) hHeld) (fun hHeld => ?_)
        go_simp
        refine wpAnyG_take (i := 1) (oi := _) (v := .pointer (some ⟨g, 0, none⟩)) rfl (by kernel_rfl) (by kernel_rfl) (by kernel_rfl) (fun _ _ _ h => h) (fun _ _ => S1.un (by decide)) (by kernel_rfl) (Or.inl ⟨by rfl, fun W1 _ => by go_simp⟩) (S1.set (by decide) hHeld) (fun hHeld => ?_)
        go_simp
        refine wpAnyG_take (i := 2) (oi := _) (v := .pointer (some ⟨g, 0, none⟩)) rfl (by kernel_rfl) (by kernel_rfl) (by kernel_rfl) (fun _ _ _ h => h) (fun _ _ => S1.un (by decide)) (by kernel_rfl) (Or.inl ⟨by rfl, fun W1 _ => by go_simp⟩) (S1.set (by decide) hHeld) (fun hHeld => ?_)
        go_simp
        refine wpAnyG_take (i := 3) (oi := _) (v := .pointer (some ⟨g, 2, none⟩)) rfl (by kernel_rfl) (by kernel_rfl) (by kernel_rfl) (fun _ _ _ h => h) (fun _ _ => S1.un (by decide)) (by kernel_rfl) (Or.inl ⟨by rfl, fun W1 _ => by go_simp⟩) (S1.set (by decide) hHeld) (fun hHeld => ?_)
        go_simp
        refine wpAnyG_take (i := 4) (oi := _) (v := .slice (some ⟨o1, 0, none⟩) n cap) rfl (by kernel_rfl) (by kernel_rfl) (by kernel_rfl) (fun _ _ _ h => h) (fun _ _ => S1.un (by decide)) (by kernel_rfl) (Or.inl ⟨by rfl, fun W1 h1 => by (obtain ⟨l, hcl, hi, hS⟩ := h1; have hT := hS.T; have hST := ST.out W1 hT; obtain ⟨z0, z1, z2, z3, z4, k0', k1', k2', k3', k4', i0', i1', i2'⟩ := hST; go_simp)⟩) (S1.set (by decide) hHeld) (fun hHeld => ?_)
        go_simp
        refine wpAnyG_take (i := 5) (oi := _) (v := .int .i64 (j : Int)) rfl (by kernel_rfl) (by kernel_rfl) (by kernel_rfl) (fun _ _ _ h => h) (fun _ _ => S1.un (by decide)) (by kernel_rfl) (Or.inl ⟨by rfl, fun W1 _ => by go_simp⟩) (S1.set (by decide) hHeld) (fun hHeld => ?_)
        go_simp
        refine wpAnyG_take (i := 6) (oi := _) (v := .pointer (some ⟨o1, j * 5, none⟩)) rfl (by kernel_rfl) (by kernel_rfl) (by kernel_rfl) (fun _ _ _ h => h) (fun _ _ => S1.un (by decide)) (by kernel_rfl) (Or.inl ⟨by rfl, fun W1 _ => by go_simp⟩) (S1.set (by decide) hHeld) (fun hHeld => ?_)
        go_simp
        refine wpAnyG_take (i := 7) (oi := _) (v := .agg #[.int .i64 y0, .int .i64 y1, .int .i64 y2, .int .i64 y3, .int .i64 y4]) rfl (by kernel_rfl) (by kernel_rfl) (by kernel_rfl) (fun _ _ _ h => h) (fun _ _ => S1.un (by decide)) (by kernel_rfl) (Or.inl ⟨by rfl, fun W1 h1 => by (obtain ⟨l, hcl, hi, hS⟩ := h1; have hT := hS.T; have hST := ST.out W1 hT; obtain ⟨z0, z1, z2, z3, z4, k0', k1', k2', k3', k4', i0', i1', i2'⟩ := hST; go_simp)⟩) (S1.set (by decide) hHeld) (fun hHeld => ?_)
        go_simp
        refine wpAnyG_take (i := 10) (oi := _) (v := u5) rfl (by kernel_rfl) (by kernel_rfl) (by kernel_rfl) (fun _ _ _ h => h) (fun _ _ => S1.un (by decide)) (by kernel_rfl) (Or.inl ⟨by rfl, fun W1 _ => by go_simp⟩) (S1.set (by decide) hHeld) (fun hHeld => ?_)
        go_simp
        refine wpAnyG_take (i := 11) (oi := _) (v := .pointer (some ⟨g, 0, none⟩)) rfl (by kernel_rfl) (by kernel_rfl) (by kernel_rfl) (fun _ _ _ h => h) (fun _ _ => S1.un (by decide)) (by kernel_rfl) (Or.inl ⟨by rfl, fun W1 _ => by go_simp⟩) (S1.set (by decide) hHeld) (fun hHeld => ?_)
        go_simp
        refine wpAnyG_take (i := 12) (oi := _) (v := .pointer (some ⟨g, 0, none⟩)) rfl (by kernel_rfl) (by kernel_rfl) (by kernel_rfl) (fun _ _ _ h => h) (fun _ _ => S1.un (by decide)) (by kernel_rfl) (Or.inl ⟨by rfl, fun W1 _ => by go_simp⟩) (S1.set (by decide) hHeld) (fun hHeld => ?_)
        go_simp
        refine wpAnyG_take (i := 13) (oi := _) (v := .pointer (some ⟨g, 3, none⟩)) rfl (by kernel_rfl) (by kernel_rfl) (by kernel_rfl) (fun _ _ _ h => h) (fun _ _ => S1.un (by decide)) (by kernel_rfl) (Or.inl ⟨by rfl, fun W1 _ => by go_simp⟩) (S1.set (by decide) hHeld) (fun hHeld => ?_)
        go_simp
        refine wpAnyG_take (i := 14) (oi := _) (v := .slice (some ⟨o2, 0, none⟩) n cap2) rfl (by kernel_rfl) (by kernel_rfl) (by kernel_rfl) (fun _ _ _ h => h) (fun _ _ => S1.un (by decide)) (by kernel_rfl) (Or.inl ⟨by rfl, fun W1 h1 => by (obtain ⟨l, hcl, hi, hS⟩ := h1; have hT := hS.T; have hST := ST.out W1 hT; obtain ⟨z0, z1, z2, z3, z4, k0', k1', k2', k3', k4', i0', i1', i2'⟩ := hST; go_simp)⟩) (S1.set (by decide) hHeld) (fun hHeld => ?_)
        go_simp
        refine wpAnyG_take (i := 15) (oi := _) (v := .int .i64 (j : Int)) rfl (by kernel_rfl) (by kernel_rfl) (by kernel_rfl) (fun _ _ _ h => h) (fun _ _ => S1.un (by decide)) (by kernel_rfl) (Or.inl ⟨by rfl, fun W1 _ => by go_simp⟩) (S1.set (by decide) hHeld) (fun hHeld => ?_)
        go_simp
        refine wpAnyG_take (i := 16) (oi := _) (v := .pointer (some ⟨o2, j * 3, none⟩)) rfl (by kernel_rfl) (by kernel_rfl) (by kernel_rfl) (fun _ _ _ h => h) (fun _ _ => S1.un (by decide)) (by kernel_rfl) (Or.inl ⟨by rfl, fun W1 _ => by go_simp⟩) (S1.set (by decide) hHeld) (fun hHeld => ?_)
        go_simp
        refine wpAnyG_take (i := 17) (oi := _) (v := .agg #[.int .i64 iW, .int .i64 iH, rv]) rfl (by kernel_rfl) (by kernel_rfl) (by kernel_rfl) (fun _ _ _ h => h) (fun _ _ => S1.un (by decide)) (by kernel_rfl) (Or.inl ⟨by rfl, fun W1 h1 => by (obtain ⟨l, hcl, hi, hS⟩ := h1; have hT := hS.T; have hST := ST.out W1 hT; obtain ⟨z0, z1, z2, z3, z4, k0', k1', k2', k3', k4', i0', i1', i2'⟩ := hST; go_simp)⟩) (S1.set (by decide) hHeld) (fun hHeld => ?_)
        go_simp
        refine wpAnyG_ready (rs := [8, 18]) (by kernel_rfl) (by simp) ?_
        refine AllReadyG.cons (o := _) rfl (fun K hK => ?_) (AllReadyG.cons (o := _) rfl (fun K hK => ?_) AllReadyG.nil)
        · rw [if_pos (by rfl)]
          refine wp_litK 29 rfl _ rfl _ _ _ _ _ R0 rfl (fun gK wK0 R1 => ?_)
          refine hK.out _ _ (⟨fun _ => trivial, R1.tch, R1.box⟩) (fun hHeld => ?_)
          clear hK
          try simp only [Act.put, List.setIfInBounds_toArray, List.set_cons_zero, List.set_cons_succ]
          refine wpAnyG_ready (rs := [9, 18]) (by kernel_rfl) (by simp) ?_
          refine AllReadyG.cons (o := _) rfl (fun K hK => ?_) (AllReadyG.cons (o := _) rfl (fun K hK => ?_) AllReadyG.nil)
          · rw [if_pos (by rfl)]
            refine wp_appK 30 rfl _ _ rfl R1 rfl rfl rfl (fun y hy => by (simp only [List.mem_cons, List.not_mem_nil, or_false] at hy; rcases hy with rfl | rfl | rfl | rfl | rfl <;> rfl)) (by omega) (fun vK wk1 R2 => ?_)
            refine hK.out _ _ (⟨fun _ => trivial, R2.tch, R2.box⟩) (fun hHeld => ?_)
            clear hK
            try simp only [Act.put, List.setIfInBounds_toArray, List.set_cons_zero, List.set_cons_succ]
            refine wpAnyG_ready (rs := [18]) (by kernel_rfl) (by simp) ?_
            refine AllReadyG.cons (o := _) rfl (fun K hK => ?_) AllReadyG.nil
            rw [if_pos (by rfl)]
            refine wp_litI 39 rfl _ rfl _ _ _ R2 rfl (fun gI wI2 R3 => ?_)
            refine hK.out _ _ (⟨fun _ => trivial, R3.tch, R3.box⟩) (fun hHeld => ?_)
            clear hK
            try simp only [Act.put, List.setIfInBounds_toArray, List.set_cons_zero, List.set_cons_succ]
            refine wpAnyG_ready (rs := [19]) (by kernel_rfl) (by simp) ?_
            refine AllReadyG.cons (o := _) rfl (fun K hK => ?_) AllReadyG.nil
            rw [if_pos (by rfl)]
            refine wp_appI 40 rfl _ _ rfl R3 rfl rfl rfl (fun y hy => by (simp only [List.mem_cons, List.not_mem_nil, or_false] at hy; rcases hy with rfl | rfl | rfl <;> first | rfl | exact HRV.out)) (by omega) (fun vI wi3 R4 => ?_)
            refine hK.out _ _ (⟨fun _ => trivial, R4.tch, R4.box⟩) (fun hHeld => ?_)
            clear hK
            try simp only [Act.put, List.setIfInBounds_toArray, List.set_cons_zero, List.set_cons_succ]
            refine wpAnyG_take (i := 20) (oi := _) (v := vK) rfl (by kernel_rfl) (by kernel_rfl) (by kernel_rfl) (fun _ _ _ h => h) (fun _ _ => S1.un (by decide)) (by kernel_rfl) (Or.inl ⟨by rfl, fun W1 _ => by go_simp⟩) (S1.set (by decide) hHeld) (fun hHeld => ?_)
            go_simp
            refine wpAnyG_take (i := 21) (oi := _) (v := vI) rfl (by kernel_rfl) (by kernel_rfl) (by kernel_rfl) (fun _ _ _ h => h) (fun _ _ => S1.un (by decide)) (by kernel_rfl) (Or.inl ⟨by rfl, fun W1 _ => by go_simp⟩) (S1.set (by decide) hHeld) (fun hHeld => ?_)
            go_simp
            refine wpAnyG_done (by kernel_rfl) ?_ _
            have HRR := Lib.hid R4
            clear hHeld R4 R3 R2 R1 R0
            go_wp2_with fail
            go_roundw
            case rel => exact ⟨j + 1, cn + 1, by go_num, by omega, by rw [HCN1.out], by rw [HKC.out]; exact HRR.out.a.row, by rw [HIC.out]; exact HRR.out.b.row, HRR.out.tch, HRR.out.box⟩
            case measure => simp [intOf]; omega
          · rw [if_pos (by rfl)]
            refine wp_litI 39 rfl _ rfl _ _ _ R1 rfl (fun gI wI1 R2 => ?_)
            refine hK.out _ _ (⟨fun _ => trivial, R2.tch, R2.box⟩) (fun hHeld => ?_)
            clear hK
            try simp only [Act.put, List.setIfInBounds_toArray, List.set_cons_zero, List.set_cons_succ]
            refine wpAnyG_ready (rs := [9]) (by kernel_rfl) (by simp) ?_
            refine AllReadyG.cons (o := _) rfl (fun K hK => ?_) AllReadyG.nil
            rw [if_pos (by rfl)]
            refine wp_appK 30 rfl _ _ rfl R2 rfl rfl rfl (fun y hy => by (simp only [List.mem_cons, List.not_mem_nil, or_false] at hy; rcases hy with rfl | rfl | rfl | rfl | rfl <;> rfl)) (by omega) (fun vK wk2 R3 => ?_)
            refine hK.out _ _ (⟨fun _ => trivial, R3.tch, R3.box⟩) (fun hHeld => ?_)
            clear hK
            try simp only [Act.put, List.setIfInBounds_toArray, List.set_cons_zero, List.set_cons_succ]
            refine wpAnyG_ready (rs := [19]) (by kernel_rfl) (by simp) ?_
            refine AllReadyG.cons (o := _) rfl (fun K hK => ?_) AllReadyG.nil
            rw [if_pos (by rfl)]
            refine wp_appI 40 rfl _ _ rfl R3 rfl rfl rfl (fun y hy => by (simp only [List.mem_cons, List.not_mem_nil, or_false] at hy; rcases hy with rfl | rfl | rfl <;> first | rfl | exact HRV.out)) (by omega) (fun vI wi3 R4 => ?_)
            refine hK.out _ _ (⟨fun _ => trivial, R4.tch, R4.box⟩) (fun hHeld => ?_)
            clear hK
            try simp only [Act.put, List.setIfInBounds_toArray, List.set_cons_zero, List.set_cons_succ]
            refine wpAnyG_take (i := 20) (oi := _) (v := vK) rfl (by kernel_rfl) (by kernel_rfl) (by kernel_rfl) (fun _ _ _ h => h) (fun _ _ => S1.un (by decide)) (by kernel_rfl) (Or.inl ⟨by rfl, fun W1 _ => by go_simp⟩) (S1.set (by decide) hHeld) (fun hHeld => ?_)
            go_simp
            refine wpAnyG_take (i := 21) (oi := _) (v := vI) rfl (by kernel_rfl) (by kernel_rfl) (by kernel_rfl) (fun _ _ _ h => h) (fun _ _ => S1.un (by decide)) (by kernel_rfl) (Or.inl ⟨by rfl, fun W1 _ => by go_simp⟩) (S1.set (by decide) hHeld) (fun hHeld => ?_)
            go_simp
            refine wpAnyG_done (by kernel_rfl) ?_ _
            have HRR := Lib.hid R4
            clear hHeld R4 R3 R2 R1 R0
            go_wp2_with fail
            go_roundw
            case rel => exact ⟨j + 1, cn + 1, by go_num, by omega, by rw [HCN1.out], by rw [HKC.out]; exact HRR.out.a.row, by rw [HIC.out]; exact HRR.out.b.row, HRR.out.tch, HRR.out.box⟩
            case measure => simp [intOf]; omega
        · rw [if_pos (by rfl)]
          refine wp_litI 39 rfl _ rfl _ _ _ R0 rfl (fun gI wI0 R1 => ?_)
          refine hK.out _ _ (⟨fun _ => trivial, R1.tch, R1.box⟩) (fun hHeld => ?_)
          clear hK
          try simp only [Act.put, List.setIfInBounds_toArray, List.set_cons_zero, List.set_cons_succ]
          refine wpAnyG_ready (rs := [8]) (by kernel_rfl) (by simp) ?_
          refine AllReadyG.cons (o := _) rfl (fun K hK => ?_) AllReadyG.nil
          rw [if_pos (by rfl)]
          refine wp_litK 29 rfl _ rfl _ _ _ _ _ R1 rfl (fun gK wK1 R2 => ?_)
          refine hK.out _ _ (⟨fun _ => trivial, R2.tch, R2.box⟩) (fun hHeld => ?_)
          clear hK
          try simp only [Act.put, List.setIfInBounds_toArray, List.set_cons_zero, List.set_cons_succ]
          refine wpAnyG_ready (rs := [9]) (by kernel_rfl) (by simp) ?_
          refine AllReadyG.cons (o := _) rfl (fun K hK => ?_) AllReadyG.nil
          rw [if_pos (by rfl)]
          refine wp_appK 30 rfl _ _ rfl R2 rfl rfl rfl (fun y hy => by (simp only [List.mem_cons, List.not_mem_nil, or_false] at hy; rcases hy with rfl | rfl | rfl | rfl | rfl <;> rfl)) (by omega) (fun vK wk2 R3 => ?_)
          refine hK.out _ _ (⟨fun _ => trivial, R3.tch, R3.box⟩) (fun hHeld => ?_)
          clear hK
          try simp only [Act.put, List.setIfInBounds_toArray, List.set_cons_zero, List.set_cons_succ]
          refine wpAnyG_ready (rs := [19]) (by kernel_rfl) (by simp) ?_
          refine AllReadyG.cons (o := _) rfl (fun K hK => ?_) AllReadyG.nil
          rw [if_pos (by rfl)]
          refine wp_appI 40 rfl _ _ rfl R3 rfl rfl rfl (fun y hy => by (simp only [List.mem_cons, List.not_mem_nil, or_false] at hy; rcases hy with rfl | rfl | rfl <;> first | rfl | exact HRV.out)) (by omega) (fun vI wi3 R4 => ?_)
          refine hK.out _ _ (⟨fun _ => trivial, R4.tch, R4.box⟩) (fun hHeld => ?_)
          clear hK
          try simp only [Act.put, List.setIfInBounds_toArray, List.set_cons_zero, List.set_cons_succ]
          refine wpAnyG_take (i := 20) (oi := _) (v := vK) rfl (by kernel_rfl) (by kernel_rfl) (by kernel_rfl) (fun _ _ _ h => h) (fun _ _ => S1.un (by decide)) (by kernel_rfl) (Or.inl ⟨by rfl, fun W1 _ => by go_simp⟩) (S1.set (by decide) hHeld) (fun hHeld => ?_)
          go_simp
          refine wpAnyG_take (i := 21) (oi := _) (v := vI) rfl (by kernel_rfl) (by kernel_rfl) (by kernel_rfl) (fun _ _ _ h => h) (fun _ _ => S1.un (by decide)) (by kernel_rfl) (Or.inl ⟨by rfl, fun W1 _ => by go_simp⟩) (S1.set (by decide) hHeld) (fun hHeld => ?_)
          go_simp
          refine wpAnyG_done (by kernel_rfl) ?_ _
          have HRR := Lib.hid R4
          clear hHeld R4 R3 R2 R1 R0
          go_wp2_with fail
          go_roundw
          case rel => exact ⟨j + 1, cn + 1, by go_num, by omega, by rw [HCN1.out], by rw [HKC.out]; exact HRR.out.a.row, by rw [HIC.out]; exact HRR.out.b.row, HRR.out.tch, HRR.out.box⟩
          case measure => simp [intOf]; omega
    · obtain rfl : j = n := by omega
      obtain ⟨A4, c4, rfl, _⟩ := own_open ok
      obtain ⟨A5, c5, rfl, _⟩ := own_open oi
      have hall : cutE L i j = L.eraseIdx i := by rw [← HN.out]; exact cut_all L i
      rw [hall] at ok oi hcn
      have OK := Lib.hid ok
      have OI := Lib.hid oi
      have HT := Lib.hid hT
      have HBX := Lib.hid hbx
      have HCN := Lib.hid hcn
      clear hall ok oi hT hbx hcn
      go_wp2_with fail
      go_end0
      exact TakenC.mk hB hlow HCN.out.symm HT.out HBX.out OK.out OI.out (fun p hp => HP.out p (List.mem_of_mem_eraseIdx hp)) HNP.out

end Go.Proofs.Ytkdokipgakncjaa.Cac
