/-
  Layer 21: a polygon turned round in place.
-/
import Derived.Test.YtflopcogalknhaaDoorKStrP
set_option linter.unusedVariables false
set_option linter.unusedSimpArgs false
namespace Go.Proofs.YtflopcogalknhaaDoor.Str
open Go.RowKit Go.Proofs.YtflopcogalknhaaDoor Go.Proofs.YtflopcogalknhaaDoor.NumPure

/-- A list as far as it is turned round from both ends. -/
def rvN (l : List P2) (i : Nat) : List P2 := (List.range l.length).map fun k => if k < i ∨ l.length ≤ k + i then l.getD (l.length - 1 - k) (0, 0) else l.getD k (0, 0)
theorem rvN_len (l : List P2) (i : Nat) : (rvN l i).length = l.length := by simp [rvN]
theorem rvN_at (l : List P2) (i k : Nat) (h : k < l.length) : (rvN l i)[k]'(by rw [rvN_len]; exact h) = if k < i ∨ l.length ≤ k + i then l.getD (l.length - 1 - k) (0, 0) else l.getD k (0, 0) := by simp [rvN]
theorem rvN_zero (l : List P2) : rvN l 0 = l := by
  apply List.ext_getElem (rvN_len _ _)
  intro k h1 h2
  rw [rvN_at l 0 k h2, if_neg (by omega), getD_at h2]
theorem rvN_all {l : List P2} {i j : Nat} (hn : i + j + 1 = l.length) (hij : j ≤ i) : rvN l i = l.reverse := by
  apply List.ext_getElem (by rw [rvN_len, List.length_reverse])
  intro k h1 h2
  have hk : k < l.length := by rwa [List.length_reverse] at h2
  rw [rvN_at l i k hk, List.getElem_reverse]
  by_cases hc : k < i ∨ l.length ≤ k + i
  · rw [if_pos hc, getD_at (by omega)]
  · rw [if_neg hc, getD_at hk]
    congr 1
    omega
theorem rvN_next {l : List P2} {i j : Nat} (hn : i + j + 1 = l.length) (hij : i < j) : ((rvN l i).set i (l.getD j (0, 0))).set j (l.getD i (0, 0)) = rvN l (i + 1) := by
  apply List.ext_getElem (by rw [List.length_set, List.length_set, rvN_len, rvN_len])
  intro k h1 h2
  have hk : k < l.length := by rwa [rvN_len] at h2
  rw [rvN_at l (i + 1) k hk, List.getElem_set, List.getElem_set]
  by_cases e1 : j = k
  · subst e1
    rw [if_pos rfl, if_pos (by omega)]
    congr 1
    omega
  · rw [if_neg e1]
    by_cases e2 : i = k
    · subst e2
      rw [if_pos rfl, if_pos (by omega)]
      congr 1
      omega
    · rw [if_neg e2, rvN_at l i k hk]
      by_cases hc : k < i ∨ l.length ≤ k + i
      · rw [if_pos hc, if_pos (by omega)]
      · rw [if_neg hc, if_neg (by omega)]
theorem pt_blk {w : World} {g : Nat} {l : List P2} (h : Blk w g 30 (pts l).toArray) (k : Nat) (hk : k < l.length) : w.cell? ⟨g, k * 2, none⟩ = some (.int .i64 l[k].1) ∧ w.cell? ⟨g, k * 2 + 1, none⟩ = some (.int .i64 l[k].2) := by
  constructor
  · rw [h.cell, List.getElem?_toArray]
    exact pts_at l k hk 0 (by omega)
  · rw [h.cell, List.getElem?_toArray]
    exact pts_at l k hk 1 (by omega)
theorem tch_drewN {M : List Nat} {w w' : World} (h : Tch M w w') (n : Nat) : Tch M w (w'.drewN n) := ⟨h.os, h.tape, h.output, h.size, h.block⟩
theorem tch_setRow {M : List Nat} {w w' : World} (h : Tch M w w') {g : Nat} (hg : g ∈ M ∨ w.heap.size ≤ g) (cs : Array Value) : Tch M w (w'.setRow g cs) :=
  ⟨h.os, h.tape, h.output, by simpa [World.setRow] using h.size, fun k hk hn => (setRow_other _ _ _ _ (fun e => by subst e; rcases hg with h1 | h1; exact hn h1; omega)).trans (h.block k hk hn)⟩
set_option maxRecDepth 100000 in
set_option maxHeartbeats 8000000 in
theorem Reverse_any (g c : Nat) (l : List P2) (w : World) (h : Blk w g 30 (pts l).toArray) (h0 : 0 < l.length) (hl : l.length ≤ 1000000) : Calls Tryd.prog 54 #[.slice (some ⟨g, 0, none⟩) l.length c] w fun e w' => e = .returned (.tuple #[]) ∧ Blk w' g 30 (pts l.reverse).toArray ∧ Tch [g] w w' := by
  obtain ⟨n, hn⟩ : ∃ n, l.length = n := ⟨_, rfl⟩
  rw [hn] at h0 hl ⊢
  have HN := Lib.hid hn
  have HB : Hid (Blk w g 30 (pts (rvN l 0)).toArray) := Lib.hid (by rw [rvN_zero]; exact h)
  clear h hn
  go_enter Tryd.func54, Tryd.ntmps54
  go_wp2_with fail
  go_loopw [2, 3] (fun a b wr => ∃ i j : Nat, a = .int .i64 i ∧ b = .int .i64 j ∧ i + j + 1 = n ∧ Blk wr g 30 (pts (rvN l i)).toArray ∧ Tch [g] w wr) (fun _ b _ => (intOf b).toNat)
  case atStart => exact ⟨0, n - 1, rfl, by go_num, by omega, HB.out, Tch.refl _ _⟩
  case round =>
    obtain ⟨i, j, rfl, rfl, hij, hb, ht⟩ := hrel
    clear HB
    by_cases hlt : i < j
    · have hil : i < l.length := by have := HN.out; omega
      have hjl : j < l.length := by have := HN.out; omega
      have hrl := rvN_len l i
      obtain ⟨a0, a1⟩ := pt_blk hb i (by omega)
      obtain ⟨b0, b1⟩ := pt_blk hb j (by omega)
      have ei : (rvN l i)[i]'(by omega) = l.getD i (0, 0) := by rw [rvN_at l i i hil, if_neg (by have := HN.out; omega)]
      have ej : (rvN l i)[j]'(by omega) = l.getD j (0, 0) := by rw [rvN_at l i j hjl, if_neg (by have := HN.out; omega)]
      rw [ei] at a0 a1
      rw [ej] at b0 b1
      have HNX : Hid (((rvN l i).set i (l.getD j (0, 0))).set j (l.getD i (0, 0)) = rvN l (i + 1)) := Lib.hid (rvN_next (by have := HN.out; omega) hlt)
      obtain ⟨⟨x, y⟩, hp⟩ : ∃ p, l.getD i (0, 0) = p := ⟨_, rfl⟩
      obtain ⟨⟨u, v⟩, hq⟩ : ∃ p, l.getD j (0, 0) = p := ⟨_, rfl⟩
      rw [hp] at a0 a1
      rw [hq] at b0 b1
      rw [hp, hq] at HNX
      dsimp only at a0 a1 b0 b1
      have HBK := Lib.hid hb
      have HT := Lib.hid ht
      have zf := hb.frozen
      have n1 : ¬ (i * 2 = j * 2) := by omega
      have n2 : ¬ (i * 2 = j * 2 + 1) := by omega
      have n3 : ¬ (i * 2 + 1 = j * 2) := by omega
      have n4 : ¬ (i * 2 + 1 = j * 2 + 1) := by omega
      clear hb ht ei ej hp hq hrl
      go_wp2_with fail
      go_region
      have e9 : ((((pts (rvN l i)).toArray.setIfInBounds (i * 2) (.int .i64 u)).setIfInBounds (i * 2 + 1) (.int .i64 v)).setIfInBounds (j * 2) (.int .i64 x)).setIfInBounds (j * 2 + 1) (.int .i64 y) = (pts (rvN l (i + 1))).toArray := by
        have q1 := pts_set (rvN l i) i (u, v)
        have q2 := pts_set ((rvN l i).set i (u, v)) j (x, y)
        dsimp only at q1 q2
        rw [q1, q2, HNX.out]
      rw [two_cells HBK.out (i * 2), two_cells (Blk.row HBK.out _) (j * 2), setRow_setRow, e9]
      have HBN : Hid (Blk ((wr.setRow g (pts (rvN l (i + 1))).toArray).drew) g 30 (pts (rvN l (i + 1))).toArray) := Lib.hid (Blk.row HBK.out _).drew
      have HTN : Hid (Tch [g] w ((wr.setRow g (pts (rvN l (i + 1))).toArray).drew)) := Lib.hid (tch_setRow HT.out (Or.inl (by simp)) _).drew
      clear a0 a1 b0 b1 zf n1 n2 n3 n4 e9
      go_wp2_with fail
      go_roundw
      case rel => exact ⟨i + 1, j - 1, by go_num, by go_num, by omega, HBN.out, HTN.out⟩
      case measure => simp [intOf]; omega
    · have HF : Hid (Blk wr g 30 (pts l.reverse).toArray) := Lib.hid (by rw [← rvN_all (i := i) (j := j) (by have := HN.out; omega) (by omega)]; exact hb)
      have HT := Lib.hid ht
      clear hb ht
      go_wp2_with fail
      go_end0
      exact ⟨rfl, HF.out, HT.out⟩
end Go.Proofs.YtflopcogalknhaaDoor.Str
