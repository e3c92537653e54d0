/-
  Layer 21: the dashes of a line (the document's).
-/
import Derived.Test.YtflopcogalknhaaDoorKStrRe
import Derived.Test.YtflopcogalknhaaDoorKStrRd
import Derived.Test.YtflopcogalknhaaDoorKStrRv
set_option linter.unusedVariables false
set_option linter.unusedSimpArgs false
namespace Go.Proofs.YtflopcogalknhaaDoor.Str
open Go.RowKit Go.Proofs.YtflopcogalknhaaDoor Go.Proofs.YtflopcogalknhaaDoor.NumPure

theorem wp_appI {o : Oper} {a : Act} {W : World} {K : Act → World → Prop} {Q : Exit → Act → World → Prop} (dd : Tmp) (hd : o.dst = some dd) (s x : Operand)
    (ho : o.op = .call { callee := .builtin .append, args := #[s, x], argTypes := #[33, 33] }) {w0 : World} {v : Value} {n : Nat} {xs : List Value} {gl : Nat} {c : Array Value}
    (h : R1 3 1 w0 v n xs (some (gl, c)) W) (hs : a.eval s = v) (hx : a.eval x = .slice (some ⟨gl, 0, none⟩) 1 1) (hc : c.size = 1) (hu : ∀ y ∈ c.toList, y.oneCell' = true) (hn : (n + 1) * 8 ≤ 140737488355328)
    (hK : ∀ v' w', R1 3 1 w0 v' (n + 1) (xs ++ c.toList) none w' → K (a.put (some dd) v') w') : o.wp Tryd.prog a W K Q := by
  obtain ⟨i0, hi0, hz0, hz1, hz2⟩ := info_parts infoI
  obtain ⟨v', w', hrun, h2, h3, _, h5⟩ := run_append_own_at (P := Tryd.prog) W w0.heap.size 33 o.type 3 i0 (.int .i64 0) 1 8 Tryd.underlying33 hi0 hz0 hz1 hz2 rfl (by decide) v n xs h.row ⟨gl, 0, none⟩ 1 1 c.toList (by rw [Array.length_toList, hc]) (World.news_of_block (h.new gl c rfl).1) hu (by unfold maxLen; omega) (by omega) h.below.size
  unfold Oper.wp execOp
  simp only [ho, resolve, invoke, builtin, Sem.run_bind, Sem.run_pure, Result.andThen_ok, List.map_toArray, List.map_cons, List.map_nil, hs, hx, hrun]
  show K (a.put o.dst v') w'
  rw [hd]
  exact hK v' w' (h.app h2 h3)
/-- The distances of the first points. -/
def ats (l : List P2) (k : Nat) : List Value := (List.range (k + 1)).map fun i => .int .i64 (atN l i : Nat)
theorem ats_step (l : List P2) (k : Nat) : ats l (k + 1) = ats l k ++ [.int .i64 (atN l (k + 1) : Nat)] := by
  unfold ats
  rw [List.range_succ, List.map_append]
  rfl
theorem ats_len (l : List P2) (k : Nat) : (ats l k).length = k + 1 := by simp [ats]
theorem R1.first (W : World) : R1 3 1 W (.slice (some ⟨W.heap.size, 0, none⟩) 1 1) 1 [.int .i64 0] none (W.alloc (.cells #[.int .i64 0] 3)) :=
  ⟨⟨by simp, .inr ⟨W.heap.size, 1, #[.int .i64 0], rfl, Nat.le_refl _, Blk.new W 3 #[.int .i64 0], Nat.le_refl _, by decide, rfl, rfl⟩⟩, (fun _ _ e => by cases e), (Below.refl _ _).alloc (Nat.le_refl _) _⟩
theorem at_cell {w0 W : World} {l : List P2} {k : Nat} {v : Value} (h : R1 3 1 w0 v (k + 1) (ats l k) none W) : ∃ o cap, v = .slice (some ⟨o, 0, none⟩) (k + 1) cap ∧ ∀ j, j ≤ k → W.cell? ⟨o, j, none⟩ = some (.int .i64 (atN l j : Nat)) := by
  obtain ⟨o, cap, rfl⟩ := own_shape h.row
  refine ⟨o, cap, rfl, fun j hj => ?_⟩
  have hr := Reads.of_own h.row
  obtain ⟨a, e, _, hc⟩ := hr.2 (by omega)
  injection e with e
  subst e
  have h9 := hc j (.int .i64 (atN l j : Nat)) (by unfold ats; rw [List.getElem?_map, List.getElem?_range (by omega)]; rfl)
  rw [Addr.add_mid, Nat.zero_add] at h9
  exact h9
theorem fp_push2 {L : List (List P2)} {l : List P2} {v' : Value} {rb : Nat → Nat} {p n : Nat} {N : List Nat} (ho : ∀ k, v'.ownBlock = some k → k ∈ N ∨ n ≤ k) (hr : ∀ i, i < L.length → rb i ∈ N ∨ n ≤ rb i) (hp : n ≤ p) : ∀ k ∈ fp (L ++ [l]) v' (fun i => if i < L.length then rb i else p), k ∈ N ∨ n ≤ k := fun k hk => by
  rcases mem_fp.1 hk with h | ⟨i, hi, h⟩
  · exact ho k h
  · by_cases hlt : i < L.length
    · rw [if_pos hlt] at h
      rw [← h]
      exact hr i hlt
    · rw [if_neg hlt] at h
      omega
set_option maxRecDepth 100000 in
set_option maxHeartbeats 4000000 in
theorem dashes_any {p : List Nat} {B f pc : Nat} {pa : Addr} {L : List (List P2)} {v : Value} {M : List Nat} {w : World} (hO : RL B L v w M) (hp : PatB p) (hf : f ≤ 1048576) (hpat : NaR w pa p) (hpM : pa.block ∉ M) (A : Option Addr) (c pb : Nat) (l : List P2) (hA : 0 < l.length → A = some ⟨pb, 0, none⟩) (hpr : PtR w A l) (hpbM : pb ∉ M) (hl : Lin l)
    (hBs : B ≤ w.heap.size) (hL : ptsN L ≤ 4096) (hLl : L.length ≤ ptsN L) : Calls Tryd.prog 29 #[v, .slice A l.length c, .slice (some pa) p.length pc, .int .i64 (f : Int)] w fun e' w' => LsC B (dsh L l p f) M w e' w' := by
  obtain ⟨n, hn⟩ : ∃ n, l.length = n := ⟨_, rfl⟩
  obtain ⟨np, hnp⟩ : ∃ n, p.length = n := ⟨_, rfl⟩
  have hln := hl.len
  have HLI := Lib.hid hl
  have HN := Lib.hid hn
  have HNP := Lib.hid hnp
  have HO := Lib.hid hO
  have HPB := Lib.hid hp
  have HPA := Lib.hid hpat
  have HPM := Lib.hid hpM
  have HPR := Lib.hid hpr
  have HA := Lib.hid hA
  have HBM := Lib.hid hpbM
  have HB : Hid (B ≤ w.heap.size ∧ ptsN L ≤ 4096 ∧ L.length ≤ ptsN L ∧ n ≤ 65537 ∧ f ≤ 1048576) := Lib.hid ⟨hBs, hL, hLl, by omega, hf⟩
  rw [hn, hnp]
  rw [hn] at hln HA
  clear hO hp hf hpat hpM hA hpr hpbM hl hBs hL hLl hn hnp
  go_enter Tryd.func29, Tryd.ntmps29
  go_upto_region 2 with fail
  have HS : Hid (R1 3 1 w (.slice (some ⟨w.heap.size, 0, none⟩) 1 1) 1 (ats l 0) none (w.alloc (.cells #[.int .i64 0] 3))) := Lib.hid (R1.first w)
  obtain ⟨W0, hW0⟩ : ∃ W, w.alloc (.cells #[.int .i64 0] 3) = W := ⟨_, rfl⟩
  rw [hW0] at HS
  rw [hW0]
  clear hW0
  go_wp2_with fail
  go_loopw [9, 10] (fun x i wr => ∃ k : Nat, i = .int .i64 (k : Int) ∧ (k + 1 ≤ n ∨ k = 0) ∧ R1 3 1 w x (k + 1) (ats l k) none wr) (fun _ i _ => n - (intOf i).toNat)
  case atStart => exact ⟨0, rfl, Or.inr rfl, HS.out⟩
  case round =>
    clear HS
    obtain ⟨k, rfl, hk, hr⟩ := hrel
    have HR := Lib.hid hr
    clear hr
    by_cases hlt : k + 1 < n
    · obtain rfl := HA.out (by omega)
      have hkl : k + 1 < l.length := by rw [HN.out]; exact hlt
      have hga := gp_in HLI.out.inb (show k < l.length by omega)
      have hgb := gp_in HLI.out.inb hkl
      have hyp := HLI.out.hyp hkl
      have hhy := (hypN_is hga hgb).1
      have hat := atN_bd HLI.out (k + 1) hkl
      have hst : atN l (k + 1) = atN l k + hypN (gp l k) (gp l (k + 1)) := rfl
      have SP : Hid (∀ W, Below w.heap.size w W → W.cell? ⟨pb, k * 2, none⟩ = some (.int .i64 (gp l k).1) ∧ W.cell? ⟨pb, k * 2 + 1, none⟩ = some (.int .i64 (gp l k).2) ∧ W.cell? ⟨pb, (k + 1) * 2, none⟩ = some (.int .i64 (gp l (k + 1)).1) ∧ W.cell? ⟨pb, (k + 1) * 2 + 1, none⟩ = some (.int .i64 (gp l (k + 1)).2)) := Lib.hid fun W hW => by
        have h1 := pt_cells0 (HPR.out.below hW) k (by omega)
        have h2 := pt_cells0 (HPR.out.below hW) (k + 1) hkl
        have e1 : gp l k = l[k] := getD_at (by omega)
        have e2 : gp l (k + 1) = l[k + 1] := getD_at hkl
        rw [e1, e2]
        exact ⟨h1.1, h1.2, h2.1, h2.2⟩
      obtain ⟨o, cap, rfl, hco⟩ := at_cell HR.out
      have hck := hco k (Nat.le_refl _)
      obtain ⟨H, hH⟩ : ∃ H, hypN (gp l k) (gp l (k + 1)) = H := ⟨_, rfl⟩
      obtain ⟨⟨a0, a1⟩, ha⟩ : ∃ p, gp l k = p := ⟨_, rfl⟩
      obtain ⟨⟨b0, b1⟩, hb⟩ : ∃ p, gp l (k + 1) = p := ⟨_, rfl⟩
      obtain ⟨u, hu⟩ : ∃ u, atN l k = u := ⟨_, rfl⟩
      obtain ⟨z, hz⟩ : ∃ u, atN l (k + 1) = u := ⟨_, rfl⟩
      rw [ha, hb] at SP hhy hH
      rw [ha] at hga
      rw [hb] at hgb
      rw [ha, hb, hH, hu, hz] at hst
      rw [ha, hb, hH] at hyp
      rw [hH] at hhy
      rw [hu] at hck
      rw [hz] at hat
      dsimp only at SP hhy
      unfold Inb at hga hgb
      dsimp only at hga hgb
      obtain ⟨x, hx⟩ : ∃ x : Int, b0 - a0 = x := ⟨_, rfl⟩
      obtain ⟨y, hy⟩ : ∃ x : Int, b1 - a1 = x := ⟨_, rfl⟩
      rw [hx, hy] at hhy
      have CH := fun W => Ref01.hypot_any x y (by omega) (by omega) (by omega) (by omega) W
      rw [hhy] at CH
      have HCH := Lib.hid CH
      have HST : Hid (ats l k ++ (#[Value.int .i64 (z : Int)] : Array Value).toList = ats l (k + 1)) := Lib.hid (by rw [ats_step, hz])
      have hNN := HB.out
      have h9 : 67108864 * (k + 1) ≤ 67108864 * 65536 := Nat.mul_le_mul_left _ (by omega)
      have X1 : Hid (IntKind.i64.wrap (b0 - a0) = x) := Lib.hid (by rw [hx]; exact i64w (by omega) (by omega))
      have X2 : Hid (IntKind.i64.wrap (b1 - a1) = y) := Lib.hid (by rw [hy]; exact i64w (by omega) (by omega))
      have X3 : Hid (IntKind.i64.wrap ((u : Int) + (H : Int)) = (z : Int)) := Lib.hid (by rw [show (u : Int) + (H : Int) = (z : Int) by omega]; exact i64w (by omega) (by omega))
      have X7 : Hid (IntKind.i64.wrap ((k : Int) + 1) = (k : Int) + 1) := Lib.hid (i64w (by omega) (by omega))
      have HKN : Hid (k + 1 < n) := Lib.hid hlt
      have k0 : (k : Int) < (n : Int) := by omega
      have k1 : (0 : Int) ≤ (k : Int) := by omega
      have k2 : (k : Int) + 1 < (n : Int) := by omega
      have k3 : (0 : Int) ≤ (k : Int) + 1 := by omega
      have k4 : (k : Int) < (k : Int) + 1 := by omega
      have x7 := X7.out
      clear hk hlt hkl hga hgb hyp hhy hat hst hco hH ha hb hu hz hx hy CH hNN h9
      go_upto_region 5 with fail
      have x1 := X1.out
      have x2 := X2.out
      have x3 := X3.out
      have hck2 : wr.drew.cell? ⟨o, k, none⟩ = some (.int .i64 (u : Int)) := hck
      have HRq := Lib.hid HR.out.drew
      have HK := SP.out _ HRq.out.below
      refine wp_region_held_drew (S := fun W => W.cell? ⟨pb, k * 2, none⟩ = some (.int .i64 a0) ∧ W.cell? ⟨pb, k * 2 + 1, none⟩ = some (.int .i64 a1) ∧ W.cell? ⟨pb, (k + 1) * 2, none⟩ = some (.int .i64 b0) ∧ W.cell? ⟨pb, (k + 1) * 2 + 1, none⟩ = some (.int .i64 b1)) (by kernel_rfl) HK (fun hHeld => ?_)
      refine wpAnyH_take (i := 0) (oi := _) (v := .slice (some ⟨o, 0, none⟩) (k + 1) cap) rfl (by kernel_rfl) (by kernel_rfl) (by kernel_rfl) (fun _ _ _ h => h) (Or.inl ⟨by rfl, fun W1 hS => by go_simp⟩) (by assumption) ?_
      go_simp
      refine wpAnyH_take (i := 1) (oi := _) (v := .slice (some ⟨o, 0, none⟩) (k + 1) cap) rfl (by kernel_rfl) (by kernel_rfl) (by kernel_rfl) (fun _ _ _ h => h) (Or.inl ⟨by rfl, fun W1 hS => by go_simp⟩) (by assumption) ?_
      go_simp
      refine wpAnyH_take (i := 2) (oi := _) (v := .int .i64 (k : Int)) rfl (by kernel_rfl) (by kernel_rfl) (by kernel_rfl) (fun _ _ _ h => h) (Or.inl ⟨by rfl, fun W1 hS => by go_simp⟩) (by assumption) ?_
      go_simp
      refine wpAnyH_take (i := 3) (oi := _) (v := .pointer (some ⟨o, k, none⟩)) rfl (by kernel_rfl) (by kernel_rfl) (by kernel_rfl) (fun _ _ _ h => h) (Or.inl ⟨by rfl, fun W1 hS => by go_simp⟩) (by assumption) ?_
      go_simp
      refine wpAnyH_take (i := 5) (oi := _) (v := .slice (some ⟨pb, 0, none⟩) n c) rfl (by kernel_rfl) (by kernel_rfl) (by kernel_rfl) (fun _ _ _ h => h) (Or.inl ⟨by rfl, fun W1 hS => by go_simp⟩) (by assumption) ?_
      go_simp
      refine wpAnyH_take (i := 6) (oi := _) (v := .int .i64 (k : Int)) rfl (by kernel_rfl) (by kernel_rfl) (by kernel_rfl) (fun _ _ _ h => h) (Or.inl ⟨by rfl, fun W1 hS => by go_simp⟩) (by assumption) ?_
      go_simp
      refine wpAnyH_take (i := 7) (oi := _) (v := .int .i64 ((k : Int) + 1)) rfl (by kernel_rfl) (by kernel_rfl) (by kernel_rfl) (fun _ _ _ h => h) (Or.inl ⟨by rfl, fun W1 hS => by go_simp⟩) (by assumption) ?_
      go_simp
      refine wpAnyH_take (i := 8) (oi := _) (v := .pointer (some ⟨pb, (k + 1) * 2, none⟩)) rfl (by kernel_rfl) (by kernel_rfl) (by kernel_rfl) (fun _ _ _ h => h) (Or.inl ⟨by rfl, fun W1 hS => by go_simp⟩) (by assumption) ?_
      go_simp
      refine wpAnyH_take (i := 9) (oi := _) (v := .pointer (some ⟨pb, (k + 1) * 2, none⟩)) rfl (by kernel_rfl) (by kernel_rfl) (by kernel_rfl) (fun _ _ _ h => h) (Or.inl ⟨by rfl, fun W1 hS => by go_simp⟩) (by assumption) ?_
      go_simp
      refine wpAnyH_take (i := 10) (oi := _) (v := .int .i64 b0) rfl (by kernel_rfl) (by kernel_rfl) (by kernel_rfl) (fun _ _ _ h => h) (Or.inl ⟨by rfl, fun W1 hS => by (obtain ⟨y0, y1, y2, y3⟩ := hS; go_simp)⟩) (by assumption) ?_
      go_simp
      refine wpAnyH_take (i := 11) (oi := _) (v := .slice (some ⟨pb, 0, none⟩) n c) rfl (by kernel_rfl) (by kernel_rfl) (by kernel_rfl) (fun _ _ _ h => h) (Or.inl ⟨by rfl, fun W1 hS => by go_simp⟩) (by assumption) ?_
      go_simp
      refine wpAnyH_take (i := 12) (oi := _) (v := .int .i64 (k : Int)) rfl (by kernel_rfl) (by kernel_rfl) (by kernel_rfl) (fun _ _ _ h => h) (Or.inl ⟨by rfl, fun W1 hS => by go_simp⟩) (by assumption) ?_
      go_simp
      refine wpAnyH_take (i := 13) (oi := _) (v := .pointer (some ⟨pb, k * 2, none⟩)) rfl (by kernel_rfl) (by kernel_rfl) (by kernel_rfl) (fun _ _ _ h => h) (Or.inl ⟨by rfl, fun W1 hS => by go_simp⟩) (by assumption) ?_
      go_simp
      refine wpAnyH_take (i := 14) (oi := _) (v := .pointer (some ⟨pb, k * 2, none⟩)) rfl (by kernel_rfl) (by kernel_rfl) (by kernel_rfl) (fun _ _ _ h => h) (Or.inl ⟨by rfl, fun W1 hS => by go_simp⟩) (by assumption) ?_
      go_simp
      refine wpAnyH_take (i := 15) (oi := _) (v := .int .i64 a0) rfl (by kernel_rfl) (by kernel_rfl) (by kernel_rfl) (fun _ _ _ h => h) (Or.inl ⟨by rfl, fun W1 hS => by (obtain ⟨y0, y1, y2, y3⟩ := hS; go_simp)⟩) (by assumption) ?_
      go_simp
      refine wpAnyH_take (i := 16) (oi := _) (v := .int .i64 x) rfl (by kernel_rfl) (by kernel_rfl) (by kernel_rfl) (fun _ _ _ h => h) (Or.inl ⟨by rfl, fun W1 hS => by go_simp⟩) (by assumption) ?_
      go_simp
      refine wpAnyH_take (i := 17) (oi := _) (v := .slice (some ⟨pb, 0, none⟩) n c) rfl (by kernel_rfl) (by kernel_rfl) (by kernel_rfl) (fun _ _ _ h => h) (Or.inl ⟨by rfl, fun W1 hS => by go_simp⟩) (by assumption) ?_
      go_simp
      refine wpAnyH_take (i := 18) (oi := _) (v := .int .i64 (k : Int)) rfl (by kernel_rfl) (by kernel_rfl) (by kernel_rfl) (fun _ _ _ h => h) (Or.inl ⟨by rfl, fun W1 hS => by go_simp⟩) (by assumption) ?_
      go_simp
      refine wpAnyH_take (i := 19) (oi := _) (v := .int .i64 ((k : Int) + 1)) rfl (by kernel_rfl) (by kernel_rfl) (by kernel_rfl) (fun _ _ _ h => h) (Or.inl ⟨by rfl, fun W1 hS => by go_simp⟩) (by assumption) ?_
      go_simp
      refine wpAnyH_take (i := 20) (oi := _) (v := .pointer (some ⟨pb, (k + 1) * 2, none⟩)) rfl (by kernel_rfl) (by kernel_rfl) (by kernel_rfl) (fun _ _ _ h => h) (Or.inl ⟨by rfl, fun W1 hS => by go_simp⟩) (by assumption) ?_
      go_simp
      refine wpAnyH_take (i := 21) (oi := _) (v := .pointer (some ⟨pb, (k + 1) * 2 + 1, none⟩)) rfl (by kernel_rfl) (by kernel_rfl) (by kernel_rfl) (fun _ _ _ h => h) (Or.inl ⟨by rfl, fun W1 hS => by go_simp⟩) (by assumption) ?_
      go_simp
      refine wpAnyH_take (i := 22) (oi := _) (v := .int .i64 b1) rfl (by kernel_rfl) (by kernel_rfl) (by kernel_rfl) (fun _ _ _ h => h) (Or.inl ⟨by rfl, fun W1 hS => by (obtain ⟨y0, y1, y2, y3⟩ := hS; go_simp)⟩) (by assumption) ?_
      go_simp
      refine wpAnyH_take (i := 23) (oi := _) (v := .slice (some ⟨pb, 0, none⟩) n c) rfl (by kernel_rfl) (by kernel_rfl) (by kernel_rfl) (fun _ _ _ h => h) (Or.inl ⟨by rfl, fun W1 hS => by go_simp⟩) (by assumption) ?_
      go_simp
      refine wpAnyH_take (i := 24) (oi := _) (v := .int .i64 (k : Int)) rfl (by kernel_rfl) (by kernel_rfl) (by kernel_rfl) (fun _ _ _ h => h) (Or.inl ⟨by rfl, fun W1 hS => by go_simp⟩) (by assumption) ?_
      go_simp
      refine wpAnyH_take (i := 25) (oi := _) (v := .pointer (some ⟨pb, k * 2, none⟩)) rfl (by kernel_rfl) (by kernel_rfl) (by kernel_rfl) (fun _ _ _ h => h) (Or.inl ⟨by rfl, fun W1 hS => by go_simp⟩) (by assumption) ?_
      go_simp
      refine wpAnyH_take (i := 26) (oi := _) (v := .pointer (some ⟨pb, k * 2 + 1, none⟩)) rfl (by kernel_rfl) (by kernel_rfl) (by kernel_rfl) (fun _ _ _ h => h) (Or.inl ⟨by rfl, fun W1 hS => by go_simp⟩) (by assumption) ?_
      go_simp
      refine wpAnyH_take (i := 27) (oi := _) (v := .int .i64 a1) rfl (by kernel_rfl) (by kernel_rfl) (by kernel_rfl) (fun _ _ _ h => h) (Or.inl ⟨by rfl, fun W1 hS => by (obtain ⟨y0, y1, y2, y3⟩ := hS; go_simp)⟩) (by assumption) ?_
      go_simp
      refine wpAnyH_take (i := 28) (oi := _) (v := .int .i64 y) rfl (by kernel_rfl) (by kernel_rfl) (by kernel_rfl) (fun _ _ _ h => h) (Or.inl ⟨by rfl, fun W1 hS => by go_simp⟩) (by assumption) ?_
      go_simp
      clear hHeld
      refine wpAnyH_ready (rs := [4, 29]) (by kernel_rfl) (by simp) ?_
      refine AllReadyH.cons (o := _) rfl (fun K hK => ?_) (AllReadyH.cons (o := _) rfl (fun K hK => ?_) AllReadyH.nil)
      · go_simp
        refine hK.out _ _ HK (fun hHeld => ?_)
        clear hK
        try simp only [Act.put, List.setIfInBounds_toArray, List.set_cons_zero, List.set_cons_succ]
        clear hHeld
        refine wpAnyH_ready (rs := [29]) (by kernel_rfl) (by simp) ?_
        refine AllReadyH.cons (o := _) rfl (fun K hK => ?_) AllReadyH.nil
        go_simp
        go_at_call 48
        refine (HCH.out _).mono ?_
        rintro e8 w8 ⟨rfl, rfl⟩
        go_wp2_with fail
        refine hK.out _ _ HK (fun hHeld => ?_)
        clear hK
        try simp only [Act.put, List.setIfInBounds_toArray, List.set_cons_zero, List.set_cons_succ]
        refine wpAnyH_take (i := 30) (oi := _) (v := .int .i64 (z : Int)) rfl (by kernel_rfl) (by kernel_rfl) (by kernel_rfl) (fun _ _ _ h => h) (Or.inl ⟨by rfl, fun W1 hS => by go_simp⟩) (by assumption) ?_
        go_simp
        clear hHeld
        refine wpAnyH_ready (rs := [31]) (by kernel_rfl) (by simp) ?_
        refine AllReadyH.cons (o := _) rfl (fun K hK => ?_) AllReadyH.nil
        go_simp
        refine hK.out _ _ (SP.out _ (R1.lit HRq.out _).below) (fun hHeld => ?_)
        clear hK
        try simp only [Act.put, List.setIfInBounds_toArray, List.set_cons_zero, List.set_cons_succ]
        clear hHeld
        refine wpAnyH_ready (rs := [32]) (by kernel_rfl) (by simp) ?_
        refine AllReadyH.cons (o := _) rfl (fun K hK => ?_) AllReadyH.nil
        rw [if_pos (by rfl)]
        refine wp_appI 57 rfl _ _ rfl (R1.lit HRq.out #[.int .i64 (z : Int)]) rfl rfl rfl (fun y hy => by (simp only [List.mem_cons, List.not_mem_nil, or_false] at hy; rcases hy with rfl; rfl)) (by have := HB.out; have := HKN.out; omega) (fun vK wk R2 => ?_)
        refine hK.out _ _ (SP.out _ R2.below) (fun hHeld => ?_)
        clear hK
        try simp only [Act.put, List.setIfInBounds_toArray, List.set_cons_zero, List.set_cons_succ]
        have HR8 := Lib.hid R2
        clear R2 HRq
        have HRq := HR8
        clear HR8
        refine wpAnyH_take (i := 33) (oi := _) (v := vK) rfl (by kernel_rfl) (by kernel_rfl) (by kernel_rfl) (fun _ _ _ h => h) (Or.inl ⟨by rfl, fun W1 hS => by go_simp⟩) (by assumption) ?_
        go_simp
        clear hHeld
        refine wpAnyH_done (by kernel_rfl) ?_ _
        have HR2 : Hid (R1 3 1 w vK (k + 1 + 1) (ats l (k + 1)) none wk) := Lib.hid (HST.out ▸ HRq.out)
        clear HRq HK x1 x2 x3 hck hck2
        go_wp2_with fail
        clear x7
        go_roundw
        case rel => exact ⟨k + 1, by have := HB.out; go_num, Or.inl (by have := HKN.out; omega), HR2.out⟩
        case measure => first | (have := HKN.out; simp [intOf]; done) | (have := HKN.out; simp [intOf]; omega)
      · go_simp
        go_at_call 48
        refine (HCH.out _).mono ?_
        rintro e8 w8 ⟨rfl, rfl⟩
        go_wp2_with fail
        refine hK.out _ _ HK (fun hHeld => ?_)
        clear hK
        try simp only [Act.put, List.setIfInBounds_toArray, List.set_cons_zero, List.set_cons_succ]
        clear hHeld
        refine wpAnyH_ready (rs := [4]) (by kernel_rfl) (by simp) ?_
        refine AllReadyH.cons (o := _) rfl (fun K hK => ?_) AllReadyH.nil
        go_simp
        refine hK.out _ _ HK (fun hHeld => ?_)
        clear hK
        try simp only [Act.put, List.setIfInBounds_toArray, List.set_cons_zero, List.set_cons_succ]
        refine wpAnyH_take (i := 30) (oi := _) (v := .int .i64 (z : Int)) rfl (by kernel_rfl) (by kernel_rfl) (by kernel_rfl) (fun _ _ _ h => h) (Or.inl ⟨by rfl, fun W1 hS => by go_simp⟩) (by assumption) ?_
        go_simp
        clear hHeld
        refine wpAnyH_ready (rs := [31]) (by kernel_rfl) (by simp) ?_
        refine AllReadyH.cons (o := _) rfl (fun K hK => ?_) AllReadyH.nil
        go_simp
        refine hK.out _ _ (SP.out _ (R1.lit HRq.out _).below) (fun hHeld => ?_)
        clear hK
        try simp only [Act.put, List.setIfInBounds_toArray, List.set_cons_zero, List.set_cons_succ]
        clear hHeld
        refine wpAnyH_ready (rs := [32]) (by kernel_rfl) (by simp) ?_
        refine AllReadyH.cons (o := _) rfl (fun K hK => ?_) AllReadyH.nil
        rw [if_pos (by rfl)]
        refine wp_appI 57 rfl _ _ rfl (R1.lit HRq.out #[.int .i64 (z : Int)]) rfl rfl rfl (fun y hy => by (simp only [List.mem_cons, List.not_mem_nil, or_false] at hy; rcases hy with rfl; rfl)) (by have := HB.out; have := HKN.out; omega) (fun vK wk R2 => ?_)
        refine hK.out _ _ (SP.out _ R2.below) (fun hHeld => ?_)
        clear hK
        try simp only [Act.put, List.setIfInBounds_toArray, List.set_cons_zero, List.set_cons_succ]
        have HR8 := Lib.hid R2
        clear R2 HRq
        have HRq := HR8
        clear HR8
        refine wpAnyH_take (i := 33) (oi := _) (v := vK) rfl (by kernel_rfl) (by kernel_rfl) (by kernel_rfl) (fun _ _ _ h => h) (Or.inl ⟨by rfl, fun W1 hS => by go_simp⟩) (by assumption) ?_
        go_simp
        clear hHeld
        refine wpAnyH_done (by kernel_rfl) ?_ _
        have HR2 : Hid (R1 3 1 w vK (k + 1 + 1) (ats l (k + 1)) none wk) := Lib.hid (HST.out ▸ HRq.out)
        clear HRq HK x1 x2 x3 hck hck2
        go_wp2_with fail
        clear x7
        go_roundw
        case rel => exact ⟨k + 1, by have := HB.out; go_num, Or.inl (by have := HKN.out; omega), HR2.out⟩
        case measure => first | (have := HKN.out; simp [intOf]; done) | (have := HKN.out; simp [intOf]; omega)
    · obtain ⟨W1, rfl⟩ : ∃ W1, W1 = wr := ⟨_, rfl⟩
      obtain ⟨o, cap, rfl, hco⟩ := at_cell HR.out
      have hck := hco k (Nat.le_refl _)
      have hT : lenN l = atN l k := by
        unfold lenN
        rw [HN.out]
        congr 1
        omega
      have HOM : Hid (w.heap.size ≤ o) := Lib.hid (by
        rcases HR.out.row.2 with ⟨_, h0⟩ | ⟨g9, cap9, cur9, hv9, hg9, _⟩
        · omega
        · injection hv9 with e _ _
          injection e with e
          injection e with e _ _
          rw [e]
          exact hg9)
      have HLN : Hid (0 < lenN l → A = some ⟨pb, 0, none⟩ ∧ k + 1 = n ∧ 1 < n ∧ LnR W1 pb o l) := Lib.hid fun h0 => by
        have hk0 : k ≠ 0 := fun e => by rw [hT, e, atN] at h0; omega
        have hkn : k + 1 = n := by omega
        have hA := HA.out (by omega)
        refine ⟨hA, hkn, by omega, ⟨?_, ?_⟩⟩
        · have := HPR.out.below HR.out.below
          rw [hA] at this
          exact this
        · have h9 := Reads.of_own HR.out.row
          have e : atL l = ats l k := by unfold atL ats; rw [HN.out, hkn]
          rw [e, HN.out, ← hkn]
          exact h9
      have hTB := lenN_bd HLI.out
      obtain ⟨T, hTT⟩ : ∃ T, lenN l = T := ⟨_, rfl⟩
      have HTT := Lib.hid hTT
      rw [← hT, hTT] at hck
      rw [hTT] at HLN hTB
      have HTB := Lib.hid hTB
      have HB1 := Lib.hid HR.out.below
      have HO1 := Lib.hid (HO.out.later HR.out.below)
      have HKB : Hid (k ≤ 65537) := Lib.hid (by omega)
      have k2 : ¬ (k : Int) + 1 < (n : Int) := by omega
      have k3 : (k : Int) < (k : Int) + 1 := by omega
      have k4 : (0 : Int) ≤ (k : Int) := by omega
      have x6 : IntKind.i64.wrap (k : Int) = (k : Int) := i64w (by omega) (by omega)
      have x7 : IntKind.i64.wrap ((k : Int) + 1) = (k : Int) + 1 := i64w (by omega) (by omega)
      have HSS : Hid (Out (RL B L v) M W1 W1) := Lib.hid ⟨M, HO1.out, Tch.refl _ _, fun k hk => Or.inl hk⟩
      clear hk hlt hco hT hTT hTB
      go_wp2_with fail
      clear hck k2 k3 k4 x6 x7
      go_loopw [0, 12] (fun x i wr => ∃ (j s : Nat) (L' : List (List P2)), i = .int .i64 (s : Int) ∧ itr l p f L j = (s, L') ∧ j ≤ s ∧ s ≤ T ∧ L'.length ≤ ptsN L' ∧ ptsN L' ≤ 200000 ∧ Out (RL B L' x) M W1 wr) (fun _ i _ => T - (intOf i).toNat)
      case atStart => exact ⟨0, 0, L, rfl, rfl, Nat.le_refl _, Nat.zero_le _, HB.out.2.2.1, by have := HB.out; omega, HSS.out⟩
      case round =>
        clear HSS
        obtain ⟨j, s, L', rfl, hit, hjs, hsT, hll, hpp, hout⟩ := hrel
        obtain ⟨Mc, ⟨rb, rc, rfl, hrl⟩, ht, hmm⟩ := hout
        have HIT := Lib.hid hit
        have HRL := Lib.hid hrl
        have HTC := Lib.hid ht
        have HMM := Lib.hid hmm
        obtain ⟨A9, c9, rfl, hp9⟩ := hrl.pol_read
        have HPN := Lib.hid (And.intro hll hpp)
        have HJS : Hid (j ≤ s ∧ s ≤ T) := Lib.hid ⟨hjs, hsT⟩
        have HBr : Hid (B ≤ wr.heap.size) := Lib.hid (by have h1 := HB1.out.size; have h2 := ht.size; have h3 := HB.out; omega)
        by_cases hst : s < T
        · obtain ⟨rfl, hkn, hn1, hln1⟩ := HLN.out (by omega)
          have HKN := Lib.hid hkn
          clear hkn
          have HMs : Hid (∀ x ∈ M, x < w.heap.size) := Lib.hid HO.out.size
          have HOm : Hid (o ∉ M) := Lib.hid fun h => by have h1 := HMs.out _ h; have h2 := HOM.out; omega
          have HLr : Hid (LnR wr pb o l) := Lib.hid ⟨reads_tch hln1.p ht (fun ad e => by cases e; exact HBM.out), reads_tch hln1.a ht (fun ad e => by cases e; exact HOm.out)⟩
          have HNr : Hid (NaR wr pa p) := Lib.hid (NaR.tch (InR.below HPA.out HB1.out) ht HPM.out)
          have HPT := Lib.hid (rPoints_any A9 L' c9 wr hp9 (by omega) (by omega))
          have HN1 : Hid (1 < l.length) := Lib.hid (by rw [HN.out]; exact hn1)
          obtain ⟨q, hq⟩ : ∃ q, ptsN L' = q := ⟨_, rfl⟩
          unfold NmC at HPT
          rw [hq] at HPT
          have HQ := Lib.hid hq
          have k2 : (s : Int) < (T : Int) := by omega
          have HST : Hid (s < T) := Lib.hid hst
          clear hit hjs hsT hll hpp ht hmm hrl hp9 hst hq hn1 hln1
          go_wp2_with fail
          refine HPT.out.mono ?_
          rintro e5 w5 ⟨rfl, hb5⟩
          have HB5 := Lib.hid hb5
          clear hb5 HPT
          by_cases h4 : q ≤ 4096
          rotate_left
          · have HD : Hid (dsh L l p f = L') := Lib.hid (itr_done HIT.out (by rw [HTT.out]; have := HJS.out; omega) (by rw [HTT.out, HQ.out]; exact fun h => h4 h.2))
            have k3 : ¬ (q : Int) ≤ 4096 := by omega
            have HF : Hid (Out (RL B (dsh L l p f) (.slice A9 L'.length c9)) M w w5) := Lib.hid (by
              rw [HD.out]
              exact out_step (tch_of_below HB1.out) (fun k hk => Or.inl hk) ⟨_, ⟨rb, rc, rfl, HRL.out.below HB5.out⟩, HTC.out.below HB5.out, HMM.out⟩)
            clear h4
            go_wp2_with fail
            go_ret
            exact ⟨_, rfl, HF.out⟩
          · obtain ⟨x, hx⟩ : ∃ x, f + s = x := ⟨_, rfl⟩
            have HNX := Lib.hid (itr_step HIT.out (by rw [HTT.out]; exact HST.out) (by rw [HQ.out]; exact h4))
            have HGT := Lib.hid (nxt_gt HPB.out l f s (by rw [HTT.out]; exact HST.out))
            have HON := Lib.hid (On_any HPB.out (pc := pc) (InR.below HNr.out HB5.out) x (by have h1 := HB.out; have h2 := HJS.out; have h3 := HTB.out; omega))
            have hlf := lft_pos HPB.out x
            have hnx : nxt l p f s = min (s + lft p x) T := by unfold nxt; rw [hx, HTT.out]
            rw [HNP.out] at HON
            rw [hx] at HNX
            have X1 : Hid (IntKind.i64.wrap ((f : Int) + (s : Int)) = (x : Int)) := Lib.hid (by rw [← hx, Int.natCast_add]; exact i64w (by omega) (by have h1 := HB.out; have h2 := HJS.out; have h3 := HTB.out; omega))
            obtain ⟨bo, hbo⟩ : ∃ b, onB p x = b := ⟨_, rfl⟩
            obtain ⟨lf, hlf0⟩ : ∃ b, lft p x = b := ⟨_, rfl⟩
            rw [hbo] at HON HNX
            rw [hlf0] at HON hlf hnx
            obtain ⟨y, hy⟩ : ∃ y, s + lf = y := ⟨_, rfl⟩
            rw [hy] at hnx
            have X2 : Hid (IntKind.i64.wrap ((s : Int) + (lf : Int)) = (y : Int)) := Lib.hid (by rw [← hy, Int.natCast_add]; exact i64w (by omega) (by have h2 := HJS.out; have h3 := HTB.out; omega))
            have HE := Lib.hid hnx
            have k3 : (q : Int) ≤ 4096 := by omega
            have x1 := X1.out
            have x2 := X2.out
            clear h4 hx hlf hnx hbo hlf0 hy
            go_wp2_with fail
            refine HON.out.mono ?_
            rintro e6 w6 ⟨rfl, hb6⟩
            have HB6 := Lib.hid (HB5.out.trans (hb6.mono HB5.out.size))
            clear hb6 HON
            by_cases h5 : T < y
            · have HE2 : Hid (nxt l p f s = T) := Lib.hid (by rw [HE.out]; omega)
              have k4 : (T : Int) < (y : Int) := by omega
              clear h5
              have HG2 : Hid (s < T ∧ T ≤ T) := Lib.hid (by have h := HGT.out; rw [HE2.out, HTT.out] at h; exact h)
              rw [HE2.out] at HNX
              cases bo
              · have HNY : Hid (itr l p f L (j + 1) = (T, L')) := Lib.hid (by have h := HNX.out; rw [if_neg (by decide)] at h; exact h)
                have HO6 : Hid (Out (RL B L' (.slice A9 L'.length c9)) M W1 w6) := Lib.hid ⟨_, ⟨rb, rc, rfl, HRL.out.below HB6.out⟩, HTC.out.below HB6.out, HMM.out⟩
                go_wp2_with fail
                clear x1 x2 k2 k3 k4
                go_roundw
                case rel => exact ⟨j + 1, T, L', rfl, HNY.out, by have := HJS.out; have := HG2.out; omega, HG2.out.2, HPN.out.1, HPN.out.2, HO6.out⟩
                case measure => first | (have := HG2.out; simp [intOf]; done) | (have := HG2.out; simp [intOf]; omega)
              · have HNY : Hid (itr l p f L (j + 1) = (T, addD L' (pce l s T))) := Lib.hid (by have h := HNX.out; rw [if_pos rfl] at h; exact h)
                have HPC : Hid (Calls Tryd.prog 49 #[.slice (some ⟨pb, 0, none⟩) n c, .slice (some ⟨o, 0, none⟩) (k + 1) cap, .int .i64 (s : Int), .int .i64 (T : Int)] w6 (OwC (pce l s T) w6)) := Lib.hid (by
                  have h := piece_any pb o c cap l s T w6 (HLr.out.below HB6.out) HLI.out HG2.out.1 (by rw [HTT.out]; exact HG2.out.2) HN1.out
                  rw [HN.out] at h
                  rw [HKN.out]
                  exact h)
                have HPL := Lib.hid (pce_len HLI.out s T)
                obtain ⟨d, hd⟩ : ∃ d, pce l s T = d := ⟨_, rfl⟩
                rw [hd] at HPC HNY HPL
                obtain ⟨dl, hdl⟩ : ∃ n, d.length = n := ⟨_, rfl⟩
                unfold OwC at HPC
                rw [hdl] at HPC HPL
                have HDL := Lib.hid hdl
                clear hd hdl
                go_wp2_with fail
                refine HPC.out.mono ?_
                rintro e8 w8 ⟨v8, rfl, hown, hb8⟩
                have HB8 := Lib.hid (HB6.out.trans (hb8.mono HB6.out.size))
                have HT8 := Lib.hid (HTC.out.below HB8.out)
                have HO2 := Lib.hid (HRL.out.below HB8.out)
                have HB2 : Hid (B ≤ w8.heap.size) := Lib.hid (Nat.le_trans HBr.out HB8.out.size)
                have HSZ : Hid (w6.heap.size ≤ w8.heap.size) := Lib.hid hb8.size
                clear hb8 HPC
                by_cases h6 : 1 < dl
                · obtain ⟨p8, cp8, cs8, rfl, hp8, hpr8, hpb8⟩ := own_pts (l := d) (by rw [HDL.out]; exact hown) (by rw [HDL.out]; omega)
                  rw [HDL.out]
                  have HP8 : Hid (w6.heap.size ≤ p8) := Lib.hid hp8
                  have HPR8 := Lib.hid hpr8
                  have HPB8 := Lib.hid hpb8
                  have HAD : Hid (addD L' d = L' ++ [d]) := Lib.hid (by unfold addD; rw [HDL.out, if_pos h6])
                  have k6 : (1 : Int) < (dl : Int) := by omega
                  have HQL : Hid (q ≤ 4096 ∧ 1 < dl) := Lib.hid (by constructor <;> omega)
                  clear hown hp8 hpr8 hpb8 h6 x1 x2 k2 k3 k4
                  go_wp2_with (refine wpList_appL (B := B) rfl _ _ rfl (own_below HO2.out.row ((Below.refl _ _).alloc (Nat.le_refl _) _)) rfl rfl (Blk.new _ _ _) rfl (by have := HPN.out; omega) (by simp; have := HB2.out; omega) ?_)
                  intro v9 w9 hown9 hgrow hor
                  have HBP : Hid (B ≤ p8) := Lib.hid (Nat.le_trans HBr.out (Nat.le_trans HB6.out.size HP8.out))
                  have HNW := Lib.hid (HO2.out.push (l := d) rfl ⟨rfl, rfl⟩ HPR8.out HPB8.out HBP.out (by rw [HDL.out]; exact hown9) (by rw [HDL.out]; exact hgrow))
                  have HTN := Lib.hid ((HT8.out.alloc _).grown hgrow (fun k hk => HMM.out k (mem_fp.2 (Or.inl hk))))
                  have HOR : Hid (∀ k, v9.ownBlock = some k → k ∈ M ∨ W1.heap.size ≤ k) := Lib.hid fun k hk => by
                    rcases hor with h1 | h1
                    · rw [h1] at hk
                      exact HMM.out k (mem_fp.2 (Or.inl hk))
                    · rw [h1] at hk
                      injection hk with hk
                      have := HT8.out.size
                      right
                      rw [← hk]
                      omega
                  have HO6 : Hid (Out (RL B (L' ++ [d]) v9) M W1 w9) := Lib.hid ⟨_, ⟨_, _, rfl, HNW.out⟩, HTN.out, fp_push2 HOR.out (fun i hi => HMM.out _ (mem_fp.2 (Or.inr ⟨i, hi, rfl⟩))) (by have h1 := HTC.out.size; have h2 := HB6.out.size; have h3 := HP8.out; omega)⟩
                  have HPQ : Hid ((L' ++ [d]).length ≤ ptsN (L' ++ [d]) ∧ ptsN (L' ++ [d]) ≤ 200000) := Lib.hid (by rw [ptsN_snoc, List.length_append, List.length_singleton, HDL.out, HQ.out]; have h1 := HPL.out; have h2 := HPN.out; rw [HQ.out] at h2; have h3 := HQL.out; omega)
                  rw [HAD.out] at HNY
                  clear hown9 hgrow hor k6
                  go_wp2_with fail
                  go_roundw
                  case rel => exact ⟨j + 1, T, L' ++ [d], rfl, HNY.out, by have := HJS.out; have := HG2.out; omega, HG2.out.2, HPQ.out.1, HPQ.out.2, HO6.out⟩
                  case measure => first | (have := HG2.out; simp [intOf]; done) | (have := HG2.out; simp [intOf]; omega)
                · have HAD : Hid (addD L' d = L') := Lib.hid (by unfold addD; rw [HDL.out, if_neg h6])
                  obtain ⟨A8, c8, rfl, _, _⟩ := own_open hown
                  have k6 : ¬ (1 : Int) < (dl : Int) := by omega
                  have HO6 : Hid (Out (RL B L' (.slice A9 L'.length c9)) M W1 w8) := Lib.hid ⟨_, ⟨rb, rc, rfl, HO2.out⟩, HT8.out, HMM.out⟩
                  rw [HAD.out] at HNY
                  clear hown h6
                  go_wp2_with fail
                  clear x1 x2 k2 k3 k4 k6
                  go_roundw
                  case rel => exact ⟨j + 1, T, L', rfl, HNY.out, by have := HJS.out; have := HG2.out; omega, HG2.out.2, HPN.out.1, HPN.out.2, HO6.out⟩
                  case measure => first | (have := HG2.out; simp [intOf]; done) | (have := HG2.out; simp [intOf]; omega)
            · have HE2 : Hid (nxt l p f s = y) := Lib.hid (by rw [HE.out]; omega)
              have k4 : ¬ (T : Int) < (y : Int) := by omega
              clear h5
              have HG2 : Hid (s < y ∧ y ≤ T) := Lib.hid (by have h := HGT.out; rw [HE2.out, HTT.out] at h; exact h)
              rw [HE2.out] at HNX
              cases bo
              · have HNY : Hid (itr l p f L (j + 1) = (y, L')) := Lib.hid (by have h := HNX.out; rw [if_neg (by decide)] at h; exact h)
                have HO6 : Hid (Out (RL B L' (.slice A9 L'.length c9)) M W1 w6) := Lib.hid ⟨_, ⟨rb, rc, rfl, HRL.out.below HB6.out⟩, HTC.out.below HB6.out, HMM.out⟩
                go_wp2_with fail
                clear x1 x2 k2 k3 k4
                go_roundw
                case rel => exact ⟨j + 1, y, L', rfl, HNY.out, by have := HJS.out; have := HG2.out; omega, HG2.out.2, HPN.out.1, HPN.out.2, HO6.out⟩
                case measure => first | (have := HG2.out; simp [intOf]; done) | (have := HG2.out; simp [intOf]; omega)
              · have HNY : Hid (itr l p f L (j + 1) = (y, addD L' (pce l s y))) := Lib.hid (by have h := HNX.out; rw [if_pos rfl] at h; exact h)
                have HPC : Hid (Calls Tryd.prog 49 #[.slice (some ⟨pb, 0, none⟩) n c, .slice (some ⟨o, 0, none⟩) (k + 1) cap, .int .i64 (s : Int), .int .i64 (y : Int)] w6 (OwC (pce l s y) w6)) := Lib.hid (by
                  have h := piece_any pb o c cap l s y w6 (HLr.out.below HB6.out) HLI.out HG2.out.1 (by rw [HTT.out]; exact HG2.out.2) HN1.out
                  rw [HN.out] at h
                  rw [HKN.out]
                  exact h)
                have HPL := Lib.hid (pce_len HLI.out s y)
                obtain ⟨d, hd⟩ : ∃ d, pce l s y = d := ⟨_, rfl⟩
                rw [hd] at HPC HNY HPL
                obtain ⟨dl, hdl⟩ : ∃ n, d.length = n := ⟨_, rfl⟩
                unfold OwC at HPC
                rw [hdl] at HPC HPL
                have HDL := Lib.hid hdl
                clear hd hdl
                go_wp2_with fail
                refine HPC.out.mono ?_
                rintro e8 w8 ⟨v8, rfl, hown, hb8⟩
                have HB8 := Lib.hid (HB6.out.trans (hb8.mono HB6.out.size))
                have HT8 := Lib.hid (HTC.out.below HB8.out)
                have HO2 := Lib.hid (HRL.out.below HB8.out)
                have HB2 : Hid (B ≤ w8.heap.size) := Lib.hid (Nat.le_trans HBr.out HB8.out.size)
                have HSZ : Hid (w6.heap.size ≤ w8.heap.size) := Lib.hid hb8.size
                clear hb8 HPC
                by_cases h6 : 1 < dl
                · obtain ⟨p8, cp8, cs8, rfl, hp8, hpr8, hpb8⟩ := own_pts (l := d) (by rw [HDL.out]; exact hown) (by rw [HDL.out]; omega)
                  rw [HDL.out]
                  have HP8 : Hid (w6.heap.size ≤ p8) := Lib.hid hp8
                  have HPR8 := Lib.hid hpr8
                  have HPB8 := Lib.hid hpb8
                  have HAD : Hid (addD L' d = L' ++ [d]) := Lib.hid (by unfold addD; rw [HDL.out, if_pos h6])
                  have k6 : (1 : Int) < (dl : Int) := by omega
                  have HQL : Hid (q ≤ 4096 ∧ 1 < dl) := Lib.hid (by constructor <;> omega)
                  clear hown hp8 hpr8 hpb8 h6 x1 x2 k2 k3 k4
                  go_wp2_with (refine wpList_appL (B := B) rfl _ _ rfl (own_below HO2.out.row ((Below.refl _ _).alloc (Nat.le_refl _) _)) rfl rfl (Blk.new _ _ _) rfl (by have := HPN.out; omega) (by simp; have := HB2.out; omega) ?_)
                  intro v9 w9 hown9 hgrow hor
                  have HBP : Hid (B ≤ p8) := Lib.hid (Nat.le_trans HBr.out (Nat.le_trans HB6.out.size HP8.out))
                  have HNW := Lib.hid (HO2.out.push (l := d) rfl ⟨rfl, rfl⟩ HPR8.out HPB8.out HBP.out (by rw [HDL.out]; exact hown9) (by rw [HDL.out]; exact hgrow))
                  have HTN := Lib.hid ((HT8.out.alloc _).grown hgrow (fun k hk => HMM.out k (mem_fp.2 (Or.inl hk))))
                  have HOR : Hid (∀ k, v9.ownBlock = some k → k ∈ M ∨ W1.heap.size ≤ k) := Lib.hid fun k hk => by
                    rcases hor with h1 | h1
                    · rw [h1] at hk
                      exact HMM.out k (mem_fp.2 (Or.inl hk))
                    · rw [h1] at hk
                      injection hk with hk
                      have := HT8.out.size
                      right
                      rw [← hk]
                      omega
                  have HO6 : Hid (Out (RL B (L' ++ [d]) v9) M W1 w9) := Lib.hid ⟨_, ⟨_, _, rfl, HNW.out⟩, HTN.out, fp_push2 HOR.out (fun i hi => HMM.out _ (mem_fp.2 (Or.inr ⟨i, hi, rfl⟩))) (by have h1 := HTC.out.size; have h2 := HB6.out.size; have h3 := HP8.out; omega)⟩
                  have HPQ : Hid ((L' ++ [d]).length ≤ ptsN (L' ++ [d]) ∧ ptsN (L' ++ [d]) ≤ 200000) := Lib.hid (by rw [ptsN_snoc, List.length_append, List.length_singleton, HDL.out, HQ.out]; have h1 := HPL.out; have h2 := HPN.out; rw [HQ.out] at h2; have h3 := HQL.out; omega)
                  rw [HAD.out] at HNY
                  clear hown9 hgrow hor k6
                  go_wp2_with fail
                  go_roundw
                  case rel => exact ⟨j + 1, y, L' ++ [d], rfl, HNY.out, by have := HJS.out; have := HG2.out; omega, HG2.out.2, HPQ.out.1, HPQ.out.2, HO6.out⟩
                  case measure => first | (have := HG2.out; simp [intOf]; done) | (have := HG2.out; simp [intOf]; omega)
                · have HAD : Hid (addD L' d = L') := Lib.hid (by unfold addD; rw [HDL.out, if_neg h6])
                  obtain ⟨A8, c8, rfl, _, _⟩ := own_open hown
                  have k6 : ¬ (1 : Int) < (dl : Int) := by omega
                  have HO6 : Hid (Out (RL B L' (.slice A9 L'.length c9)) M W1 w8) := Lib.hid ⟨_, ⟨rb, rc, rfl, HO2.out⟩, HT8.out, HMM.out⟩
                  rw [HAD.out] at HNY
                  clear hown h6
                  go_wp2_with fail
                  clear x1 x2 k2 k3 k4 k6
                  go_roundw
                  case rel => exact ⟨j + 1, y, L', rfl, HNY.out, by have := HJS.out; have := HG2.out; omega, HG2.out.2, HPN.out.1, HPN.out.2, HO6.out⟩
                  case measure => first | (have := HG2.out; simp [intOf]; done) | (have := HG2.out; simp [intOf]; omega)
        · have HD : Hid (dsh L l p f = L') := Lib.hid (itr_done HIT.out (by rw [HTT.out]; omega) (by rw [HTT.out]; exact fun h => hst h.1))
          have k2 : ¬ (s : Int) < (T : Int) := by omega
          have HF : Hid (Out (RL B (dsh L l p f) (.slice A9 L'.length c9)) M w wr) := Lib.hid (by
            rw [HD.out]
            exact out_step (tch_of_below HB1.out) (fun k hk => Or.inl hk) ⟨_, ⟨rb, rc, rfl, HRL.out⟩, HTC.out, HMM.out⟩)
          clear hit hjs hsT hll hpp ht hmm hrl hp9 hst
          go_wp2_with fail
          go_ret
          exact ⟨_, rfl, HF.out⟩
end Go.Proofs.YtflopcogalknhaaDoor.Str
