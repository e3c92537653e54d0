/-
  Layer 21: the line of a polygon (program).
-/
import Derived.Test.YtflopcogalknhaaDoorKStrDd
import Derived.Laws.MakeOwn
set_option linter.unusedVariables false
set_option linter.unusedSimpArgs false
namespace Go.Proofs.YtflopcogalknhaaDoor.Str
open Go.RowKit Go.Proofs.YtflopcogalknhaaDoor Go.Proofs.YtflopcogalknhaaDoor.NumPure

theorem infoI : (Tryd.prog.info? 3).map (fun i => (i.zero, i.size, i.bytes)) = some (some (.int .i64 0), 1, 8) := by kernel_rfl
theorem made_int (n : Nat) : madeCells #[.int .i64 0] n = (List.replicate n (Value.int .i64 0)).toArray := by
  apply Array.ext_getElem?
  intro i
  by_cases hi : i < n
  · have e2 : (List.replicate n (Value.int .i64 0)).toArray[i]? = some (.int .i64 0) := by rw [List.getElem?_toArray, List.getElem?_replicate, if_pos hi]
    rw [e2]
    unfold madeCells
    rw [Array.getElem?_map, Array.getElem?_range, if_pos hi]
    simp [Nat.mod_one]
  · rw [Array.getElem?_eq_none (by rw [size_madeCells]; omega), Array.getElem?_eq_none (by rw [List.size_toArray, List.length_replicate]; omega)]
theorem makeI (n : Nat) (h : n ≤ 65537) (w : World) : (Instr.makeSlice 33 (.int .i64 (n : Int)) (.int .i64 (n : Int))).run Tryd.prog w = .ok (.slice (some ⟨w.heap.size, 0, none⟩) n n) (w.alloc (.cells (Array.replicate n (Value.int .i64 0)) 3)) := by
  obtain ⟨i0, hi0, hz0, hz1, hz2⟩ := info_parts infoI
  have hmk := run_makeSlice (P := Tryd.prog) w 33 3 i0 (.int .i64 0) Tryd.underlying33 hi0 hz0 .i64 .i64 (n : Int) (n : Int) (by omega) (by omega) (by rw [hz1, Int.toNat_natCast]; omega) (by rw [hz2]; omega) (by omega)
  simp only [Int.toNat_natCast, hz1, Value.cells, Nat.mul_one] at hmk
  rw [made_int, List.toArray_replicate] at hmk
  exact hmk
theorem wpList_makeI {ops : Array Oper} {rest : List Oper} {o : Oper} {a : Act} {w : World} {Q : Exit → Act → World → Prop} (hg : o.guard = none) (x y : Operand) (ho : o.op = .makeSlice 33 x y) (n : Nat) (hn : n ≤ 65537) (hx : a.eval x = .int .i64 (n : Int)) (hy : a.eval y = .int .i64 (n : Int))
    (h : wpList Tryd.prog ops Q rest (a.put o.dst (.slice (some ⟨w.heap.size, 0, none⟩) n n)) (w.alloc (.cells (Array.replicate n (Value.int .i64 0)) 3))) : wpList Tryd.prog ops Q (o :: rest) a w := by
  refine wpList_plain hg fun K hK => ?_
  unfold Oper.wp
  simp only [execOp, ho, hx, hy, Sem.run_bind, makeI n hn w, Result.andThen_ok, Sem.run_pure]
  exact hK _ _ h
/-- A line's value. -/
def LnV (b0 : Nat) (w : World) (l : List P2) (v : Value) : Prop := ∃ Ap cp ab ca pb, v = .agg #[.slice Ap l.length cp, .slice (some ⟨ab, 0, none⟩) l.length ca] ∧ LnR w pb ab l ∧ (0 < l.length → Ap = some ⟨pb, 0, none⟩) ∧ b0 ≤ pb ∧ b0 ≤ ab
/-- A row of distances, filled as far as the k-th. -/
def AtB (W : World) (g n k : Nat) (l : List P2) : Prop := ∃ cs : Array Value, Blk W g 3 cs ∧ cs.size = n ∧ ∀ j, j ≤ k → j < n → cs[j]? = some (.int .i64 (atN l j : Nat))
theorem AtB.start (w : World) (n : Nat) (l : List P2) : AtB (w.alloc (.cells (Array.replicate n (Value.int .i64 0)) 3)) w.heap.size n 0 l := by
  refine ⟨_, Blk.new _ _ _, by simp, fun j hj hn => ?_⟩
  obtain rfl : j = 0 := by omega
  rw [Array.getElem?_replicate, if_pos hn]
  rfl
theorem AtB.set {W : World} {g n k : Nat} {l : List P2} (h : AtB W g n k l) (hk : k + 1 < n) : AtB (W.setCell ⟨g, k + 1, none⟩ (.int .i64 (atN l (k + 1) : Nat))) g n (k + 1) l := by
  obtain ⟨cs, h1, h2, h3⟩ := h
  rw [setCell_eq_setRow W g (k + 1) _ _ _ _ h1]
  refine ⟨_, Blk.row h1 _, by rw [Array.size_setIfInBounds]; exact h2, fun j hj hn => ?_⟩
  rw [Array.getElem?_setIfInBounds]
  by_cases e : k + 1 = j
  · subst e
    rw [if_pos rfl, if_pos (by omega)]
  · rw [if_neg e]
    exact h3 j (by omega) hn
theorem AtB.cell {W : World} {g n k : Nat} {l : List P2} (h : AtB W g n k l) (j : Nat) (hj : j ≤ k) (hn : j < n) : W.cell? ⟨g, j, none⟩ = some (.int .i64 (atN l j : Nat)) := by
  obtain ⟨cs, h1, _, h3⟩ := h
  exact (h1.cell j).trans (h3 j hj hn)
theorem AtB.there {W : World} {g n k : Nat} {l : List P2} (h : AtB W g n k l) (j : Nat) (hn : j < n) : ∃ x : Value, W.cell? ⟨g, j, none⟩ = some x ∧ ∀ o, W.frozen? ⟨g, o, none⟩ = false := by
  obtain ⟨cs, h1, h2, _⟩ := h
  exact ⟨cs[j]'(by omega), (h1.cell j).trans (Array.getElem?_eq_getElem (by omega)), h1.frozen⟩
theorem AtB.below {W W' : World} {g n k : Nat} {l : List P2} (h : AtB W g n k l) (hb : Below W.heap.size W W') : AtB W' g n k l := by
  obtain ⟨cs, h1, h2, h3⟩ := h
  exact ⟨cs, h1.below hb h1.lt, h2, h3⟩
theorem AtB.reads {W : World} {g n k : Nat} {l : List P2} (h : AtB W g n k l) (hn : n = l.length) (hk : n ≤ k + 1) : Reads W W.heap.size 1 (some ⟨g, 0, none⟩) l.length (atL l) := by
  obtain ⟨cs, h1, h2, h3⟩ := h
  refine ⟨by rw [atL_len]; omega, fun h0 => ⟨⟨g, 0, none⟩, rfl, h1.lt, fun i u hu => ?_⟩⟩
  have hi : i < l.length := by
    have := (List.getElem?_eq_some_iff.1 hu).1
    rwa [atL_len] at this
  rw [Addr.add_mid, Nat.zero_add, h1.cell, h3 i (by omega) (by omega)]
  unfold atL at hu
  rw [List.getElem?_map, List.getElem?_range hi] at hu
  exact hu
theorem huH (u H : Nat) (hu : u ≤ 4398046511104) (hH : H ≤ 67108864) : (u : Int) + (H : Int) ≤ 9223372036854775807 := by omega
theorem reads_tch {w w' : World} {M : List Nat} {sz n : Nat} {A : Option Addr} {xs : List Value} (h : Reads w w.heap.size sz A n xs) (ht : Tch M w w') (hA : ∀ ad, A = some ad → ad.block ∉ M) : Reads w' w'.heap.size sz A n xs :=
  ⟨h.1, fun hn => by
    obtain ⟨ad, e, hb, hc⟩ := h.2 hn
    have := ht.size
    exact ⟨ad, e, by omega, fun j u hu => (World.cell?_of_block (by rw [block_of_add]; exact ht.block _ hb (hA ad e))).trans (hc j u hu)⟩⟩
theorem infoLn : (Tryd.prog.info? 58).map (·.size) = some 2 := by kernel_rfl
set_option maxRecDepth 100000 in
set_option maxHeartbeats 2000000 in
theorem lineOf_any (A : Option Addr) (l : List P2) (c : Nat) (o : Bool) (w : World) (h : PtR w A l) (hl : l.length ≤ 65536) (hin : AllB 16777216 l) :
    Calls Tryd.prog 28 #[.slice A l.length c, .bool o] w fun e w' => ∃ v, e = .returned v ∧ LnV w.heap.size w' (lin l o) v ∧ Below w.heap.size w w' := by
  have HLI := Lib.hid (lin_of hin hl o)
  have HB0 : Hid (Below w.heap.size w (w.alloc (.cells #[.slice none 0 0, .slice none 0 0] 58))) := Lib.hid ((Below.refl _ _).alloc (Nat.le_refl _) _)
  have HK0 : Hid (Blk (w.alloc (.cells #[.slice none 0 0, .slice none 0 0] 58)) w.heap.size 58 #[.slice none 0 0, .slice none 0 0]) := Lib.hid (Blk.new _ _ _)
  have HC1 := Lib.hid fun W (hW : Below w.heap.size w W) => reduced_any A l c o W (h.below hW) (by omega)
  obtain ⟨r, hr⟩ : ∃ r, red l o = r := ⟨_, rfl⟩
  have hrl := red_len l o
  have HLE : Hid (lin l o = if o = false ∧ 1 < r.length then r ++ [r.getD 0 (0, 0)] else r) := Lib.hid (by unfold lin; rw [hr])
  obtain ⟨L, hL⟩ : ∃ L, lin l o = L := ⟨_, rfl⟩
  unfold OwC at HC1
  rw [hr] at HC1 hrl
  rw [hL] at HLI HLE
  rw [hL]
  obtain ⟨W0, hW0⟩ : ∃ W, w.alloc (.cells #[.slice none 0 0, .slice none 0 0] 58) = W := ⟨_, rfl⟩
  rw [hW0] at HB0 HK0
  obtain ⟨g4, hg4⟩ : ∃ g, w.heap.size = g := ⟨_, rfl⟩
  have HGS : Hid (w.heap.size = g4) := Lib.hid hg4
  rw [hg4] at HK0
  obtain ⟨n0, hn0⟩ : ∃ n, l.length = n := ⟨_, rfl⟩
  rw [hn0] at HC1 hrl hl ⊢
  clear h hr hL hn0 hin
  go_enter Tryd.func28, Tryd.ntmps28
  go_upto_region 1 with fail
  try rw [hW0]
  try rw [hg4]
  clear hW0 hg4
  go_wp2_with fail
  refine (HC1.out _ HB0.out).mono ?_
  rintro e9 w9 ⟨v9, rfl, hown, hb9⟩
  have HB9 := Lib.hid hb9
  obtain ⟨m, hm⟩ : ∃ m, r.length = m := ⟨_, rfl⟩
  rw [hm] at hown HLE hrl
  obtain ⟨Ar, cr, rfl, _, _⟩ := own_open hown
  clear HC1 hb9
  by_cases hc : o = false ∧ 1 < m
  · obtain ⟨rfl, hm1⟩ := hc
    have HLC : Hid (L = r ++ [r.getD 0 (0, 0)]) := Lib.hid (by rw [HLE.out, if_pos ⟨rfl, hm1⟩])
    have hm2 : (1 : Int) < (m : Int) := by omega
    have hr0 : 0 < r.length := by omega
    rcases hown.2 with ⟨_, h9⟩ | ⟨g, cap, cur, hv, hg, hh, _, _, _, _⟩
    · omega
    injection hv with hv _ hv2
    subst hv
    subst hv2
    have hrd := Reads.of_own hown
    have hpt : PtR w9 (some ⟨g, 0, none⟩) r := by unfold PtR; rw [hm]; exact hrd
    obtain ⟨b0, b1⟩ := pt_cells0 hpt 0 hr0
    have e0 : r.getD 0 (0, 0) = r[0] := getD_at hr0
    obtain ⟨⟨x, y⟩, hx⟩ : ∃ p, r[0] = p := ⟨_, rfl⟩
    rw [hx] at b0 b1 e0
    rw [e0] at HLC
    have HO := Lib.hid hown
    have hm0 : (0 : Int) < (m : Int) := by omega
    have hm00 : 0 < m := by omega
    obtain ⟨t0, hi0, hz0, hz1, hz2⟩ := info_parts infoP
    clear hown hh hrd hpt hx e0 HLE hr0
    go_wp2_with (at_builtin; refine wpList_append_own _ rfl _ _ 36 rfl W0.heap.size 30 t0 (.agg #[.int .i64 0, .int .i64 0]) 2 16 Tryd.underlying36 hi0 hz0 hz1 hz2 rfl (by decide) _ _ _ rfl (own_below HO.out ((Below.refl _ _).alloc (Nat.le_refl _) _)) ⟨w9.heap.size, 0, none⟩ 1 1 [.int .i64 x, .int .i64 y] rfl rfl (World.news_of_block (Blk.new _ _ _)) ?c2 ?c3 ?c4 ?c5 ?_)
    case c2 => intro u hu; simp only [List.mem_cons, List.not_mem_nil, or_false] at hu; rcases hu with rfl | rfl <;> rfl
    case c3 => unfold maxLen; omega
    case c4 => omega
    case c5 => simp; have := HB9.out.size; omega
    intro v' w7 hown' hgrow _
    have HB7 := Lib.hid ((HB9.out.alloc HB9.out.size _).grown hgrow (by simp; have := HB9.out.size; omega) (own_low HO.out))
    obtain ⟨n, hn⟩ : ∃ n, m + 1 = n := ⟨_, rfl⟩
    have hLn : L.length = n := by rw [HLC.out, List.length_append, hm]; exact hn
    have hown2 : w7.ownsRow W0.heap.size 30 2 v' n (pts L) := by rw [HLC.out, pts_app, ← hn]; exact hown'
    obtain ⟨Ap, cp, rfl, _, _⟩ := own_open hown2
    have HOW := Lib.hid hown2
    clear hown' hgrow HO hown2 b0 b1
    have hn := hLn
    clear hLn
    go_upto_region 4 with fail
    obtain ⟨WR, rfl⟩ : ∃ W, W = w7 := ⟨_, rfl⟩
    have HBW := HB7
    obtain ⟨Ap9, cp9, hv9, _, hrd⟩ := own_open HOW.out
    cases hv9
    have hpb : ∃ pb, PtR WR (some ⟨pb, 0, none⟩) L ∧ (0 < L.length → Ap = some ⟨pb, 0, none⟩) ∧ W0.heap.size ≤ pb := by
      rw [hn]
      by_cases h0 : n = 0
      · refine ⟨W0.heap.size, ⟨by rw [pts_len], fun h => absurd h (by omega)⟩, fun h => absurd h (by omega), Nat.le_refl _⟩
      · rcases HOW.out.2 with ⟨_, h⟩ | ⟨g, cap, cur, hv, hgg, _⟩
        · exact absurd h h0
        · injection hv with hv
          subst hv
          exact ⟨g, by unfold PtR; rw [hn]; exact hrd, fun _ => rfl, hgg⟩
    obtain ⟨pb, hpr, hAp, hpg⟩ := hpb
    have HPG := Lib.hid hpg
    have HPR := Lib.hid hpr
    have HAP := Lib.hid hAp
    have HN := Lib.hid hn
    have HNl : Hid (n ≤ 65537) := Lib.hid (by rw [← hn]; exact HLI.out.len)
    clear hrd hpr hAp hn HOW hpg
    go_wp2_with (refine wpList_makeI rfl _ _ rfl n HNl.out rfl rfl ?_)
    have HAB0 := Lib.hid (AtB.start WR n L)
    have HBN : Hid (Below WR.heap.size WR (WR.alloc (.cells (Array.replicate n (Value.int .i64 0)) 3))) := Lib.hid ((Below.refl _ _).alloc (Nat.le_refl _) _)
    obtain ⟨ab, hab⟩ : ∃ g, WR.heap.size = g := ⟨_, rfl⟩
    have HGA : Hid (WR.heap.size = ab) := Lib.hid hab
    obtain ⟨W2, hW2⟩ : ∃ W, WR.alloc (.cells (Array.replicate n (Value.int .i64 0)) 3) = W := ⟨_, rfl⟩
    rw [hab, hW2] at HAB0
    rw [hW2] at HBN
    try rw [hab, hW2]
    clear hab hW2
    go_loopw [7] (fun i wr => ∃ k : Nat, i = .int .i64 ((k : Int) + 1) ∧ (k = 0 ∨ k + 1 ≤ n) ∧ AtB wr ab n k L ∧ Below WR.heap.size WR wr) (fun i _ => n - (intOf i).toNat)
    case atStart => exact ⟨0, rfl, Or.inl rfl, HAB0.out, HBN.out⟩
    case round =>
      clear HAB0 HBN
      obtain ⟨k, rfl, hk, hab, hbw⟩ := hrel
      have HAB := Lib.hid hab
      have HBw := Lib.hid hbw
      by_cases hlt : k + 1 < n
      · have hkl : k + 1 < L.length := by rw [HN.out]; exact hlt
        have hga := gp_in HLI.out.inb (show k < L.length by omega)
        have hgb := gp_in HLI.out.inb hkl
        obtain ⟨hyp1, hyp2, _, _⟩ := hypN_is hga hgb
        have hat := atN_bd HLI.out k (by omega)
        have HNX : Hid (atN L (k + 1) = atN L k + hypN (gp L k) (gp L (k + 1))) := Lib.hid rfl
        rw [HAP.out (by omega)]
        have SP : Hid (∀ W, Below WR.heap.size WR W → W.cell? ⟨pb, k * 2, none⟩ = some (.int .i64 (gp L k).1) ∧ W.cell? ⟨pb, k * 2 + 1, none⟩ = some (.int .i64 (gp L k).2) ∧ W.cell? ⟨pb, (k + 1) * 2, none⟩ = some (.int .i64 (gp L (k + 1)).1) ∧ W.cell? ⟨pb, (k + 1) * 2 + 1, none⟩ = some (.int .i64 (gp L (k + 1)).2)) := Lib.hid fun W hW => by
          have e1 : gp L k = L[k] := getD_at (by omega)
          have e2 : gp L (k + 1) = L[k + 1] := getD_at hkl
          obtain ⟨y0, y1⟩ := pt_cells0 (HPR.out.below hW) k (by omega)
          obtain ⟨y2, y3⟩ := pt_cells0 (HPR.out.below hW) (k + 1) hkl
          rw [e1, e2]
          exact ⟨y0, y1, y2, y3⟩
        have z6 := hab.cell k (Nat.le_refl _) (by omega)
        obtain ⟨xx, z7, z8⟩ := hab.there (k + 1) hlt
        obtain ⟨H, hH⟩ : ∃ H, hypN (gp L k) (gp L (k + 1)) = H := ⟨_, rfl⟩
        obtain ⟨⟨a0, a1⟩, ha⟩ : ∃ p, gp L k = p := ⟨_, rfl⟩
        obtain ⟨⟨b0, b1⟩, hb⟩ : ∃ p, gp L (k + 1) = p := ⟨_, rfl⟩
        obtain ⟨u, hu⟩ : ∃ u, atN L k = u := ⟨_, rfl⟩
        rw [hH] at hyp1 hyp2 HNX
        rw [ha, hb] at hyp1 SP
        rw [ha] at hga
        rw [hb] at hgb
        rw [hu] at hat HNX z6
        unfold Inb at hga hgb
        dsimp only at hyp1 SP hga hgb
        have CH := fun W => Num.hypot_any (b0 - a0) (b1 - a1) (by omega) (by omega) (by omega) (by omega) W
        rw [hyp1] at CH
        obtain ⟨x, hx⟩ : ∃ x : Int, b0 - a0 = x := ⟨_, rfl⟩
        obtain ⟨y, hy⟩ : ∃ x : Int, b1 - a1 = x := ⟨_, rfl⟩
        rw [hx, hy] at CH
        have HCH := Lib.hid CH
        have hNl := HNl.out
        have X1 : Hid (IntKind.i64.wrap (b0 - a0) = x) := Lib.hid (by rw [hx]; exact i64w (by omega) (by omega))
        have X2 : Hid (IntKind.i64.wrap (b1 - a1) = y) := Lib.hid (by rw [hy]; exact i64w (by omega) (by omega))
        have X3 : Hid (IntKind.i64.wrap (k : Int) = (k : Int)) := Lib.hid (i64w (by omega) (by omega))
        have X4 : Hid (IntKind.i64.wrap ((u : Int) + (H : Int)) = ((atN L (k + 1) : Nat) : Int)) := Lib.hid ((i64w (show -9223372036854775808 ≤ (u : Int) + (H : Int) from Int.le_trans (by decide) (Int.add_nonneg (Int.natCast_nonneg u) (Int.natCast_nonneg H))) (huH u H (by omega) hyp2)).trans (by rw [HNX.out]; exact (Int.natCast_add u H).symm))
        have k2 : (k : Int) + 1 < (n : Int) := by omega
        have k3 : (0 : Int) ≤ (k : Int) + 1 := by omega
        have k4 : (k : Int) < (n : Int) := by omega
        have k5 : (0 : Int) ≤ (k : Int) := by omega
        have x1 := X1.out
        have x2 := X2.out
        have x3 := X3.out
        have x4 := X4.out
        obtain ⟨z0, z1, z2, z3⟩ := SP.out _ hbw
        obtain ⟨v, hv⟩ : ∃ v, atN L (k + 1) = v := ⟨_, rfl⟩
        rw [hv] at x4
        have HV := Lib.hid hv
        have HSET : Hid (AtB (wr.setCell ⟨ab, k + 1, none⟩ (.int .i64 (v : Nat))).drew ab n (k + 1) L) := Lib.hid (by
          have h1 := hab.set hlt
          rw [← hv]
          exact h1.below (Below.refl _ _).drew)
        have HBS : Hid (Below WR.heap.size WR (wr.setCell ⟨ab, k + 1, none⟩ (.int .i64 (v : Nat))).drew) := Lib.hid (by
          obtain ⟨cs, h1, _⟩ := hab
          rw [setCell_eq_setRow _ ab (k + 1) _ _ _ _ h1]
          exact (below_setRow hbw (by rw [HGA.out]; exact Nat.le_refl _) _).drew)
        have HKS : Hid ((wr.setCell ⟨ab, k + 1, none⟩ (.int .i64 (v : Nat))).drew.cell? ⟨pb, k * 2, none⟩ = some (.int .i64 a0) ∧ (wr.setCell ⟨ab, k + 1, none⟩ (.int .i64 (v : Nat))).drew.cell? ⟨pb, k * 2 + 1, none⟩ = some (.int .i64 a1) ∧ (wr.setCell ⟨ab, k + 1, none⟩ (.int .i64 (v : Nat))).drew.cell? ⟨pb, (k + 1) * 2, none⟩ = some (.int .i64 b0) ∧ (wr.setCell ⟨ab, k + 1, none⟩ (.int .i64 (v : Nat))).drew.cell? ⟨pb, (k + 1) * 2 + 1, none⟩ = some (.int .i64 b1) ∧ (wr.setCell ⟨ab, k + 1, none⟩ (.int .i64 (v : Nat))).drew.cell? ⟨ab, k, none⟩ = some (.int .i64 (u : Nat))) := Lib.hid (by
          obtain ⟨y0, y1, y2, y3⟩ := SP.out _ HBS.out
          have y4 := HSET.out.cell k (by omega) (by omega)
          rw [hu] at y4
          exact ⟨y0, y1, y2, y3, y4⟩)
        clear hab hbw hkl hga hgb hyp1 hyp2 hat CH hx hy hH ha hb hu hv hlt hk HNX
        go_wp2_with fail
        go_region_held3 (fun W => W.cell? ⟨pb, k * 2, none⟩ = some (.int .i64 a0) ∧ W.cell? ⟨pb, k * 2 + 1, none⟩ = some (.int .i64 a1) ∧ W.cell? ⟨pb, (k + 1) * 2, none⟩ = some (.int .i64 b0) ∧ W.cell? ⟨pb, (k + 1) * 2 + 1, none⟩ = some (.int .i64 b1) ∧ W.cell? ⟨ab, k, none⟩ = some (.int .i64 (u : Nat)))
          (first | exact HKS.out | go_keep)
          (first | (go_at_call 47; refine (HCH.out _).mono ?_; rintro e' w' ⟨rfl, rfl⟩))
        clear z0 z1 z2 z3 z6 z7 z8 x1 x2 x3 x4
        go_wp2_with fail
        go_roundw
        case rel => exact ⟨k + 1, by go_num, Or.inr (by omega), HSET.out, HBS.out⟩
        case measure => first | (simp [intOf]; done) | (simp [intOf]; omega)
      · have k2 : ¬ (k : Int) + 1 < (n : Int) := by omega
        have HRD : Hid (Reads wr wr.heap.size 1 (some ⟨ab, 0, none⟩) L.length (atL L)) := Lib.hid (hab.reads HN.out.symm (by omega))
        have HPR2 := Lib.hid (HPR.out.below hbw)
        have HB9 : Hid (Below W0.heap.size W0 wr) := Lib.hid (HBW.out.trans (hbw.mono HBW.out.size))
        have HBF : Hid (Below w.heap.size w wr) := Lib.hid (HB0.out.trans (HB9.out.mono HB0.out.size))
        have H4 := Lib.hid (HK0.out.below HB9.out HK0.out.lt)
        obtain ⟨z0, z1, z2⟩ := blk2 H4.out
        clear hab hbw hlt hk
        go_wp2_with fail
        rw [two_row H4.out]
        refine bodyPost_ret (v := .agg #[.slice Ap n cp, .slice (some ⟨ab, 0, none⟩) n n]) (results_cell_row rfl _ _ g4 58 #[.slice Ap n cp, .slice (some ⟨ab, 0, none⟩) n n] (0, 0) _ rfl (Blk.row H4.out _) Tryd.underlying58 rfl infoLn) rfl ?_
        have hb2 : Below w.heap.size w (wr.setRow g4 #[.slice Ap n cp, .slice (some ⟨ab, 0, none⟩) n n]) := below_setRow HBF.out (by rw [HGS.out]; exact Nat.le_refl _) _
        have ht : Tch [g4] wr (wr.setRow g4 #[.slice Ap n cp, .slice (some ⟨ab, 0, none⟩) n n]) := tch_setRow (Tch.refl _ _) (Or.inl (by simp)) _
        have hg4 := HK0.out.lt
        refine ⟨_, rfl, ⟨Ap, cp, ab, n, pb, by rw [HN.out], ⟨?_, ?_⟩, HAP.out, Nat.le_trans HB0.out.size HPG.out, by have h1 := HGA.out; have h2 := HBW.out.size; have h3 := HB0.out.size; omega⟩, hb2⟩
        · exact HPR2.out.tch ht (fun ad e h => by injection e with e; rw [← e] at h; simp only [List.mem_singleton] at h; have := HPG.out; omega)
        · exact reads_tch HRD.out ht (fun ad e h => by injection e with e; rw [← e] at h; simp only [List.mem_singleton] at h; have := HGA.out; have := HBW.out.size; omega)
  · obtain ⟨n, rfl⟩ : ∃ n, n = m := ⟨_, rfl⟩
    obtain ⟨Ap, rfl⟩ : ∃ n, n = Ar := ⟨_, rfl⟩
    obtain ⟨cp, rfl⟩ : ∃ n, n = cr := ⟨_, rfl⟩
    have hn : L.length = n := by rw [HLE.out, if_neg hc, hm]
    have HOW : Hid (w9.ownsRow W0.heap.size 30 2 (.slice Ap n cp) n (pts L)) := Lib.hid (by rw [HLE.out, if_neg hc]; exact hown)
    obtain ⟨WR, rfl⟩ : ∃ W, W = w9 := ⟨_, rfl⟩
    have HBW := HB9
    cases o
    · have hm1 : ¬ (1 : Int) < (n : Int) := by have : ¬ 1 < n := fun h => hc ⟨rfl, h⟩; omega
      clear hown hc
      go_upto_region 4 with fail
      obtain ⟨Ap9, cp9, hv9, _, hrd⟩ := own_open HOW.out
      cases hv9
      have hpb : ∃ pb, PtR WR (some ⟨pb, 0, none⟩) L ∧ (0 < L.length → Ap = some ⟨pb, 0, none⟩) ∧ W0.heap.size ≤ pb := by
        rw [hn]
        by_cases h0 : n = 0
        · refine ⟨W0.heap.size, ⟨by rw [pts_len], fun h => absurd h (by omega)⟩, fun h => absurd h (by omega), Nat.le_refl _⟩
        · rcases HOW.out.2 with ⟨_, h⟩ | ⟨g, cap, cur, hv, hgg, _⟩
          · exact absurd h h0
          · injection hv with hv
            subst hv
            exact ⟨g, by unfold PtR; rw [hn]; exact hrd, fun _ => rfl, hgg⟩
      obtain ⟨pb, hpr, hAp, hpg⟩ := hpb
      have HPG := Lib.hid hpg
      have HPR := Lib.hid hpr
      have HAP := Lib.hid hAp
      have HN := Lib.hid hn
      have HNl : Hid (n ≤ 65537) := Lib.hid (by rw [← hn]; exact HLI.out.len)
      clear hrd hpr hAp hn HOW hpg
      go_wp2_with (refine wpList_makeI rfl _ _ rfl n HNl.out rfl rfl ?_)
      have HAB0 := Lib.hid (AtB.start WR n L)
      have HBN : Hid (Below WR.heap.size WR (WR.alloc (.cells (Array.replicate n (Value.int .i64 0)) 3))) := Lib.hid ((Below.refl _ _).alloc (Nat.le_refl _) _)
      obtain ⟨ab, hab⟩ : ∃ g, WR.heap.size = g := ⟨_, rfl⟩
      have HGA : Hid (WR.heap.size = ab) := Lib.hid hab
      obtain ⟨W2, hW2⟩ : ∃ W, WR.alloc (.cells (Array.replicate n (Value.int .i64 0)) 3) = W := ⟨_, rfl⟩
      rw [hab, hW2] at HAB0
      rw [hW2] at HBN
      try rw [hab, hW2]
      clear hab hW2
      go_loopw [7] (fun i wr => ∃ k : Nat, i = .int .i64 ((k : Int) + 1) ∧ (k = 0 ∨ k + 1 ≤ n) ∧ AtB wr ab n k L ∧ Below WR.heap.size WR wr) (fun i _ => n - (intOf i).toNat)
      case atStart => exact ⟨0, rfl, Or.inl rfl, HAB0.out, HBN.out⟩
      case round =>
        clear HAB0 HBN
        obtain ⟨k, rfl, hk, hab, hbw⟩ := hrel
        have HAB := Lib.hid hab
        have HBw := Lib.hid hbw
        by_cases hlt : k + 1 < n
        · have hkl : k + 1 < L.length := by rw [HN.out]; exact hlt
          have hga := gp_in HLI.out.inb (show k < L.length by omega)
          have hgb := gp_in HLI.out.inb hkl
          obtain ⟨hyp1, hyp2, _, _⟩ := hypN_is hga hgb
          have hat := atN_bd HLI.out k (by omega)
          have HNX : Hid (atN L (k + 1) = atN L k + hypN (gp L k) (gp L (k + 1))) := Lib.hid rfl
          rw [HAP.out (by omega)]
          have SP : Hid (∀ W, Below WR.heap.size WR W → W.cell? ⟨pb, k * 2, none⟩ = some (.int .i64 (gp L k).1) ∧ W.cell? ⟨pb, k * 2 + 1, none⟩ = some (.int .i64 (gp L k).2) ∧ W.cell? ⟨pb, (k + 1) * 2, none⟩ = some (.int .i64 (gp L (k + 1)).1) ∧ W.cell? ⟨pb, (k + 1) * 2 + 1, none⟩ = some (.int .i64 (gp L (k + 1)).2)) := Lib.hid fun W hW => by
            have e1 : gp L k = L[k] := getD_at (by omega)
            have e2 : gp L (k + 1) = L[k + 1] := getD_at hkl
            obtain ⟨y0, y1⟩ := pt_cells0 (HPR.out.below hW) k (by omega)
            obtain ⟨y2, y3⟩ := pt_cells0 (HPR.out.below hW) (k + 1) hkl
            rw [e1, e2]
            exact ⟨y0, y1, y2, y3⟩
          have z6 := hab.cell k (Nat.le_refl _) (by omega)
          obtain ⟨xx, z7, z8⟩ := hab.there (k + 1) hlt
          obtain ⟨H, hH⟩ : ∃ H, hypN (gp L k) (gp L (k + 1)) = H := ⟨_, rfl⟩
          obtain ⟨⟨a0, a1⟩, ha⟩ : ∃ p, gp L k = p := ⟨_, rfl⟩
          obtain ⟨⟨b0, b1⟩, hb⟩ : ∃ p, gp L (k + 1) = p := ⟨_, rfl⟩
          obtain ⟨u, hu⟩ : ∃ u, atN L k = u := ⟨_, rfl⟩
          rw [hH] at hyp1 hyp2 HNX
          rw [ha, hb] at hyp1 SP
          rw [ha] at hga
          rw [hb] at hgb
          rw [hu] at hat HNX z6
          unfold Inb at hga hgb
          dsimp only at hyp1 SP hga hgb
          have CH := fun W => Num.hypot_any (b0 - a0) (b1 - a1) (by omega) (by omega) (by omega) (by omega) W
          rw [hyp1] at CH
          obtain ⟨x, hx⟩ : ∃ x : Int, b0 - a0 = x := ⟨_, rfl⟩
          obtain ⟨y, hy⟩ : ∃ x : Int, b1 - a1 = x := ⟨_, rfl⟩
          rw [hx, hy] at CH
          have HCH := Lib.hid CH
          have hNl := HNl.out
          have X1 : Hid (IntKind.i64.wrap (b0 - a0) = x) := Lib.hid (by rw [hx]; exact i64w (by omega) (by omega))
          have X2 : Hid (IntKind.i64.wrap (b1 - a1) = y) := Lib.hid (by rw [hy]; exact i64w (by omega) (by omega))
          have X3 : Hid (IntKind.i64.wrap (k : Int) = (k : Int)) := Lib.hid (i64w (by omega) (by omega))
          have X4 : Hid (IntKind.i64.wrap ((u : Int) + (H : Int)) = ((atN L (k + 1) : Nat) : Int)) := Lib.hid ((i64w (show -9223372036854775808 ≤ (u : Int) + (H : Int) from Int.le_trans (by decide) (Int.add_nonneg (Int.natCast_nonneg u) (Int.natCast_nonneg H))) (huH u H (by omega) hyp2)).trans (by rw [HNX.out]; exact (Int.natCast_add u H).symm))
          have k2 : (k : Int) + 1 < (n : Int) := by omega
          have k3 : (0 : Int) ≤ (k : Int) + 1 := by omega
          have k4 : (k : Int) < (n : Int) := by omega
          have k5 : (0 : Int) ≤ (k : Int) := by omega
          have x1 := X1.out
          have x2 := X2.out
          have x3 := X3.out
          have x4 := X4.out
          obtain ⟨z0, z1, z2, z3⟩ := SP.out _ hbw
          obtain ⟨v, hv⟩ : ∃ v, atN L (k + 1) = v := ⟨_, rfl⟩
          rw [hv] at x4
          have HV := Lib.hid hv
          have HSET : Hid (AtB (wr.setCell ⟨ab, k + 1, none⟩ (.int .i64 (v : Nat))).drew ab n (k + 1) L) := Lib.hid (by
            have h1 := hab.set hlt
            rw [← hv]
            exact h1.below (Below.refl _ _).drew)
          have HBS : Hid (Below WR.heap.size WR (wr.setCell ⟨ab, k + 1, none⟩ (.int .i64 (v : Nat))).drew) := Lib.hid (by
            obtain ⟨cs, h1, _⟩ := hab
            rw [setCell_eq_setRow _ ab (k + 1) _ _ _ _ h1]
            exact (below_setRow hbw (by rw [HGA.out]; exact Nat.le_refl _) _).drew)
          have HKS : Hid ((wr.setCell ⟨ab, k + 1, none⟩ (.int .i64 (v : Nat))).drew.cell? ⟨pb, k * 2, none⟩ = some (.int .i64 a0) ∧ (wr.setCell ⟨ab, k + 1, none⟩ (.int .i64 (v : Nat))).drew.cell? ⟨pb, k * 2 + 1, none⟩ = some (.int .i64 a1) ∧ (wr.setCell ⟨ab, k + 1, none⟩ (.int .i64 (v : Nat))).drew.cell? ⟨pb, (k + 1) * 2, none⟩ = some (.int .i64 b0) ∧ (wr.setCell ⟨ab, k + 1, none⟩ (.int .i64 (v : Nat))).drew.cell? ⟨pb, (k + 1) * 2 + 1, none⟩ = some (.int .i64 b1) ∧ (wr.setCell ⟨ab, k + 1, none⟩ (.int .i64 (v : Nat))).drew.cell? ⟨ab, k, none⟩ = some (.int .i64 (u : Nat))) := Lib.hid (by
            obtain ⟨y0, y1, y2, y3⟩ := SP.out _ HBS.out
            have y4 := HSET.out.cell k (by omega) (by omega)
            rw [hu] at y4
            exact ⟨y0, y1, y2, y3, y4⟩)
          clear hab hbw hkl hga hgb hyp1 hyp2 hat CH hx hy hH ha hb hu hv hlt hk HNX
          go_wp2_with fail
          go_region_held3 (fun W => W.cell? ⟨pb, k * 2, none⟩ = some (.int .i64 a0) ∧ W.cell? ⟨pb, k * 2 + 1, none⟩ = some (.int .i64 a1) ∧ W.cell? ⟨pb, (k + 1) * 2, none⟩ = some (.int .i64 b0) ∧ W.cell? ⟨pb, (k + 1) * 2 + 1, none⟩ = some (.int .i64 b1) ∧ W.cell? ⟨ab, k, none⟩ = some (.int .i64 (u : Nat)))
            (first | exact HKS.out | go_keep)
            (first | (go_at_call 47; refine (HCH.out _).mono ?_; rintro e' w' ⟨rfl, rfl⟩))
          clear z0 z1 z2 z3 z6 z7 z8 x1 x2 x3 x4
          go_wp2_with fail
          go_roundw
          case rel => exact ⟨k + 1, by go_num, Or.inr (by omega), HSET.out, HBS.out⟩
          case measure => first | (simp [intOf]; done) | (simp [intOf]; omega)
        · have k2 : ¬ (k : Int) + 1 < (n : Int) := by omega
          have HRD : Hid (Reads wr wr.heap.size 1 (some ⟨ab, 0, none⟩) L.length (atL L)) := Lib.hid (hab.reads HN.out.symm (by omega))
          have HPR2 := Lib.hid (HPR.out.below hbw)
          have HB9 : Hid (Below W0.heap.size W0 wr) := Lib.hid (HBW.out.trans (hbw.mono HBW.out.size))
          have HBF : Hid (Below w.heap.size w wr) := Lib.hid (HB0.out.trans (HB9.out.mono HB0.out.size))
          have H4 := Lib.hid (HK0.out.below HB9.out HK0.out.lt)
          obtain ⟨z0, z1, z2⟩ := blk2 H4.out
          clear hab hbw hlt hk
          go_wp2_with fail
          rw [two_row H4.out]
          refine bodyPost_ret (v := .agg #[.slice Ap n cp, .slice (some ⟨ab, 0, none⟩) n n]) (results_cell_row rfl _ _ g4 58 #[.slice Ap n cp, .slice (some ⟨ab, 0, none⟩) n n] (0, 0) _ rfl (Blk.row H4.out _) Tryd.underlying58 rfl infoLn) rfl ?_
          have hb2 : Below w.heap.size w (wr.setRow g4 #[.slice Ap n cp, .slice (some ⟨ab, 0, none⟩) n n]) := below_setRow HBF.out (by rw [HGS.out]; exact Nat.le_refl _) _
          have ht : Tch [g4] wr (wr.setRow g4 #[.slice Ap n cp, .slice (some ⟨ab, 0, none⟩) n n]) := tch_setRow (Tch.refl _ _) (Or.inl (by simp)) _
          have hg4 := HK0.out.lt
          refine ⟨_, rfl, ⟨Ap, cp, ab, n, pb, by rw [HN.out], ⟨?_, ?_⟩, HAP.out, Nat.le_trans HB0.out.size HPG.out, by have h1 := HGA.out; have h2 := HBW.out.size; have h3 := HB0.out.size; omega⟩, hb2⟩
          · exact HPR2.out.tch ht (fun ad e h => by injection e with e; rw [← e] at h; simp only [List.mem_singleton] at h; have := HPG.out; omega)
          · exact reads_tch HRD.out ht (fun ad e h => by injection e with e; rw [← e] at h; simp only [List.mem_singleton] at h; have := HGA.out; have := HBW.out.size; omega)
    · clear hown hc
      go_upto_region 4 with fail
      obtain ⟨Ap9, cp9, hv9, _, hrd⟩ := own_open HOW.out
      cases hv9
      have hpb : ∃ pb, PtR WR (some ⟨pb, 0, none⟩) L ∧ (0 < L.length → Ap = some ⟨pb, 0, none⟩) ∧ W0.heap.size ≤ pb := by
        rw [hn]
        by_cases h0 : n = 0
        · refine ⟨W0.heap.size, ⟨by rw [pts_len], fun h => absurd h (by omega)⟩, fun h => absurd h (by omega), Nat.le_refl _⟩
        · rcases HOW.out.2 with ⟨_, h⟩ | ⟨g, cap, cur, hv, hgg, _⟩
          · exact absurd h h0
          · injection hv with hv
            subst hv
            exact ⟨g, by unfold PtR; rw [hn]; exact hrd, fun _ => rfl, hgg⟩
      obtain ⟨pb, hpr, hAp, hpg⟩ := hpb
      have HPG := Lib.hid hpg
      have HPR := Lib.hid hpr
      have HAP := Lib.hid hAp
      have HN := Lib.hid hn
      have HNl : Hid (n ≤ 65537) := Lib.hid (by rw [← hn]; exact HLI.out.len)
      clear hrd hpr hAp hn HOW hpg
      go_wp2_with (refine wpList_makeI rfl _ _ rfl n HNl.out rfl rfl ?_)
      have HAB0 := Lib.hid (AtB.start WR n L)
      have HBN : Hid (Below WR.heap.size WR (WR.alloc (.cells (Array.replicate n (Value.int .i64 0)) 3))) := Lib.hid ((Below.refl _ _).alloc (Nat.le_refl _) _)
      obtain ⟨ab, hab⟩ : ∃ g, WR.heap.size = g := ⟨_, rfl⟩
      have HGA : Hid (WR.heap.size = ab) := Lib.hid hab
      obtain ⟨W2, hW2⟩ : ∃ W, WR.alloc (.cells (Array.replicate n (Value.int .i64 0)) 3) = W := ⟨_, rfl⟩
      rw [hab, hW2] at HAB0
      rw [hW2] at HBN
      try rw [hab, hW2]
      clear hab hW2
      go_loopw [7] (fun i wr => ∃ k : Nat, i = .int .i64 ((k : Int) + 1) ∧ (k = 0 ∨ k + 1 ≤ n) ∧ AtB wr ab n k L ∧ Below WR.heap.size WR wr) (fun i _ => n - (intOf i).toNat)
      case atStart => exact ⟨0, rfl, Or.inl rfl, HAB0.out, HBN.out⟩
      case round =>
        clear HAB0 HBN
        obtain ⟨k, rfl, hk, hab, hbw⟩ := hrel
        have HAB := Lib.hid hab
        have HBw := Lib.hid hbw
        by_cases hlt : k + 1 < n
        · have hkl : k + 1 < L.length := by rw [HN.out]; exact hlt
          have hga := gp_in HLI.out.inb (show k < L.length by omega)
          have hgb := gp_in HLI.out.inb hkl
          obtain ⟨hyp1, hyp2, _, _⟩ := hypN_is hga hgb
          have hat := atN_bd HLI.out k (by omega)
          have HNX : Hid (atN L (k + 1) = atN L k + hypN (gp L k) (gp L (k + 1))) := Lib.hid rfl
          rw [HAP.out (by omega)]
          have SP : Hid (∀ W, Below WR.heap.size WR W → W.cell? ⟨pb, k * 2, none⟩ = some (.int .i64 (gp L k).1) ∧ W.cell? ⟨pb, k * 2 + 1, none⟩ = some (.int .i64 (gp L k).2) ∧ W.cell? ⟨pb, (k + 1) * 2, none⟩ = some (.int .i64 (gp L (k + 1)).1) ∧ W.cell? ⟨pb, (k + 1) * 2 + 1, none⟩ = some (.int .i64 (gp L (k + 1)).2)) := Lib.hid fun W hW => by
            have e1 : gp L k = L[k] := getD_at (by omega)
            have e2 : gp L (k + 1) = L[k + 1] := getD_at hkl
            obtain ⟨y0, y1⟩ := pt_cells0 (HPR.out.below hW) k (by omega)
            obtain ⟨y2, y3⟩ := pt_cells0 (HPR.out.below hW) (k + 1) hkl
            rw [e1, e2]
            exact ⟨y0, y1, y2, y3⟩
          have z6 := hab.cell k (Nat.le_refl _) (by omega)
          obtain ⟨xx, z7, z8⟩ := hab.there (k + 1) hlt
          obtain ⟨H, hH⟩ : ∃ H, hypN (gp L k) (gp L (k + 1)) = H := ⟨_, rfl⟩
          obtain ⟨⟨a0, a1⟩, ha⟩ : ∃ p, gp L k = p := ⟨_, rfl⟩
          obtain ⟨⟨b0, b1⟩, hb⟩ : ∃ p, gp L (k + 1) = p := ⟨_, rfl⟩
          obtain ⟨u, hu⟩ : ∃ u, atN L k = u := ⟨_, rfl⟩
          rw [hH] at hyp1 hyp2 HNX
          rw [ha, hb] at hyp1 SP
          rw [ha] at hga
          rw [hb] at hgb
          rw [hu] at hat HNX z6
          unfold Inb at hga hgb
          dsimp only at hyp1 SP hga hgb
          have CH := fun W => Num.hypot_any (b0 - a0) (b1 - a1) (by omega) (by omega) (by omega) (by omega) W
          rw [hyp1] at CH
          obtain ⟨x, hx⟩ : ∃ x : Int, b0 - a0 = x := ⟨_, rfl⟩
          obtain ⟨y, hy⟩ : ∃ x : Int, b1 - a1 = x := ⟨_, rfl⟩
          rw [hx, hy] at CH
          have HCH := Lib.hid CH
          have hNl := HNl.out
          have X1 : Hid (IntKind.i64.wrap (b0 - a0) = x) := Lib.hid (by rw [hx]; exact i64w (by omega) (by omega))
          have X2 : Hid (IntKind.i64.wrap (b1 - a1) = y) := Lib.hid (by rw [hy]; exact i64w (by omega) (by omega))
          have X3 : Hid (IntKind.i64.wrap (k : Int) = (k : Int)) := Lib.hid (i64w (by omega) (by omega))
          have X4 : Hid (IntKind.i64.wrap ((u : Int) + (H : Int)) = ((atN L (k + 1) : Nat) : Int)) := Lib.hid ((i64w (show -9223372036854775808 ≤ (u : Int) + (H : Int) from Int.le_trans (by decide) (Int.add_nonneg (Int.natCast_nonneg u) (Int.natCast_nonneg H))) (huH u H (by omega) hyp2)).trans (by rw [HNX.out]; exact (Int.natCast_add u H).symm))
          have k2 : (k : Int) + 1 < (n : Int) := by omega
          have k3 : (0 : Int) ≤ (k : Int) + 1 := by omega
          have k4 : (k : Int) < (n : Int) := by omega
          have k5 : (0 : Int) ≤ (k : Int) := by omega
          have x1 := X1.out
          have x2 := X2.out
          have x3 := X3.out
          have x4 := X4.out
          obtain ⟨z0, z1, z2, z3⟩ := SP.out _ hbw
          obtain ⟨v, hv⟩ : ∃ v, atN L (k + 1) = v := ⟨_, rfl⟩
          rw [hv] at x4
          have HV := Lib.hid hv
          have HSET : Hid (AtB (wr.setCell ⟨ab, k + 1, none⟩ (.int .i64 (v : Nat))).drew ab n (k + 1) L) := Lib.hid (by
            have h1 := hab.set hlt
            rw [← hv]
            exact h1.below (Below.refl _ _).drew)
          have HBS : Hid (Below WR.heap.size WR (wr.setCell ⟨ab, k + 1, none⟩ (.int .i64 (v : Nat))).drew) := Lib.hid (by
            obtain ⟨cs, h1, _⟩ := hab
            rw [setCell_eq_setRow _ ab (k + 1) _ _ _ _ h1]
            exact (below_setRow hbw (by rw [HGA.out]; exact Nat.le_refl _) _).drew)
          have HKS : Hid ((wr.setCell ⟨ab, k + 1, none⟩ (.int .i64 (v : Nat))).drew.cell? ⟨pb, k * 2, none⟩ = some (.int .i64 a0) ∧ (wr.setCell ⟨ab, k + 1, none⟩ (.int .i64 (v : Nat))).drew.cell? ⟨pb, k * 2 + 1, none⟩ = some (.int .i64 a1) ∧ (wr.setCell ⟨ab, k + 1, none⟩ (.int .i64 (v : Nat))).drew.cell? ⟨pb, (k + 1) * 2, none⟩ = some (.int .i64 b0) ∧ (wr.setCell ⟨ab, k + 1, none⟩ (.int .i64 (v : Nat))).drew.cell? ⟨pb, (k + 1) * 2 + 1, none⟩ = some (.int .i64 b1) ∧ (wr.setCell ⟨ab, k + 1, none⟩ (.int .i64 (v : Nat))).drew.cell? ⟨ab, k, none⟩ = some (.int .i64 (u : Nat))) := Lib.hid (by
            obtain ⟨y0, y1, y2, y3⟩ := SP.out _ HBS.out
            have y4 := HSET.out.cell k (by omega) (by omega)
            rw [hu] at y4
            exact ⟨y0, y1, y2, y3, y4⟩)
          clear hab hbw hkl hga hgb hyp1 hyp2 hat CH hx hy hH ha hb hu hv hlt hk HNX
          go_wp2_with fail
          go_region_held3 (fun W => W.cell? ⟨pb, k * 2, none⟩ = some (.int .i64 a0) ∧ W.cell? ⟨pb, k * 2 + 1, none⟩ = some (.int .i64 a1) ∧ W.cell? ⟨pb, (k + 1) * 2, none⟩ = some (.int .i64 b0) ∧ W.cell? ⟨pb, (k + 1) * 2 + 1, none⟩ = some (.int .i64 b1) ∧ W.cell? ⟨ab, k, none⟩ = some (.int .i64 (u : Nat)))
            (first | exact HKS.out | go_keep)
            (first | (go_at_call 47; refine (HCH.out _).mono ?_; rintro e' w' ⟨rfl, rfl⟩))
          clear z0 z1 z2 z3 z6 z7 z8 x1 x2 x3 x4
          go_wp2_with fail
          go_roundw
          case rel => exact ⟨k + 1, by go_num, Or.inr (by omega), HSET.out, HBS.out⟩
          case measure => first | (simp [intOf]; done) | (simp [intOf]; omega)
        · have k2 : ¬ (k : Int) + 1 < (n : Int) := by omega
          have HRD : Hid (Reads wr wr.heap.size 1 (some ⟨ab, 0, none⟩) L.length (atL L)) := Lib.hid (hab.reads HN.out.symm (by omega))
          have HPR2 := Lib.hid (HPR.out.below hbw)
          have HB9 : Hid (Below W0.heap.size W0 wr) := Lib.hid (HBW.out.trans (hbw.mono HBW.out.size))
          have HBF : Hid (Below w.heap.size w wr) := Lib.hid (HB0.out.trans (HB9.out.mono HB0.out.size))
          have H4 := Lib.hid (HK0.out.below HB9.out HK0.out.lt)
          obtain ⟨z0, z1, z2⟩ := blk2 H4.out
          clear hab hbw hlt hk
          go_wp2_with fail
          rw [two_row H4.out]
          refine bodyPost_ret (v := .agg #[.slice Ap n cp, .slice (some ⟨ab, 0, none⟩) n n]) (results_cell_row rfl _ _ g4 58 #[.slice Ap n cp, .slice (some ⟨ab, 0, none⟩) n n] (0, 0) _ rfl (Blk.row H4.out _) Tryd.underlying58 rfl infoLn) rfl ?_
          have hb2 : Below w.heap.size w (wr.setRow g4 #[.slice Ap n cp, .slice (some ⟨ab, 0, none⟩) n n]) := below_setRow HBF.out (by rw [HGS.out]; exact Nat.le_refl _) _
          have ht : Tch [g4] wr (wr.setRow g4 #[.slice Ap n cp, .slice (some ⟨ab, 0, none⟩) n n]) := tch_setRow (Tch.refl _ _) (Or.inl (by simp)) _
          have hg4 := HK0.out.lt
          refine ⟨_, rfl, ⟨Ap, cp, ab, n, pb, by rw [HN.out], ⟨?_, ?_⟩, HAP.out, Nat.le_trans HB0.out.size HPG.out, by have h1 := HGA.out; have h2 := HBW.out.size; have h3 := HB0.out.size; omega⟩, hb2⟩
          · exact HPR2.out.tch ht (fun ad e h => by injection e with e; rw [← e] at h; simp only [List.mem_singleton] at h; have := HPG.out; omega)
          · exact reads_tch HRD.out ht (fun ad e h => by injection e with e; rw [← e] at h; simp only [List.mem_singleton] at h; have := HGA.out; have := HBW.out.size; omega)
end Go.Proofs.YtflopcogalknhaaDoor.Str
