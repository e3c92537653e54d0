/-
  Layer 44's laws: writing a journal.
-/
import Derived.Test.YtelacdaehmfcaaaJouWc
import Derived.Great.BuildSlice
import Derived.Deep.DeepCutAuto
namespace Go.Proofs.Ytelacdaehmfcaaa.JouL
open Go.RowKit Go.Proofs.Ytelacdaehmfcaaa Go.Proofs.Ytelacdaehmfcaaa.WirePure Go.Proofs.Ytelacdaehmfcaaa.DigPure Go.Proofs.Ytelacdaehmfcaaa.JouPure Go.Proofs.Ytelacdaehmfcaaa.JouC

theorem results_tmp3 {fn : Func} {t u v : Tmp} (h : fn.results = #[.tmp t, .tmp u, .tmp v]) (tmps : Array Value) (P : Program) (w : World) :
    (results fn tmps).run P w = .ok (.tuple #[tmps.getD t undef, tmps.getD u undef, tmps.getD v undef]) w := by simp [results, h]
theorem headR_bad (g : Int) (h : ¬ (1 ≤ g ∧ g ≤ 1073741824)) : headR g = ([], 2) := by
  unfold headR; rw [if_pos (by omega)]
theorem headR_good (g : Nat) (h1 : 1 ≤ g) (h2 : g ≤ 1073741824) : headR g = (jou g [], 0) := by
  unfold headR jou
  rw [if_neg (by omega), Int.toNat_natCast, recs, List.append_nil]
theorem rcs_snoc1 (rs : List (Nat × List UInt8)) (r : Nat × List UInt8) (d : ByteArray) (hd : d.data.toList = r.2) : rcs 1 rs ++ [Value.int .i64 (r.1 : Nat), .int .i64 (1 + (rs.length : Int)), .string d] = rcs 1 (rs ++ [r]) := by
  obtain ⟨k, x⟩ := r
  simp only at hd
  subst hd
  rw [rcs_snoc]; rfl

theorem wp_buildE {o : Oper} {a : Act} {W : World} {K : Act → World → Prop} {Q : Exit → Act → World → Prop} (dd : Tmp) (hd : o.dst = some dd) (x : Operand)
    (ho : o.op = .buildSlice 39 1 #[(0, x)]) {B B0 gR : Nat} {w : World} {c0 cR : Array Value} {vE : Value} {nE : Nat} {xs : List Value} (u : Int) {vL : Value} {nL : Nat} {ys : List Value} {oL : Option (Nat × Array Value)} {b : Bool}
    (h : Wr B B0 gR w c0 cR vE nE xs none vL nL ys oL b W) (hx : a.eval x = .int .i64 u)
    (hK : ∀ g w', Wr B B0 gR w c0 cR vE nE xs (some (g, .int .i64 u)) vL nL ys oL b w' → K (a.put (some dd) (.slice (some ⟨g, 0, none⟩) 1 1)) w') : o.wp Try.prog a W K Q := by
  obtain ⟨i0, hi0, hz0, hz1, hz2⟩ := info_parts infoInt
  refine wp_buildSlice 39 3 1 _ ho #[.int .i64 u] i0 (.int .i64 0) Try.underlying39 hi0 hz0 (by rw [hz1]; decide) (by rw [hz1]; decide) ?_ ?_
  · rw [hz1]; simp only [List.map_toArray, List.map_cons, List.map_nil, hx]; kernel_rfl
  · rw [hd]; exact hK _ _ (h.buildE _)
theorem wp_buildL {o : Oper} {a : Act} {W : World} {K : Act → World → Prop} {Q : Exit → Act → World → Prop} (dd : Tmp) (hd : o.dst = some dd) (x : Operand)
    (ho : o.op = .buildSlice 32 1 #[(0, x)]) {B B0 gR : Nat} {w : World} {c0 cR : Array Value} {vE : Value} {nE : Nat} {xs : List Value} {oE : Option (Nat × Value)} {vL : Value} {nL : Nat} {ys : List Value} (y0 y1 y2 : Value) {b : Bool}
    (h : Wr B B0 gR w c0 cR vE nE xs oE vL nL ys none b W) (hx : a.eval x = .agg #[y0, y1, y2])
    (hK : ∀ g w', Wr B B0 gR w c0 cR vE nE xs oE vL nL ys (some (g, #[y0, y1, y2])) b w' → K (a.put (some dd) (.slice (some ⟨g, 0, none⟩) 1 1)) w') : o.wp Try.prog a W K Q := by
  obtain ⟨i0, hi0, hz0, hz1, hz2⟩ := info_parts infoRec
  refine wp_buildSlice 32 23 1 _ ho #[y0, y1, y2] i0 (.agg rc0) Try.underlying32 hi0 hz0 (by rw [hz1]; decide) (by rw [hz1]; decide) ?_ ?_
  · rw [hz1]; simp only [List.map_toArray, List.map_cons, List.map_nil, hx]; kernel_rfl
  · rw [hd]; exact hK _ _ (h.buildL _)
theorem Wr.fin {B B0 gR : Nat} {w W : World} {c0 cR : Array Value} {vE : Value} {vL : Value} {gn kn i : Nat} {rs : List (Nat × List UInt8)} {d S2 : ByteArray} (h : Wr B B0 gR w c0 cR vE (i + 1 + 1) (ens gn rs ++ [.int .i64 (S2.size : Nat)]) none vL (i + 1) (rcs 1 rs ++ (#[.int .i64 (kn : Nat), .int .i64 ((i : Int) + 1), .string d] : Array Value).toList) none true W)
    (hi : rs.length = i) (hS : (jou gn (rs ++ [(kn, d.data.toList)])).length = S2.size) :
    (rs ++ [(kn, d.data.toList)]).length = i + 1 ∧ W.ownsRow B 3 1 vE ((rs ++ [(kn, d.data.toList)]).length + 1) (ens gn (rs ++ [(kn, d.data.toList)])) ∧ W.ownsRow B 23 3 vL (rs ++ [(kn, d.data.toList)]).length (rcs 1 (rs ++ [(kn, d.data.toList)])) := by
  have hl : (rs ++ [(kn, d.data.toList)]).length = i + 1 := by rw [List.length_append, hi]; rfl
  refine ⟨hl, ?_, ?_⟩
  · rw [hl, ens_snoc, hS]; exact h.rowE
  · rw [hl, ← rcs_snoc1 rs (kn, d.data.toList) d rfl, hi, Int.add_comm]; exact h.rowL

set_option maxHeartbeats 4000000 in
theorem write_any (g : Int) (A : Option Addr) (n c : Nat) (f : Nat → Int × Int × ByteArray) (w : World) (hR : RDs w w.heap.size A n f) (hin : inOk n f) (hc : n ≤ c) : Calls Try.prog 21 #[.agg #[.int .i64 g, .slice A n c]] w (WP g n w) := by
  obtain ⟨B, hB⟩ : ∃ B, w.heap.size = B := ⟨_, rfl⟩
  have hh := fun W => Jou.head_any g W
  have T0 : Blk (w.alloc (.cells #[.int .i64 g, .slice A n c] 38)) B 38 #[.int .i64 g, .slice A n c] := by rw [← hB]; exact Blk.new _ _ _
  have c0 : Below B w (w.alloc (.cells #[.int .i64 g, .slice A n c] 38)) := by rw [← hB]; exact (Below.refl _ _).alloc (Nat.le_refl _) _
  have HW := Lib.hid (show ∀ e w', (e = .returned (.tuple #[.string ⟨#[]⟩, .slice none 0 0, .slice none 0 0]) ∧ Below B w w') → WP g n w e w' from fun e w' h => .inl ⟨h.1, hB.symm ▸ h.2⟩)
  by_cases hg : 1 ≤ g ∧ g ≤ 1073741824
  · obtain ⟨hg1, hg2⟩ := hg
    obtain ⟨gn, rfl⟩ : ∃ gn : Nat, g = gn := ⟨g.toNat, by omega⟩
    have e1 : (jou gn []).length ≤ 1048600 := jou_size gn (by omega) [] trivial
    rw [headR_good gn (by omega) (by omega)] at hh
    unfold erV at hh
    simp only at hh
    obtain ⟨J0, hJ0⟩ : ∃ J : ByteArray, (⟨(jou gn []).toArray⟩ : ByteArray) = J := ⟨_, rfl⟩
    have hJs : J0.size = (jou gn []).length := by rw [← hJ0, mk_size]
    rw [hJ0] at hh
    have HS := Lib.hid hJs
    have HJ := Lib.hid hJ0
    clear hJs hJ0
    go_enter Try.func21, Try.ntmps21
    go_wp2_with fail
    refine (hh _).mono ?_
    rintro e w1 ⟨rfl, b1⟩
    have T1 := T0.below b1 T0.lt
    have c1 := c0.trans (b1.mono (by rw [← hB]; exact c0.size))
    clear b1 hh T0 c0
    have hBw : B ≤ w1.heap.size := by have := c1.size; omega
    have i0 : IntKind.i64.wrap (J0.size : Int) = (J0.size : Int) := IntWalk.i64_in _ (by have := HS.out; omega)
    go_wp2_with fail
    go_loopw [5, 7, 8, 9] (fun v5 v7 v8 v9 wr => ∃ rs : List (Nat × List UInt8), v5 = .string ⟨(jou gn rs).toArray⟩ ∧ v9 = .int .i64 (rs.length : Nat) ∧ rs.length ≤ n ∧ okL 1 rs ∧ wr.ownsRow B 3 1 v7 (rs.length + 1) (ens gn rs) ∧ wr.ownsRow B 23 3 v8 rs.length (rcs 1 rs) ∧ Blk wr B 38 #[.int .i64 (gn : Nat), .slice A n c] ∧ Below B w wr) (fun _ _ _ v9 _ => n - (intOf v9).toNat)
    case atStart =>
      have oE := (World.ownsRow_lit (e := 3) (size := 1) w1 #[.int .i64 (J0.size : Nat)] 1 hBw (by decide) rfl).alloc (.cells #[] 23)
      have oL := World.ownsRow_made (e := 23) (size := 3) (w1.alloc (.cells #[.int .i64 (J0.size : Nat)] 3)) #[] 0 (Nat.le_trans hBw (by simp)) (by decide) rfl
      have hz : ens gn [] = [.int .i64 (J0.size : Nat)] := by rw [HS.out]; rfl
      exact ⟨[], by rw [HJ.out], rfl, Nat.zero_le _, trivial, by rw [hz]; exact oE, by simpa [rcs] using oL, (T1.alloc _).alloc _, (c1.alloc hBw _).alloc (Nat.le_trans hBw (by simp)) _⟩
    case round =>
      obtain ⟨rs, rfl, rfl, hn, hok, oE, oL, TB, hb⟩ := hrel
      have hjs := jou_size gn (by omega) rs hok
      have d1 := TB.cell 1
      simp only [List.getElem?_toArray, List.getElem?_cons_zero, List.getElem?_cons_succ] at d1
      by_cases hlt : rs.length < n
      · obtain ⟨ad, rfl, hbl, hcs⟩ := hR (by omega)
        obtain ⟨x0, x1, x2⟩ := hcs _ hlt
        obtain ⟨i, hi⟩ : ∃ i, rs.length = i := ⟨_, rfl⟩
        have HI := Lib.hid hi
        rw [hi] at x0 x1 x2
        rw [hi]
        have i1 : (0 : Int) ≤ (i : Int) := by omega
        have i2 : (i : Int) < (n : Int) := by omega
        have D0 : wr.cell? (ad.add (i * 3)) = _ := (hb.cell (by rw [block_of_add]; omega)).trans x0
        have D1 : wr.cell? ((ad.add (i * 3)).add 1) = _ := (hb.cell (by rw [block_of_add, block_of_add]; omega)).trans x1
        have D2 : wr.cell? ((ad.add (i * 3)).add 2) = _ := (hb.cell (by rw [block_of_add, block_of_add]; omega)).trans x2
        obtain ⟨⟨k, q, d⟩, hf⟩ : ∃ z, f i = z := ⟨_, rfl⟩
        obtain ⟨hk, hd⟩ := hin.2 i (by omega)
        rw [hf] at D0 D1 D2 hk hd
        simp only at D0 D1 D2 hk hd
        obtain ⟨eb, y, he⟩ : ∃ eb y, encR k ((i : Int) + 1) d.data.toList = (eb, y) := ⟨_, _, rfl⟩
        have hen := fun W => Jou.encode_any k ((i : Int) + 1) hk d W (by omega)
        rw [he] at hen
        unfold erV at hen
        simp only at hen
        obtain ⟨u, hu⟩ : ∃ u : ByteArray, (⟨eb.toArray⟩ : ByteArray) = u := ⟨_, rfl⟩
        have hus : eb.length = u.size := by rw [← hu, mk_size]
        have hul := encR_len k ((i : Int) + 1) d.data.toList
        rw [he] at hul
        simp only at hul
        rw [hu] at hen
        rw [hus] at hul
        obtain ⟨S1, hS1⟩ : ∃ S : ByteArray, (⟨(jou gn rs).toArray⟩ : ByteArray) = S := ⟨_, rfl⟩
        have hSs : (jou gn rs).length = S1.size := by rw [← hS1, mk_size]
        have hn20 : n ≤ 1048576 := hin.1
        have hSl : S1.size ≤ 1099587125248 := by
          rw [hSs] at hjs
          refine Nat.le_trans hjs ?_
          refine Nat.le_trans (Nat.mul_le_mul_left 1048600 (by omega : rs.length + 1 ≤ 1048577)) ?_
          decide
        have hBr : B ≤ wr.heap.size := by have := hb.size; omega
        rw [hS1]
        have G2 : Below wr.heap.size wr (wr.alloc (.cells #[.int .i64 k, .int .i64 q, .string d] 23)) := (Below.refl _ _).alloc (Nat.le_refl _) _
        have w1i : IntKind.i64.wrap ((i : Int) + 1) = (i : Int) + 1 := IntWalk.i64_in _ (by omega)
        by_cases hy : y = 0
        · subst hy
          have hok2 := encR_ok k ((i : Int) + 1) d.data.toList (by rw [he])
          rw [he] at hok2
          simp only at hok2
          obtain ⟨k1, k6, _, _, kl, kb⟩ := hok2
          obtain ⟨kn, rfl⟩ : ∃ kn : Nat, k = kn := ⟨k.toNat, by omega⟩
          rw [Int.toNat_natCast, show ((i : Int) + 1).toNat = i + 1 by omega] at kl kb
          have hjs2 : jou gn (rs ++ [(kn, d.data.toList)]) = jou gn rs ++ eb := by rw [jou_snoc, hi, ← kb]
          have hJ2 : S1 ++ u = ⟨(jou gn (rs ++ [(kn, d.data.toList)])).toArray⟩ := by rw [hjs2, ← hS1, ← hu]; exact Dig.app_mk _ _
          have hJl : (jou gn (rs ++ [(kn, d.data.toList)])).length = (S1 ++ u).size := by rw [hJ2, mk_size]
          have hok3 : okL 1 (rs ++ [(kn, d.data.toList)]) := (okL_app _ _ _).2 ⟨hok, ⟨by omega, by omega, by rw [hi, Nat.add_comm 1 i]; exact kl⟩, trivial⟩
          have HJ2 := Lib.hid hJ2
          have hS2l : (S1 ++ u).size ≤ 4398046511104 := by rw [ByteArray.size_append]; omega
          obtain ⟨S2, hS2⟩ : ∃ S, S1 ++ u = S := ⟨_, rfl⟩
          rw [hS2] at hJ2 hJl hS2l
          have HJ2 := Lib.hid hJ2
          have HJl := Lib.hid hJl
          have HS2 := Lib.hid hS2
          clear hS2
          clear x0 x1 x2 hf he hus hu hS1 hSs hjs hjs2 hJ2 hJl kl kb hi hok
          go_wp2_with (refine wpList_load_at rfl _ rfl (ad.add (i * 3)) rfl _ _ _ D0 D1 D2 ?_)
          refine (hen _).mono ?_
          rintro e w2 ⟨rfl, b2⟩
          clear hen
          go_upto_region 14 with fail
          rw [HS2.out]
          have R0 : Wr B B wr.heap.size w #[.int .i64 (gn : Nat), .slice (some ad) n c] #[.int .i64 (kn : Nat), .int .i64 ((i : Int) + 1), .string d] u7 (i + 1) (ens gn rs) none u8 i (rcs 1 rs) none false w2.drew := by
            rw [HI.out] at oE oL
            have hB2 : B ≤ (wr.alloc (.cells #[.int .i64 (kn : Nat), .int .i64 ((i : Int) + 1), .string d] 23)).heap.size := Nat.le_trans hBr (by simp)
            refine Wr.drew ⟨(hb.alloc hBr _).trans (b2.mono hB2), (TB.alloc _).below b2 (TB.alloc _).lt, (oE.alloc _).kept (grown_below b2) (Classical.em _), (oL.alloc _).kept (grown_below b2) (Classical.em _), fun _ _ e => by (cases e), fun _ _ e => by (cases e), (Blk.new wr _ _).below b2 (Blk.new wr _ _).lt, fun _ e => by have := own_lt oL _ e; omega, Nat.le_refl _⟩
          obtain ⟨gR, hgR⟩ : ∃ g, wr.heap.size = g := ⟨_, rfl⟩
          rw [hgR] at R0
          rw [hgR]
          have CX : Hid (∀ W, Blk W gR 23 #[.int .i64 (kn : Nat), .int .i64 ((i : Int) + 1), .string d] → W.cell? ⟨gR, 0, none⟩ = some (.int .i64 (kn : Nat)) ∧ W.cell? ((⟨gR, 0, none⟩ : Addr).add 1) = some (.int .i64 ((i : Int) + 1)) ∧ W.cell? ((⟨gR, 0, none⟩ : Addr).add 2) = some (.string d)) := Lib.hid (fun W h => ⟨h.cell 0, by rw [Addr.add_mid]; exact h.cell 1, by rw [Addr.add_mid]; exact h.cell 2⟩)
          clear hgR b2 oE oL TB hb D0 D1 D2 d1 hcs hR T1 G2
          refine wp_region_held_drew (S := fun W => Blk W gR 23 #[.int .i64 (kn : Nat), .int .i64 ((i : Int) + 1), .string d]) (by kernel_rfl) R0.recd (fun hHeld => ?_)
          refine wpAnyH_take (i := 0) (oi := _) (v := u7) rfl (by kernel_rfl) (by kernel_rfl) (by kernel_rfl) (fun _ _ _ h => h) (Or.inl ⟨by rfl, fun W1 _ => by go_simp⟩) (by assumption) ?_
          go_simp
          refine wpAnyH_take (i := 1) (oi := _) (v := .string S2) rfl (by kernel_rfl) (by kernel_rfl) (by kernel_rfl) (fun _ _ _ h => h) (Or.inl ⟨by rfl, fun W1 _ => by go_simp⟩) (by assumption) ?_
          go_simp
          refine wpAnyH_take (i := 2) (oi := _) (v := .int .i64 (S2.size : Nat)) rfl (by kernel_rfl) (by kernel_rfl) (by kernel_rfl) (fun _ _ _ h => h) (Or.inl ⟨by rfl, fun W1 _ => by go_simp⟩) (by assumption) ?_
          go_simp
          refine wpAnyH_take (i := 5) (oi := _) (v := u8) rfl (by kernel_rfl) (by kernel_rfl) (by kernel_rfl) (fun _ _ _ h => h) (Or.inl ⟨by rfl, fun W1 _ => by go_simp⟩) (by assumption) ?_
          go_simp
          refine wpAnyH_take (i := 6) (oi := _) (v := _) rfl (by kernel_rfl) (by kernel_rfl) (by kernel_rfl) (fun _ _ _ h => h) (yLoadAt rfl _ rfl ⟨gR, 0, none⟩ rfl (.int .i64 (kn : Nat)) (.int .i64 ((i : Int) + 1)) (.string d) (fun _ h => CX.out _ h)) (by assumption) ?_
          go_simp
          refine wpAnyH_ready (rs := [3, 7]) (by kernel_rfl) (by simp) ?_
          refine AllReadyH.cons (o := _) rfl (fun K hK => ?_) (AllReadyH.cons (o := _) rfl (fun K hK => ?_) AllReadyH.nil)
          · rw [if_pos (by rfl)]
            refine wp_buildE 53 rfl _ rfl _ R0 rfl (fun gE v0 R1 => ?_)
            refine hK.out _ _ R1.recd (fun hHeld => ?_)
            clear hK R0
            try simp only [Act.put, List.setIfInBounds_toArray, List.set_cons_zero, List.set_cons_succ]
            refine wpAnyH_ready (rs := [4, 7]) (by kernel_rfl) (by simp) ?_
            refine AllReadyH.cons (o := _) rfl (fun K hK => ?_) (AllReadyH.cons (o := _) rfl (fun K hK => ?_) AllReadyH.nil)
            · rw [if_pos (by rfl)]
              refine wp_appE 54 rfl _ _ rfl R1 rfl rfl rfl (by omega) (fun yE v1 R2 => ?_)
              refine hK.out _ _ R2.recd (fun hHeld => ?_)
              clear hK R1
              try simp only [Act.put, List.setIfInBounds_toArray, List.set_cons_zero, List.set_cons_succ]
              refine wpAnyH_ready (rs := [7]) (by kernel_rfl) (by simp) ?_
              refine AllReadyH.cons (o := _) rfl (fun K hK => ?_) AllReadyH.nil
              · rw [if_pos (by rfl)]
                refine wp_buildL 57 rfl _ rfl _ _ _ R2 rfl (fun gL v2 R3 => ?_)
                refine hK.out _ _ R3.recd (fun hHeld => ?_)
                clear hK R2
                try simp only [Act.put, List.setIfInBounds_toArray, List.set_cons_zero, List.set_cons_succ]
                refine wpAnyH_ready (rs := [8]) (by kernel_rfl) (by simp) ?_
                refine AllReadyH.cons (o := _) rfl (fun K hK => ?_) AllReadyH.nil
                · rw [if_pos (by rfl)]
                  refine wp_appL 58 rfl _ _ rfl R3 rfl rfl rfl (fun y hy => by (simp only [List.mem_cons, List.not_mem_nil, or_false] at hy; rcases hy with rfl | rfl | rfl <;> rfl)) (by omega) (fun yL v3 R4 => ?_)
                  refine hK.out _ _ R4.recd (fun hHeld => ?_)
                  clear hK R3
                  try simp only [Act.put, List.setIfInBounds_toArray, List.set_cons_zero, List.set_cons_succ]
                  refine wpAnyH_ready (rs := [9]) (by kernel_rfl) (by simp) ?_
                  refine AllReadyH.cons (o := _) rfl (fun K hK => ?_) AllReadyH.nil
                  rw [if_pos (by rfl)]
                  go_simp
                  refine hK.out _ _ R4.recd (fun hHeld => ?_)
                  clear hK
                  try simp only [Act.put, List.setIfInBounds_toArray, List.set_cons_zero, List.set_cons_succ]
                  refine wpAnyH_ready (rs := [10]) (by kernel_rfl) (by simp) ?_
                  refine AllReadyH.cons (o := _) rfl (fun K hK => ?_) AllReadyH.nil
                  rw [if_pos (by rfl)]
                  go_simp
                  refine hK.out _ _ R4.recd (fun hHeld => ?_)
                  clear hK
                  try simp only [Act.put, List.setIfInBounds_toArray, List.set_cons_zero, List.set_cons_succ]
                  refine wpAnyH_done (by kernel_rfl) ?_ _
                  have HR := Lib.hid R4
                  clear R4 hHeld
                  go_wp2_with fail
                  go_roundw
                  case rel =>
                    obtain ⟨f1, f2, f3⟩ := HR.out.fin HI.out HJl.out
                    exact ⟨rs ++ [(kn, d.data.toList)], by rw [HJ2.out], by rw [f1]; go_num, by omega, hok3, f2, f3, HR.out.box, HR.out.below⟩
                  case measure => simp [intOf]; omega
            · rw [if_pos (by rfl)]
              refine wp_buildL 57 rfl _ rfl _ _ _ R1 rfl (fun gL v1 R2 => ?_)
              refine hK.out _ _ R2.recd (fun hHeld => ?_)
              clear hK R1
              try simp only [Act.put, List.setIfInBounds_toArray, List.set_cons_zero, List.set_cons_succ]
              refine wpAnyH_ready (rs := [4]) (by kernel_rfl) (by simp) ?_
              refine AllReadyH.cons (o := _) rfl (fun K hK => ?_) AllReadyH.nil
              · rw [if_pos (by rfl)]
                refine wp_appE 54 rfl _ _ rfl R2 rfl rfl rfl (by omega) (fun yE v2 R3 => ?_)
                refine hK.out _ _ R3.recd (fun hHeld => ?_)
                clear hK R2
                try simp only [Act.put, List.setIfInBounds_toArray, List.set_cons_zero, List.set_cons_succ]
                refine wpAnyH_ready (rs := [8]) (by kernel_rfl) (by simp) ?_
                refine AllReadyH.cons (o := _) rfl (fun K hK => ?_) AllReadyH.nil
                · rw [if_pos (by rfl)]
                  refine wp_appL 58 rfl _ _ rfl R3 rfl rfl rfl (fun y hy => by (simp only [List.mem_cons, List.not_mem_nil, or_false] at hy; rcases hy with rfl | rfl | rfl <;> rfl)) (by omega) (fun yL v3 R4 => ?_)
                  refine hK.out _ _ R4.recd (fun hHeld => ?_)
                  clear hK R3
                  try simp only [Act.put, List.setIfInBounds_toArray, List.set_cons_zero, List.set_cons_succ]
                  refine wpAnyH_ready (rs := [9]) (by kernel_rfl) (by simp) ?_
                  refine AllReadyH.cons (o := _) rfl (fun K hK => ?_) AllReadyH.nil
                  rw [if_pos (by rfl)]
                  go_simp
                  refine hK.out _ _ R4.recd (fun hHeld => ?_)
                  clear hK
                  try simp only [Act.put, List.setIfInBounds_toArray, List.set_cons_zero, List.set_cons_succ]
                  refine wpAnyH_ready (rs := [10]) (by kernel_rfl) (by simp) ?_
                  refine AllReadyH.cons (o := _) rfl (fun K hK => ?_) AllReadyH.nil
                  rw [if_pos (by rfl)]
                  go_simp
                  refine hK.out _ _ R4.recd (fun hHeld => ?_)
                  clear hK
                  try simp only [Act.put, List.setIfInBounds_toArray, List.set_cons_zero, List.set_cons_succ]
                  refine wpAnyH_done (by kernel_rfl) ?_ _
                  have HR := Lib.hid R4
                  clear R4 hHeld
                  go_wp2_with fail
                  go_roundw
                  case rel =>
                    obtain ⟨f1, f2, f3⟩ := HR.out.fin HI.out HJl.out
                    exact ⟨rs ++ [(kn, d.data.toList)], by rw [HJ2.out], by rw [f1]; go_num, by omega, hok3, f2, f3, HR.out.box, HR.out.below⟩
                  case measure => simp [intOf]; omega
          · rw [if_pos (by rfl)]
            refine wp_buildL 57 rfl _ rfl _ _ _ R0 rfl (fun gL v0 R1 => ?_)
            refine hK.out _ _ R1.recd (fun hHeld => ?_)
            clear hK R0
            try simp only [Act.put, List.setIfInBounds_toArray, List.set_cons_zero, List.set_cons_succ]
            refine wpAnyH_ready (rs := [3]) (by kernel_rfl) (by simp) ?_
            refine AllReadyH.cons (o := _) rfl (fun K hK => ?_) AllReadyH.nil
            · rw [if_pos (by rfl)]
              refine wp_buildE 53 rfl _ rfl _ R1 rfl (fun gE v1 R2 => ?_)
              refine hK.out _ _ R2.recd (fun hHeld => ?_)
              clear hK R1
              try simp only [Act.put, List.setIfInBounds_toArray, List.set_cons_zero, List.set_cons_succ]
              refine wpAnyH_ready (rs := [4]) (by kernel_rfl) (by simp) ?_
              refine AllReadyH.cons (o := _) rfl (fun K hK => ?_) AllReadyH.nil
              · rw [if_pos (by rfl)]
                refine wp_appE 54 rfl _ _ rfl R2 rfl rfl rfl (by omega) (fun yE v2 R3 => ?_)
                refine hK.out _ _ R3.recd (fun hHeld => ?_)
                clear hK R2
                try simp only [Act.put, List.setIfInBounds_toArray, List.set_cons_zero, List.set_cons_succ]
                refine wpAnyH_ready (rs := [8]) (by kernel_rfl) (by simp) ?_
                refine AllReadyH.cons (o := _) rfl (fun K hK => ?_) AllReadyH.nil
                · rw [if_pos (by rfl)]
                  refine wp_appL 58 rfl _ _ rfl R3 rfl rfl rfl (fun y hy => by (simp only [List.mem_cons, List.not_mem_nil, or_false] at hy; rcases hy with rfl | rfl | rfl <;> rfl)) (by omega) (fun yL v3 R4 => ?_)
                  refine hK.out _ _ R4.recd (fun hHeld => ?_)
                  clear hK R3
                  try simp only [Act.put, List.setIfInBounds_toArray, List.set_cons_zero, List.set_cons_succ]
                  refine wpAnyH_ready (rs := [9]) (by kernel_rfl) (by simp) ?_
                  refine AllReadyH.cons (o := _) rfl (fun K hK => ?_) AllReadyH.nil
                  rw [if_pos (by rfl)]
                  go_simp
                  refine hK.out _ _ R4.recd (fun hHeld => ?_)
                  clear hK
                  try simp only [Act.put, List.setIfInBounds_toArray, List.set_cons_zero, List.set_cons_succ]
                  refine wpAnyH_ready (rs := [10]) (by kernel_rfl) (by simp) ?_
                  refine AllReadyH.cons (o := _) rfl (fun K hK => ?_) AllReadyH.nil
                  rw [if_pos (by rfl)]
                  go_simp
                  refine hK.out _ _ R4.recd (fun hHeld => ?_)
                  clear hK
                  try simp only [Act.put, List.setIfInBounds_toArray, List.set_cons_zero, List.set_cons_succ]
                  refine wpAnyH_done (by kernel_rfl) ?_ _
                  have HR := Lib.hid R4
                  clear R4 hHeld
                  go_wp2_with fail
                  go_roundw
                  case rel =>
                    obtain ⟨f1, f2, f3⟩ := HR.out.fin HI.out HJl.out
                    exact ⟨rs ++ [(kn, d.data.toList)], by rw [HJ2.out], by rw [f1]; go_num, by omega, hok3, f2, f3, HR.out.box, HR.out.below⟩
                  case measure => simp [intOf]; omega
        · have ty : (y != 0) = true := by simpa using hy
          clear x0 x1 x2 hf he hus hu hS1 hSs hjs
          go_wp2_with (refine wpList_load_at rfl _ rfl (ad.add (i * 3)) rfl _ _ _ D0 D1 D2 ?_)
          refine (hen _).mono ?_
          rintro e w2 ⟨rfl, b2⟩
          clear hen
          go_wp2_with fail
          refine bodyPost_ret (results_tmp3 rfl _ _ _) rfl (HW.out _ _ ⟨rfl, (hb.alloc hBr _).trans (b2.mono (Nat.le_trans hBr (by simp)))⟩)
      · obtain rfl : rs.length = n := by omega
        go_wp2_with fail
        exact bodyPost_ret (results_tmp3 rfl _ _ _) rfl (.inr ⟨gn, rs, _, _, rfl, by omega, by omega, hok, rfl, rfl, hB ▸ oE, hB ▸ oL, hB ▸ hb⟩)
  · have hx := headR_bad g hg
    rw [hx] at hh
    unfold erV at hh
    simp only at hh
    clear hx
    go_enter Try.func21, Try.ntmps21
    go_wp2_with fail
    refine (hh _).mono ?_
    rintro e w1 ⟨rfl, b1⟩
    have c1 := c0.trans (b1.mono (by rw [← hB]; exact c0.size))
    go_wp2_with fail
    exact bodyPost_ret (results_tmp3 rfl _ _ _) rfl (HW.out _ _ ⟨rfl, c1⟩)

end Go.Proofs.Ytelacdaehmfcaaa.JouL
