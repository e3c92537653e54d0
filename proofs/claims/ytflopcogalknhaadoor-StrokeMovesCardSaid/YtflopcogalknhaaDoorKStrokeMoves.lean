/-
  Moving all points of polygons moves their outline and their dashes (layer 21), for any polygons, parameters and vector within the reach of the model.
-/
import Derived.Test.YtflopcogalknhaaDoorKStrAw
import Derived.Test.YtflopcogalknhaaDoorKStrFn
import Derived.Test.YtflopcogalknhaaDoorKStrMl
set_option linter.unusedVariables false
set_option linter.unusedSimpArgs false
namespace Go.Proofs.YtflopcogalknhaaDoor.StrokeMoves
open Go.RowKit Go.Proofs.YtflopcogalknhaaDoor Go.Proofs.YtflopcogalknhaaDoor.NumPure Go.Proofs.YtflopcogalknhaaDoor.Str

theorem mov_take {d : P2} {ls : List (List P2)} {k : Nat} (h : k < ls.length) : mov d (ls.take (k + 1)) = mov d (ls.take k) ++ [movP d (ls.getD k [])] := by
  rw [List.take_succ_eq_append_getElem h, mov_app, List.getD_eq_getElem?_getD, List.getElem?_eq_getElem h]
  rfl
set_option maxRecDepth 100000 in
set_option maxHeartbeats 4000000 in
theorem walk (A0 : Option Addr) (c0 : Nat) (x0 : List (List P2)) (A1 : Option Addr) (c1 : Nat) (x1 : List Bool) (x2 x3 x4 : Int) (A5 : Option Addr) (c5 : Nat) (x5 : List Int) (x6 : P2) (W : World) (hx0 : PlA W A0 x0) (hx1 : BoR W A1 x1) (hn1 : x1.length ≤ 140737488351232)
    (_ : -9223372036854775808 ≤ x2 ∧ x2 ≤ 9223372036854775807) (_ : -9223372036854775808 ≤ x3 ∧ x3 ≤ 9223372036854775807) (_ : -9223372036854775808 ≤ x4 ∧ x4 ≤ 9223372036854775807) (hx5 : InR W A5 x5) (hn5 : x5.length ≤ 140737488351232) (_ : in64 x6.1) (_ : in64 x6.2) (hT : Num.Tab W) :
    Calls Tryd.prog 7 #[.slice A0 x0.length c0, .slice A1 x1.length c1, .int .i64 x2, .int .i64 x3, .int .i64 x4, .slice A5 x5.length c5, .agg #[.int .i64 x6.1, .int .i64 x6.2]] W fun e w' => e = .returned (.bool true) ∧ Below W.heap.size W w' := by
  obtain ⟨dx, dy⟩ := x6
  dsimp only
  have HT := Lib.hid fun W' (hW : Below W.heap.size W W') => tab_below hT hW
  have HX0 := Lib.hid hx0
  have HX1 := Lib.hid hx1
  have HX5 := Lib.hid hx5
  have HB0 : Hid (Below W.heap.size W (W.alloc (.cells #[.int .i64 dx, .int .i64 dy] 30))) := Lib.hid ((Below.refl _ _).alloc (Nat.le_refl _) _)
  have HK0 : Hid (Blk (W.alloc (.cells #[.int .i64 dx, .int .i64 dy] 30)) W.heap.size 30 #[.int .i64 dx, .int .i64 dy]) := Lib.hid (Blk.new _ _ _)
  obtain ⟨W0, hW0⟩ : ∃ V, W.alloc (.cells #[.int .i64 dx, .int .i64 dy] 30) = V := ⟨_, rfl⟩
  obtain ⟨g, hg⟩ : ∃ q, W.heap.size = q := ⟨_, rfl⟩
  rw [hW0] at HB0 HK0
  rw [hg] at HK0
  have HG : Hid (W.heap.size = g) := Lib.hid hg
  obtain ⟨n, hn⟩ : ∃ n, x0.length = n := ⟨_, rfl⟩
  obtain ⟨n1, hn1'⟩ : ∃ n, x1.length = n := ⟨_, rfl⟩
  obtain ⟨n5, hn5'⟩ : ∃ n, x5.length = n := ⟨_, rfl⟩
  have HN := Lib.hid hn
  have HN1 := Lib.hid hn1'
  have HN5 := Lib.hid hn5'
  have HNB : Hid (n * 24 ≤ 140737488351232) := Lib.hid (by rw [← hn]; exact hx0.n)
  have HL1 : Hid (x1.length ≤ 140737488351232) := Lib.hid hn1
  have HL5 : Hid (x5.length ≤ 140737488351232) := Lib.hid hn5
  rw [hn, hn1', hn5']
  clear hx0 hx1 hx5 hT hn hn1 hn1' hn5 hn5'
  have z0 : W0.cell? ⟨g, 0, none⟩ = some (.int .i64 dx) := HK0.out.cell 0
  have z1 : W0.cell? ⟨g, 1, none⟩ = some (.int .i64 dy) := HK0.out.cell 1
  go_enter Tryd.func7, Tryd.ntmps7
  go_upto_region 1 with fail
  try rw [hW0]
  try rw [hg]
  clear hW0 hg
  by_cases d1 : dx < -33554432
  · have t1 : decide (dx < -33554432) = true := decide_eq_true d1
    clear d1
    go_wp2_with fail
    refine (awake_any _ (HT.out _ HB0.out)).mono ?_
    rintro e6 w6 ⟨rfl, hb6⟩
    have HB6 := Lib.hid ((HB0.out).trans (hb6.mono (HB0.out).size))
    clear hb6
    go_wp2_with fail
    go_ret
    exact ⟨rfl, HB6.out⟩
  have t1 : decide (dx < -33554432) = false := decide_eq_false d1
  by_cases d2 : 33554432 < dx
  · have t2 : decide (33554432 < dx) = true := decide_eq_true d2
    clear d1 d2
    go_wp2_with fail
    refine (awake_any _ (HT.out _ HB0.out)).mono ?_
    rintro e6 w6 ⟨rfl, hb6⟩
    have HB6 := Lib.hid ((HB0.out).trans (hb6.mono (HB0.out).size))
    clear hb6
    go_wp2_with fail
    go_ret
    exact ⟨rfl, HB6.out⟩
  have t2 : decide (33554432 < dx) = false := decide_eq_false d2
  by_cases d3 : dy < -33554432
  · have t3 : decide (dy < -33554432) = true := decide_eq_true d3
    clear d1 d2 d3
    go_wp2_with fail
    refine (awake_any _ (HT.out _ HB0.out)).mono ?_
    rintro e6 w6 ⟨rfl, hb6⟩
    have HB6 := Lib.hid ((HB0.out).trans (hb6.mono (HB0.out).size))
    clear hb6
    go_wp2_with fail
    go_ret
    exact ⟨rfl, HB6.out⟩
  have t3 : decide (dy < -33554432) = false := decide_eq_false d3
  by_cases d4 : 33554432 < dy
  · have t4 : decide (33554432 < dy) = true := decide_eq_true d4
    clear d1 d2 d3 d4
    go_wp2_with fail
    refine (awake_any _ (HT.out _ HB0.out)).mono ?_
    rintro e6 w6 ⟨rfl, hb6⟩
    have HB6 := Lib.hid ((HB0.out).trans (hb6.mono (HB0.out).size))
    clear hb6
    go_wp2_with fail
    go_ret
    exact ⟨rfl, HB6.out⟩
  have t4 : decide (33554432 < dy) = false := decide_eq_false d4
  have HD : Hid ((-33554432 ≤ dx ∧ dx ≤ 33554432) ∧ -33554432 ≤ dy ∧ dy ≤ 33554432) := Lib.hid (by omega)
  clear d1 d2 d3 d4
  go_wp2_with fail
  clear t1 t2 t3 t4 z0 z1
  go_loopw [16, 58] (fun v i wr => ∃ (k : Nat) (ra : Nat → Option Addr) (rc : Nat → Nat), i = .int .i64 (k : Int) ∧ k ≤ n ∧ MvL W0.heap.size (mov (dx, dy) (x0.take k)) v ra rc wr ∧ Below W0.heap.size W0 wr ∧ ∀ l ∈ x0.take k, AllB 16777216 l ∧ AllB 16777216 (movP (dx, dy) l)) (fun _ i _ => n - (intOf i).toNat)
  case atStart => exact ⟨0, fun _ => none, fun _ => 0, rfl, by omega, MvL.start _ _ _ _, Below.refl _ _, fun l hl => by simp at hl⟩
  case round =>
    obtain ⟨k, ra, rc, rfl, hk, hmv, hbw, hall⟩ := hrel
    obtain ⟨Wk, rfl⟩ : ∃ V, V = wr := ⟨_, rfl⟩
    have HMV := Lib.hid hmv
    have HBW := Lib.hid hbw
    have HALL := Lib.hid hall
    have HBr : Hid (Below W.heap.size W Wk) := Lib.hid (HB0.out.trans (hbw.mono HB0.out.size))
    clear hmv hbw hall
    by_cases hlt : k < n
    · have hkl : k < x0.length := by rw [HN.out]; exact hlt
      have hP := HX0.out.r.below HBr.out
      obtain ⟨ad, rfl, _⟩ := hP.addr (by omega)
      obtain ⟨A2, c2, e0, hp2⟩ := hP.cell k hkl
      have hle := HX0.out.e _ (mem_getD hkl)
      have hmt := mov_take (d := (dx, dy)) hkl
      obtain ⟨l, hl⟩ : ∃ l, x0.getD k [] = l := ⟨_, rfl⟩
      have hxt : x0.take (k + 1) = x0.take k ++ [l] := by
        rw [List.take_succ_eq_append_getElem hkl, ← hl, List.getD_eq_getElem?_getD, List.getElem?_eq_getElem hkl]
        rfl
      rw [hl] at e0 hp2 hle hmt
      obtain ⟨m, hm⟩ : ∃ m, l.length = m := ⟨_, rfl⟩
      rw [hm] at e0 hle
      have HP2 := Lib.hid hp2
      have HM := Lib.hid hm
      have HMT := Lib.hid hmt
      have HXT := Lib.hid hxt
      have HLE : Hid (m * 16 ≤ 140737488351232) := Lib.hid hle
      have HKN : Hid (k < n) := Lib.hid hlt
      have SP : Hid (∀ V, Below Wk.heap.size Wk V → V.cell? (ad.add k) = some (.slice A2 m c2)) := Lib.hid fun V hV => (hV.cell (World.block_lt_of_cell? Wk _ e0)).trans e0
      have HS0 : Hid (R1 30 2 Wk (.slice none 0 0) 0 (pts ((movP (dx, dy) l).take 0)) none Wk) := Lib.hid (R1.start Wk)
      have k2 : (k : Int) < (n : Int) := by omega
      have k3 : (0 : Int) ≤ (k : Int) := by omega
      clear hkl hP hp2 hle hmt hl hxt hm hlt hk
      go_wp2_with fail
      clear e0
      go_loopw [18, 66] (fun v i wr => ∃ j : Nat, i = .int .i64 (j : Int) ∧ j ≤ m ∧ R1 30 2 Wk v j (pts ((movP (dx, dy) l).take j)) none wr ∧ ∀ p ∈ l.take j, Inb 16777216 p ∧ Inb 16777216 (mvp (dx, dy) p)) (fun _ i _ => m - (intOf i).toNat)
      case atStart => exact ⟨0, rfl, by omega, HS0.out, fun p hp => by simp at hp⟩
      case round =>
        clear HS0
        obtain ⟨j, rfl, hj, hr, hin⟩ := hrel
        have HR := Lib.hid hr
        have HIN := Lib.hid hin
        have HBj : Hid (Below W.heap.size W wr) := Lib.hid (HBr.out.trans (hr.below.mono HBr.out.size))
        clear hr hin
        by_cases hlt2 : j < m
        · have hjl : j < l.length := by rw [HM.out]; exact hlt2
          have hq := HP2.out.below HR.out.below
          obtain ⟨a1, rfl, _⟩ := hq.addr (by omega)
          have p1 := pt_cells hq j hjl
          obtain ⟨⟨x, y⟩, hx⟩ : ∃ p, l[j] = p := ⟨_, rfl⟩
          rw [hx] at p1
          obtain ⟨p2, p3⟩ := p1
          dsimp only at p2 p3
          have hbp : Below wr.heap.size wr (wr.alloc (.cells #[.int .i64 x, .int .i64 y] 30)) := (Below.refl _ _).alloc (Nat.le_refl _) _
          have HBP := Lib.hid hbp
          have HBa : Hid (Below W.heap.size W (wr.alloc (.cells #[.int .i64 x, .int .i64 y] 30))) := Lib.hid (HBj.out.trans (hbp.mono HBj.out.size))
          have hk0 := (HK0.out.below HBW.out HK0.out.lt).below HR.out.below (HK0.out.below HBW.out HK0.out.lt).lt
          have hk1 := hk0.below hbp hk0.lt
          have z0 : (wr.alloc (.cells #[.int .i64 x, .int .i64 y] 30)).cell? ⟨g, 0, none⟩ = some (.int .i64 dx) := hk1.cell 0
          have z1 : (wr.alloc (.cells #[.int .i64 x, .int .i64 y] 30)).cell? ⟨g, 1, none⟩ = some (.int .i64 dy) := hk1.cell 1
          have HXJ : Hid ((movP (dx, dy) l).take (j + 1) = (movP (dx, dy) l).take j ++ [(x + dx, y + dy)]) := Lib.hid (by
            rw [List.take_succ_eq_append_getElem (by rw [movP_len]; exact hjl)]
            have e : (movP (dx, dy) l)[j]'(by rw [movP_len]; exact hjl) = (x + dx, y + dy) := by simp [movP, hx]
            rw [e])
          have HXL : Hid (l.take (j + 1) = l.take j ++ [(x, y)]) := Lib.hid (by rw [List.take_succ_eq_append_getElem hjl, hx])
          have HJM : Hid (j < m) := Lib.hid hlt2
          have j2 : (j : Int) < (m : Int) := by omega
          have j3 : (0 : Int) ≤ (j : Int) := by omega
          clear hjl hq hx hbp hk0 hk1 hlt2 hj
          by_cases d1 : x < -16777216
          · have t1 : decide (x < -16777216) = true := decide_eq_true d1
            clear d1
            go_wp2_with fail
            refine (awake_any _ (HT.out _ HBa.out)).mono ?_
            rintro e6 w6 ⟨rfl, hb6⟩
            have HB6 := Lib.hid ((HBa.out).trans (hb6.mono (HBa.out).size))
            clear hb6
            go_wp2_with fail
            go_ret
            exact ⟨rfl, HB6.out⟩
          have t1 : decide (x < -16777216) = false := decide_eq_false d1
          by_cases d2 : 16777216 < x
          · have t2 : decide (16777216 < x) = true := decide_eq_true d2
            clear d1 d2
            go_wp2_with fail
            refine (awake_any _ (HT.out _ HBa.out)).mono ?_
            rintro e6 w6 ⟨rfl, hb6⟩
            have HB6 := Lib.hid ((HBa.out).trans (hb6.mono (HBa.out).size))
            clear hb6
            go_wp2_with fail
            go_ret
            exact ⟨rfl, HB6.out⟩
          have t2 : decide (16777216 < x) = false := decide_eq_false d2
          by_cases d3 : y < -16777216
          · have t3 : decide (y < -16777216) = true := decide_eq_true d3
            clear d1 d2 d3
            go_wp2_with fail
            refine (awake_any _ (HT.out _ HBa.out)).mono ?_
            rintro e6 w6 ⟨rfl, hb6⟩
            have HB6 := Lib.hid ((HBa.out).trans (hb6.mono (HBa.out).size))
            clear hb6
            go_wp2_with fail
            go_ret
            exact ⟨rfl, HB6.out⟩
          have t3 : decide (y < -16777216) = false := decide_eq_false d3
          by_cases d4 : 16777216 < y
          · have t4 : decide (16777216 < y) = true := decide_eq_true d4
            clear d1 d2 d3 d4
            go_wp2_with fail
            refine (awake_any _ (HT.out _ HBa.out)).mono ?_
            rintro e6 w6 ⟨rfl, hb6⟩
            have HB6 := Lib.hid ((HBa.out).trans (hb6.mono (HBa.out).size))
            clear hb6
            go_wp2_with fail
            go_ret
            exact ⟨rfl, HB6.out⟩
          have t4 : decide (16777216 < y) = false := decide_eq_false d4
          obtain ⟨u, hu⟩ : ∃ u : Int, x + dx = u := ⟨_, rfl⟩
          obtain ⟨s, hs⟩ : ∃ u : Int, y + dy = u := ⟨_, rfl⟩
          have X1 : Hid (IntKind.i64.wrap (x + dx) = u) := Lib.hid (by have h := HD.out; rw [i64w (by omega) (by omega)]; exact hu)
          have X2 : Hid (IntKind.i64.wrap (y + dy) = s) := Lib.hid (by have h := HD.out; rw [i64w (by omega) (by omega)]; exact hs)
          have HU : Hid (x + dx = u ∧ y + dy = s) := Lib.hid ⟨hu, hs⟩
          have HXB : Hid (Inb 16777216 (x, y)) := Lib.hid ⟨⟨by dsimp only; omega, by dsimp only; omega⟩, by dsimp only; omega, by dsimp only; omega⟩
          rw [hu, hs] at HXJ
          clear d1 d2 d3 d4 hu hs
          have x1 := X1.out
          have x2 := X2.out
          by_cases d5 : u < -16777216
          · have t5 : decide (u < -16777216) = true := decide_eq_true d5
            clear d5
            go_wp2_with fail
            refine (awake_any _ (HT.out _ HBa.out)).mono ?_
            rintro e6 w6 ⟨rfl, hb6⟩
            have HB6 := Lib.hid ((HBa.out).trans (hb6.mono (HBa.out).size))
            clear hb6
            go_wp2_with fail
            go_ret
            exact ⟨rfl, HB6.out⟩
          have t5 : decide (u < -16777216) = false := decide_eq_false d5
          by_cases d6 : 16777216 < u
          · have t6 : decide (16777216 < u) = true := decide_eq_true d6
            clear d5 d6
            go_wp2_with fail
            refine (awake_any _ (HT.out _ HBa.out)).mono ?_
            rintro e6 w6 ⟨rfl, hb6⟩
            have HB6 := Lib.hid ((HBa.out).trans (hb6.mono (HBa.out).size))
            clear hb6
            go_wp2_with fail
            go_ret
            exact ⟨rfl, HB6.out⟩
          have t6 : decide (16777216 < u) = false := decide_eq_false d6
          by_cases d7 : s < -16777216
          · have t7 : decide (s < -16777216) = true := decide_eq_true d7
            clear d5 d6 d7
            go_wp2_with fail
            refine (awake_any _ (HT.out _ HBa.out)).mono ?_
            rintro e6 w6 ⟨rfl, hb6⟩
            have HB6 := Lib.hid ((HBa.out).trans (hb6.mono (HBa.out).size))
            clear hb6
            go_wp2_with fail
            go_ret
            exact ⟨rfl, HB6.out⟩
          have t7 : decide (s < -16777216) = false := decide_eq_false d7
          by_cases d8 : 16777216 < s
          · have t8 : decide (16777216 < s) = true := decide_eq_true d8
            clear d5 d6 d7 d8
            go_wp2_with fail
            refine (awake_any _ (HT.out _ HBa.out)).mono ?_
            rintro e6 w6 ⟨rfl, hb6⟩
            have HB6 := Lib.hid ((HBa.out).trans (hb6.mono (HBa.out).size))
            clear hb6
            go_wp2_with fail
            go_ret
            exact ⟨rfl, HB6.out⟩
          have t8 : decide (16777216 < s) = false := decide_eq_false d8
          have HUB : Hid (Inb 16777216 (u, s)) := Lib.hid ⟨⟨by dsimp only; omega, by dsimp only; omega⟩, by dsimp only; omega, by dsimp only; omega⟩
          clear d5 d6 d7 d8
          have HRL : Hid (R1 30 2 Wk u18 j (pts ((movP (dx, dy) l).take j)) (some (wr.heap.size + 1, #[.int .i64 u, .int .i64 s])) ((wr.alloc (.cells #[.int .i64 x, .int .i64 y] 30)).alloc (.cells #[.int .i64 u, .int .i64 s] 30))) := Lib.hid (by
            rw [size_alloc1 wr (.cells #[.int .i64 x, .int .i64 y] 30)]
            exact (HR.out.later HBP.out).lit #[.int .i64 u, .int .i64 s])
          have x7 : IntKind.i64.wrap ((j : Int) + 1) = (j : Int) + 1 := i64w (by omega) (by have := HLE.out; have := HJM.out; omega)
          go_wp2_with (refine wpList_plain rfl fun K hK => wp_appP 146 rfl _ _ rfl HRL.out rfl rfl rfl (fun y hy => by (simp only [List.mem_cons, List.not_mem_nil, or_false] at hy; rcases hy with rfl | rfl <;> rfl)) (by have := HLE.out; have := HJM.out; omega) (fun vK wk R2 => hK _ _ ?_))
          have HR2 : Hid (R1 30 2 Wk vK (j + 1) (pts ((movP (dx, dy) l).take (j + 1))) none wk) := Lib.hid (by rw [HXJ.out, pts_app]; exact R2)
          have HI2 : Hid (∀ p ∈ l.take (j + 1), Inb 16777216 p ∧ Inb 16777216 (mvp (dx, dy) p)) := Lib.hid (by
            rw [HXL.out]
            intro p hp
            rcases List.mem_append.1 hp with hp | hp
            · exact HIN.out p hp
            · simp only [List.mem_singleton] at hp
              rw [hp]
              refine ⟨HXB.out, ?_⟩
              have e : mvp (dx, dy) (x, y) = (u, s) := Prod.ext HU.out.1 HU.out.2
              rw [e]
              exact HUB.out)
          clear R2 HR HRL t1 t2 t3 t4 t5 t6 t7 t8 x1 x2 p2 p3 z0 z1
          go_wp2_with fail
          clear x7
          go_roundw
          case rel => exact ⟨j + 1, by have := HLE.out; have := HJM.out; go_num, by have := HJM.out; omega, HR2.out, HI2.out⟩
          case measure => first | (have := HJM.out; simp [intOf]; done) | (have := HJM.out; simp [intOf]; omega)
        · have j2 : ¬ (j : Int) < (m : Int) := by omega
          obtain rfl : m = j := by omega
          obtain ⟨A9, c9, rfl, hp9, hb9⟩ := own_blk (l := movP (dx, dy) l) (by have h := HR.out.row; rw [List.take_of_length_le (by rw [movP_len, HM.out]; exact Nat.le_refl _)] at h; exact h) (by rw [movP_len, HM.out])
          have HP9 := Lib.hid hp9
          have HB9 := Lib.hid hb9
          have HML := Lib.hid (HMV.out.below HR.out.below)
          have HBj2 : Hid (Below W0.heap.size W0 wr) := Lib.hid (HBW.out.trans (HR.out.below.mono HBW.out.size))
          have HTK : Hid ((mov (dx, dy) (x0.take k)).length = k) := Lib.hid (by rw [mov_len, List.length_take, HN.out]; have := HKN.out; omega)
          have HROW : Hid (wr.ownsRow W0.heap.size 36 1 u16 k (slcs ra rc (mov (dx, dy) (x0.take k)))) := Lib.hid (by have h := HML.out.row; rw [HTK.out] at h; exact h)
          have hi9 : ∀ p ∈ l, Inb 16777216 p ∧ Inb 16777216 (mvp (dx, dy) p) := fun p hp => HIN.out p (by rw [List.take_of_length_le (by rw [HM.out]; exact Nat.le_refl _)]; exact hp)
          have HI9 : Hid (AllB 16777216 l ∧ AllB 16777216 (movP (dx, dy) l)) := Lib.hid ⟨fun p hp => (hi9 p hp).1, fun p hp => by
            obtain ⟨q, hq, rfl⟩ := List.mem_map.1 hp
            exact (hi9 q hq).2⟩
          clear hp9 hb9 hi9 hlt2 hj
          go_wp2_with (refine wpList_appL (B := W0.heap.size) rfl _ _ rfl (own_below HROW.out ((Below.refl _ _).alloc (Nat.le_refl _) _)) rfl rfl (Blk.new _ _ _) rfl (by have := HNB.out; have := HKN.out; omega) (by first | (have := HBj2.out.size; omega) | (simp; have := HBj2.out.size; omega)) ?_)
          intro v9 w9 hown9 hgrow hor
          have HM9 := Lib.hid (HML.out.push (l := movP (dx, dy) l) (c := c9) HP9.out HB9.out (by rw [HTK.out, movP_len, HM.out]; exact hown9) (by rw [movP_len, HM.out]; exact hgrow))
          have HBg := Lib.hid ((HBj2.out.alloc HBj2.out.size _).grown hgrow (by first | (have := HBj2.out.size; omega) | (simp; have := HBj2.out.size; omega)) (own_low HROW.out))
          have HA9 : Hid (∀ q ∈ x0.take (k + 1), AllB 16777216 q ∧ AllB 16777216 (movP (dx, dy) q)) := Lib.hid (by
            rw [HXT.out]
            intro q hq
            rcases List.mem_append.1 hq with hq | hq
            · exact HALL.out q hq
            · simp only [List.mem_singleton] at hq
              rw [hq]
              exact HI9.out)
          rw [← HMT.out] at HM9
          clear hown9 hgrow hor
          have x7 : IntKind.i64.wrap ((k : Int) + 1) = (k : Int) + 1 := i64w (by omega) (by have := HNB.out; have := HKN.out; omega)
          go_wp2_with fail
          clear x7
          go_roundw
          case rel => exact ⟨k + 1, _, _, by have := HNB.out; have := HKN.out; go_num, by have := HKN.out; omega, HM9.out, HBg.out, HA9.out⟩
          case measure => first | (have := HKN.out; simp [intOf]; done) | (have := HKN.out; simp [intOf]; omega)
    · have k2 : ¬ (k : Int) < (n : Int) := by omega
      obtain rfl : n = k := by omega
      have htk : x0.take n = x0 := List.take_of_length_le (by rw [HN.out]; exact Nat.le_refl _)
      rw [htk] at HMV HALL
      obtain ⟨Am, cm, rfl, hpm⟩ := HMV.out.read
      have hml : (mov (dx, dy) x0).length = n := by rw [mov_len]; exact HN.out
      rw [hml]
      have hnl : x0.length ≤ 140737488355328 := by have := HX0.out.n; omega
      have hne : ∀ l ∈ x0, l.length ≤ 140737488355328 := fun l hl => by have := HX0.out.e l hl; omega
      have hnm : ∀ l ∈ mov (dx, dy) x0, l.length ≤ 140737488355328 := fun l hl => by
        obtain ⟨q, hq, rfl⟩ := List.mem_map.1 hl
        rw [movP_len]
        exact hne q hq
      have hA1 : ∀ l ∈ x0, AllB 16777216 l := fun l hl => (HALL.out l hl).1
      have hA2 : ∀ l ∈ mov (dx, dy) x0, AllB 16777216 l := fun l hl => by
        obtain ⟨q, hq, rfl⟩ := List.mem_map.1 hl
        exact (HALL.out q hq).2
      have HO1 := fun V (hV : Below Wk.heap.size Wk V) => Outline_any A0 c0 x0 A1 c1 x1 x2 x3 x4 V (HX0.out.r.below (HBr.out.trans (hV.mono HBr.out.size))) hnl hne (BoR.below HX1.out (HBr.out.trans (hV.mono HBr.out.size))) (by have := HL1.out; omega) (HT.out _ (HBr.out.trans (hV.mono HBr.out.size)))
      have HO2 := fun V (hV : Below Wk.heap.size Wk V) => Outline_any Am cm (mov (dx, dy) x0) A1 c1 x1 x2 x3 x4 V (hpm.below hV) (by rw [mov_len]; exact hnl) hnm (BoR.below HX1.out (HBr.out.trans (hV.mono HBr.out.size))) (by have := HL1.out; omega) (HT.out _ (HBr.out.trans (hV.mono HBr.out.size)))
      have HO3 := fun V (hV : Below Wk.heap.size Wk V) => Dash_any A0 c0 x0 A1 c1 x1 A5 c5 x5 0 V (HX0.out.r.below (HBr.out.trans (hV.mono HBr.out.size))) hnl hne (BoR.below HX1.out (HBr.out.trans (hV.mono HBr.out.size))) (by have := HL1.out; omega) (InR.below HX5.out (HBr.out.trans (hV.mono HBr.out.size))) (by have := HL5.out; omega)
      have HO4 := fun V (hV : Below Wk.heap.size Wk V) => Dash_any Am cm (mov (dx, dy) x0) A1 c1 x1 A5 c5 x5 0 V (hpm.below hV) (by rw [mov_len]; exact hnl) hnm (BoR.below HX1.out (HBr.out.trans (hV.mono HBr.out.size))) (by have := HL1.out; omega) (InR.below HX5.out (HBr.out.trans (hV.mono HBr.out.size))) (by have := HL5.out; omega)
      rw [outF_mov x2 x3 x4 x1 hA1 hA2] at HO2
      rw [dasF_mov x1 x5 0 hA1 hA2] at HO4
      have HG1 := outF_good x2 x3 x4 x0 x1
      have HG2 := dasF_good x0 x1 x5 0
      obtain ⟨⟨za, Da⟩, hFa⟩ : ∃ F, outF x2 x3 x4 x0 x1 = F := ⟨_, rfl⟩
      obtain ⟨⟨zb, Db⟩, hFb⟩ : ∃ F, dasF x0 x1 x5 0 = F := ⟨_, rfl⟩
      rw [hFa] at HO1 HO2 HG1
      rw [hFb] at HO3 HO4 HG2
      unfold OuC at HO1 HO2
      unfold OuK at HO3 HO4
      dsimp only at HO1 HO2 HO3 HO4 HG1 HG2
      have hd : Inb 1000000000000 (dx, dy) := by have h := HD.out; exact ⟨⟨by dsimp only; omega, by dsimp only; omega⟩, by dsimp only; omega, by dsimp only; omega⟩
      have HAL1 := Lib.hid fun A B ca cb V (hA : PolR V A (mov (dx, dy) Da)) (hB : PolR V B Da) => alike_any A B ca cb (dx, dy) Da V hA hB (fun l hl p hp => (((HG1.1 l hl).2.1) p hp).mono (by omega)) hd (by omega) (fun l hl => by have := (HG1.1 l hl).1; omega)
      have HAL2 := Lib.hid fun A B ca cb V (hA : PolR V A (mov (dx, dy) Db)) (hB : PolR V B Db) => alike_any A B ca cb (dx, dy) Db V hA hB (fun l hl p hp => ((HG2.1 l hl) p hp).mono (by omega)) hd (by omega) (fun l hl => by have := len_le hl; omega)
      obtain ⟨ua, hua⟩ : ∃ n, Da.length = n := ⟨_, rfl⟩
      obtain ⟨ub, hub⟩ : ∃ n, Db.length = n := ⟨_, rfl⟩
      rw [hml] at HO2 HO4
      rw [HN.out] at HO1 HO3
      rw [HN1.out] at HO1 HO2 HO3 HO4
      rw [HN5.out] at HO3 HO4
      rw [mov_len, hua] at HO2
      rw [mov_len, hub] at HO4
      rw [hua] at HO1 HAL1
      rw [hub] at HO3 HAL2
      have H1 := Lib.hid HO1
      have H2 := Lib.hid HO2
      have H3 := Lib.hid HO3
      have H4 := Lib.hid HO4
      have HKz := Lib.hid (HK0.out.below HBW.out HK0.out.lt)
      clear HO1 HO2 HO3 HO4 HG1 HG2 hFa hFb hua hub hd hpm hml hnl hne hnm hA1 hA2 htk hlt hk HMV HALL
      go_wp2_with fail
      refine (H1.out _ (Below.refl _ _)).mono ?_
      rintro e1 w1 ⟨Aa, ca, rfl, hp1, hb1⟩
      have HB1 := Lib.hid ((Below.refl Wk.heap.size Wk).trans hb1)
      have HP1 := Lib.hid hp1
      clear hp1 hb1 H1
      go_wp2_with fail
      refine (H2.out _ HB1.out).mono ?_
      rintro e2 w2 ⟨Ab, cb, rfl, hp2, hb2⟩
      have HB2 := Lib.hid (HB1.out.trans (hb2.mono HB1.out.size))
      have HP2 := Lib.hid hp2
      have HP12 := Lib.hid (HP1.out.below hb2)
      clear hp2 hb2 H2 HP1
      go_wp2_with fail
      refine (H3.out _ HB2.out).mono ?_
      rintro e3 w3 ⟨Ac, cc, rfl, hp3, hb3, _⟩
      have HB3 := Lib.hid (HB2.out.trans (hb3.mono HB2.out.size))
      have HP3 := Lib.hid hp3
      have HP13 := Lib.hid (HP12.out.below hb3)
      have HP23 := Lib.hid (HP2.out.below hb3)
      clear hp3 hb3 H3 HP12 HP2
      go_wp2_with fail
      refine (H4.out _ HB3.out).mono ?_
      rintro e4 w4 ⟨Ad, cd, rfl, hp4, hb4, _⟩
      have HB4 := Lib.hid (HB3.out.trans (hb4.mono HB3.out.size))
      have HP4 := Lib.hid hp4
      have HP14 := Lib.hid (HP13.out.below hb4)
      have HP24 := Lib.hid (HP23.out.below hb4)
      have HP34 := Lib.hid (HP3.out.below hb4)
      clear hp4 hb4 H4 HP13 HP23 HP3
      have z0 : w4.cell? ⟨g, 0, none⟩ = some (.int .i64 dx) := (HKz.out.below HB4.out HKz.out.lt).cell 0
      have z1 : w4.cell? ⟨g, 1, none⟩ = some (.int .i64 dy) := (HKz.out.below HB4.out HKz.out.lt).cell 1
      go_wp2_with fail
      refine (HAL1.out Ab Aa cb ca _ HP24.out HP14.out).mono ?_
      rintro e5 w5 ⟨rfl, hb5⟩
      have HB5 := Lib.hid (HB4.out.trans (hb5.mono HB4.out.size))
      have HP45 := Lib.hid (HP4.out.below hb5)
      have HP35 := Lib.hid (HP34.out.below hb5)
      clear hb5 HAL1 z0 z1
      have z0 : w5.cell? ⟨g, 0, none⟩ = some (.int .i64 dx) := (HKz.out.below HB5.out HKz.out.lt).cell 0
      have z1 : w5.cell? ⟨g, 1, none⟩ = some (.int .i64 dy) := (HKz.out.below HB5.out HKz.out.lt).cell 1
      go_wp2_with fail
      refine (HAL2.out Ad Ac cd cc _ HP45.out HP35.out).mono ?_
      rintro e7 w7 ⟨rfl, hb7⟩
      have HB7 := Lib.hid (HBr.out.trans ((HB5.out.trans (hb7.mono HB5.out.size)).mono HBr.out.size))
      clear hb7 HAL2 z0 z1
      go_wp2_with fail
      refine (awake_any _ (HT.out _ HB7.out)).mono ?_
      rintro e6 w6 ⟨rfl, hb6⟩
      have HB6 := Lib.hid ((HB7.out).trans (hb6.mono (HB7.out).size))
      clear hb6
      go_wp2_with fail
      go_ret
      exact ⟨rfl, HB6.out⟩

open Go.ChangeShapes Go.WideShapes Go.ChangeAt Go.Joins Go.Deep

set_option maxRecDepth 100000 in
theorem contract (H : Type) (enc : TypeId × Value → H) (W : World) (base : Nat) (args : Array Value) (ds gs : List (DataW H)) (before : List MemPlace)
    (hval : ∀ (j : Nat) t v, Tryd.f7.params[j]? = some t → args[j]? = some v → Value.okWide Tryd.prog W .any base t v)
    (hW : DataW.Whole enc Tryd.prog Tryd.f7.params.toList Rows.strokeMovesSpec.vars false W args.toList ds gs before) (hL : laidMetH Tryd.prog Rows.strokeMovesRow.laid W)
    (hsz : (DataW.weightsEach Tryd.prog (Tryd.f7.params.toList ++ (OpenSpec.ofChange Rows.strokeMovesSpec).bare.plain.varTypes Tryd.prog) (ds ++ gs)).all (· ≤ reachBytes) = true) :
    Calls Tryd.prog 7 args W fun e W' => ∃ v, e = .returned v ∧ Rows.strokeMovesSpec.post enc Tryd.prog Tryd.f7 false true false false W args v W' := by
  have hW' := hW
  obtain ⟨p, q, hA0, hV, rfl, hfz, hnd⟩ := hW
  have hA : DataW.TrodAll enc Tryd.prog W 0 (fun _ => true) true Tryd.f7.params.toList args.toList ds p := hA0
  rw [Tryd.params7] at hA hval
  obtain ⟨v0, vs0, d0, ds0, p0, q0, hargs, rfl, rfl, g0, r0⟩ := trodAll_cons hA
  obtain ⟨v1, vs1, d1, ds1, p1, q1, rfl, rfl, rfl, g1, r1⟩ := trodAll_cons r0
  obtain ⟨v2, vs2, d2, ds2, p2, q2, rfl, rfl, rfl, g2, r2⟩ := trodAll_cons r1
  obtain ⟨v3, vs3, d3, ds3, p3, q3, rfl, rfl, rfl, g3, r3⟩ := trodAll_cons r2
  obtain ⟨v4, vs4, d4, ds4, p4, q4, rfl, rfl, rfl, g4, r4⟩ := trodAll_cons r3
  obtain ⟨v5, vs5, d5, ds5, p5, q5, rfl, rfl, rfl, g5, r5⟩ := trodAll_cons r4
  obtain ⟨v6, vs6, d6, ds6, p6, q6, rfl, rfl, rfl, g6, r6⟩ := trodAll_cons r5
  obtain ⟨rfl, rfl, rfl⟩ := trodAll_nil r6
  obtain rfl : args = #[v0, v1, v2, v3, v4, v5, v6] := by cases args; simp_all
  obtain ⟨rfl, rfl⟩ := trodVars_none hV
  have s0 : Small 22 d0 := fun n hn => by simpa using List.all_eq_true.1 hsz n (DataW.weights_mem_each (j := 0) (t := 22) rfl rfl n hn)
  obtain ⟨A0, c0, x0, rfl, hx0⟩ := arg_pls (hval 0 22 v0 rfl rfl) g0 s0
  have s1 : Small 23 d1 := fun n hn => by simpa using List.all_eq_true.1 hsz n (DataW.weights_mem_each (j := 1) (t := 23) rfl rfl n hn)
  obtain ⟨A1, c1, x1, rfl, hx1, hn1⟩ := arg_bools (hval 1 23 v1 rfl rfl) g1 s1
  obtain ⟨x2, rfl, rfl, rfl, w2⟩ := open_int Tryd.underlying3 (hval 2 3 v2 rfl rfl) g2
  have b2 := bounds_i64 w2
  obtain ⟨x3, rfl, rfl, rfl, w3⟩ := open_int Tryd.underlying3 (hval 3 3 v3 rfl rfl) g3
  have b3 := bounds_i64 w3
  obtain ⟨x4, rfl, rfl, rfl, w4⟩ := open_int Tryd.underlying3 (hval 4 3 v4 rfl rfl) g4
  have b4 := bounds_i64 w4
  have s5 : Small 33 d5 := fun n hn => by simpa using List.all_eq_true.1 hsz n (DataW.weights_mem_each (j := 5) (t := 33) rfl rfl n hn)
  obtain ⟨A5, c5, x5, rfl, hx5, hn5, hb5⟩ := arg_ints (hval 5 33 v5 rfl rfl) g5 s5
  obtain ⟨x6, rfl, hx6, hy6⟩ := arg_pt (hval 6 30 v6 rfl rfl) g6
  clear hA0
  refine (walk A0 c0 x0 A1 c1 x1 x2 x3 x4 A5 c5 x5 x6 W hx0 hx1 hn1 b2 b3 b4 hx5 hn5 hx6 hy6 (Num.tab_of_laid hL)).mono fun e W' ⟨he, hb⟩ => ?_
  subst he
  exact ⟨_, rfl, Frame.law_post Frame.laidOut (by kernel_rfl) Tryd.underlying4 (by kernel_rfl) rfl rfl hW' hb⟩

theorem laid_met (os : Os) : laidMet Tryd.prog Rows.strokeMovesRow.laid ((Num.laidWorld os).forCall (fun _ _ => 0) ⟨#[], #[Value.slice none 0 0, Value.slice none 0 0, Value.int .i64 0, Value.int .i64 0, Value.int .i64 0, Value.slice none 0 0, Value.agg #[.int .i64 0, .int .i64 0]], []⟩).memory :=
  laidMet_of_run' 8 (by kernel_rfl) (by kernel_rfl)
theorem reads (os : Os) {H : Type} (enc : TypeId × Value → H) : ∃ places, DataW.whole enc Tryd.prog ((Num.laidWorld os).forCall (fun _ _ => 0) ⟨#[], #[Value.slice none 0 0, Value.slice none 0 0, Value.int .i64 0, Value.int .i64 0, Value.int .i64 0, Value.slice none 0 0, Value.agg #[.int .i64 0, .int .i64 0]], []⟩).memory Tryd.f7.params.toList Rows.strokeMovesSpec.vars false #[Value.slice none 0 0, Value.slice none 0 0, Value.int .i64 0, Value.int .i64 0, Value.int .i64 0, Value.slice none 0 0, Value.agg #[.int .i64 0, .int .i64 0]].toList 8 = some ([.nil, .nil, .lit (.int .i64 0), .lit (.int .i64 0), .lit (.int .i64 0), .nil, .agg [.lit (.int .i64 0), .lit (.int .i64 0)]], [], places) :=
  ⟨[], by kernel_rfl⟩

set_option maxRecDepth 100000 in
theorem lifted (os : Os) (started : os.Started) (H : Type) (enc : TypeId × Value → H) (F : Stop.Interp) :
    ReturnsInHanded {} Tryd.checked os 7 .any ((OpenSpec.ofChange Rows.strokeMovesSpec).preRow enc Tryd.prog Tryd.f7 Rows.strokeMovesRow.domain false Rows.strokeMovesRow.laid) (((OpenSpec.ofChange Rows.strokeMovesSpec).at F).post enc Tryd.prog Tryd.f7 false true false false) := by
  obtain ⟨places, hx⟩ := reads os enc
  refine returnsInHanded_of_row (C := Tryd.checked) (s := OpenSpec.ofChange Rows.strokeMovesSpec) Frame.own started (by kernel_rfl) Tryd.func7
    (witness_row_at (enc := enc) (C := Tryd.checked) false (Num.laidWorld os) #[Value.slice none 0 0, Value.slice none 0 0, Value.int .i64 0, Value.int .i64 0, Value.int .i64 0, Value.slice none 0 0, Value.agg #[.int .i64 0, .int .i64 0]] rfl (by kernel_rfl) (by kernel_rfl) (by kernel_rfl)
      (OpenSpec.preRow_of_cond 8 hx (by kernel_rfl) (fun k hk => by cases hk) (by kernel_rfl) (laid_met os))) ?_
  intro W base args ds gs before hval hW _ _ hsz hL _ _
  exact contract H enc W base args ds gs before hval hW hL hsz

theorem said : Rows.StrokeMovesSaid :=
  OpenClaim.holds_of_cond 7 Tryd.f7 rfl rfl rfl rfl rfl rfl rfl ⟨rfl, rfl, rfl, rfl, rfl⟩ rfl rfl rfl rfl rfl (by kernel_rfl) Tryd.func7 (by kernel_rfl)
    (of_decide_eq_true (by kernel_rfl)) (by unfold Func.isWrapper; first | (rw [if_pos (by decide +kernel)]; kernel_rfl) | (rw [if_neg (by decide +kernel)]; exact ⟨rfl, rfl⟩))
    (fun os started H enc _ F => by rw [OpenClaim.pre_eq_preRow]; exact lifted os started H enc F)

theorem plain (f : FuncId) (fn : Func) (hf : Tryd.pinned.checked.prog.funcNamed "imageeditor/imageeditorlaw21.StrokeMoves" = some f) (hfn : Tryd.pinned.checked.prog.funcs[f]? = some fn) :
    false = Tryd.pinned.checked.prog.looks [] ∧ ∀ (j : Nat) t, fn.params[j]? = some t → Tryd.pinned.checked.prog.wantsStandIn t = false := by
  obtain rfl : f = 7 := Option.some.inj ((show Tryd.prog.funcNamed "imageeditor/imageeditorlaw21.StrokeMoves" = some 7 by kernel_rfl).symm.trans hf) |>.symm
  obtain rfl : fn = Tryd.f7 := (Option.some.inj (Tryd.func7.symm.trans hfn)).symm
  refine ⟨by kernel_rfl, fun j t ht => ?_⟩
  rw [Tryd.params7] at ht
  have hm : t = 22 ∨ t = 23 ∨ t = 3 ∨ t = 3 ∨ t = 3 ∨ t = 33 ∨ t = 30 := by simpa using Array.mem_of_getElem? ht
  rcases hm with rfl | rfl | rfl | rfl | rfl | rfl | rfl
  · exact (show Tryd.prog.wantsStandIn 22 = false by kernel_rfl)
  · exact (show Tryd.prog.wantsStandIn 23 = false by kernel_rfl)
  · exact (show Tryd.prog.wantsStandIn 3 = false by kernel_rfl)
  · exact (show Tryd.prog.wantsStandIn 3 = false by kernel_rfl)
  · exact (show Tryd.prog.wantsStandIn 3 = false by kernel_rfl)
  · exact (show Tryd.prog.wantsStandIn 33 = false by kernel_rfl)
  · exact (show Tryd.prog.wantsStandIn 30 = false by kernel_rfl)

theorem card : Rows.StrokeMovesCardSaid :=
  Claim7.holds_tied_plain_at .later [] _ _ _ _ said (fun _ h => by cases h) (by kernel_rfl) (fun _ h => by cases h) strokeMoves_row_tie rfl ⟨rfl, rfl⟩ (by kernel_rfl) rfl plain (by kernel_rfl)

end Go.Proofs.YtflopcogalknhaaDoor.StrokeMoves
