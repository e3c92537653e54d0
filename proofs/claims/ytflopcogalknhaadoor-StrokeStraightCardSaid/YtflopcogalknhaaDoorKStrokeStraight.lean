/-
  The outline of a horizontal or a vertical open edge of an even width with CpButt is its rectangle (layer 21), for any edge with valid coordinates.
-/
import Derived.Test.YtflopcogalknhaaDoorKStrAw
import Derived.Test.YtflopcogalknhaaDoorKStrSt
set_option linter.unusedVariables false
set_option linter.unusedSimpArgs false
namespace Go.Proofs.YtflopcogalknhaaDoor.StrokeStraight
open Go.RowKit Go.Proofs.YtflopcogalknhaaDoor Go.Proofs.YtflopcogalknhaaDoor.NumPure Go.Proofs.YtflopcogalknhaaDoor.Str

theorem pol_two {w : World} {gp gq : Nat} {a b : P2} (h : Blk w gp 30 #[.int .i64 a.1, .int .i64 a.2, .int .i64 b.1, .int .i64 b.2]) (h2 : Blk w gq 36 #[.slice (some ⟨gp, 0, none⟩) 2 2]) : PolR w (some ⟨gq, 0, none⟩) [[a, b]] :=
  ⟨fun _ => some ⟨gp, 0, none⟩, fun _ => 2, ⟨rfl, fun _ => ⟨_, rfl, h2.lt, fun i u hu => World.news_of_block h2 i u hu⟩⟩, fun i hi => by
    have hi0 : i = 0 := by simp at hi; omega
    subst hi0
    exact ptr_of_blk (l := [a, b]) h⟩
set_option maxRecDepth 100000 in
set_option maxHeartbeats 4000000 in
theorem walk (x y n h : Int) (d : Bool) (W : World) (_ : -9223372036854775808 ≤ x ∧ x ≤ 9223372036854775807) (_ : -9223372036854775808 ≤ y ∧ y ≤ 9223372036854775807) (_ : -9223372036854775808 ≤ n ∧ n ≤ 9223372036854775807) (_ : -9223372036854775808 ≤ h ∧ h ≤ 9223372036854775807) (hT : Num.Tab W) :
    Calls Tryd.prog 6 #[.int .i64 x, .int .i64 y, .int .i64 n, .int .i64 h, .bool d] W fun e w' => e = .returned (.bool true) ∧ Below W.heap.size W w' := by
  have HT := Lib.hid hT
  by_cases d1 : x < -16777216
  · have t1 : decide (x < -16777216) = true := decide_eq_true d1
    clear d1
    go_enter Tryd.func6, Tryd.ntmps6
    go_wp2_with fail
    refine (awake_any _ HT.out).mono ?_
    rintro e6 w6 ⟨rfl, hb6⟩
    have HB6 := Lib.hid hb6
    clear hb6
    go_wp2_with fail
    go_ret
    exact ⟨rfl, HB6.out⟩
  have t1 : decide (x < -16777216) = false := decide_eq_false d1
  by_cases d2 : 16777216 < x
  · have t2 : decide (16777216 < x) = true := decide_eq_true d2
    clear d1 d2
    go_enter Tryd.func6, Tryd.ntmps6
    go_wp2_with fail
    refine (awake_any _ HT.out).mono ?_
    rintro e6 w6 ⟨rfl, hb6⟩
    have HB6 := Lib.hid hb6
    clear hb6
    go_wp2_with fail
    go_ret
    exact ⟨rfl, HB6.out⟩
  have t2 : decide (16777216 < x) = false := decide_eq_false d2
  by_cases d3 : y < -16777216
  · have t3 : decide (y < -16777216) = true := decide_eq_true d3
    clear d1 d2 d3
    go_enter Tryd.func6, Tryd.ntmps6
    go_wp2_with fail
    refine (awake_any _ HT.out).mono ?_
    rintro e6 w6 ⟨rfl, hb6⟩
    have HB6 := Lib.hid hb6
    clear hb6
    go_wp2_with fail
    go_ret
    exact ⟨rfl, HB6.out⟩
  have t3 : decide (y < -16777216) = false := decide_eq_false d3
  by_cases d4 : 16777216 < y
  · have t4 : decide (16777216 < y) = true := decide_eq_true d4
    clear d1 d2 d3 d4
    go_enter Tryd.func6, Tryd.ntmps6
    go_wp2_with fail
    refine (awake_any _ HT.out).mono ?_
    rintro e6 w6 ⟨rfl, hb6⟩
    have HB6 := Lib.hid hb6
    clear hb6
    go_wp2_with fail
    go_ret
    exact ⟨rfl, HB6.out⟩
  have t4 : decide (16777216 < y) = false := decide_eq_false d4
  by_cases d5 : n < 1
  · have t5 : decide (n < 1) = true := decide_eq_true d5
    clear d1 d2 d3 d4 d5
    go_enter Tryd.func6, Tryd.ntmps6
    go_wp2_with fail
    refine (awake_any _ HT.out).mono ?_
    rintro e6 w6 ⟨rfl, hb6⟩
    have HB6 := Lib.hid hb6
    clear hb6
    go_wp2_with fail
    go_ret
    exact ⟨rfl, HB6.out⟩
  have t5 : decide (n < 1) = false := decide_eq_false d5
  by_cases d6 : 33554432 < n
  · have t6 : decide (33554432 < n) = true := decide_eq_true d6
    clear d1 d2 d3 d4 d5 d6
    go_enter Tryd.func6, Tryd.ntmps6
    go_wp2_with fail
    refine (awake_any _ HT.out).mono ?_
    rintro e6 w6 ⟨rfl, hb6⟩
    have HB6 := Lib.hid hb6
    clear hb6
    go_wp2_with fail
    go_ret
    exact ⟨rfl, HB6.out⟩
  have t6 : decide (33554432 < n) = false := decide_eq_false d6
  have X1 : Hid (IntKind.i64.wrap (16777216 - x) = 16777216 - x) := Lib.hid (i64w (by omega) (by omega))
  have X2 : Hid (IntKind.i64.wrap (16777216 - y) = 16777216 - y) := Lib.hid (i64w (by omega) (by omega))
  have HXY : Hid (-16777216 ≤ x ∧ x ≤ 16777216 ∧ -16777216 ≤ y ∧ y ≤ 16777216 ∧ 1 ≤ n ∧ n ≤ 33554432) := Lib.hid (by omega)
  clear d1 d2 d3 d4 d5 d6
  have x1 := X1.out
  have x2 := X2.out
  cases d
  · by_cases d7 : 16777216 - x < n
    · have t7 : decide (16777216 - x < n) = true := decide_eq_true d7
      clear d7
      go_enter Tryd.func6, Tryd.ntmps6
      go_wp2_with fail
      refine (awake_any _ HT.out).mono ?_
      rintro e6 w6 ⟨rfl, hb6⟩
      have HB6 := Lib.hid hb6
      clear hb6
      go_wp2_with fail
      go_ret
      exact ⟨rfl, HB6.out⟩
    have t7 : decide (16777216 - x < n) = false := decide_eq_false d7
    by_cases d9 : h < 1
    · have t9 : decide (h < 1) = true := decide_eq_true d9
      clear d7 d9
      go_enter Tryd.func6, Tryd.ntmps6
      go_wp2_with fail
      refine (awake_any _ HT.out).mono ?_
      rintro e6 w6 ⟨rfl, hb6⟩
      have HB6 := Lib.hid hb6
      clear hb6
      go_wp2_with fail
      go_ret
      exact ⟨rfl, HB6.out⟩
    have t9 : decide (h < 1) = false := decide_eq_false d9
    by_cases d10 : 2048 < h
    · have t10 : decide (2048 < h) = true := decide_eq_true d10
      clear d7 d9 d10
      go_enter Tryd.func6, Tryd.ntmps6
      go_wp2_with fail
      refine (awake_any _ HT.out).mono ?_
      rintro e6 w6 ⟨rfl, hb6⟩
      have HB6 := Lib.hid hb6
      clear hb6
      go_wp2_with fail
      go_ret
      exact ⟨rfl, HB6.out⟩
    have t10 : decide (2048 < h) = false := decide_eq_false d10
    have HH : Hid (1 ≤ h ∧ h ≤ 2048 ∧ x + n ≤ 16777216) := Lib.hid (by omega)
    clear d7 d9 d10
    have HSE := Lib.hid (straight_h HXY.out.2.2.2.2.1 HH.out.1 HH.out.2.1 HXY.out.1 ⟨HXY.out.2.2.1, HXY.out.2.2.2.1⟩ HH.out.2.2)
    have Y1 : Hid (IntKind.i64.wrap (x + n) = x + n) := Lib.hid (by have h1 := HXY.out; have h2 := HH.out; exact i64w (by omega) (by omega))
    have Y2 : Hid (IntKind.i64.wrap (y - h) = y - h) := Lib.hid (by have h1 := HXY.out; have h2 := HH.out; exact i64w (by omega) (by omega))
    have Y3 : Hid (IntKind.i64.wrap (y + h) = y + h) := Lib.hid (by have h1 := HXY.out; have h2 := HH.out; exact i64w (by omega) (by omega))
    have Y4 : Hid (IntKind.i64.wrap (2 * h) = 2 * h) := Lib.hid (by have h1 := HXY.out; have h2 := HH.out; exact i64w (by omega) (by omega))
    have y1 := Y1.out
    have y2 := Y2.out
    have y3 := Y3.out
    have y4 := Y4.out
    go_enter Tryd.func6, Tryd.ntmps6
    go_upto_region 9 with fail
    have HN := Lib.hid (Bn.three W 30 30 30 #[.int .i64 (x + n), .int .i64 y] #[.int .i64 x, .int .i64 (y - h)] #[.int .i64 (x + n), .int .i64 (y + h)])
    obtain ⟨V, hV⟩ : ∃ V, ((W.alloc (.cells #[.int .i64 (x + n), .int .i64 y] 30)).alloc (.cells #[.int .i64 x, .int .i64 (y - h)] 30)).alloc (.cells #[.int .i64 (x + n), .int .i64 (y + h)] 30) = V := ⟨_, rfl⟩
    rw [hV] at HN
    rw [hV]
    have HBV := Lib.hid HN.out.b
    have HGt := Lib.hid (HN.out.get 0 rfl)
    have HGl := Lib.hid (HN.out.get 1 rfl)
    have HGh := Lib.hid (HN.out.get 2 rfl)
    clear HN hV
    obtain ⟨gt, hgt⟩ : ∃ q, W.heap.size = q := ⟨_, rfl⟩
    rw [hgt] at HGt HGl HGh
    rw [hgt]
    obtain ⟨gl, hgl⟩ : ∃ q, gt + 1 = q := ⟨_, rfl⟩
    rw [hgl] at HGl HGh
    rw [hgl]
    obtain ⟨gh, hgh⟩ : ∃ q, gl + 1 = q := ⟨_, rfl⟩
    rw [hgh] at HGh
    rw [hgh]
    clear hgt hgl hgh
    have s0 : V.cell? ⟨gt, 0, none⟩ = some (.int .i64 (x + n)) := HGt.out.cell 0
    have s1 : V.cell? ⟨gt, 1, none⟩ = some (.int .i64 y) := HGt.out.cell 1
    have H3 := Lib.hid (Bn.three V 30 36 4 #[.int .i64 x, .int .i64 y, .int .i64 (x + n), .int .i64 y] #[.slice (some ⟨V.heap.size, 0, none⟩) 2 2] #[.bool true])
    obtain ⟨V3, hV3⟩ : ∃ U, ((V.alloc (.cells #[.int .i64 x, .int .i64 y, .int .i64 (x + n), .int .i64 y] 30)).alloc (.cells #[.slice (some ⟨V.heap.size, 0, none⟩) 2 2] 36)).alloc (.cells #[.bool true] 4) = U := ⟨_, rfl⟩
    rw [hV3] at H3
    have HB3 := Lib.hid (HBV.out.trans (H3.out.b.mono HBV.out.size))
    have HC := Lib.hid (Outline_any (some ⟨V.heap.size + 1, 0, none⟩) 1 [[(x, y), ((x + n), y)]] (some ⟨V.heap.size + 1 + 1, 0, none⟩) 1 [true] (2 * h) 0 0 V3 (pol_two (H3.out.get 0 rfl) (H3.out.get 1 rfl)) (show 1 ≤ 140737488355328 by omega) (fun l hl => by simp only [List.mem_singleton] at hl; subst hl; show 2 ≤ 140737488355328; omega) (bor_blk (H3.out.get 2 rfl)) (show 1 ≤ 4611686018427387904 by omega) (tab_below HT.out HB3.out))
    obtain ⟨P, hF, hP4, hPm, hPa⟩ := HSE.out
    rw [hF] at HC
    unfold OuC at HC
    dsimp only at HC
    have HBI := Lib.hid ((outF_good (2 * h) 0 0 [[(x, y), ((x + n), y)]] [true]).1 P (by rw [hF]; simp))
    have HP4 := Lib.hid hP4
    have HPM := Lib.hid hPm
    have HPA := Lib.hid hPa
    have HGl3 := Lib.hid (HGl.out.below H3.out.b HGl.out.lt)
    have HGh3 := Lib.hid (HGh.out.below H3.out.b HGh.out.lt)
    clear hF hP4 hPm hPa H3 HSE
    go_wp2_with fail
    clear hV3
    refine HC.out.mono ?_
    rintro e1 w1 ⟨Aa, ca, rfl, hp1, hb1⟩
    have HB1 := Lib.hid (HB3.out.trans (hb1.mono HB3.out.size))
    have HGl1 := Lib.hid (HGl3.out.below hb1 HGl3.out.lt)
    have HGh1 := Lib.hid (HGh3.out.below hb1 HGh3.out.lt)
    obtain ⟨ad, rfl, _⟩ := hp1.addr (show 0 < 1 by omega)
    obtain ⟨A2, c2, d0, hp2⟩ := hp1.cell 0 (show 0 < 1 by omega)
    have e0 : ad.add 0 = ad := by cases ad; rfl
    have hg0 : [P].getD 0 [] = P := rfl
    rw [e0, hg0, HP4.out] at d0
    rw [hg0] at hp2
    have HP2 := Lib.hid hp2
    have SP : ∃ lx ly ux uy : Int, (lx = x ∧ ly = (y - h) ∧ ux = (x + n) ∧ uy = (y + h)) ∧ ∀ U, Below w1.heap.size w1 U → U.cell? ad = some (.slice A2 4 c2) ∧ U.cell? ⟨gl, 0, none⟩ = some (.int .i64 lx) ∧ U.cell? ⟨gl, 1, none⟩ = some (.int .i64 ly) ∧ U.cell? ⟨gh, 0, none⟩ = some (.int .i64 ux) ∧ U.cell? ⟨gh, 1, none⟩ = some (.int .i64 uy) := ⟨x, (y - h), (x + n), (y + h), ⟨rfl, rfl, rfl, rfl⟩, fun U hU =>
      ⟨(hU.cell (by have := World.block_lt_of_cell? w1 ad d0; exact this)).trans d0, (HGl1.out.below hU HGl1.out.lt).cell 0, (HGl1.out.below hU HGl1.out.lt).cell 1, (HGh1.out.below hU HGh1.out.lt).cell 0, (HGh1.out.below hU HGh1.out.lt).cell 1⟩⟩
    obtain ⟨lx, ly, ux, uy, heq, hsp⟩ := SP
    have SP := Lib.hid hsp
    have HEQ := Lib.hid heq
    have HPM2 : Hid (∀ p ∈ P, (p.1 = lx ∨ p.1 = ux) ∧ (p.2 = ly ∨ p.2 = uy)) := Lib.hid (by
      obtain ⟨e1, e2, e3, e4⟩ := heq
      rw [e1, e2, e3, e4]
      exact HPM.out)
    have hds := (SP.out _ (Below.refl _ _)).1
    clear hsp heq HPM d0
    have d0 := hds
    clear hds
    clear hp1 hp2 hb1 e0 hg0 HC s0 s1
    go_wp2_with fail
    clear d0
    go_loopw [145] (fun i wr => ∃ j : Nat, i = .int .i64 (j : Int) ∧ j ≤ 4 ∧ Below w1.heap.size w1 wr) (fun i _ => 4 - (intOf i).toNat)
    case atStart => exact ⟨0, rfl, by omega, Below.refl _ _⟩
    case round =>
      obtain ⟨j, rfl, hj, hbw⟩ := hrel
      have HBW := Lib.hid hbw
      clear hbw
      by_cases hlt : j < 4
      · have hjl : j < P.length := by rw [HP4.out]; exact hlt
        have hq := HP2.out.below HBW.out
        obtain ⟨a1, rfl, _⟩ := hq.addr (by omega)
        have p1 := pt_cells hq j hjl
        obtain ⟨m1, m2⟩ := HPM2.out _ (List.getElem_mem hjl)
        obtain ⟨⟨px, py⟩, hx⟩ : ∃ p, P[j] = p := ⟨_, rfl⟩
        rw [hx] at p1 m1 m2
        obtain ⟨p2, p3⟩ := p1
        dsimp only at p2 p3 m1 m2
        have hbp : Below wr.heap.size wr (wr.alloc (.cells #[.int .i64 px, .int .i64 py] 30)) := (Below.refl _ _).alloc (Nat.le_refl _) _
        have HBP := Lib.hid (HBW.out.trans (hbp.mono HBW.out.size))
        obtain ⟨_, q1, q2, q3, q4⟩ := SP.out _ HBP.out
        have j2 : (j : Int) < 4 := by omega
        have j3 : (0 : Int) ≤ (j : Int) := by omega
        have x7 : IntKind.i64.wrap ((j : Int) + 1) = (j : Int) + 1 := i64w (by omega) (by omega)
        have HJ : Hid (j < 4) := Lib.hid hlt
        clear hjl hq hx hbp hj hlt
        by_cases g1 : px = lx
        · subst g1
          clear m1
          by_cases g2 : py = ly
          · subst g2
            clear m2
            go_wp2_with fail
            clear p2 p3 q1 q2 q3 q4 x7
            go_roundw
            case rel => exact ⟨j + 1, by have := HJ.out; go_num, by have := HJ.out; omega, HBP.out⟩
            case measure => first | (have := HJ.out; simp [intOf]; done) | (have := HJ.out; simp [intOf]; omega)
          · obtain rfl := m2.resolve_left g2
            have b3 : (py == ly) = false := by simpa using g2
            have b4 : decide (py = ly) = false := by simpa using g2
            clear m2
            go_wp2_with fail
            clear p2 p3 q1 q2 q3 q4 x7
            go_roundw
            case rel => exact ⟨j + 1, by have := HJ.out; go_num, by have := HJ.out; omega, HBP.out⟩
            case measure => first | (have := HJ.out; simp [intOf]; done) | (have := HJ.out; simp [intOf]; omega)
        · obtain rfl := m1.resolve_left g1
          have b1 : (px == lx) = false := by simpa using g1
          have b2 : decide (px = lx) = false := by simpa using g1
          clear m1
          by_cases g2 : py = ly
          · subst g2
            clear m2
            go_wp2_with fail
            clear p2 p3 q1 q2 q3 q4 x7
            go_roundw
            case rel => exact ⟨j + 1, by have := HJ.out; go_num, by have := HJ.out; omega, HBP.out⟩
            case measure => first | (have := HJ.out; simp [intOf]; done) | (have := HJ.out; simp [intOf]; omega)
          · obtain rfl := m2.resolve_left g2
            have b3 : (py == ly) = false := by simpa using g2
            have b4 : decide (py = ly) = false := by simpa using g2
            clear m2
            go_wp2_with fail
            clear p2 p3 q1 q2 q3 q4 x7
            go_roundw
            case rel => exact ⟨j + 1, by have := HJ.out; go_num, by have := HJ.out; omega, HBP.out⟩
            case measure => first | (have := HJ.out; simp [intOf]; done) | (have := HJ.out; simp [intOf]; omega)
      · have j2 : ¬ (j : Int) < 4 := by omega
        have HCA := Lib.hid fun U (hU : Below w1.heap.size w1 U) => rArea_any A2 P c2 U (HP2.out.below hU) HBI.out.2.1 HBI.out.1.2
        rw [HP4.out, HPA.out] at HCA
        unfold NmC at HCA
        obtain ⟨ar, har⟩ : ∃ a, 4 * (n * h) = a := ⟨_, rfl⟩
        rw [har] at HCA
        obtain ⟨vx, hvx⟩ : ∃ z : Int, ux - lx = z := ⟨_, rfl⟩
        obtain ⟨vy, hvy⟩ : ∃ z : Int, uy - ly = z := ⟨_, rfl⟩
        obtain ⟨v2, hv2⟩ : ∃ z : Int, 2 * vx = z := ⟨_, rfl⟩
        have hxy := HXY.out
        have hh := HH.out
        obtain ⟨e1, e2, e3, e4⟩ := HEQ.out
        have hpr := mul_in (a := n) (b := h) (A := 33554432) (B := 2048) (by omega) (by omega) (by omega) (by omega)
        have hpr2 : h * n = n * h := Int.mul_comm h n
        have hvv : v2 * vy = ar := by
          rw [show v2 = 2 * n by omega, show vy = 2 * h by omega, Int.mul_assoc, Int.mul_left_comm n 2 h]; omega
        have Z1 : Hid (IntKind.i64.wrap (ux - lx) = vx) := Lib.hid (by rw [hvx]; exact i64w (by omega) (by omega))
        have Z2 : Hid (IntKind.i64.wrap (2 * vx) = v2) := Lib.hid (by rw [hv2]; exact i64w (by omega) (by omega))
        have Z3 : Hid (IntKind.i64.wrap (uy - ly) = vy) := Lib.hid (by rw [hvy]; exact i64w (by omega) (by omega))
        have Z4 : Hid (IntKind.i64.wrap (v2 * vy) = ar) := Lib.hid (by rw [hvv]; exact i64w (by omega) (by omega))
        clear hlt hj hvx hvy hv2 hvv hxy hh e1 e2 e3 e4 hpr hpr2 har
        go_wp2_with fail
        have z1 := Z1.out
        have z2 := Z2.out
        have z3 := Z3.out
        have z4 := Z4.out
        have HK := SP.out _ HBW.out.drew
        go_region_held3 (fun U => U.cell? ad = some (.slice A2 4 c2) ∧ U.cell? ⟨gl, 0, none⟩ = some (.int .i64 lx) ∧ U.cell? ⟨gl, 1, none⟩ = some (.int .i64 ly) ∧ U.cell? ⟨gh, 0, none⟩ = some (.int .i64 ux) ∧ U.cell? ⟨gh, 1, none⟩ = some (.int .i64 uy))
          (first | exact HK | go_keep)
          (first
            | (go_at_call 17; refine (HCA.out _ HBW.out.drew).mono ?_; rintro e' w8 ⟨rfl, hb8⟩; have HB8 := Lib.hid (HBW.out.drew.trans (hb8.mono HBW.out.size)); clear HK; have HK := SP.out _ HB8.out; clear hb8)
            | (go_at_call 14; refine (awake_any _ (tab_below HT.out (HB1.out.trans (HB8.out.mono HB1.out.size)))).mono ?_; rintro e' w9 ⟨rfl, hb9⟩; have HB9 := Lib.hid (HB8.out.trans (hb9.mono HB8.out.size)); clear HK; have HK := SP.out _ HB9.out; clear hb9))
        go_wp2_with fail
        go_ret
        exact ⟨rfl, HB1.out.trans (HB9.out.mono HB1.out.size)⟩
  · by_cases d7 : 16777216 - y < n
    · have t7 : decide (16777216 - y < n) = true := decide_eq_true d7
      clear d7
      go_enter Tryd.func6, Tryd.ntmps6
      go_wp2_with fail
      refine (awake_any _ HT.out).mono ?_
      rintro e6 w6 ⟨rfl, hb6⟩
      have HB6 := Lib.hid hb6
      clear hb6
      go_wp2_with fail
      go_ret
      exact ⟨rfl, HB6.out⟩
    have t7 : decide (16777216 - y < n) = false := decide_eq_false d7
    by_cases d9 : h < 1
    · have t9 : decide (h < 1) = true := decide_eq_true d9
      clear d7 d9
      go_enter Tryd.func6, Tryd.ntmps6
      go_wp2_with fail
      refine (awake_any _ HT.out).mono ?_
      rintro e6 w6 ⟨rfl, hb6⟩
      have HB6 := Lib.hid hb6
      clear hb6
      go_wp2_with fail
      go_ret
      exact ⟨rfl, HB6.out⟩
    have t9 : decide (h < 1) = false := decide_eq_false d9
    by_cases d10 : 2048 < h
    · have t10 : decide (2048 < h) = true := decide_eq_true d10
      clear d7 d9 d10
      go_enter Tryd.func6, Tryd.ntmps6
      go_wp2_with fail
      refine (awake_any _ HT.out).mono ?_
      rintro e6 w6 ⟨rfl, hb6⟩
      have HB6 := Lib.hid hb6
      clear hb6
      go_wp2_with fail
      go_ret
      exact ⟨rfl, HB6.out⟩
    have t10 : decide (2048 < h) = false := decide_eq_false d10
    have HH : Hid (1 ≤ h ∧ h ≤ 2048 ∧ y + n ≤ 16777216) := Lib.hid (by omega)
    clear d7 d9 d10
    have HSE := Lib.hid (straight_v HXY.out.2.2.2.2.1 HH.out.1 HH.out.2.1 ⟨HXY.out.1, HXY.out.2.1⟩ HXY.out.2.2.1 HH.out.2.2)
    have Y1 : Hid (IntKind.i64.wrap (y + n) = y + n) := Lib.hid (by have h1 := HXY.out; have h2 := HH.out; exact i64w (by omega) (by omega))
    have Y2 : Hid (IntKind.i64.wrap (x - h) = x - h) := Lib.hid (by have h1 := HXY.out; have h2 := HH.out; exact i64w (by omega) (by omega))
    have Y3 : Hid (IntKind.i64.wrap (x + h) = x + h) := Lib.hid (by have h1 := HXY.out; have h2 := HH.out; exact i64w (by omega) (by omega))
    have Y4 : Hid (IntKind.i64.wrap (2 * h) = 2 * h) := Lib.hid (by have h1 := HXY.out; have h2 := HH.out; exact i64w (by omega) (by omega))
    have Y5 : Hid (IntKind.i64.wrap (x + n) = x + n) := Lib.hid (by have h1 := HXY.out; have h2 := HH.out; exact i64w (by omega) (by omega))
    have Y6 : Hid (IntKind.i64.wrap (y - h) = y - h) := Lib.hid (by have h1 := HXY.out; have h2 := HH.out; exact i64w (by omega) (by omega))
    have Y7 : Hid (IntKind.i64.wrap (y + h) = y + h) := Lib.hid (by have h1 := HXY.out; have h2 := HH.out; exact i64w (by omega) (by omega))
    have y5 := Y5.out
    have y6 := Y6.out
    have y7 := Y7.out
    have y1 := Y1.out
    have y2 := Y2.out
    have y3 := Y3.out
    have y4 := Y4.out
    go_enter Tryd.func6, Tryd.ntmps6
    go_upto_region 9 with fail
    have HN := Lib.hid (Bn.three W 30 30 30 #[.int .i64 x, .int .i64 (y + n)] #[.int .i64 (x - h), .int .i64 y] #[.int .i64 (x + h), .int .i64 (y + n)])
    obtain ⟨V, hV⟩ : ∃ V, ((W.alloc (.cells #[.int .i64 x, .int .i64 (y + n)] 30)).alloc (.cells #[.int .i64 (x - h), .int .i64 y] 30)).alloc (.cells #[.int .i64 (x + h), .int .i64 (y + n)] 30) = V := ⟨_, rfl⟩
    rw [hV] at HN
    rw [hV]
    have HBV := Lib.hid HN.out.b
    have HGt := Lib.hid (HN.out.get 0 rfl)
    have HGl := Lib.hid (HN.out.get 1 rfl)
    have HGh := Lib.hid (HN.out.get 2 rfl)
    clear HN hV
    obtain ⟨gt, hgt⟩ : ∃ q, W.heap.size = q := ⟨_, rfl⟩
    rw [hgt] at HGt HGl HGh
    rw [hgt]
    obtain ⟨gl, hgl⟩ : ∃ q, gt + 1 = q := ⟨_, rfl⟩
    rw [hgl] at HGl HGh
    rw [hgl]
    obtain ⟨gh, hgh⟩ : ∃ q, gl + 1 = q := ⟨_, rfl⟩
    rw [hgh] at HGh
    rw [hgh]
    clear hgt hgl hgh
    have s0 : V.cell? ⟨gt, 0, none⟩ = some (.int .i64 x) := HGt.out.cell 0
    have s1 : V.cell? ⟨gt, 1, none⟩ = some (.int .i64 (y + n)) := HGt.out.cell 1
    have H3 := Lib.hid (Bn.three V 30 36 4 #[.int .i64 x, .int .i64 y, .int .i64 x, .int .i64 (y + n)] #[.slice (some ⟨V.heap.size, 0, none⟩) 2 2] #[.bool true])
    obtain ⟨V3, hV3⟩ : ∃ U, ((V.alloc (.cells #[.int .i64 x, .int .i64 y, .int .i64 x, .int .i64 (y + n)] 30)).alloc (.cells #[.slice (some ⟨V.heap.size, 0, none⟩) 2 2] 36)).alloc (.cells #[.bool true] 4) = U := ⟨_, rfl⟩
    rw [hV3] at H3
    have HB3 := Lib.hid (HBV.out.trans (H3.out.b.mono HBV.out.size))
    have HC := Lib.hid (Outline_any (some ⟨V.heap.size + 1, 0, none⟩) 1 [[(x, y), (x, (y + n))]] (some ⟨V.heap.size + 1 + 1, 0, none⟩) 1 [true] (2 * h) 0 0 V3 (pol_two (H3.out.get 0 rfl) (H3.out.get 1 rfl)) (show 1 ≤ 140737488355328 by omega) (fun l hl => by simp only [List.mem_singleton] at hl; subst hl; show 2 ≤ 140737488355328; omega) (bor_blk (H3.out.get 2 rfl)) (show 1 ≤ 4611686018427387904 by omega) (tab_below HT.out HB3.out))
    obtain ⟨P, hF, hP4, hPm, hPa⟩ := HSE.out
    rw [hF] at HC
    unfold OuC at HC
    dsimp only at HC
    have HBI := Lib.hid ((outF_good (2 * h) 0 0 [[(x, y), (x, (y + n))]] [true]).1 P (by rw [hF]; simp))
    have HP4 := Lib.hid hP4
    have HPM := Lib.hid hPm
    have HPA := Lib.hid hPa
    have HGl3 := Lib.hid (HGl.out.below H3.out.b HGl.out.lt)
    have HGh3 := Lib.hid (HGh.out.below H3.out.b HGh.out.lt)
    clear hF hP4 hPm hPa H3 HSE
    go_wp2_with fail
    clear hV3
    refine HC.out.mono ?_
    rintro e1 w1 ⟨Aa, ca, rfl, hp1, hb1⟩
    have HB1 := Lib.hid (HB3.out.trans (hb1.mono HB3.out.size))
    have HGl1 := Lib.hid (HGl3.out.below hb1 HGl3.out.lt)
    have HGh1 := Lib.hid (HGh3.out.below hb1 HGh3.out.lt)
    obtain ⟨ad, rfl, _⟩ := hp1.addr (show 0 < 1 by omega)
    obtain ⟨A2, c2, d0, hp2⟩ := hp1.cell 0 (show 0 < 1 by omega)
    have e0 : ad.add 0 = ad := by cases ad; rfl
    have hg0 : [P].getD 0 [] = P := rfl
    rw [e0, hg0, HP4.out] at d0
    rw [hg0] at hp2
    have HP2 := Lib.hid hp2
    have SP : ∃ lx ly ux uy : Int, (lx = (x - h) ∧ ly = y ∧ ux = (x + h) ∧ uy = (y + n)) ∧ ∀ U, Below w1.heap.size w1 U → U.cell? ad = some (.slice A2 4 c2) ∧ U.cell? ⟨gl, 0, none⟩ = some (.int .i64 lx) ∧ U.cell? ⟨gl, 1, none⟩ = some (.int .i64 ly) ∧ U.cell? ⟨gh, 0, none⟩ = some (.int .i64 ux) ∧ U.cell? ⟨gh, 1, none⟩ = some (.int .i64 uy) := ⟨(x - h), y, (x + h), (y + n), ⟨rfl, rfl, rfl, rfl⟩, fun U hU =>
      ⟨(hU.cell (by have := World.block_lt_of_cell? w1 ad d0; exact this)).trans d0, (HGl1.out.below hU HGl1.out.lt).cell 0, (HGl1.out.below hU HGl1.out.lt).cell 1, (HGh1.out.below hU HGh1.out.lt).cell 0, (HGh1.out.below hU HGh1.out.lt).cell 1⟩⟩
    obtain ⟨lx, ly, ux, uy, heq, hsp⟩ := SP
    have SP := Lib.hid hsp
    have HEQ := Lib.hid heq
    have HPM2 : Hid (∀ p ∈ P, (p.1 = lx ∨ p.1 = ux) ∧ (p.2 = ly ∨ p.2 = uy)) := Lib.hid (by
      obtain ⟨e1, e2, e3, e4⟩ := heq
      rw [e1, e2, e3, e4]
      exact HPM.out)
    have hds := (SP.out _ (Below.refl _ _)).1
    clear hsp heq HPM d0
    have d0 := hds
    clear hds
    clear hp1 hp2 hb1 e0 hg0 HC s0 s1
    go_wp2_with fail
    clear d0
    go_loopw [145] (fun i wr => ∃ j : Nat, i = .int .i64 (j : Int) ∧ j ≤ 4 ∧ Below w1.heap.size w1 wr) (fun i _ => 4 - (intOf i).toNat)
    case atStart => exact ⟨0, rfl, by omega, Below.refl _ _⟩
    case round =>
      obtain ⟨j, rfl, hj, hbw⟩ := hrel
      have HBW := Lib.hid hbw
      clear hbw
      by_cases hlt : j < 4
      · have hjl : j < P.length := by rw [HP4.out]; exact hlt
        have hq := HP2.out.below HBW.out
        obtain ⟨a1, rfl, _⟩ := hq.addr (by omega)
        have p1 := pt_cells hq j hjl
        obtain ⟨m1, m2⟩ := HPM2.out _ (List.getElem_mem hjl)
        obtain ⟨⟨px, py⟩, hx⟩ : ∃ p, P[j] = p := ⟨_, rfl⟩
        rw [hx] at p1 m1 m2
        obtain ⟨p2, p3⟩ := p1
        dsimp only at p2 p3 m1 m2
        have hbp : Below wr.heap.size wr (wr.alloc (.cells #[.int .i64 px, .int .i64 py] 30)) := (Below.refl _ _).alloc (Nat.le_refl _) _
        have HBP := Lib.hid (HBW.out.trans (hbp.mono HBW.out.size))
        obtain ⟨_, q1, q2, q3, q4⟩ := SP.out _ HBP.out
        have j2 : (j : Int) < 4 := by omega
        have j3 : (0 : Int) ≤ (j : Int) := by omega
        have x7 : IntKind.i64.wrap ((j : Int) + 1) = (j : Int) + 1 := i64w (by omega) (by omega)
        have HJ : Hid (j < 4) := Lib.hid hlt
        clear hjl hq hx hbp hj hlt
        by_cases g1 : px = lx
        · subst g1
          clear m1
          by_cases g2 : py = ly
          · subst g2
            clear m2
            go_wp2_with fail
            clear p2 p3 q1 q2 q3 q4 x7
            go_roundw
            case rel => exact ⟨j + 1, by have := HJ.out; go_num, by have := HJ.out; omega, HBP.out⟩
            case measure => first | (have := HJ.out; simp [intOf]; done) | (have := HJ.out; simp [intOf]; omega)
          · obtain rfl := m2.resolve_left g2
            have b3 : (py == ly) = false := by simpa using g2
            have b4 : decide (py = ly) = false := by simpa using g2
            clear m2
            go_wp2_with fail
            clear p2 p3 q1 q2 q3 q4 x7
            go_roundw
            case rel => exact ⟨j + 1, by have := HJ.out; go_num, by have := HJ.out; omega, HBP.out⟩
            case measure => first | (have := HJ.out; simp [intOf]; done) | (have := HJ.out; simp [intOf]; omega)
        · obtain rfl := m1.resolve_left g1
          have b1 : (px == lx) = false := by simpa using g1
          have b2 : decide (px = lx) = false := by simpa using g1
          clear m1
          by_cases g2 : py = ly
          · subst g2
            clear m2
            go_wp2_with fail
            clear p2 p3 q1 q2 q3 q4 x7
            go_roundw
            case rel => exact ⟨j + 1, by have := HJ.out; go_num, by have := HJ.out; omega, HBP.out⟩
            case measure => first | (have := HJ.out; simp [intOf]; done) | (have := HJ.out; simp [intOf]; omega)
          · obtain rfl := m2.resolve_left g2
            have b3 : (py == ly) = false := by simpa using g2
            have b4 : decide (py = ly) = false := by simpa using g2
            clear m2
            go_wp2_with fail
            clear p2 p3 q1 q2 q3 q4 x7
            go_roundw
            case rel => exact ⟨j + 1, by have := HJ.out; go_num, by have := HJ.out; omega, HBP.out⟩
            case measure => first | (have := HJ.out; simp [intOf]; done) | (have := HJ.out; simp [intOf]; omega)
      · have j2 : ¬ (j : Int) < 4 := by omega
        have HCA := Lib.hid fun U (hU : Below w1.heap.size w1 U) => rArea_any A2 P c2 U (HP2.out.below hU) HBI.out.2.1 HBI.out.1.2
        rw [HP4.out, HPA.out] at HCA
        unfold NmC at HCA
        obtain ⟨ar, har⟩ : ∃ a, 4 * (h * n) = a := ⟨_, rfl⟩
        rw [har] at HCA
        obtain ⟨vx, hvx⟩ : ∃ z : Int, ux - lx = z := ⟨_, rfl⟩
        obtain ⟨vy, hvy⟩ : ∃ z : Int, uy - ly = z := ⟨_, rfl⟩
        obtain ⟨v2, hv2⟩ : ∃ z : Int, 2 * vx = z := ⟨_, rfl⟩
        have hxy := HXY.out
        have hh := HH.out
        obtain ⟨e1, e2, e3, e4⟩ := HEQ.out
        have hpr := mul_in (a := n) (b := h) (A := 33554432) (B := 2048) (by omega) (by omega) (by omega) (by omega)
        have hpr2 : h * n = n * h := Int.mul_comm h n
        have hvv : v2 * vy = ar := by
          rw [show v2 = 4 * h by omega, show vy = n by omega, Int.mul_assoc]; exact har
        have Z1 : Hid (IntKind.i64.wrap (ux - lx) = vx) := Lib.hid (by rw [hvx]; exact i64w (by omega) (by omega))
        have Z2 : Hid (IntKind.i64.wrap (2 * vx) = v2) := Lib.hid (by rw [hv2]; exact i64w (by omega) (by omega))
        have Z3 : Hid (IntKind.i64.wrap (uy - ly) = vy) := Lib.hid (by rw [hvy]; exact i64w (by omega) (by omega))
        have Z4 : Hid (IntKind.i64.wrap (v2 * vy) = ar) := Lib.hid (by rw [hvv]; exact i64w (by omega) (by omega))
        clear hlt hj hvx hvy hv2 hvv hxy hh e1 e2 e3 e4 hpr hpr2 har
        go_wp2_with fail
        have z1 := Z1.out
        have z2 := Z2.out
        have z3 := Z3.out
        have z4 := Z4.out
        have HK := SP.out _ HBW.out.drew
        go_region_held3 (fun U => U.cell? ad = some (.slice A2 4 c2) ∧ U.cell? ⟨gl, 0, none⟩ = some (.int .i64 lx) ∧ U.cell? ⟨gl, 1, none⟩ = some (.int .i64 ly) ∧ U.cell? ⟨gh, 0, none⟩ = some (.int .i64 ux) ∧ U.cell? ⟨gh, 1, none⟩ = some (.int .i64 uy))
          (first | exact HK | go_keep)
          (first
            | (go_at_call 17; refine (HCA.out _ HBW.out.drew).mono ?_; rintro e' w8 ⟨rfl, hb8⟩; have HB8 := Lib.hid (HBW.out.drew.trans (hb8.mono HBW.out.size)); clear HK; have HK := SP.out _ HB8.out; clear hb8)
            | (go_at_call 14; refine (awake_any _ (tab_below HT.out (HB1.out.trans (HB8.out.mono HB1.out.size)))).mono ?_; rintro e' w9 ⟨rfl, hb9⟩; have HB9 := Lib.hid (HB8.out.trans (hb9.mono HB8.out.size)); clear HK; have HK := SP.out _ HB9.out; clear hb9))
        go_wp2_with fail
        go_ret
        exact ⟨rfl, HB1.out.trans (HB9.out.mono HB1.out.size)⟩

open Go.ChangeShapes Go.WideShapes Go.ChangeAt Go.Joins Go.Deep

set_option maxRecDepth 100000 in
theorem contract (H : Type) (enc : TypeId × Value → H) (W : World) (base : Nat) (args : Array Value) (ds gs : List (DataW H)) (before : List MemPlace)
    (hval : ∀ (j : Nat) t v, Tryd.f6.params[j]? = some t → args[j]? = some v → Value.okWide Tryd.prog W .any base t v)
    (hW : DataW.Whole enc Tryd.prog Tryd.f6.params.toList Rows.strokeStraightSpec.vars false W args.toList ds gs before) (hL : laidMetH Tryd.prog Rows.strokeStraightRow.laid W)
    (hsz : (DataW.weightsEach Tryd.prog (Tryd.f6.params.toList ++ (OpenSpec.ofChange Rows.strokeStraightSpec).bare.plain.varTypes Tryd.prog) (ds ++ gs)).all (· ≤ reachBytes) = true) :
    Calls Tryd.prog 6 args W fun e W' => ∃ v, e = .returned v ∧ Rows.strokeStraightSpec.post enc Tryd.prog Tryd.f6 false true false false W args v W' := by
  have hW' := hW
  obtain ⟨p, q, hA0, hV, rfl, hfz, hnd⟩ := hW
  have hA : DataW.TrodAll enc Tryd.prog W 0 (fun _ => true) true Tryd.f6.params.toList args.toList ds p := hA0
  rw [Tryd.params6] at hA hval
  obtain ⟨v0, vs0, d0, ds0, p0, q0, hargs, rfl, rfl, g0, r0⟩ := trodAll_cons hA
  obtain ⟨v1, vs1, d1, ds1, p1, q1, rfl, rfl, rfl, g1, r1⟩ := trodAll_cons r0
  obtain ⟨v2, vs2, d2, ds2, p2, q2, rfl, rfl, rfl, g2, r2⟩ := trodAll_cons r1
  obtain ⟨v3, vs3, d3, ds3, p3, q3, rfl, rfl, rfl, g3, r3⟩ := trodAll_cons r2
  obtain ⟨v4, vs4, d4, ds4, p4, q4, rfl, rfl, rfl, g4, r4⟩ := trodAll_cons r3
  obtain ⟨rfl, rfl, rfl⟩ := trodAll_nil r4
  obtain rfl : args = #[v0, v1, v2, v3, v4] := by cases args; simp_all
  obtain ⟨rfl, rfl⟩ := trodVars_none hV
  obtain ⟨x0, rfl, rfl, rfl, w0⟩ := open_int Tryd.underlying3 (hval 0 3 v0 rfl rfl) g0
  have b0 := bounds_i64 w0
  obtain ⟨x1, rfl, rfl, rfl, w1⟩ := open_int Tryd.underlying3 (hval 1 3 v1 rfl rfl) g1
  have b1 := bounds_i64 w1
  obtain ⟨x2, rfl, rfl, rfl, w2⟩ := open_int Tryd.underlying3 (hval 2 3 v2 rfl rfl) g2
  have b2 := bounds_i64 w2
  obtain ⟨x3, rfl, rfl, rfl, w3⟩ := open_int Tryd.underlying3 (hval 3 3 v3 rfl rfl) g3
  have b3 := bounds_i64 w3
  obtain ⟨x4, rfl, rfl, rfl⟩ := open_bool Tryd.underlying4 (hval 4 4 v4 rfl rfl) g4
  clear hA0
  refine (walk x0 x1 x2 x3 x4 W b0 b1 b2 b3 (Num.tab_of_laid hL)).mono fun e W' ⟨he, hb⟩ => ?_
  subst he
  exact ⟨_, rfl, Frame.law_post Frame.laidOut (by kernel_rfl) Tryd.underlying4 (by kernel_rfl) rfl rfl hW' hb⟩

theorem laid_met (os : Os) : laidMet Tryd.prog Rows.strokeStraightRow.laid ((Num.laidWorld os).forCall (fun _ _ => 0) ⟨#[], #[Value.int .i64 0, Value.int .i64 0, Value.int .i64 0, Value.int .i64 0, Value.bool false], []⟩).memory :=
  laidMet_of_run' 8 (by kernel_rfl) (by kernel_rfl)
theorem reads (os : Os) {H : Type} (enc : TypeId × Value → H) : ∃ places, DataW.whole enc Tryd.prog ((Num.laidWorld os).forCall (fun _ _ => 0) ⟨#[], #[Value.int .i64 0, Value.int .i64 0, Value.int .i64 0, Value.int .i64 0, Value.bool false], []⟩).memory Tryd.f6.params.toList Rows.strokeStraightSpec.vars false #[Value.int .i64 0, Value.int .i64 0, Value.int .i64 0, Value.int .i64 0, Value.bool false].toList 8 = some ([.lit (.int .i64 0), .lit (.int .i64 0), .lit (.int .i64 0), .lit (.int .i64 0), .lit (.bool false)], [], places) :=
  ⟨[], by kernel_rfl⟩

set_option maxRecDepth 100000 in
theorem lifted (os : Os) (started : os.Started) (H : Type) (enc : TypeId × Value → H) (F : Stop.Interp) :
    ReturnsInHanded {} Tryd.checked os 6 .any ((OpenSpec.ofChange Rows.strokeStraightSpec).preRow enc Tryd.prog Tryd.f6 Rows.strokeStraightRow.domain false Rows.strokeStraightRow.laid) (((OpenSpec.ofChange Rows.strokeStraightSpec).at F).post enc Tryd.prog Tryd.f6 false true false false) := by
  obtain ⟨places, hx⟩ := reads os enc
  refine returnsInHanded_of_row (C := Tryd.checked) (s := OpenSpec.ofChange Rows.strokeStraightSpec) Frame.own started (by kernel_rfl) Tryd.func6
    (witness_row_at (enc := enc) (C := Tryd.checked) false (Num.laidWorld os) #[Value.int .i64 0, Value.int .i64 0, Value.int .i64 0, Value.int .i64 0, Value.bool false] rfl (by kernel_rfl) (by kernel_rfl) (by kernel_rfl)
      (OpenSpec.preRow_of_cond 8 hx (by kernel_rfl) (fun k hk => by cases hk) (by kernel_rfl) (laid_met os))) ?_
  intro W base args ds gs before hval hW _ _ hsz hL _ _
  exact contract H enc W base args ds gs before hval hW hL hsz

theorem said : Rows.StrokeStraightSaid :=
  OpenClaim.holds_of_cond 6 Tryd.f6 rfl rfl rfl rfl rfl rfl rfl ⟨rfl, rfl, rfl, rfl, rfl⟩ rfl rfl rfl rfl rfl (by kernel_rfl) Tryd.func6 (by kernel_rfl)
    (of_decide_eq_true (by kernel_rfl)) (by unfold Func.isWrapper; first | (rw [if_pos (by decide +kernel)]; kernel_rfl) | (rw [if_neg (by decide +kernel)]; exact ⟨rfl, rfl⟩))
    (fun os started H enc _ F => by rw [OpenClaim.pre_eq_preRow]; exact lifted os started H enc F)

theorem plain (f : FuncId) (fn : Func) (hf : Tryd.pinned.checked.prog.funcNamed "imageeditor/imageeditorlaw21.StrokeStraight" = some f) (hfn : Tryd.pinned.checked.prog.funcs[f]? = some fn) :
    false = Tryd.pinned.checked.prog.looks [] ∧ ∀ (j : Nat) t, fn.params[j]? = some t → Tryd.pinned.checked.prog.wantsStandIn t = false := by
  obtain rfl : f = 6 := Option.some.inj ((show Tryd.prog.funcNamed "imageeditor/imageeditorlaw21.StrokeStraight" = some 6 by kernel_rfl).symm.trans hf) |>.symm
  obtain rfl : fn = Tryd.f6 := (Option.some.inj (Tryd.func6.symm.trans hfn)).symm
  refine ⟨by kernel_rfl, fun j t ht => ?_⟩
  rw [Tryd.params6] at ht
  have hm : t = 3 ∨ t = 3 ∨ t = 3 ∨ t = 3 ∨ t = 4 := by simpa using Array.mem_of_getElem? ht
  rcases hm with rfl | rfl | rfl | rfl | rfl
  · exact (show Tryd.prog.wantsStandIn 3 = false by kernel_rfl)
  · exact (show Tryd.prog.wantsStandIn 3 = false by kernel_rfl)
  · exact (show Tryd.prog.wantsStandIn 3 = false by kernel_rfl)
  · exact (show Tryd.prog.wantsStandIn 3 = false by kernel_rfl)
  · exact (show Tryd.prog.wantsStandIn 4 = false by kernel_rfl)

theorem card : Rows.StrokeStraightCardSaid :=
  Claim7.holds_tied_plain_at .later [] _ _ _ _ said (fun _ h => by cases h) (by kernel_rfl) (fun _ h => by cases h) strokeStraight_row_tie rfl ⟨rfl, rfl⟩ (by kernel_rfl) rfl plain (by kernel_rfl)

end Go.Proofs.YtflopcogalknhaaDoor.StrokeStraight
