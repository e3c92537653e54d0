/-
  The dashes of layer 21 on a horizontal line hold just the units that the pattern says, and are in order, for any line, pattern and offset within the reach of the model.
-/
import Derived.Test.YtflopcogalknhaaDoorKStrAw
import Derived.Test.YtflopcogalknhaaDoorKStrFn
import Derived.Test.YtflopcogalknhaaDoorKStrUq
import Derived.Test.YtflopcogalknhaaDoorKStrRg
set_option linter.unusedVariables false
set_option linter.unusedSimpArgs false
namespace Go.Proofs.YtflopcogalknhaaDoor.StrokeUnits
open Go.RowKit Go.Proofs.YtflopcogalknhaaDoor Go.Proofs.YtflopcogalknhaaDoor.NumPure Go.Proofs.YtflopcogalknhaaDoor.Str

theorem dasF_nil {q : List Int} {z : Int} (h : ptnE q z = 0) : dasF [] [] q z = (0, []) := by
  unfold dasF
  rw [h, if_neg (fun h => h rfl)]
  rfl
theorem dasF_bad {ls : List (List P2)} {ob : List Bool} {q : List Int} {z : Int} (h : ptnE q z ≠ 0) : dasF ls ob q z = (ptnE q z, []) := by
  unfold dasF
  rw [if_pos h]
/-- Two points of a dash. -/
theorem sg_cells {w : World} {A : Option Addr} {S : List (Nat × Nat)} (h : PolR w A (S.map sg)) (k : Nat) (hk : k < S.length) : ∃ ad a c, A = some ad ∧ w.cell? (ad.add k) = some (.slice (some a) 2 c) ∧ (w.cell? a = some (.int .i64 ((S.getD k (0, 0)).1 : Nat)) ∧ w.cell? ⟨a.block, a.off + 1, none⟩ = some (.int .i64 0)) ∧ (w.cell? ⟨a.block, a.off + 2, none⟩ = some (.int .i64 ((S.getD k (0, 0)).2 : Nat)) ∧ w.cell? ⟨a.block, a.off + 2 + 1, none⟩ = some (.int .i64 0)) := by
  have hk2 : k < (S.map sg).length := by rw [List.length_map]; exact hk
  obtain ⟨ad, rfl, _⟩ := h.addr (by omega)
  obtain ⟨A2, c, d0, hp⟩ := h.cell k hk2
  have e : (S.map sg).getD k [] = sg (S.getD k (0, 0)) := by
    rw [List.getD_eq_getElem?_getD, List.getElem?_map, List.getElem?_eq_getElem hk, List.getD_eq_getElem?_getD, List.getElem?_eq_getElem hk]
    rfl
  rw [e] at d0 hp
  obtain ⟨a, rfl, _⟩ := hp.addr (show 0 < 2 by omega)
  obtain ⟨p0, p1⟩ := pt_cells hp 0 (show 0 < 2 by omega)
  obtain ⟨p2, p3⟩ := pt_cells hp 1 (show 1 < 2 by omega)
  have e0 : a.add (0 * 2) = a := by cases a; rfl
  rw [e0] at p0 p1
  exact ⟨ad, a, c, rfl, d0, ⟨p0, p1⟩, p2, p3⟩
set_option maxRecDepth 100000 in
set_option maxHeartbeats 4000000 in
theorem walk (x0 : Int) (A1 : Option Addr) (c1 : Nat) (x1 : List Int) (x2 : Int) (W : World) (_ : -9223372036854775808 ≤ x0 ∧ x0 ≤ 9223372036854775807) (hx1 : InR W A1 x1) (hn1 : x1.length ≤ 140737488351232) (_ : -9223372036854775808 ≤ x2 ∧ x2 ≤ 9223372036854775807) (hT : Num.Tab W) :
    Calls Tryd.prog 8 #[.int .i64 x0, .slice A1 x1.length c1, .int .i64 x2] W fun e w' => e = .returned (.bool true) ∧ Below W.heap.size W w' := by
  by_cases h1 : x0 < 1
  · have t1 : decide (x0 < 1) = true := decide_eq_true h1
    clear h1
    go_enter Tryd.func8, Tryd.ntmps8
    go_wp2_with fail
    refine (awake_any _ hT).mono ?_
    rintro e6 w6 ⟨rfl, hb6⟩
    have HB6 := Lib.hid hb6
    clear hb6
    go_wp2_with fail
    go_ret
    exact ⟨rfl, HB6.out⟩
  by_cases h2 : 4000 < x0
  · have t1 : decide (x0 < 1) = false := decide_eq_false h1
    have t2 : decide (4000 < x0) = true := decide_eq_true h2
    clear h1 h2
    go_enter Tryd.func8, Tryd.ntmps8
    go_wp2_with fail
    refine (awake_any _ hT).mono ?_
    rintro e6 w6 ⟨rfl, hb6⟩
    have HB6 := Lib.hid hb6
    clear hb6
    go_wp2_with fail
    go_ret
    exact ⟨rfl, HB6.out⟩
  obtain ⟨n, rfl⟩ : ∃ n : Nat, x0 = (n : Int) := ⟨x0.toNat, by omega⟩
  have HNB : Hid (1 ≤ n ∧ n ≤ 4000) := Lib.hid (by omega)
  have t1 : decide ((n : Int) < 1) = false := decide_eq_false h1
  have t2 : decide (4000 < (n : Int)) = false := decide_eq_false h2
  have HT := Lib.hid fun W' (hW : Below W.heap.size W W') => tab_below hT hW
  have HX := Lib.hid hx1
  have HXL : Hid (x1.length ≤ 140737488351232) := Lib.hid hn1
  obtain ⟨q, hq⟩ : ∃ n, x1.length = n := ⟨_, rfl⟩
  have HQ := Lib.hid hq
  rw [hq]
  clear h1 h2 hT hx1 hn1 hq
  go_enter Tryd.func8, Tryd.ntmps8
  go_wp2_with fail
  refine (line4 (0) (0) (n : Int) (0) _).mono ?_
  rintro e1 w1 ⟨Aa, ca, rfl, hp1, hb1⟩
  have HB1 := Lib.hid hb1
  have HP1 := Lib.hid hp1
  clear hb1 hp1 t1 t2
  go_wp2_with fail
  have hbb : Below w1.heap.size w1 (w1.alloc (.cells #[.bool true] 4)) := (Below.refl _ _).alloc (Nat.le_refl _) _
  have hob : BoR (w1.alloc (.cells #[.bool true] 4)) (some ⟨w1.heap.size, 0, none⟩) [true] := bor_blk (Blk.new _ _ _)
  have HC1 := Dash_any Aa ca [[(0, 0), ((n : Int), 0)]] (some ⟨w1.heap.size, 0, none⟩) 1 [true] A1 c1 x1 x2 _ (HP1.out.below hbb) (show 1 ≤ 140737488355328 by omega) (fun l hl => by simp only [List.mem_singleton] at hl; subst hl; show 2 ≤ 140737488355328; omega) hob (show 1 ≤ 4611686018427387904 by omega) (InR.below HX.out (HB1.out.trans (hbb.mono HB1.out.size))) (by have := HXL.out; omega)
  have HC2 := fun W' (hW : Below W.heap.size W W') => rDash_any none 0 [] none 0 [] A1 c1 x1 x2 W' (PolR.nil _) (show 0 ≤ 140737488355328 by omega) (fun l hl => by simp at hl) Reads.none_ (show 0 ≤ 4611686018427387904 by omega) (InR.below HX.out hW) (by have := HXL.out; omega)
  rw [HQ.out] at HC1 HC2
  have HBb := Lib.hid (HB1.out.trans (hbb.mono HB1.out.size))
  unfold OuC at HC2
  unfold OuK at HC1
  clear hbb hob
  by_cases he : ptnE x1 x2 = 0
  rotate_left
  · rw [dasF_bad he] at HC1 HC2
    obtain ⟨E, hE⟩ : ∃ E, ptnE x1 x2 = E := ⟨_, rfl⟩
    rw [hE] at HC1 HC2 he
    have he' : (E == 0) = false := by simpa using he
    have H1 := Lib.hid HC1
    have H2 := Lib.hid HC2
    clear HC1 HC2 hE he
    refine H1.out.mono ?_
    rintro e2 w2 ⟨Ad, cd, rfl, _, hb2, _⟩
    have HB2 := Lib.hid (HBb.out.trans (hb2.mono HBb.out.size))
    clear hb2 H1
    go_wp2_with fail
    refine (H2.out _ HB2.out).mono ?_
    rintro e3 w3 ⟨Ae, ce, rfl, _, hb3⟩
    have HB3 := Lib.hid (HB2.out.trans (hb3.mono HB2.out.size))
    clear hb3 H2
    go_wp2_with fail
    refine (awake_any _ (HT.out _ HB3.out)).mono ?_
    rintro e6 w6 ⟨rfl, hb6⟩
    have HB6 := Lib.hid (HB3.out.trans (hb6.mono HB3.out.size))
    clear hb6
    go_wp2_with fail
    go_ret
    exact ⟨rfl, HB6.out⟩
  · obtain ⟨p, o, S, hxp, hxo, ho, hpb, hF, hinv⟩ := unit_dasF HNB.out.1 HNB.out.2 he
    rw [hF] at HC1
    rw [dasF_nil he] at HC2
    dsimp only at HC1 HC2
    subst hxo
    have hpq : p.length = q := by have := HQ.out; rw [hxp, List.length_map] at this; exact this
    obtain ⟨pa, hpa, _⟩ := InR.addr HX.out (by have := HQ.out; have := hpb.1; omega)
    subst hpa
    have HNA : Hid (NaR W pa p) := Lib.hid (by have h := HX.out; rw [hxp] at h; exact h)
    obtain ⟨m, hm⟩ : ∃ m, S.length = m := ⟨_, rfl⟩
    have hml : (S.map sg).length = m := by rw [List.length_map]; exact hm
    rw [hml] at HC1
    have H1 := Lib.hid HC1
    have H2 := Lib.hid HC2
    have HO := Lib.hid ho
    have HPB := Lib.hid hpb
    have HI := Lib.hid hinv
    have HM := Lib.hid hm
    have HPQ := Lib.hid hpq
    have HMB : Hid (m ≤ 2001) := Lib.hid (by have h1 := hinv.cnt; have h2 := HNB.out; omega)
    clear HC1 HC2 hF hxp ho hpb hinv hm hml hpq he HX
    refine H1.out.mono ?_
    rintro e2 w2 ⟨Ad, cd, rfl, hp2, hb2, _⟩
    have HB2 := Lib.hid (HBb.out.trans (hb2.mono HBb.out.size))
    have HP2 := Lib.hid hp2
    clear hb2 H1 hp2
    go_wp2_with fail
    refine (H2.out _ HB2.out).mono ?_
    rintro e3 w3 ⟨Ae, ce, rfl, _, hb3⟩
    have HB3 := Lib.hid (HB2.out.trans (hb3.mono HB2.out.size))
    have HP3 := Lib.hid (HP2.out.below hb3)
    clear hb3 H2 HP2
    go_wp2_with fail
    refine (awake_any _ (HT.out _ HB3.out)).mono ?_
    rintro e4 w4 ⟨rfl, hb4⟩
    have HB4 := Lib.hid (HB3.out.trans (hb4.mono HB3.out.size))
    have HP4 := Lib.hid (HP3.out.below hb4)
    clear hb4 HP3
    go_wp2_with fail
    go_loopw [11, 55] (fun a i wr => ∃ k : Nat, i = .int .i64 (k : Int) ∧ k ≤ m ∧ a = .int .i64 (atS S k : Nat) ∧ Below w4.heap.size w4 wr) (fun _ i _ => m - (intOf i).toNat)
    case atStart => exact ⟨0, rfl, by omega, rfl, Below.refl _ _⟩
    case round =>
      obtain ⟨k, rfl, hk, rfl, hb0⟩ := hrel
      obtain ⟨Wk, rfl⟩ : ∃ W, W = wr := ⟨_, rfl⟩
      have HB0 := Lib.hid hb0
      have HPk := Lib.hid (HP4.out.below hb0)
      clear hb0
      by_cases hlt : k < m
      · obtain ⟨ad, a, c, rfl, d0, ⟨d1, d2⟩, d3, d4⟩ := sg_cells HPk.out k (by rw [HM.out]; exact hlt)
        obtain ⟨o1, o2, o3⟩ := HI.out.ord k (by rw [HM.out]; exact hlt)
        obtain ⟨⟨x, y⟩, hx⟩ : ∃ p, S.getD k (0, 0) = p := ⟨_, rfl⟩
        have hst : atS S (k + 1) = y := by rw [atS, hx]
        rw [hx] at d1 d3 o1 o2 o3
        dsimp only at d1 d3 o1 o2 o3
        obtain ⟨z, hz⟩ : ∃ z, atS S k = z := ⟨_, rfl⟩
        rw [hz] at o1 ⊢
        have HST := Lib.hid hst
        have k2 : (k : Int) < (m : Int) := by omega
        have k3 : (0 : Int) ≤ (k : Int) := by omega
        have t1 : decide (x < z) = false := decide_eq_false (by omega)
        have t2 : decide (y ≤ x) = false := decide_eq_false (by omega)
        have t3 : decide (n < y) = false := decide_eq_false (by omega)
        have x7 : IntKind.i64.wrap ((k : Int) + 1) = (k : Int) + 1 := i64w (by omega) (by have := HMB.out; omega)
        have d5 : Wk.cell? ⟨a.block, a.off + 3, none⟩ = some (.int .i64 0) := d4
        clear o1 o2 o3 hx hst hz
        go_upto_region 13 with fail
        dsimp only [List.append]
        go_quiet (fail)
        have HB1 := Lib.hid (drew_below (n := nq) HB0.out)
        go_wp2_with fail
        clear t1 t2 t3 d0 d1 d2 d3 d4 d5 x7
        go_roundw
        case rel => exact ⟨k + 1, by have := HMB.out; go_num, by omega, by rw [HST.out], HB1.out⟩
        case measure => first | (simp [intOf]; done) | (simp [intOf]; omega)
      · have k2 : ¬ (k : Int) < (m : Int) := by omega
        obtain rfl : m = k := by omega
        clear hlt hk HP4
        have HP4 := HPk
        have HB5a := Lib.hid (HB4.out.trans (HB0.out.mono HB4.out.size))
        clear HB4
        have HB4 := HB5a
        clear HB5a HPk
        go_wp2_with fail
        go_loopw [132] (fun i wr => ∃ s : Nat, i = .int .i64 (s : Int) ∧ s ≤ n ∧ Below Wk.heap.size Wk wr) (fun i _ => n - (intOf i).toNat)
        case atStart => exact ⟨0, rfl, by omega, Below.refl _ _⟩
        case round =>
          obtain ⟨s, rfl, hs, hbw⟩ := hrel
          have HBW := Lib.hid hbw
          clear hbw k2
          by_cases hlt : s < n
          · obtain ⟨x, hx⟩ : ∃ x, o + s = x := ⟨_, rfl⟩
            have HON := Lib.hid (On_any HPB.out (pc := c1) (InR.below HNA.out (HB4.out.trans (HBW.out.mono HB4.out.size))) x (by have := HO.out; have := HNB.out; omega))
            have hfa := fnS_all HI.out hlt
            rw [hx, HM.out] at hfa
            obtain ⟨b, hb⟩ : ∃ b, onB p x = b := ⟨_, rfl⟩
            rw [HPQ.out, hb] at HON
            rw [hb] at hfa
            have HFA := Lib.hid hfa
            have X1 : Hid (IntKind.i64.wrap ((o : Int) + (s : Int)) = (x : Int)) := Lib.hid (by rw [← hx, Int.natCast_add]; exact i64w (by omega) (by have := HO.out; have := HNB.out; omega))
            have HSN : Hid (s < n) := Lib.hid hlt
            have k2 : (s : Int) < (n : Int) := by omega
            have x1 := X1.out
            clear hx hfa hb hs hlt
            go_wp2_with fail
            refine HON.out.mono ?_
            rintro e5 w5 ⟨rfl, hb5⟩
            have HB5 := Lib.hid (HBW.out.trans (hb5.mono HBW.out.size))
            have HP5 := Lib.hid (HP4.out.below HB5.out)
            clear hb5 HON x1
            go_wp2_with fail
            go_loopw [16, 145] (fun f i wr => ∃ k : Nat, i = .int .i64 (k : Int) ∧ k ≤ m ∧ f = .bool (fnS S s k) ∧ w5 = wr) (fun _ i _ => m - (intOf i).toNat)
            case atStart => exact ⟨0, rfl, by omega, rfl, rfl⟩
            case round =>
              obtain ⟨k, rfl, hk, rfl, rfl⟩ := hrel
              by_cases hlt : k < m
              · obtain ⟨ad, a, c, rfl, d0, ⟨d1, _⟩, d3, _⟩ := sg_cells HP5.out k (by rw [HM.out]; exact hlt)
                have hst := fnS_step (S := S) (t := s) (k := k) (by rw [HM.out]; exact hlt)
                obtain ⟨⟨x, y⟩, hx⟩ : ∃ p, S.getD k (0, 0) = p := ⟨_, rfl⟩
                rw [hx] at d1 d3 hst
                dsimp only at d1 d3 hst
                obtain ⟨f, hf⟩ : ∃ f, fnS S s k = f := ⟨_, rfl⟩
                rw [hf] at hst ⊢
                have k5 : (k : Int) < (m : Int) := by omega
                have k3 : (0 : Int) ≤ (k : Int) := by omega
                have x7 : IntKind.i64.wrap ((k : Int) + 1) = (k : Int) + 1 := i64w (by omega) (by have := HMB.out; omega)
                by_cases h1 : x ≤ s
                · have t1 : decide (x ≤ s) = true := decide_eq_true (by omega)
                  by_cases h2 : s < y
                  · have t2 : decide (s < y) = true := decide_eq_true (by omega)
                    have HST : Hid (fnS S s (k + 1) = true) := Lib.hid (by rw [hst, decide_eq_true h1, decide_eq_true h2]; simp)
                    clear h1 h2 hst hx hf
                    go_wp2_with fail
                    clear t1 t2 d0 d1 d3 x7
                    go_roundw
                    case rel => exact ⟨k + 1, by have := HMB.out; go_num, by omega, by rw [HST.out], trivial⟩
                    case measure => first | (simp [intOf]; done) | (simp [intOf]; omega)
                  · have t2 : decide (s < y) = false := decide_eq_false (by omega)
                    have HST : Hid (fnS S s (k + 1) = f) := Lib.hid (by rw [hst, decide_eq_false h2]; simp)
                    clear h1 h2 hst hx hf
                    go_wp2_with fail
                    clear t1 t2 d0 d1 d3 x7
                    go_roundw
                    case rel => exact ⟨k + 1, by have := HMB.out; go_num, by omega, by rw [HST.out], trivial⟩
                    case measure => first | (simp [intOf]; done) | (simp [intOf]; omega)
                · have t1 : decide (x ≤ s) = false := decide_eq_false (by omega)
                  have HST : Hid (fnS S s (k + 1) = f) := Lib.hid (by rw [hst, decide_eq_false h1]; simp)
                  clear h1 hst hx hf
                  go_wp2_with fail
                  clear t1 d0 d1 d3 x7
                  go_roundw
                  case rel => exact ⟨k + 1, by have := HMB.out; go_num, by omega, by rw [HST.out], trivial⟩
                  case measure => first | (simp [intOf]; done) | (simp [intOf]; omega)
              · have k5 : ¬ (k : Int) < (m : Int) := by omega
                obtain rfl : m = k := by omega
                rw [HFA.out]
                have x7 : IntKind.i64.wrap ((s : Int) + 1) = (s : Int) + 1 := i64w (by omega) (by have := HNB.out; have := HSN.out; omega)
                clear hlt hk
                go_wp2_with fail
                clear x7
                go_roundw
                case rel => exact ⟨s + 1, by have := HNB.out; have := HSN.out; go_num, by have := HSN.out; omega, HB5.out⟩
                case measure => first | (have := HSN.out; simp [intOf]; done) | (have := HSN.out; simp [intOf]; omega)
          · have k2 : ¬ (s : Int) < (n : Int) := by omega
            go_wp2_with fail
            go_ret
            exact ⟨rfl, HB4.out.trans (HBW.out.mono HB4.out.size)⟩

open Go.ChangeShapes Go.WideShapes Go.ChangeAt Go.Joins Go.Deep

set_option maxRecDepth 100000 in
theorem contract (H : Type) (enc : TypeId × Value → H) (W : World) (base : Nat) (args : Array Value) (ds gs : List (DataW H)) (before : List MemPlace)
    (hval : ∀ (j : Nat) t v, Tryd.f8.params[j]? = some t → args[j]? = some v → Value.okWide Tryd.prog W .any base t v)
    (hW : DataW.Whole enc Tryd.prog Tryd.f8.params.toList Rows.strokeUnitsSpec.vars false W args.toList ds gs before) (hL : laidMetH Tryd.prog Rows.strokeUnitsRow.laid W)
    (hsz : (DataW.weightsEach Tryd.prog (Tryd.f8.params.toList ++ (OpenSpec.ofChange Rows.strokeUnitsSpec).bare.plain.varTypes Tryd.prog) (ds ++ gs)).all (· ≤ reachBytes) = true) :
    Calls Tryd.prog 8 args W fun e W' => ∃ v, e = .returned v ∧ Rows.strokeUnitsSpec.post enc Tryd.prog Tryd.f8 false true false false W args v W' := by
  have hW' := hW
  obtain ⟨p, q, hA0, hV, rfl, hfz, hnd⟩ := hW
  have hA : DataW.TrodAll enc Tryd.prog W 0 (fun _ => true) true Tryd.f8.params.toList args.toList ds p := hA0
  rw [Tryd.params8] at hA hval
  obtain ⟨v0, vs0, d0, ds0, p0, q0, hargs, rfl, rfl, g0, r0⟩ := trodAll_cons hA
  obtain ⟨v1, vs1, d1, ds1, p1, q1, rfl, rfl, rfl, g1, r1⟩ := trodAll_cons r0
  obtain ⟨v2, vs2, d2, ds2, p2, q2, rfl, rfl, rfl, g2, r2⟩ := trodAll_cons r1
  obtain ⟨rfl, rfl, rfl⟩ := trodAll_nil r2
  obtain rfl : args = #[v0, v1, v2] := by cases args; simp_all
  obtain ⟨rfl, rfl⟩ := trodVars_none hV
  obtain ⟨x0, rfl, rfl, rfl, w0⟩ := open_int Tryd.underlying3 (hval 0 3 v0 rfl rfl) g0
  have b0 := bounds_i64 w0
  have s1 : Small 33 d1 := fun n hn => by simpa using List.all_eq_true.1 hsz n (DataW.weights_mem_each (j := 1) (t := 33) rfl rfl n hn)
  obtain ⟨A1, c1, x1, rfl, hx1, hn1, hb1⟩ := arg_ints (hval 1 33 v1 rfl rfl) g1 s1
  obtain ⟨x2, rfl, rfl, rfl, w2⟩ := open_int Tryd.underlying3 (hval 2 3 v2 rfl rfl) g2
  have b2 := bounds_i64 w2
  clear hA0
  refine (walk x0 A1 c1 x1 x2 W b0 hx1 hn1 b2 (Num.tab_of_laid hL)).mono fun e W' ⟨he, hb⟩ => ?_
  subst he
  exact ⟨_, rfl, Frame.law_post Frame.laidOut (by kernel_rfl) Tryd.underlying4 (by kernel_rfl) rfl rfl hW' hb⟩

theorem laid_met (os : Os) : laidMet Tryd.prog Rows.strokeUnitsRow.laid ((Num.laidWorld os).forCall (fun _ _ => 0) ⟨#[], #[Value.int .i64 0, Value.slice none 0 0, Value.int .i64 0], []⟩).memory :=
  laidMet_of_run' 8 (by kernel_rfl) (by kernel_rfl)
theorem reads (os : Os) {H : Type} (enc : TypeId × Value → H) : ∃ places, DataW.whole enc Tryd.prog ((Num.laidWorld os).forCall (fun _ _ => 0) ⟨#[], #[Value.int .i64 0, Value.slice none 0 0, Value.int .i64 0], []⟩).memory Tryd.f8.params.toList Rows.strokeUnitsSpec.vars false #[Value.int .i64 0, Value.slice none 0 0, Value.int .i64 0].toList 8 = some ([.lit (.int .i64 0), .nil, .lit (.int .i64 0)], [], places) :=
  ⟨[], by kernel_rfl⟩

set_option maxRecDepth 100000 in
theorem lifted (os : Os) (started : os.Started) (H : Type) (enc : TypeId × Value → H) (F : Stop.Interp) :
    ReturnsInHanded {} Tryd.checked os 8 .any ((OpenSpec.ofChange Rows.strokeUnitsSpec).preRow enc Tryd.prog Tryd.f8 Rows.strokeUnitsRow.domain false Rows.strokeUnitsRow.laid) (((OpenSpec.ofChange Rows.strokeUnitsSpec).at F).post enc Tryd.prog Tryd.f8 false true false false) := by
  obtain ⟨places, hx⟩ := reads os enc
  refine returnsInHanded_of_row (C := Tryd.checked) (s := OpenSpec.ofChange Rows.strokeUnitsSpec) Frame.own started (by kernel_rfl) Tryd.func8
    (witness_row_at (enc := enc) (C := Tryd.checked) false (Num.laidWorld os) #[Value.int .i64 0, Value.slice none 0 0, Value.int .i64 0] rfl (by kernel_rfl) (by kernel_rfl) (by kernel_rfl)
      (OpenSpec.preRow_of_cond 8 hx (by kernel_rfl) (fun k hk => by cases hk) (by kernel_rfl) (laid_met os))) ?_
  intro W base args ds gs before hval hW _ _ hsz hL _ _
  exact contract H enc W base args ds gs before hval hW hL hsz

theorem said : Rows.StrokeUnitsSaid :=
  OpenClaim.holds_of_cond 8 Tryd.f8 rfl rfl rfl rfl rfl rfl rfl ⟨rfl, rfl, rfl, rfl, rfl⟩ rfl rfl rfl rfl rfl (by kernel_rfl) Tryd.func8 (by kernel_rfl)
    (of_decide_eq_true (by kernel_rfl)) (by unfold Func.isWrapper; first | (rw [if_pos (by decide +kernel)]; kernel_rfl) | (rw [if_neg (by decide +kernel)]; exact ⟨rfl, rfl⟩))
    (fun os started H enc _ F => by rw [OpenClaim.pre_eq_preRow]; exact lifted os started H enc F)

theorem plain (f : FuncId) (fn : Func) (hf : Tryd.pinned.checked.prog.funcNamed "imageeditor/imageeditorlaw21.StrokeUnits" = some f) (hfn : Tryd.pinned.checked.prog.funcs[f]? = some fn) :
    false = Tryd.pinned.checked.prog.looks [] ∧ ∀ (j : Nat) t, fn.params[j]? = some t → Tryd.pinned.checked.prog.wantsStandIn t = false := by
  obtain rfl : f = 8 := Option.some.inj ((show Tryd.prog.funcNamed "imageeditor/imageeditorlaw21.StrokeUnits" = some 8 by kernel_rfl).symm.trans hf) |>.symm
  obtain rfl : fn = Tryd.f8 := (Option.some.inj (Tryd.func8.symm.trans hfn)).symm
  refine ⟨by kernel_rfl, fun j t ht => ?_⟩
  rw [Tryd.params8] at ht
  have hm : t = 3 ∨ t = 33 ∨ t = 3 := by simpa using Array.mem_of_getElem? ht
  rcases hm with rfl | rfl | rfl
  · exact (show Tryd.prog.wantsStandIn 3 = false by kernel_rfl)
  · exact (show Tryd.prog.wantsStandIn 33 = false by kernel_rfl)
  · exact (show Tryd.prog.wantsStandIn 3 = false by kernel_rfl)

theorem card : Rows.StrokeUnitsCardSaid :=
  Claim7.holds_tied_plain_at .later [] _ _ _ _ said (fun _ h => by cases h) (by kernel_rfl) (fun _ h => by cases h) strokeUnits_row_tie rfl ⟨rfl, rfl⟩ (by kernel_rfl) rfl plain (by kernel_rfl)

end Go.Proofs.YtflopcogalknhaaDoor.StrokeUnits
