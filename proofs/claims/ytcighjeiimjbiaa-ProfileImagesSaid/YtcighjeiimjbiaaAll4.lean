/-
  Texts of this claim, joined (4 of 8): ProD, ProE, ProF, ProW, ProG, ProH, ProI, ProJ, ProK, ProL.
-/
import Derived.Test.YtcighjeiimjbiaaAll3
import Derived.Laws.StructEq
import Derived.Great.BuildSlice
import Derived.Maps.AppendAt
import Derived.OwnWalk
import Derived.Laws.MakeOwn
import Derived.Deep.DeepCutAuto
import Derived.Deep.MidRow

/- ProD: Layer 7, both sides: At. -/
namespace Go.Proofs.Ytcighjeiimjbiaa.Pro
open Go.RowKit Go.Proofs.Ytcighjeiimjbiaa Go.Proofs.Ytcighjeiimjbiaa.NumPure

def AtC (l : List K2) (x : Int) (w : World) (e : Ending) (w' : World) : Prop := e = .returned (.int .i64 (kAt l x)) ∧ Below w.heap.size w w'
theorem AtC.mk {l : List K2} {x z : Int} {w w' : World} (h : kAt l x = z) (hb : Below w.heap.size w w') : AtC l x w (.returned (.int .i64 z)) w' := ⟨by rw [h], hb⟩
set_option maxHeartbeats 2000000 in
theorem cat_any (A : Option Addr) (l : List K2) (c : Nat) (x : Int) (w : World) (h : KnR w A l) : Calls Try.prog 67 #[.slice A l.length c, .int .i64 x] w (AtC l x w) := by
  have hck := ccheck_any A l c w h
  have hv := fun (hg : GoodK l) (W : World) (hb : Below w.heap.size w W) => cvalue_any A l c x W (h.below hb) hg
  obtain ⟨z, hz⟩ : ∃ z, kErr l = z := ⟨_, rfl⟩
  by_cases h0 : z = 0
  · subst h0
    have hg := kErr_good hz
    have hk : kAt l x = kVal l x := by unfold kAt; rw [if_pos hz]
    have HK := Lib.hid hk
    have HV := Lib.hid hv
    have HG := Lib.hid hg
    unfold ErrC at hck
    rw [hz] at hck
    clear h hv hk hz hg
    go_enter Try.func67, Try.ntmps67
    go_wp2_with fail
    refine hck.mono ?_
    rintro e w1 ⟨rfl, hb⟩
    have hv2 := HV.out HG.out w1 hb
    have HB := Lib.hid hb
    clear hck hb
    go_wp2_with fail
    refine hv2.mono ?_
    rintro e w2 ⟨rfl, hb2⟩
    have HB2 := Lib.hid hb2
    clear hv2 hb2
    go_wp2_with fail
    go_ret
    exact AtC.mk HK.out (HB.out.trans (HB2.out.mono HB.out.size))
  · have hk : kAt l x = unt x := by unfold kAt; rw [if_neg (by rw [hz]; exact h0)]
    have hne : (z != 0) = true := by simpa using h0
    have HK := Lib.hid hk
    unfold ErrC at hck
    rw [hz] at hck
    clear h hv hk hz h0
    go_enter Try.func67, Try.ntmps67
    go_wp2_with fail
    refine hck.mono ?_
    rintro e w1 ⟨rfl, hb⟩
    have HB := Lib.hid hb
    clear hck hb
    go_wp2_with fail
    refine (cunit_any x w1).mono ?_
    rintro e w2 ⟨rfl, rfl⟩
    go_wp2_with fail
    go_ret
    exact AtC.mk HK.out HB.out

set_option maxRecDepth 100000 in
set_option maxHeartbeats 8000000 in
theorem rcat_any (A : Option Addr) (l : List K2) (c : Nat) (x : Int) (w : World) (h : KnR w A l) : Calls Try.prog 56 #[.slice A l.length c, .int .i64 x] w (AtC l x w) := by
  have hck := rccheck_any A l c w h
  obtain ⟨z, hz⟩ : ∃ z, kErr l = z := ⟨_, rfl⟩
  by_cases h0 : z = 0
  rotate_left
  · have hk : kAt l x = unt x := by unfold kAt; rw [if_neg (by rw [hz]; exact h0)]
    have hne : (z != 0) = true := by simpa using h0
    have HK := Lib.hid hk
    unfold ErrC at hck
    rw [hz] at hck
    clear h hk hz h0
    go_enter Try.func56, Try.ntmps56
    go_wp2_with fail
    refine hck.mono ?_
    rintro e w1 ⟨rfl, hb⟩
    have HB := Lib.hid hb
    clear hck hb
    go_wp2_with fail
    refine (Ref01.unit_any x w1).mono ?_
    rintro e w2 ⟨rfl, rfl⟩
    go_wp2_with fail
    go_ret
    exact AtC.mk HK.out HB.out
  · subst h0
    have hg := kErr_good hz
    have hkv : kAt l x = kVal l x := by unfold kAt; rw [if_pos hz]
    unfold ErrC at hck
    rw [hz] at hck
    obtain ⟨n, hn⟩ : ∃ n, l.length = n := ⟨_, rfl⟩
    rw [hn] at hck ⊢
    have h2 := hg.two
    have h16 := hg.max
    rw [hn] at h2 h16
    obtain ⟨ad, rfl, hadb⟩ := h.addr (by omega)
    have hl0 : 0 < l.length := by omega
    have hz0 : ad.add (0 * 2) = ad := by unfold Addr.add; simp
    have hv := kVal_first l hl0 x
    obtain ⟨x0, hx0⟩ : ∃ z, l[0].1 = z := ⟨_, rfl⟩
    obtain ⟨y0, hy0⟩ : ∃ z, l[0].2 = z := ⟨_, rfl⟩
    have hxx : l[0].1 ≤ x ↔ x0 ≤ x := by rw [hx0]
    have hc0 : ∀ W, Below w.heap.size w W → W.cell? ad = some (.int .i64 x0) ∧ W.cell? ⟨ad.block, ad.off + 1, none⟩ = some (.int .i64 y0) := fun W hW => by
      obtain ⟨c0, c1⟩ := kn_cells (h.below hW) 0 hl0
      rw [hz0, hx0] at c0
      rw [hz0, hy0] at c1
      exact ⟨c0, c1⟩
    rw [hx0, hy0] at hv
    have HC0 := Lib.hid hc0
    have HN := Lib.hid hn
    have H := Lib.hid h
    have HG := Lib.hid hg
    have HXX := Lib.hid hxx
    have HV := Lib.hid hv
    have HKV := Lib.hid hkv
    clear h hg hn hx0 hy0 hz0 hv hxx hkv hz hc0
    by_cases hx : x ≤ x0
    · have e : kVal l x = y0 := by rw [HV.out, if_pos hx]
      have HE := Lib.hid e
      clear e
      go_enter Try.func56, Try.ntmps56
      go_wp2_with fail
      refine hck.mono ?_
      rintro e w1 ⟨rfl, hb⟩
      obtain ⟨c0, c1⟩ := HC0.out w1 hb
      have HB := Lib.hid hb
      clear hck hb
      go_wp2_with fail
      go_ret
      exact AtC.mk (HKV.out.trans HE.out) HB.out
    · have e : kVal l x = valL (l.drop 1) l[0] x := by rw [HV.out, if_neg hx]
      have d0 : decide (x ≤ x0) = false := by simpa using hx
      have HE := Lib.hid e
      have H0 : Hid (l[0].1 ≤ x) := Lib.hid (HXX.out.2 (by omega))
      have HL0 := Lib.hid hl0
      clear e hx
      go_enter Try.func56, Try.ntmps56
      go_wp2_with fail
      refine hck.mono ?_
      rintro e w1 ⟨rfl, hb1⟩
      obtain ⟨c0, c1⟩ := HC0.out w1 hb1
      have HB1 := Lib.hid hb1
      clear hck hb1
      go_wp2_with fail
      clear d0 c0 c1
      go_loopw [5] (fun i wr => ∃ (m : Nat) (hm : m < l.length), i = .int .i64 ((m : Int) + 1) ∧ m + 1 ≤ n ∧ l[m].1 ≤ x ∧ valL (l.drop (m + 1)) l[m] x = kVal l x ∧ Below w.heap.size w wr) (fun i _ => (n - intOf i).toNat)
      case atStart => exact ⟨0, HL0.out, rfl, by omega, H0.out, HE.out.symm, HB1.out⟩
      case round =>
        obtain ⟨m, hm, rfl, hmn, hlx, hk, hb⟩ := hrel
        have w1' : IntKind.i64.wrap (m : Int) = (m : Int) := IntWalk.i64_in _ (by omega)
        by_cases hlt : m + 1 < n
        · have hm1 : m + 1 < l.length := by have := HN.out; omega
          rw [valL_step l m hm1 x] at hk
          have hr := H.out.below hb
          obtain ⟨a0, a1⟩ := kn_cells hr m hm
          obtain ⟨b0, b1⟩ := kn_cells hr (m + 1) hm1
          obtain ⟨p0, hp0⟩ : ∃ z, l[m].1 = z := ⟨_, rfl⟩
          obtain ⟨p1, hp1⟩ : ∃ z, l[m].2 = z := ⟨_, rfl⟩
          obtain ⟨q0, hq0⟩ : ∃ z, l[m + 1].1 = z := ⟨_, rfl⟩
          obtain ⟨q1, hq1⟩ : ∃ z, l[m + 1].2 = z := ⟨_, rfl⟩
          rw [hp0] at a0
          rw [hp1] at a1
          rw [hq0] at b0
          rw [hq1] at b1
          have hs := fun hx1 => seg_in HG.out m hm1 hp0 hp1 hq0 hq1 (by rw [← hp0]; exact hlx) hx1
          rw [hq0] at hk
          have hq0' : q0 ≤ x → l[m + 1].1 ≤ x := fun h => by rw [hq0]; exact h
          have hm2 : ((m : Int) + 1 < (n : Int)) := by omega
          have hmn1 : m < n := by omega
          have e1 : (0 : Int) ≤ (m : Int) + 1 := by omega
          have e2 : (-1 : Int) ≤ (m : Int) := by omega
          have e3 : ¬ ((m : Int) + 1 < 0) := by omega
          have e4 : ((m : Int) + 1).toNat = m + 1 := by omega
          have HB := Lib.hid hb
          by_cases hxq : x < q0
          · obtain ⟨⟨s0, s1⟩, ⟨s2, s3⟩, ⟨s4, s5⟩, ⟨s6, s7⟩, s8, s9, s10⟩ := hs hxq
            have hkk : kVal l x = seg l[m] l[m + 1] x := by
              rw [if_pos hxq] at hk
              exact hk.symm
            rw [s8] at hkk
            obtain ⟨dd, hdd⟩ : ∃ d, dvr ((q1 - p1) * (x - p0)) (q0 - p0) = d := ⟨_, rfl⟩
            have hdb := dvr_small s4 s6 s7
            rw [hdd] at hdb hkk
            have v1 : IntKind.i64.wrap (q1 - p1) = q1 - p1 := IntWalk.i64_in _ (by omega)
            have v2 : IntKind.i64.wrap (x - p0) = x - p0 := IntWalk.i64_in _ (by omega)
            have v3 : IntKind.i64.wrap (q0 - p0) = q0 - p0 := IntWalk.i64_in _ (by omega)
            have v4 : IntKind.i64.wrap ((q1 - p1) * (x - p0)) = (q1 - p1) * (x - p0) := IntWalk.i64_in _ (by omega)
            have v5 : IntKind.i64.wrap (p1 + dd) = p1 + dd := IntWalk.i64_in _ (by omega)
            have hdv := fun (W : World) => Ref01.div_is ((q1 - p1) * (x - p0)) (q0 - p0) dd hdd.symm (by omega) (by omega) (by omega) (by omega) W
            have HKK := Lib.hid hkk
            clear hkk hdd s0 s1 s2 s3 s6 s7 s8 s9 s10 hdb hs hk hr hlx hp0 hp1 hq0 hq1 hq0' hm1 hb
            go_wp2_with fail
            go_quiet ((go_at_call 85; exact Calls.quiet_of (hdv _)))
            go_wp2_with fail
            go_ret
            exact AtC.mk (HKV.out.trans HKK.out) (drew_below HB.out)
          · rw [if_neg hxq] at hk
            have hq0x := hq0' (by omega)
            have d0 : decide (x < q0) = false := by simpa using hxq
            have hk' : valL (l.drop (m + 2)) (l[m + 1]'hm1) x = kVal l x := hk
            have HKK := Lib.hid hk'
            have HQX := Lib.hid hq0x
            have HM1 := Lib.hid hm1
            clear hk hk' hq0x hxq hs hr hlx hp0 hp1 hq0 hq1 hq0' hb
            go_wp2_with fail
            go_roundw
            case rel => exact ⟨m + 1, HM1.out, by go_num, by omega, HQX.out, HKK.out, HB.out⟩
            case measure => simp [intOf]; omega
        · have hm1 : m + 1 = l.length := by have := HN.out; omega
          rw [valL_last l m hm1 x] at hk
          have hr := H.out.below hb
          obtain ⟨a0, a1⟩ := kn_cells hr m hm
          obtain ⟨p1, hp1⟩ : ∃ z, l[m].2 = z := ⟨_, rfl⟩
          rw [hp1] at a1 hk
          obtain rfl : m + 1 = n := by omega
          have HK := Lib.hid hk
          have HB := Lib.hid hb
          clear hk hb hr hp1 hm1
          go_wp2_with fail
          go_ret
          exact AtC.mk (HKV.out.trans HK.out.symm) HB.out

end Go.Proofs.Ytcighjeiimjbiaa.Pro

/- ProE: Layer 7, both sides: Rising. -/
namespace Go.Proofs.Ytcighjeiimjbiaa.Pro
open Go.RowKit Go.Proofs.Ytcighjeiimjbiaa Go.Proofs.Ytcighjeiimjbiaa.NumPure

theorem eqInKn (a b : K2) (w : World) : (Op.equalIn 10000 72 (.agg #[.int .i64 a.1, .int .i64 a.2]) (.agg #[.int .i64 b.1, .int .i64 b.2])).run Try.prog w = .ok (decide (a = b)) w := by
  obtain ⟨a0, a1⟩ := a
  obtain ⟨b0, b1⟩ := b
  have hp : Try.prog.stoodInHeld 72 = false := by kernel_rfl
  have hf : (Try.prog.fieldsOf 72).toList.map (fun f => (f.name, f.type, f.offset)) = [("X", 3, 0), ("Y", 3, 1)] := by kernel_rfl
  obtain ⟨f0, l0, hl, g0, hf⟩ := List.map_eq_cons_iff.1 hf
  obtain ⟨f1, l1, rfl, g1, hf⟩ := List.map_eq_cons_iff.1 hf
  obtain rfl := List.map_eq_nil_iff.1 hf
  simp only [Prod.mk.injEq] at g0 g1
  rw [run_equalIn_struct w 9999 72 _ _ (by kernel_rfl) hp, hl]
  simp only [Op.eqFields, g0, g1]
  have e := fun (x y : Int) (W : World) => run_equalIn_int (P := Try.prog) W 9998 3 .i64 .i64 x y Try.underlying3
  have u := fun (W : World) => run_underlying (w := W) Try.underlying3
  by_cases x0 : a0 = b0
  rotate_left
  · simp [part, isAgg, e, u, x0]
  by_cases x1 : a1 = b1
  rotate_left
  · simp [part, isAgg, e, u, x0, x1]
  simp [part, isAgg, e, u, x0, x1]
theorem eqlKn (a b : K2) (w : World) : (binOp .eql 72 (.agg #[.int .i64 a.1, .int .i64 a.2]) (.agg #[.int .i64 b.1, .int .i64 b.2])).run Try.prog w = .ok (.bool (decide (a = b))) w := by
  rw [run_eql_struct, eqInKn a b w]; rfl
theorem neqKn (a b : K2) (w : World) : (binOp .neq 72 (.agg #[.int .i64 a.1, .int .i64 a.2]) (.agg #[.int .i64 b.1, .int .i64 b.2])).run Try.prog w = .ok (.bool (!decide (a = b))) w := by
  rw [run_neq_struct, eqInKn a b w]; rfl
def RisC (l : List K2) (w : World) (e : Ending) (w' : World) : Prop := e = .returned (.bool (kRis l)) ∧ Below w.heap.size w w'
theorem RisC.mk {l : List K2} {w w' : World} {b : Bool} (h : kRis l = b) (hb : Below w.heap.size w w') : RisC l w (.returned (.bool b)) w' := ⟨by rw [h], hb⟩
theorem kRis_bad {l : List K2} (h : kErr l ≠ 0) : kRis l = false := by unfold kRis; simp [h]
theorem kRis_not {l : List K2} (j : Nat) (hj : j + 1 < l.length) (h : l[j + 1].2 ≤ l[j].2) : kRis l = false := by
  have : kRise l = false := by
    cases e : kRise l with
    | false => rfl
    | true => have := (kRise_iff l).1 e j hj; omega
  unfold kRis
  simp [this]
theorem kRis_ends {l : List K2} (h0 : kErr l = 0) (hr : ∀ i (h : i + 1 < l.length), l[i].2 < l[i + 1].2) (hl : 0 < l.length) : kRis l = (decide (l[0] = (0, 0)) && decide (l[l.length - 1] = (65535, 65535))) := by
  have e := (kRise_iff l).2 hr
  unfold kRis
  rw [e, h0, List.getElem?_eq_getElem hl, List.getElem?_eq_getElem (show l.length - 1 < l.length by omega)]
  simp
theorem kRis_first {l : List K2} (hl : 0 < l.length) (h : l[0] ≠ (0, 0)) : kRis l = false := by
  unfold kRis
  rw [List.getElem?_eq_getElem hl]
  simp [h]
theorem kRis_last {l : List K2} (hl : 0 < l.length) (h : l[l.length - 1] ≠ (65535, 65535)) : kRis l = false := by
  unfold kRis
  rw [List.getElem?_eq_getElem (show l.length - 1 < l.length by omega)]
  simp [h]
theorem rise_snoc {l : List K2} {m : Nat} (h : ∀ i (h : i + 1 < l.length), i < m → l[i].2 < l[i + 1].2) (hm : m + 1 < l.length) (hl : l[m].2 < l[m + 1].2) : ∀ i (h : i + 1 < l.length), i < m + 1 → l[i].2 < l[i + 1].2 := fun i hi h1 => by
  rcases Nat.lt_or_ge i m with h2 | h2
  · exact h i hi h2
  · obtain rfl : i = m := by omega
    exact hl

set_option maxRecDepth 100000 in
set_option maxHeartbeats 8000000 in
theorem crising_any (A : Option Addr) (l : List K2) (c : Nat) (w : World) (h : KnR w A l) : Calls Try.prog 48 #[.slice A l.length c] w (RisC l w) := by
  have hck := ccheck_any A l c w h
  obtain ⟨z, hz⟩ : ∃ z, kErr l = z := ⟨_, rfl⟩
  by_cases h0 : z = 0
  rotate_left
  · have hk : kRis l = false := kRis_bad (by rw [hz]; exact h0)
    have hne : (z != 0) = true := by simpa using h0
    have HK := Lib.hid hk
    unfold ErrC at hck
    rw [hz] at hck
    clear h hk hz h0
    go_enter Try.func48, Try.ntmps48
    go_wp2_with fail
    refine hck.mono ?_
    rintro e w1 ⟨rfl, hb⟩
    have HB := Lib.hid hb
    clear hck hb
    go_wp2_with fail
    go_ret
    exact RisC.mk HK.out HB.out
  · subst h0
    have hg := kErr_good hz
    unfold ErrC at hck
    rw [hz] at hck
    obtain ⟨n, hn⟩ : ∃ n, l.length = n := ⟨_, rfl⟩
    rw [hn] at hck ⊢
    have h2 := hg.two
    have h16 := hg.max
    rw [hn] at h2 h16
    obtain ⟨ad, rfl, hadb⟩ := h.addr (by omega)
    have hl0 : 0 < l.length := by omega
    have HN := Lib.hid hn
    have H := Lib.hid h
    have HZ := Lib.hid hz
    clear h hg hn hz
    go_enter Try.func48, Try.ntmps48
    go_wp2_with fail
    refine hck.mono ?_
    rintro e w1 ⟨rfl, hb1⟩
    have HB1 := Lib.hid hb1
    clear hck hb1
    go_wp2_with fail
    go_loopw [3] (fun i wr => ∃ (m : Nat), i = .int .i64 ((m : Int) + 1) ∧ m + 1 ≤ n ∧ (∀ i (h : i + 1 < l.length), i < m → l[i].2 < l[i + 1].2) ∧ Below w.heap.size w wr) (fun i _ => (n - intOf i).toNat)
    case atStart => exact ⟨0, rfl, by omega, fun i hi h => by omega, HB1.out⟩
    case round =>
      obtain ⟨m, rfl, hmn, hri, hb⟩ := hrel
      have w1' : IntKind.i64.wrap (m : Int) = (m : Int) := IntWalk.i64_in _ (by omega)
      have e1 : (0 : Int) ≤ (m : Int) + 1 := by omega
      have e2 : (-1 : Int) ≤ (m : Int) := by omega
      have e3 : ¬ ((m : Int) + 1 < 0) := by omega
      have e4 : ((m : Int) + 1).toNat = m + 1 := by omega
      have hr := H.out.below hb
      have HB := Lib.hid hb
      have HR := Lib.hid hri
      clear hri
      by_cases hlt : m + 1 < n
      · have hm : m < l.length := by have := HN.out; omega
        have hm1 : m + 1 < l.length := by have := HN.out; omega
        obtain ⟨a0, a1⟩ := kn_cells hr m hm
        obtain ⟨b0, b1⟩ := kn_cells hr (m + 1) hm1
        obtain ⟨p1, hp1⟩ : ∃ z, l[m].2 = z := ⟨_, rfl⟩
        obtain ⟨q1, hq1⟩ : ∃ z, l[m + 1].2 = z := ⟨_, rfl⟩
        rw [hp1] at a1
        rw [hq1] at b1
        have hm2 : ((m : Int) + 1 < (n : Int)) := by omega
        have hmn1 : m < n := by omega
        by_cases hle : q1 ≤ p1
        · have hk := kRis_not m hm1 (by rw [hp1, hq1]; exact hle)
          have HK := Lib.hid hk
          clear hk hp1 hq1 hr hb
          go_wp2_with fail
          go_quiet (fail)
          go_wp2_with fail
          go_ret
          exact RisC.mk HK.out (drew_below HB.out)
        · have hs := rise_snoc HR.out hm1 (by rw [hp1, hq1]; omega)
          have d0 : decide (q1 ≤ p1) = false := by simpa using hle
          have HS := Lib.hid hs
          clear hs hp1 hq1 hr hb hle
          go_wp2_with fail
          go_quiet (fail)
          go_wp2_with fail
          go_roundw
          case rel => exact ⟨m + 1, by go_num, by omega, HS.out, drew_below HB.out⟩
          case measure => simp [intOf]; omega
      · obtain rfl : m + 1 = n := by omega
        have hm : m < l.length := by have := HN.out; omega
        have hz0 : ad.add (0 * 2) = ad := by unfold Addr.add; simp
        have hk := kRis_ends HZ.out (fun i hi => HR.out i hi (by have := HN.out; omega)) hl0
        obtain ⟨c0, c1⟩ := kn_cells hr 0 hl0
        rw [hz0] at c0 c1
        obtain ⟨a0, a1⟩ := kn_cells hr m hm
        have hlast : l[l.length - 1]'(by omega) = l[m] := by congr 1; have := HN.out; omega
        rw [hlast] at hk
        obtain ⟨f, hf⟩ : ∃ f, l[0] = f := ⟨_, rfl⟩
        obtain ⟨g, hg⟩ : ∃ g, l[m] = g := ⟨_, rfl⟩
        rw [hf] at c0 c1 hk
        rw [hg] at a0 a1 hk
        have q1 := fun W => eqlKn f (0, 0) W
        have q2 := fun W => eqlKn g (65535, 65535) W
        simp only at q1 q2
        have HK := Lib.hid hk
        clear hk hf hg hlast hr hb hlt
        by_cases hf0 : f = (0, 0)
        · rw [decide_eq_true hf0] at q1
          have HF := Lib.hid (decide_eq_true hf0)
          obtain ⟨dg, hdg⟩ : ∃ d, decide (g = (65535, 65535)) = d := ⟨_, rfl⟩
          rw [hdg] at q2
          have HG := Lib.hid hdg
          clear hf0 hdg
          go_wp2_with fail
          go_ret
          exact RisC.mk (by rw [HK.out, HF.out, HG.out]; rfl) HB.out
        · rw [decide_eq_false hf0] at q1
          have HF := Lib.hid (decide_eq_false hf0)
          clear hf0
          go_wp2_with fail
          go_ret
          exact RisC.mk (by rw [HK.out, HF.out]; rfl) HB.out

end Go.Proofs.Ytcighjeiimjbiaa.Pro

/- ProF: Layer 7, the document's answer: Rising. -/
namespace Go.Proofs.Ytcighjeiimjbiaa.Pro
open Go.RowKit Go.Proofs.Ytcighjeiimjbiaa Go.Proofs.Ytcighjeiimjbiaa.NumPure

set_option maxRecDepth 100000 in
set_option maxHeartbeats 8000000 in
theorem rcrising_any (A : Option Addr) (l : List K2) (c : Nat) (w : World) (h : KnR w A l) : Calls Try.prog 52 #[.slice A l.length c] w (RisC l w) := by
  have hck := rccheck_any A l c w h
  obtain ⟨z, hz⟩ : ∃ z, kErr l = z := ⟨_, rfl⟩
  by_cases h0 : z = 0
  rotate_left
  · have hk : kRis l = false := kRis_bad (by rw [hz]; exact h0)
    have hne : (z != 0) = true := by simpa using h0
    have HK := Lib.hid hk
    unfold ErrC at hck
    rw [hz] at hck
    clear h hk hz h0
    go_enter Try.func52, Try.ntmps52
    go_wp2_with fail
    refine hck.mono ?_
    rintro e w1 ⟨rfl, hb⟩
    have HB := Lib.hid hb
    clear hck hb
    go_wp2_with fail
    go_ret
    exact RisC.mk HK.out HB.out
  · subst h0
    have hg := kErr_good hz
    unfold ErrC at hck
    rw [hz] at hck
    obtain ⟨n, hn⟩ : ∃ n, l.length = n + 1 := ⟨l.length - 1, by have := hg.two; omega⟩
    rw [hn] at hck ⊢
    have h2 := hg.two
    have h16 := hg.max
    rw [hn] at h2 h16
    obtain ⟨ad, rfl, hadb⟩ := h.addr (by omega)
    have hl0 : 0 < l.length := by omega
    have hln : n < l.length := by omega
    have hz0 : ad.add (0 * 2) = ad := by unfold Addr.add; simp
    have hlast : l[l.length - 1]'(by omega) = l[n] := by congr 1; omega
    have hfst := fun hne => kRis_first hl0 (l := l) hne
    have hlst := fun hne => kRis_last hl0 (l := l) hne
    have hend := fun hr => kRis_ends hz hr hl0
    rw [hlast] at hlst hend
    obtain ⟨f, hf⟩ : ∃ f, l[0] = f := ⟨_, rfl⟩
    obtain ⟨g, hgg⟩ : ∃ g, l[n] = g := ⟨_, rfl⟩
    rw [hf] at hfst hend
    rw [hgg] at hlst hend
    have hcc : ∀ W, Below w.heap.size w W → (W.cell? ad = some (.int .i64 f.1) ∧ W.cell? ⟨ad.block, ad.off + 1, none⟩ = some (.int .i64 f.2)) ∧ W.cell? (ad.add (n * 2)) = some (.int .i64 g.1) ∧ W.cell? ⟨(ad.add (n * 2)).block, (ad.add (n * 2)).off + 1, none⟩ = some (.int .i64 g.2) := fun W hW => by
      have c0 := kn_cells (h.below hW) 0 hl0
      have c1 := kn_cells (h.below hW) n hln
      rw [hz0, hf] at c0
      rw [hgg] at c1
      exact ⟨c0, c1⟩
    have q1 := fun W => neqKn f (0, 0) W
    have q2 := fun W => neqKn g (65535, 65535) W
    simp only at q1 q2
    have w0 : IntKind.i64.wrap (n : Int) = (n : Int) := IntWalk.i64_in _ (by omega)
    have HCC := Lib.hid hcc
    have HN := Lib.hid hn
    have H := Lib.hid h
    have HFS := Lib.hid hfst
    have HLS := Lib.hid hlst
    have HEN := Lib.hid hend
    clear h hg hz hcc hfst hlst hend hlast hf hgg hz0 hl0 hln
    by_cases hf0 : f = (0, 0)
    rotate_left
    · rw [decide_eq_false hf0] at q1
      have HK := Lib.hid (HFS.out hf0)
      clear hf0 hn
      go_enter Try.func52, Try.ntmps52
      go_wp2_with fail
      refine hck.mono ?_
      rintro e w1 ⟨rfl, hb⟩
      obtain ⟨⟨c0, c1⟩, _⟩ := HCC.out w1 hb
      have HB := Lib.hid hb
      clear hck hb
      go_wp2_with fail
      go_ret
      exact RisC.mk HK.out HB.out
    rw [decide_eq_true hf0] at q1
    by_cases hg0 : g = (65535, 65535)
    rotate_left
    · rw [decide_eq_false hg0] at q2
      have HK := Lib.hid (HLS.out hg0)
      clear hf0 hg0 hn
      go_enter Try.func52, Try.ntmps52
      go_wp2_with fail
      refine hck.mono ?_
      rintro e w1 ⟨rfl, hb⟩
      obtain ⟨⟨c0, c1⟩, c2, c3⟩ := HCC.out w1 hb
      have HB := Lib.hid hb
      clear hck hb
      go_wp2_with fail
      go_ret
      exact RisC.mk HK.out HB.out
    rw [decide_eq_true hg0] at q2
    have HKE := Lib.hid (fun hr => (HEN.out hr).trans (by rw [decide_eq_true hf0, decide_eq_true hg0]; rfl) : (∀ i (h : i + 1 < l.length), l[i].2 < l[i + 1].2) → kRis l = true)
    clear hf0 hg0
    go_enter Try.func52, Try.ntmps52
    go_wp2_with fail
    refine hck.mono ?_
    rintro e w1 ⟨rfl, hb1⟩
    obtain ⟨⟨c0, c1⟩, c2, c3⟩ := HCC.out w1 hb1
    have HB1 := Lib.hid hb1
    clear hck hb1
    go_wp2_with fail
    clear c0 c1 c2 c3
    go_loopw [3] (fun i wr => ∃ (m : Nat), i = .int .i64 ((m : Int) + 1) ∧ m ≤ n ∧ (∀ i (h : i + 1 < l.length), i < m → l[i].2 < l[i + 1].2) ∧ Below w.heap.size w wr) (fun i _ => (n + 1 - intOf i).toNat)
    case atStart => exact ⟨0, rfl, by omega, fun i hi h => by omega, HB1.out⟩
    case round =>
      obtain ⟨m, rfl, hmn, hri, hb⟩ := hrel
      have w1' : IntKind.i64.wrap (m : Int) = (m : Int) := IntWalk.i64_in _ (by omega)
      have e1 : (0 : Int) ≤ (m : Int) + 1 := by omega
      have e2 : (-1 : Int) ≤ (m : Int) := by omega
      have e3 : ¬ ((m : Int) + 1 < 0) := by omega
      have e4 : ((m : Int) + 1).toNat = m + 1 := by omega
      have hr := H.out.below hb
      have HB := Lib.hid hb
      have HR := Lib.hid hri
      clear hri
      by_cases hlt : m < n
      · have hm : m < l.length := by have := HN.out; omega
        have hm1 : m + 1 < l.length := by have := HN.out; omega
        obtain ⟨a0, a1⟩ := kn_cells hr m hm
        obtain ⟨b0, b1⟩ := kn_cells hr (m + 1) hm1
        obtain ⟨p1, hp1⟩ : ∃ z, l[m].2 = z := ⟨_, rfl⟩
        obtain ⟨q1', hq1⟩ : ∃ z, l[m + 1].2 = z := ⟨_, rfl⟩
        rw [hp1] at a1
        rw [hq1] at b1
        have hm2 : ((m : Int) + 1 < (n : Int) + 1) := by omega
        have hmn1 : m < n + 1 := by omega
        have hm3 : m + 1 < n + 1 := by omega
        by_cases hle : q1' ≤ p1
        · have hk := kRis_not m hm1 (by rw [hp1, hq1]; exact hle)
          have HK := Lib.hid hk
          clear hk hp1 hq1 hr hb
          go_wp2_with fail
          go_quiet (fail)
          go_wp2_with fail
          go_ret
          exact RisC.mk HK.out (drew_below HB.out)
        · have hs := rise_snoc HR.out hm1 (by rw [hp1, hq1]; omega)
          have d0 : decide (q1' ≤ p1) = false := by simpa using hle
          have HS := Lib.hid hs
          clear hs hp1 hq1 hr hb hle
          go_wp2_with fail
          go_quiet (fail)
          go_wp2_with fail
          go_roundw
          case rel => exact ⟨m + 1, by go_num, by omega, HS.out, drew_below HB.out⟩
          case measure => simp [intOf]; omega
      · obtain rfl : m = n := by omega
        have hk := HKE.out (fun i hi => HR.out i hi (by have := HN.out; omega))
        have HK := Lib.hid hk
        clear hk hr hb hlt
        go_wp2_with fail
        go_ret
        exact RisC.mk HK.out HB.out

end Go.Proofs.Ytcighjeiimjbiaa.Pro

/- ProW: Layer 9: rows that are appended to. -/
namespace Go.Proofs.Ytcighjeiimjbiaa.Pro
open Go.RowKit Go.Proofs.Ytcighjeiimjbiaa

theorem own_lt {w : World} {base e size n : Nat} {v : Value} {xs : List Value} (h : w.ownsRow base e size v n xs) : ∀ k, v.ownBlock = some k → k < w.heap.size := fun k hk => by
  rcases h.2 with ⟨rfl, rfl⟩ | ⟨g, cap, cur, rfl, _, hh, _⟩
  · simp [Value.ownBlock] at hk
  · obtain rfl : g = k := by simpa [Value.ownBlock] using hk
    exact (Array.getElem?_eq_some_iff.1 hh).1
theorem own_low {w : World} {base e size n : Nat} {v : Value} {xs : List Value} (h : w.ownsRow base e size v n xs) : ∀ k, v.ownBlock = some k → base ≤ k := fun k hk => by
  rcases h.2 with ⟨rfl, rfl⟩ | ⟨g, cap, cur, rfl, hb, _⟩
  · simp [Value.ownBlock] at hk
  · obtain rfl : g = k := by simpa [Value.ownBlock] using hk
    exact hb
theorem own_shape {w : World} {base e size n : Nat} {v : Value} {xs : List Value} (h : w.ownsRow base e size v (n + 1) xs) : ∃ o cap, v = .slice (some ⟨o, 0, none⟩) (n + 1) cap := by
  rcases h.2 with ⟨_, h0⟩ | ⟨g, cap, cur, rfl, _⟩
  · omega
  · exact ⟨g, cap, rfl⟩
theorem own_open {w : World} {base e size n : Nat} {v : Value} {xs : List Value} (h : w.ownsRow base e size v n xs) : ∃ A cap, v = .slice A n cap ∧ n ≤ cap ∧ Reads w w.heap.size size A n xs := by
  rcases h.2 with ⟨rfl, rfl⟩ | ⟨g, cap, cur, rfl, hb, hh, hn, _⟩
  · exact ⟨none, 0, rfl, Nat.le_refl _, Reads.of_own h⟩
  · exact ⟨_, cap, rfl, hn, Reads.of_own h⟩
theorem own_at {w w' : World} {base e size n : Nat} {v : Value} {xs : List Value} (h : w.ownsRow base e size v n xs) (hk : ∀ k, v.ownBlock = some k → w'.heap[k]? = w.heap[k]?) : w'.ownsRow base e size v n xs := by
  refine ⟨h.1, ?_⟩
  rcases h.2 with h0 | ⟨g, cap, cur, rfl, hb, hh, r⟩
  · exact .inl h0
  · exact .inr ⟨g, cap, cur, rfl, hb, (hk g (by simp [Value.ownBlock])).trans hh, r⟩
theorem own_below {w w' : World} {base e size n : Nat} {v : Value} {xs : List Value} (h : w.ownsRow base e size v n xs) (hb : Below w.heap.size w w') : w'.ownsRow base e size v n xs := own_at h fun k hk => hb.block k (own_lt h k hk)
/-- A row that the call itself has made, and a literal that waits. -/
structure R1 (t sz : Nat) (w0 : World) (v : Value) (n : Nat) (xs : List Value) (l : Option (Nat × Array Value)) (W : World) : Prop where
  row : W.ownsRow w0.heap.size t sz v n xs
  new : ∀ g cs, l = some (g, cs) → Blk W g t cs ∧ v.ownBlock ≠ some g
  below : Below w0.heap.size w0 W
section
variable {t sz : Nat} {w0 W w' : World} {v : Value} {n : Nat} {xs : List Value} {l : Option (Nat × Array Value)}
theorem R1.later (h : R1 t sz w0 v n xs l W) (hb : Below W.heap.size W w') : R1 t sz w0 v n xs l w' :=
  ⟨own_below h.row hb, fun g cs e => ⟨(h.new g cs e).1.below hb (h.new g cs e).1.lt, (h.new g cs e).2⟩, h.below.trans (hb.mono h.below.size)⟩
theorem R1.drew (h : R1 t sz w0 v n xs l W) : R1 t sz w0 v n xs l W.drew := h.later (Below.refl _ _).drew
theorem R1.lit (h : R1 t sz w0 v n xs none W) (cs : Array Value) : R1 t sz w0 v n xs (some (W.heap.size, cs)) (W.alloc (.cells cs t)) :=
  ⟨own_below h.row ((Below.refl _ _).alloc (Nat.le_refl _) _), fun g y e => by
    simp only [Option.some.injEq, Prod.mk.injEq] at e
    obtain ⟨rfl, rfl⟩ := e
    exact ⟨Blk.new _ _ _, fun e => by have := own_lt h.row _ e; omega⟩, h.below.alloc h.below.size _⟩
theorem R1.app {v' : Value} {n' : Nat} {xs' : List Value} (h : R1 t sz w0 v n xs l W) (ho : w'.ownsRow w0.heap.size t sz v' n' xs') (hg : W.grownBy w' v.ownBlock) : R1 t sz w0 v' n' xs' none w' :=
  ⟨ho, (fun _ _ e => by cases e), h.below.grown hg h.below.size (own_low h.row)⟩
theorem R1.start (w0 : World) : R1 t sz w0 (.slice none 0 0) 0 [] none w0 := ⟨⟨by simp, .inl ⟨rfl, rfl⟩⟩, (fun _ _ e => by cases e), Below.refl _ _⟩
end
theorem infoK : (Try.prog.info? 72).map (fun i => (i.zero, i.size, i.bytes)) = some (some (.agg #[.int .i64 0, .int .i64 0]), 2, 16) := by kernel_rfl
theorem wp_litK {o : Oper} {a : Act} {W : World} {K : Act → World → Prop} {Q : Exit → Act → World → Prop} (dd : Tmp) (hd : o.dst = some dd) (x : Operand)
    (ho : o.op = .buildSlice 24 1 #[(0, x)]) {w0 : World} {v : Value} {n : Nat} {xs : List Value} (y0 y1 : Value) (h : R1 72 2 w0 v n xs none W) (hx : a.eval x = .agg #[y0, y1])
    (hK : ∀ gl w', R1 72 2 w0 v n xs (some (gl, #[y0, y1])) w' → K (a.put (some dd) (.slice (some ⟨gl, 0, none⟩) 1 1)) w') : o.wp Try.prog a W K Q := by
  obtain ⟨i0, hi0, hz0, hz1, hz2⟩ := info_parts infoK
  refine wp_buildSlice 24 72 1 _ ho #[y0, y1] i0 (.agg #[.int .i64 0, .int .i64 0]) Try.underlying24 hi0 hz0 (by rw [hz1]; decide) (by rw [hz1]; decide) ?_ ?_
  · rw [hz1]; simp only [List.map_toArray, List.map_cons, List.map_nil, hx]; kernel_rfl
  · rw [hd]; exact hK _ _ (h.lit _)
theorem wp_appK {o : Oper} {a : Act} {W : World} {K : Act → World → Prop} {Q : Exit → Act → World → Prop} (dd : Tmp) (hd : o.dst = some dd) (s x : Operand)
    (ho : o.op = .call { callee := .builtin .append, args := #[s, x], argTypes := #[24, 24] }) {w0 : World} {v : Value} {n : Nat} {xs : List Value} {gl : Nat} {c : Array Value}
    (h : R1 72 2 w0 v n xs (some (gl, c)) W) (hs : a.eval s = v) (hx : a.eval x = .slice (some ⟨gl, 0, none⟩) 1 1) (hc : c.size = 2) (hu : ∀ y ∈ c.toList, y.oneCell' = true) (hn : (n + 1) * 16 ≤ 140737488355328)
    (hK : ∀ v' w', R1 72 2 w0 v' (n + 1) (xs ++ c.toList) none w' → K (a.put (some dd) v') w') : o.wp Try.prog a W K Q := by
  obtain ⟨i0, hi0, hz0, hz1, hz2⟩ := info_parts infoK
  obtain ⟨v', w', hrun, h2, h3, _, h5⟩ := run_append_own_at (P := Try.prog) W w0.heap.size 24 o.type 72 i0 (.agg #[.int .i64 0, .int .i64 0]) 2 16 Try.underlying24 hi0 hz0 hz1 hz2 rfl (by decide) v n xs h.row ⟨gl, 0, none⟩ 1 1 c.toList (by rw [Array.length_toList, hc]) (World.news_of_block (h.new gl c rfl).1) hu (by unfold maxLen; omega) (by omega) h.below.size
  unfold Oper.wp execOp
  simp only [ho, resolve, invoke, builtin, Sem.run_bind, Sem.run_pure, Result.andThen_ok, List.map_toArray, List.map_cons, List.map_nil, hs, hx, hrun]
  show K (a.put o.dst v') w'
  rw [hd]
  exact hK v' w' (h.app h2 h3)
theorem infoP : (Try.prog.info? 23).map (fun i => (i.zero, i.size, i.bytes)) = some (some (.agg #[.int .i64 0, .int .i64 0, .int .i64 0, .int .i64 0]), 4, 32) := by kernel_rfl
theorem wp_litP {o : Oper} {a : Act} {W : World} {K : Act → World → Prop} {Q : Exit → Act → World → Prop} (dd : Tmp) (hd : o.dst = some dd) (x : Operand)
    (ho : o.op = .buildSlice 37 1 #[(0, x)]) {w0 : World} {v : Value} {n : Nat} {xs : List Value} (y0 y1 y2 y3 : Value) (h : R1 23 4 w0 v n xs none W) (hx : a.eval x = .agg #[y0, y1, y2, y3])
    (hK : ∀ gl w', R1 23 4 w0 v n xs (some (gl, #[y0, y1, y2, y3])) w' → K (a.put (some dd) (.slice (some ⟨gl, 0, none⟩) 1 1)) w') : o.wp Try.prog a W K Q := by
  obtain ⟨i0, hi0, hz0, hz1, hz2⟩ := info_parts infoP
  refine wp_buildSlice 37 23 1 _ ho #[y0, y1, y2, y3] i0 (.agg #[.int .i64 0, .int .i64 0, .int .i64 0, .int .i64 0]) Try.underlying37 hi0 hz0 (by rw [hz1]; decide) (by rw [hz1]; decide) ?_ ?_
  · rw [hz1]; simp only [List.map_toArray, List.map_cons, List.map_nil, hx]; kernel_rfl
  · rw [hd]; exact hK _ _ (h.lit _)
theorem wp_appP {o : Oper} {a : Act} {W : World} {K : Act → World → Prop} {Q : Exit → Act → World → Prop} (dd : Tmp) (hd : o.dst = some dd) (s x : Operand)
    (ho : o.op = .call { callee := .builtin .append, args := #[s, x], argTypes := #[37, 37] }) {w0 : World} {v : Value} {n : Nat} {xs : List Value} {gl : Nat} {c : Array Value}
    (h : R1 23 4 w0 v n xs (some (gl, c)) W) (hs : a.eval s = v) (hx : a.eval x = .slice (some ⟨gl, 0, none⟩) 1 1) (hc : c.size = 4) (hu : ∀ y ∈ c.toList, y.oneCell' = true) (hn : (n + 1) * 32 ≤ 140737488355328)
    (hK : ∀ v' w', R1 23 4 w0 v' (n + 1) (xs ++ c.toList) none w' → K (a.put (some dd) v') w') : o.wp Try.prog a W K Q := by
  obtain ⟨i0, hi0, hz0, hz1, hz2⟩ := info_parts infoP
  obtain ⟨v', w', hrun, h2, h3, _, h5⟩ := run_append_own_at (P := Try.prog) W w0.heap.size 37 o.type 23 i0 (.agg #[.int .i64 0, .int .i64 0, .int .i64 0, .int .i64 0]) 4 32 Try.underlying37 hi0 hz0 hz1 hz2 rfl (by decide) v n xs h.row ⟨gl, 0, none⟩ 1 1 c.toList (by rw [Array.length_toList, hc]) (World.news_of_block (h.new gl c rfl).1) hu (by unfold maxLen; omega) (by omega) h.below.size
  unfold Oper.wp execOp
  simp only [ho, resolve, invoke, builtin, Sem.run_bind, Sem.run_pure, Result.andThen_ok, List.map_toArray, List.map_cons, List.map_nil, hs, hx, hrun]
  show K (a.put o.dst v') w'
  rw [hd]
  exact hK v' w' (h.app h2 h3)

end Go.Proofs.Ytcighjeiimjbiaa.Pro

/- ProG: Layer 7: the inverse curve. -/
namespace Go.Proofs.Ytcighjeiimjbiaa.Pro
open Go.RowKit Go.Proofs.Ytcighjeiimjbiaa Go.Proofs.Ytcighjeiimjbiaa.NumPure

theorem kInv_len (l : List K2) : (kInv l).length = l.length := List.length_map _
/-- What an inverse is, with its error. -/
def invL (l : List K2) : List K2 := if kInvX l = 0 then kInv l else []
def InvC (l : List K2) (w : World) (e : Ending) (w' : World) : Prop := ∃ A cap, e = .returned (.tuple #[.slice A (invL l).length cap, .int .i64 (kInvX l)]) ∧ KnR w' A (invL l) ∧ New w.heap.size A ∧ Below w.heap.size w w'
theorem InvC.no {l : List K2} {w w' : World} {z : Int} (h : kInvX l = z) (hz : z ≠ 0) (hb : Below w.heap.size w w') : InvC l w (.returned (.tuple #[.slice none 0 0, .int .i64 z])) w' := by
  have : invL l = [] := by unfold invL; rw [if_neg (by rw [h]; exact hz)]
  refine ⟨none, 0, by rw [this, h]; rfl, ?_, New.none_ _, hb⟩
  rw [this]
  exact Reads.none_
theorem InvC.yes {l : List K2} {w w' : World} {A : Option Addr} {n cap : Nat} (h : kInvX l = 0) (hn : n = l.length) (hr : KnR w' A (kInv l)) (hw : New w.heap.size A) (hb : Below w.heap.size w w') : InvC l w (.returned (.tuple #[.slice A n cap, .int .i64 0])) w' := by
  have : invL l = kInv l := by unfold invL; rw [if_pos h]
  refine ⟨A, cap, by rw [this, kInv_len, h, hn], ?_, hw, hb⟩
  rw [this]
  exact hr
/-- An inverse of which the first j knots are made. -/
def fillK (l : List K2) (j : Nat) : List K2 := kInv (l.take j) ++ List.replicate (l.length - j) (0, 0)
theorem fillK_len (l : List K2) (j : Nat) (h : j ≤ l.length) : (fillK l j).length = l.length := by
  unfold fillK
  rw [List.length_append, kInv_len, List.length_take, List.length_replicate]
  omega
theorem fillK_all (l : List K2) : fillK l l.length = kInv l := by simp [fillK]
theorem fillK_at (l : List K2) (j : Nat) (h : j < l.length) : ∃ h' : j < (fillK l j).length, (fillK l j)[j] = (0, 0) := by
  refine ⟨by rw [fillK_len l j (by omega)]; exact h, ?_⟩
  unfold fillK
  have hl : (kInv (l.take j)).length = j := by rw [kInv_len, List.length_take]; omega
  rw [List.getElem_append_right (by omega)]
  simp
theorem fillK_next (l : List K2) (j : Nat) (h : j < l.length) : (fillK l j).set j (l[j].2, l[j].1) = fillK l (j + 1) := by
  unfold fillK
  have hl : (kInv (l.take j)).length = j := by rw [kInv_len, List.length_take]; omega
  rw [List.set_append_right _ _ (by omega), hl, Nat.sub_self, show l.length - j = (l.length - (j + 1)) + 1 by omega, List.replicate_succ, List.set_cons_zero, List.take_succ_eq_append_getElem h]
  unfold kInv
  rw [List.map_append, List.append_assoc]
  rfl
theorem kns_set (l : List K2) (j : Nat) (h : j < l.length) (a b : Int) : ((kns l).toArray.setIfInBounds (j * 2) (.int .i64 a)).setIfInBounds (j * 2 + 1) (.int .i64 b) = (kns (l.set j (a, b))).toArray := by
  induction l generalizing j with
  | nil => simp at h
  | cons k l ih =>
    cases j with
    | zero => rfl
    | succ j =>
      have := ih j (by simpa using h)
      simp only [kns, kn, List.set_cons_succ]
      have e1 : (j + 1) * 2 = j * 2 + 1 + 1 := by omega
      rw [e1]
      simp only [List.cons_append, List.nil_append, List.setIfInBounds_toArray, List.set_cons_succ, Array.mk.injEq, List.cons.injEq, true_and] at this ⊢
      exact this
theorem made_kns (n : Nat) : madeCells #[.int .i64 0, .int .i64 0] (n * 2) = (kns (List.replicate n (0, 0))).toArray := by
  apply Array.ext_getElem?
  intro i
  by_cases hi : i < n * 2
  · have hk := kns_at (List.replicate n (0, 0)) (i / 2) (by rw [List.length_replicate]; omega) (i % 2) (by omega)
    rw [show i / 2 * 2 + i % 2 = i by omega, List.getElem_replicate] at hk
    have e2 : (kns (List.replicate n (0, 0))).toArray[i]? = some (.int .i64 0) := by
      rw [List.getElem?_toArray, hk]
      rcases Nat.mod_two_eq_zero_or_one i with e | e <;> rw [e] <;> rfl
    rw [e2]
    unfold madeCells
    rw [Array.getElem?_map, Array.getElem?_range]
    rw [if_pos hi]
    rcases Nat.mod_two_eq_zero_or_one i with e | e <;> simp [e]
  · rw [Array.getElem?_eq_none (by rw [size_madeCells]; omega), Array.getElem?_eq_none (by rw [List.size_toArray, kns_len, List.length_replicate]; omega)]

theorem sizeKn : (Try.prog.info? 72).map (·.size) = some 2 := by kernel_rfl
set_option maxRecDepth 100000 in
set_option maxHeartbeats 8000000 in
theorem cinverse_any (A : Option Addr) (l : List K2) (c : Nat) (w : World) (h : KnR w A l) : Calls Try.prog 64 #[.slice A l.length c] w (InvC l w) := by
  have hck := ccheck_any A l c w h
  have hrs := fun (W : World) (hb : Below w.heap.size w W) => crising_any A l c W (h.below hb)
  obtain ⟨z, hz⟩ : ∃ z, kErr l = z := ⟨_, rfl⟩
  unfold ErrC at hck
  rw [hz] at hck
  by_cases h0 : z = 0
  rotate_left
  · have hk : kInvX l = z := by unfold kInvX; rw [if_neg (by rw [hz]; exact h0), hz]
    have hne : (z != 0) = true := by simpa using h0
    have HK := Lib.hid hk
    have H0 := Lib.hid h0
    clear h hk hz h0 hrs
    go_enter Try.func64, Try.ntmps64
    go_wp2_with fail
    refine hck.mono ?_
    rintro e w1 ⟨rfl, hb⟩
    have HB := Lib.hid hb
    clear hck hb
    go_wp2_with fail
    refine bodyPost_ret (results_tmp2 rfl _ _ _) rfl ?_
    exact InvC.no HK.out H0.out HB.out
  · subst h0
    obtain ⟨b, hb0⟩ : ∃ b, kRis l = b := ⟨_, rfl⟩
    unfold RisC at hrs
    rw [hb0] at hrs
    have hg := kErr_good hz
    have hx : kInvX l = if b = true then 0 else 1 := by unfold kInvX; rw [if_pos hz, hb0]
    obtain ⟨n, hn⟩ : ∃ n, l.length = n := ⟨_, rfl⟩
    have h2 := hg.two
    have h16 := hg.max
    rw [hn] at h2 h16 hck hrs ⊢
    obtain ⟨ad, rfl, hadb⟩ := h.addr (by omega)
    have HN := Lib.hid hn
    have H := Lib.hid h
    have HX := Lib.hid hx
    have HRS := Lib.hid hrs
    clear h hg hn hz hx hrs hb0
    cases b with
    | false =>
      go_enter Try.func64, Try.ntmps64
      go_wp2_with fail
      refine hck.mono ?_
      rintro e w1 ⟨rfl, hb⟩
      have h2' := HRS.out w1 hb
      have HB := Lib.hid hb
      clear hck hb
      go_wp2_with fail
      refine h2'.mono ?_
      rintro e w2 ⟨rfl, hb2⟩
      have HB2 := Lib.hid (HB.out.trans (hb2.mono HB.out.size))
      clear h2' hb2
      go_wp2_with fail
      refine bodyPost_ret (results_tmp2 rfl _ _ _) rfl ?_
      exact InvC.no (HX.out.trans (if_neg (by simp))) (by decide) HB2.out
    | true =>
      obtain ⟨i0, hi0, hz0, hz1, hz2⟩ := info_parts infoK
      have hmk := fun (W : World) => run_makeSlice (P := Try.prog) W 24 72 i0 (.agg #[.int .i64 0, .int .i64 0]) Try.underlying24 hi0 hz0 .i64 .i64 (n : Int) (n : Int) (by omega) (by omega) (by rw [hz1, Int.toNat_natCast]; omega) (by rw [hz2]; omega) (by omega)
      simp only [Int.toNat_natCast, hz1, Value.cells] at hmk
      rw [made_kns] at hmk
      clear hi0 hz0 hz1 hz2
      go_enter Try.func64, Try.ntmps64
      go_wp2_with fail
      refine hck.mono ?_
      rintro e w1 ⟨rfl, hb⟩
      have h2' := HRS.out w1 hb
      have HB := Lib.hid hb
      clear hck hb
      go_wp2_with fail
      refine h2'.mono ?_
      rintro e w2 ⟨rfl, hb2⟩
      have HB2 := Lib.hid (HB.out.trans (hb2.mono HB.out.size))
      clear h2' hb2
      have bg : Blk (w2.alloc (.cells (kns (fillK l 0)).toArray 72)) w2.heap.size 72 (kns (fillK l 0)).toArray := Blk.new _ _ _
      have bb : Below w.heap.size w (w2.alloc (.cells (kns (fillK l 0)).toArray 72)) := HB2.out.alloc HB2.out.size _
      have hgw := HB2.out.size
      have e0 : fillK l 0 = List.replicate n (0, 0) := by unfold fillK; rw [HN.out]; rfl
      rw [e0] at bg bb
      obtain ⟨g, hgg⟩ : ∃ g, w2.heap.size = g := ⟨_, rfl⟩
      rw [hgg] at bg hgw
      have BG := Lib.hid bg
      have BB := Lib.hid bb
      have E0 := Lib.hid e0
      have HG := Lib.hid hgg
      clear bg bb e0 hgg
      go_wp2_with fail
      clear hmk
      go_loopw [21] (fun i wr => ∃ j : Nat, i = .int .i64 j ∧ j ≤ n ∧ Blk wr g 72 (kns (fillK l j)).toArray ∧ Below w.heap.size w wr) (fun i _ => n - (intOf i).toNat)
      case atStart => exact ⟨0, rfl, by omega, by rw [E0.out]; exact BG.out, BB.out⟩
      case round =>
        obtain ⟨j, rfl, hj, hbk, hb⟩ := hrel
        rw [HG.out]
        have hgl := hbk.lt
        by_cases hlt : j < n
        · have hjl : j < l.length := by have := HN.out; omega
          obtain ⟨c0, c1⟩ := kn_cells (H.out.below hb) j hjl
          obtain ⟨hfl, hfa⟩ := fillK_at l j hjl
          have k := fun cc (hc : cc < 2) => (hbk.cell (j * 2 + cc)).trans ((List.getElem?_toArray).trans (kns_at (fillK l j) j hfl cc hc))
          rw [hfa] at k
          have d0 := k 0 (by omega)
          have d1 := k 1 (by omega)
          have df := hbk.frozen
          have hfn := fillK_next l j hjl
          obtain ⟨x, hx⟩ : ∃ x, l[j].1 = x := ⟨_, rfl⟩
          obtain ⟨y, hy⟩ : ∃ y, l[j].2 = y := ⟨_, rfl⟩
          rw [hx] at c0
          rw [hy] at c1
          rw [hx, hy] at hfn
          have hks := kns_set (fillK l j) j hfl y x
          rw [hfn] at hks
          have HKS := Lib.hid hks
          have HBK := Lib.hid (hbk.alloc (.cells #[.int .i64 x, .int .i64 y] 72))
          have HBB := Lib.hid (hb.alloc hb.size (.cells #[.int .i64 x, .int .i64 y] 72))
          have dd : ∀ cc, cc < 2 → (wr.alloc (.cells #[.int .i64 x, .int .i64 y] 72)).cell? ⟨g, j * 2 + cc, none⟩ = some (.int .i64 0) := fun cc hc => by
            have := (HBK.out.cell (j * 2 + cc)).trans ((List.getElem?_toArray).trans (kns_at (fillK l j) j hfl cc hc))
            rw [hfa] at this
            rcases (by omega : cc = 0 ∨ cc = 1) with rfl | rfl
            · exact this
            · exact this
          have b0 : Blk (wr.alloc (.cells #[.int .i64 x, .int .i64 y] 72)) wr.heap.size 72 #[.int .i64 x, .int .i64 y] := Blk.new _ _ _
          clear d0 d1 df
          have DD := Lib.hid dd
          have B0 := Lib.hid b0
          clear hks hfn hfa k hx hy hbk hb dd b0
          go_upto_region 10 with fail
          obtain ⟨W1, hW1⟩ : ∃ W1, wr.alloc (.cells #[.int .i64 x, .int .i64 y] 72) = W1 := ⟨_, rfl⟩
          obtain ⟨gb, hgb⟩ : ∃ gb, wr.heap.size = gb := ⟨_, rfl⟩
          rw [hW1] at HBK HBB DD B0 ⊢
          rw [hgb] at B0 ⊢
          clear hW1 hgb
          have d0 := DD.out 0 (by omega)
          have d1 := DD.out 1 (by omega)
          have df := HBK.out.frozen
          obtain ⟨y0, y1, yf⟩ := blk2 B0.out
          have hth : W1.there g (j * 2) 2 := fun cc hc => ⟨by rw [DD.out cc hc]; rfl, df _⟩
          have HTH := Lib.hid hth
          clear d0 d1 df hth
          go_wp2_with (refine wpList_store_mid rfl 72 _ _ rfl g (j * 2) #[.int .i64 y, .int .i64 x] rfl rfl HTH.out sizeKn (by simp [Value.oneCell']) ?_)
          go_roundw
          case rel =>
            refine ⟨j + 1, by go_num, by omega, ?_, (HBB.out.setCell hgw _).setCell hgw _⟩
            rw [← HKS.out]
            exact (HBK.out.set_ (j * 2) (.int .i64 y)).set_ (j * 2 + 1) (.int .i64 x)
          case measure => simp [intOf]; omega
        · obtain rfl : j = n := by omega
          have hall : fillK l j = kInv l := by rw [← HN.out]; exact fillK_all l
          rw [hall] at hbk
          have HBK := Lib.hid hbk
          have HBB := Lib.hid hb
          clear hbk hb hall
          go_wp2_with fail
          refine bodyPost_ret (results_tmp2 rfl _ _ _) rfl ?_
          refine InvC.yes (HX.out.trans (if_pos (by simp))) HN.out.symm ⟨by rw [kns_len, kInv_len], fun _ => ⟨⟨g, 0, none⟩, rfl, HBK.out.lt, fun i u hu => ?_⟩⟩ (New.some_ hgw) HBB.out
          have := (World.news_of_block HBK.out) i u (by simpa using hu)
          exact this

end Go.Proofs.Ytcighjeiimjbiaa.Pro

/- ProH: Layer 7, the document's answer: the inverse curve; layer 9: knots. -/
namespace Go.Proofs.Ytcighjeiimjbiaa.Pro
open Go.RowKit Go.Proofs.Ytcighjeiimjbiaa Go.Proofs.Ytcighjeiimjbiaa.NumPure Go.Proofs.Ytcighjeiimjbiaa.RegG

theorem inv_snoc (l : List K2) (j : Nat) (hj : j < l.length) {x y : Int} (hx : l[j].1 = x) (hy : l[j].2 = y) : kns (kInv (l.take j)) ++ (#[.int .i64 y, .int .i64 x] : Array Value).toList = kns (kInv (l.take (j + 1))) := by
  rw [List.take_succ_eq_append_getElem hj]
  unfold kInv
  rw [List.map_append, kns_app, ← hx, ← hy]
  rfl
theorem own_new {W : World} {B : Nat} {e : TypeId} {size n m c : Nat} {A : Option Addr} {xs : List Value} (h : W.ownsRow B e size (.slice A n c) m xs) : New B A := by
  rcases h.2 with ⟨hv, _⟩ | ⟨g, cap, cur, hv, hb, _⟩
  · injection hv with h1
    subst h1
    exact New.none_ _
  · injection hv with h1
    subst h1
    exact New.some_ hb
theorem knr_of_own {w W : World} {v : Value} {n : Nat} {l : List K2} (h : W.ownsRow w.heap.size 72 2 v n (kns l)) (hn : n = l.length) : ∃ A cap, v = .slice A n cap ∧ KnR W A l ∧ New w.heap.size A := by
  obtain ⟨A, cap, rfl, _, hr⟩ := own_open h
  subst hn
  exact ⟨A, cap, rfl, hr, own_new h⟩
set_option maxRecDepth 100000 in
set_option maxHeartbeats 8000000 in
theorem rcinverse_any (A : Option Addr) (l : List K2) (c : Nat) (w : World) (h : KnR w A l) : Calls Try.prog 53 #[.slice A l.length c] w (InvC l w) := by
  have hck := rccheck_any A l c w h
  have hrs := fun (W : World) (hb : Below w.heap.size w W) => rcrising_any A l c W (h.below hb)
  obtain ⟨z, hz⟩ : ∃ z, kErr l = z := ⟨_, rfl⟩
  unfold ErrC at hck
  rw [hz] at hck
  by_cases h0 : z = 0
  rotate_left
  · have hk : kInvX l = z := by unfold kInvX; rw [if_neg (by rw [hz]; exact h0), hz]
    have hne : (z != 0) = true := by simpa using h0
    have HK := Lib.hid hk
    have H0 := Lib.hid h0
    clear h hk hz h0 hrs
    go_enter Try.func53, Try.ntmps53
    go_wp2_with fail
    refine hck.mono ?_
    rintro e w1 ⟨rfl, hb⟩
    have HB := Lib.hid hb
    clear hck hb
    go_wp2_with fail
    refine bodyPost_ret (results_tmp2 rfl _ _ _) rfl ?_
    exact InvC.no HK.out H0.out HB.out
  · subst h0
    obtain ⟨b, hb0⟩ : ∃ b, kRis l = b := ⟨_, rfl⟩
    unfold RisC at hrs
    rw [hb0] at hrs
    have hg := kErr_good hz
    have hx : kInvX l = if b = true then 0 else 1 := by unfold kInvX; rw [if_pos hz, hb0]
    obtain ⟨n, hn⟩ : ∃ n, l.length = n := ⟨_, rfl⟩
    have h2 := hg.two
    have h16 := hg.max
    rw [hn] at h2 h16 hck hrs ⊢
    obtain ⟨ad, rfl, hadb⟩ := h.addr (by omega)
    have HN := Lib.hid hn
    have H := Lib.hid h
    have HX := Lib.hid hx
    have HRS := Lib.hid hrs
    clear h hg hn hz hx hrs hb0
    cases b with
    | false =>
      go_enter Try.func53, Try.ntmps53
      go_wp2_with fail
      refine hck.mono ?_
      rintro e w1 ⟨rfl, hb⟩
      have h2' := HRS.out w1 hb
      have HB := Lib.hid hb
      clear hck hb
      go_wp2_with fail
      refine h2'.mono ?_
      rintro e w2 ⟨rfl, hb2⟩
      have HB2 := Lib.hid (HB.out.trans (hb2.mono HB.out.size))
      clear h2' hb2
      go_wp2_with fail
      refine bodyPost_ret (results_tmp2 rfl _ _ _) rfl ?_
      exact InvC.no (HX.out.trans (if_neg (by simp))) (by decide) HB2.out
    | true =>
      go_enter Try.func53, Try.ntmps53
      go_wp2_with fail
      refine hck.mono ?_
      rintro e w1 ⟨rfl, hb⟩
      have h2' := HRS.out w1 hb
      have HB := Lib.hid hb
      clear hck hb
      go_wp2_with fail
      refine h2'.mono ?_
      rintro e w2 ⟨rfl, hb2⟩
      have hb3 := HB.out.trans (hb2.mono HB.out.size)
      have hz1 := World.ownsRow_made (e := 72) (size := 2) w2 #[] 0 (base := w.heap.size) hb3.size (by decide) rfl
      have HZ := Lib.hid hz1
      have HB3 := Lib.hid (hb3.alloc hb3.size (.cells #[] 72))
      clear h2' hb2 hb3 hz1
      go_wp2_with fail
      go_loopw [5, 6] (fun v i wr => ∃ j : Nat, i = .int .i64 j ∧ j ≤ n ∧ wr.ownsRow w.heap.size 72 2 v j (kns (kInv (l.take j))) ∧ Below w.heap.size w wr) (fun _ i _ => n - (intOf i).toNat)
      case atStart => exact ⟨0, rfl, by omega, HZ.out, HB3.out⟩
      case round =>
        obtain ⟨j, rfl, hj, ho, hb⟩ := hrel
        by_cases hlt : j < n
        · have hjl : j < l.length := by have := HN.out; omega
          obtain ⟨x, hx⟩ : ∃ x, l[j].1 = x := ⟨_, rfl⟩
          obtain ⟨y, hy⟩ : ∃ y, l[j].2 = y := ⟨_, rfl⟩
          have HC : Hid (∀ W, Below w.heap.size w W → W.cell? (ad.add (j * 2)) = some (.int .i64 x) ∧ W.cell? ⟨(ad.add (j * 2)).block, (ad.add (j * 2)).off + 1, none⟩ = some (.int .i64 y)) := Lib.hid (fun W hW => by
            have := kn_cells (H.out.below hW) j hjl
            rw [hx, hy] at this
            exact this)
          have R0 : R1 72 2 w u5 j (kns (kInv (l.take j))) none wr.drew := R1.drew ⟨ho, (fun _ _ e => by cases e), hb⟩
          have HS := Lib.hid (inv_snoc l j hjl hx hy)
          clear hx hy ho hb
          go_wp2_with fail
          refine wp_region_G (S := S1 99 (fun _ => True) (fun W => Below w.heap.size w W)) (by kernel_rfl) ⟨fun _ => trivial, R0.below⟩ (fun hHeld => ?_)
          refine wpAnyG_take (i := 0) (oi := _) (v := u5) rfl (by kernel_rfl) (by kernel_rfl) (by kernel_rfl) (fun _ _ _ h => h) (fun _ _ => S1.un (by decide)) (by kernel_rfl) (Or.inl ⟨by rfl, fun W1 _ => by go_simp⟩) (S1.set (by decide) hHeld) (fun hHeld => ?_)
          go_simp
          refine wpAnyG_take (i := 1) (oi := _) (v := .slice (some ad) n c) rfl (by kernel_rfl) (by kernel_rfl) (by kernel_rfl) (fun _ _ _ h => h) (fun _ _ => S1.un (by decide)) (by kernel_rfl) (Or.inl ⟨by rfl, fun W1 _ => by go_simp⟩) (S1.set (by decide) hHeld) (fun hHeld => ?_)
          go_simp
          refine wpAnyG_take (i := 2) (oi := _) (v := .int .i64 (j : Int)) rfl (by kernel_rfl) (by kernel_rfl) (by kernel_rfl) (fun _ _ _ h => h) (fun _ _ => S1.un (by decide)) (by kernel_rfl) (Or.inl ⟨by rfl, fun W1 _ => by go_simp⟩) (S1.set (by decide) hHeld) (fun hHeld => ?_)
          go_simp
          refine wpAnyG_take (i := 3) (oi := _) (v := .pointer (some (ad.add (j * 2)))) rfl (by kernel_rfl) (by kernel_rfl) (by kernel_rfl) (fun _ _ _ h => h) (fun _ _ => S1.un (by decide)) (by kernel_rfl) (Or.inl ⟨by rfl, fun W1 _ => by (go_simp; try (intro hh; exact absurd hh (by omega)))⟩) (S1.set (by decide) hHeld) (fun hHeld => ?_)
          go_simp
          refine wpAnyG_take (i := 4) (oi := _) (v := .pointer (some ⟨(ad.add (j * 2)).block, (ad.add (j * 2)).off + 1, none⟩)) rfl (by kernel_rfl) (by kernel_rfl) (by kernel_rfl) (fun _ _ _ h => h) (fun _ _ => S1.un (by decide)) (by kernel_rfl) (Or.inl ⟨by rfl, fun W1 _ => by go_simp⟩) (S1.set (by decide) hHeld) (fun hHeld => ?_)
          go_simp
          refine wpAnyG_take (i := 5) (oi := _) (v := .int .i64 y) rfl (by kernel_rfl) (by kernel_rfl) (by kernel_rfl) (fun _ _ _ h => h) (fun _ _ => S1.un (by decide)) (by kernel_rfl) (Or.inl ⟨by rfl, fun W1 h1 => by (obtain ⟨l, hcl, hi, hS⟩ := h1; have hT := hS.T; have z := HC.out W1 hT; obtain ⟨z0, z1⟩ := z; go_simp)⟩) (S1.set (by decide) hHeld) (fun hHeld => ?_)
          go_simp
          refine wpAnyG_take (i := 6) (oi := _) (v := .slice (some ad) n c) rfl (by kernel_rfl) (by kernel_rfl) (by kernel_rfl) (fun _ _ _ h => h) (fun _ _ => S1.un (by decide)) (by kernel_rfl) (Or.inl ⟨by rfl, fun W1 _ => by go_simp⟩) (S1.set (by decide) hHeld) (fun hHeld => ?_)
          go_simp
          refine wpAnyG_take (i := 7) (oi := _) (v := .int .i64 (j : Int)) rfl (by kernel_rfl) (by kernel_rfl) (by kernel_rfl) (fun _ _ _ h => h) (fun _ _ => S1.un (by decide)) (by kernel_rfl) (Or.inl ⟨by rfl, fun W1 _ => by go_simp⟩) (S1.set (by decide) hHeld) (fun hHeld => ?_)
          go_simp
          refine wpAnyG_take (i := 8) (oi := _) (v := .pointer (some (ad.add (j * 2)))) rfl (by kernel_rfl) (by kernel_rfl) (by kernel_rfl) (fun _ _ _ h => h) (fun _ _ => S1.un (by decide)) (by kernel_rfl) (Or.inl ⟨by rfl, fun W1 _ => by (go_simp; try (intro hh; exact absurd hh (by omega)))⟩) (S1.set (by decide) hHeld) (fun hHeld => ?_)
          go_simp
          refine wpAnyG_take (i := 9) (oi := _) (v := .pointer (some (ad.add (j * 2)))) rfl (by kernel_rfl) (by kernel_rfl) (by kernel_rfl) (fun _ _ _ h => h) (fun _ _ => S1.un (by decide)) (by kernel_rfl) (Or.inl ⟨by rfl, fun W1 _ => by go_simp⟩) (S1.set (by decide) hHeld) (fun hHeld => ?_)
          go_simp
          refine wpAnyG_take (i := 10) (oi := _) (v := .int .i64 x) rfl (by kernel_rfl) (by kernel_rfl) (by kernel_rfl) (fun _ _ _ h => h) (fun _ _ => S1.un (by decide)) (by kernel_rfl) (Or.inl ⟨by rfl, fun W1 h1 => by (obtain ⟨l, hcl, hi, hS⟩ := h1; have hT := hS.T; have z := HC.out W1 hT; obtain ⟨z0, z1⟩ := z; go_simp)⟩) (S1.set (by decide) hHeld) (fun hHeld => ?_)
          go_simp
          refine wpAnyG_take (i := 11) (oi := _) (v := .agg #[.int .i64 y, .int .i64 x]) rfl (by kernel_rfl) (by kernel_rfl) (by kernel_rfl) (fun _ _ _ h => h) (fun _ _ => S1.un (by decide)) (by kernel_rfl) (Or.inl ⟨by rfl, fun W1 _ => by go_simp⟩) (S1.set (by decide) hHeld) (fun hHeld => ?_)
          go_simp
          refine wpAnyG_ready (rs := [12]) (by kernel_rfl) (by simp) ?_
          refine AllReadyG.cons (o := _) rfl (fun K hK => ?_) AllReadyG.nil
          rw [if_pos (by rfl)]
          refine wp_litK 34 rfl _ rfl _ _ R0 rfl (fun gK wK R1 => ?_)
          refine hK.out _ _ (⟨fun _ => trivial, R1.below⟩) (fun hHeld => ?_)
          clear hK
          try simp only [Act.put, List.setIfInBounds_toArray, List.set_cons_zero, List.set_cons_succ]
          refine wpAnyG_ready (rs := [13]) (by kernel_rfl) (by simp) ?_
          refine AllReadyG.cons (o := _) rfl (fun K hK => ?_) AllReadyG.nil
          rw [if_pos (by rfl)]
          refine wp_appK 35 rfl _ _ rfl R1 rfl rfl rfl (fun y hy => by (simp only [List.mem_cons, List.not_mem_nil, or_false] at hy; rcases hy with rfl | rfl <;> rfl)) (by omega) (fun vK wk R2 => ?_)
          refine hK.out _ _ (⟨fun _ => trivial, R2.below⟩) (fun hHeld => ?_)
          clear hK
          try simp only [Act.put, List.setIfInBounds_toArray, List.set_cons_zero, List.set_cons_succ]
          refine wpAnyG_take (i := 14) (oi := _) (v := vK) rfl (by kernel_rfl) (by kernel_rfl) (by kernel_rfl) (fun _ _ _ h => h) (fun _ _ => S1.un (by decide)) (by kernel_rfl) (Or.inl ⟨by rfl, fun W1 _ => by go_simp⟩) (S1.set (by decide) hHeld) (fun hHeld => ?_)
          go_simp
          refine wpAnyG_done (by kernel_rfl) ?_ _
          have HR := Lib.hid R2
          clear hHeld R2 R1 R0
          go_wp2_with fail
          go_roundw
          case rel => exact ⟨j + 1, by go_num, by omega, HS.out ▸ HR.out.row, HR.out.below⟩
          case measure => simp [intOf]; omega
        · obtain rfl : j = n := by omega
          have hall : l.take j = l := by rw [← HN.out]; exact List.take_length
          rw [hall] at ho
          obtain ⟨A9, c9, rfl, hr, hnw⟩ := knr_of_own ho (by rw [kInv_len, HN.out])
          have HNW := Lib.hid hnw
          have HR := Lib.hid hr
          have HB := Lib.hid hb
          clear ho hb hr hall hnw
          go_wp2_with fail
          refine bodyPost_ret (results_tmp2 rfl _ _ _) rfl ?_
          exact InvC.yes (HX.out.trans (if_pos (by simp))) HN.out.symm HR.out HNW.out HB.out

end Go.Proofs.Ytcighjeiimjbiaa.Pro

/- ProI: Layer 6, both sides: pixels limited. -/
namespace Go.Proofs.Ytcighjeiimjbiaa.Pro
open Go.RowKit Go.Proofs.Ytcighjeiimjbiaa Go.Proofs.Ytcighjeiimjbiaa.NumPure Go.Proofs.Ytcighjeiimjbiaa.RegG

theorem blk4 {w : World} {g : Nat} {t : TypeId} {a b c d : Value} (h : Blk w g t #[a, b, c, d]) : w.cell? ⟨g, 0, none⟩ = some a ∧ w.cell? ⟨g, 1, none⟩ = some b ∧ w.cell? ⟨g, 2, none⟩ = some c ∧ w.cell? ⟨g, 3, none⟩ = some d ∧ ∀ o, w.frozen? ⟨g, o, none⟩ = false :=
  ⟨h.cell 0, h.cell 1, h.cell 2, h.cell 3, h.frozen⟩
theorem Blk.set1 {w : World} {g : Nat} {t : TypeId} {cs : Array Value} (h : Blk w g t cs) {p : Addr} (hp : g ≠ p.block) (u : Value) : Blk (w.setCell p u) g t cs := (Below.heap_setCell w p u g hp).trans h
theorem xunit_any (x : Int) (w : World) : Calls Try.prog 95 #[.int .i64 x] w fun e w' => e = .returned (.int .i64 (unt x)) ∧ w = w' := by
  go_enter Try.func95, Try.ntmps95
  go_wp2_with (go_at_call 65; refine (Num.clamp_any _ _ _ _).mono ?_; rintro e w' ⟨rfl, rfl⟩)
  go_ret
  exact ⟨rfl, rfl⟩
theorem rxU_any (x : Int) (w : World) : Calls Try.prog 86 #[.int .i64 x] w fun e w' => e = .returned (.int .i64 (unt x)) ∧ w = w' := by
  go_enter Try.func86, Try.ntmps86
  go_wp2_with (go_at_call 103; refine (Ref01.clamp_any _ _ _ _).mono ?_; rintro e w' ⟨rfl, rfl⟩)
  go_ret
  exact ⟨rfl, rfl⟩
/-- A pixel. -/
abbrev P4 := Int × Int × Int × Int
def pagg (p : P4) : Value := .agg #[.int .i64 p.1, .int .i64 p.2.1, .int .i64 p.2.2.1, .int .i64 p.2.2.2]
def limP (p : P4) : P4 := (unt p.1, unt p.2.1, unt p.2.2.1, unt p.2.2.2)
def LimC (p : P4) (w : World) (e : Ending) (w' : World) : Prop := e = .returned (pagg (limP p)) ∧ Below w.heap.size w w'
set_option maxHeartbeats 4000000 in
theorem xLimit_any (p : P4) (w : World) : Calls Try.prog 68 #[pagg p] w (LimC p w) := by
  obtain ⟨p0, p1, p2, p3⟩ := p
  have B0 : Blk ((w.alloc (.cells #[.int .i64 p0, .int .i64 p1, .int .i64 p2, .int .i64 p3] 23)).alloc (.cells #[.int .i64 0, .int .i64 0, .int .i64 0, .int .i64 0] 23)) w.heap.size 23 #[.int .i64 p0, .int .i64 p1, .int .i64 p2, .int .i64 p3] := (Blk.new _ _ _).alloc _
  have B1 : Blk ((w.alloc (.cells #[.int .i64 p0, .int .i64 p1, .int .i64 p2, .int .i64 p3] 23)).alloc (.cells #[.int .i64 0, .int .i64 0, .int .i64 0, .int .i64 0] 23)) (w.heap.size + 1) 23 #[.int .i64 0, .int .i64 0, .int .i64 0, .int .i64 0] := by
    have := Blk.new (w.alloc (.cells #[.int .i64 p0, .int .i64 p1, .int .i64 p2, .int .i64 p3] 23)) 23 #[.int .i64 0, .int .i64 0, .int .i64 0, .int .i64 0]
    simpa using this
  have BB : Below w.heap.size w ((w.alloc (.cells #[.int .i64 p0, .int .i64 p1, .int .i64 p2, .int .i64 p3] 23)).alloc (.cells #[.int .i64 0, .int .i64 0, .int .i64 0, .int .i64 0] 23)) := ((Below.refl _ _).alloc (Nat.le_refl _) _).alloc (by simp) _
  obtain ⟨W, hW⟩ : ∃ W, ((w.alloc (.cells #[.int .i64 p0, .int .i64 p1, .int .i64 p2, .int .i64 p3] 23)).alloc (.cells #[.int .i64 0, .int .i64 0, .int .i64 0, .int .i64 0] 23)) = W := ⟨_, rfl⟩
  rw [hW] at B0 B1 BB
  have HBB := Lib.hid BB
  clear BB
  unfold pagg
  go_enter Try.func68, Try.ntmps68
  go_wp2_with fail
  clear hW
  refine wp_region_held_drew (S := fun W => Blk W w.heap.size 23 #[.int .i64 p0, .int .i64 p1, .int .i64 p2, .int .i64 p3]) (by kernel_rfl) B0.drew (fun hHeld => ?_)
  refine wpAnyH_take (i := 0) (oi := _) (v := .pointer (some ⟨w.heap.size, 0, none⟩)) rfl (by kernel_rfl) (by kernel_rfl) (by kernel_rfl) (fun _ _ _ h => h) (Or.inl ⟨by rfl, fun W1 _ => by go_simp⟩) (by assumption) ?_
  go_simp
  refine wpAnyH_take (i := 1) (oi := _) (v := .int .i64 p0) rfl (by kernel_rfl) (by kernel_rfl) (by kernel_rfl) (fun _ _ _ h => h) (Or.inl ⟨by rfl, fun W1 hS => by (obtain ⟨z0, z1, z2, z3, _⟩ := blk4 hS; go_simp)⟩) (by assumption) ?_
  go_simp
  refine wpAnyH_take (i := 3) (oi := _) (v := .pointer (some ⟨w.heap.size, 1, none⟩)) rfl (by kernel_rfl) (by kernel_rfl) (by kernel_rfl) (fun _ _ _ h => h) (Or.inl ⟨by rfl, fun W1 _ => by go_simp⟩) (by assumption) ?_
  go_simp
  refine wpAnyH_take (i := 4) (oi := _) (v := .int .i64 p1) rfl (by kernel_rfl) (by kernel_rfl) (by kernel_rfl) (fun _ _ _ h => h) (Or.inl ⟨by rfl, fun W1 hS => by (obtain ⟨z0, z1, z2, z3, _⟩ := blk4 hS; go_simp)⟩) (by assumption) ?_
  go_simp
  refine wpAnyH_take (i := 6) (oi := _) (v := .pointer (some ⟨w.heap.size, 2, none⟩)) rfl (by kernel_rfl) (by kernel_rfl) (by kernel_rfl) (fun _ _ _ h => h) (Or.inl ⟨by rfl, fun W1 _ => by go_simp⟩) (by assumption) ?_
  go_simp
  refine wpAnyH_take (i := 7) (oi := _) (v := .int .i64 p2) rfl (by kernel_rfl) (by kernel_rfl) (by kernel_rfl) (fun _ _ _ h => h) (Or.inl ⟨by rfl, fun W1 hS => by (obtain ⟨z0, z1, z2, z3, _⟩ := blk4 hS; go_simp)⟩) (by assumption) ?_
  go_simp
  refine wpAnyH_take (i := 9) (oi := _) (v := .pointer (some ⟨w.heap.size, 3, none⟩)) rfl (by kernel_rfl) (by kernel_rfl) (by kernel_rfl) (fun _ _ _ h => h) (Or.inl ⟨by rfl, fun W1 _ => by go_simp⟩) (by assumption) ?_
  go_simp
  refine wpAnyH_take (i := 10) (oi := _) (v := .int .i64 p3) rfl (by kernel_rfl) (by kernel_rfl) (by kernel_rfl) (fun _ _ _ h => h) (Or.inl ⟨by rfl, fun W1 hS => by (obtain ⟨z0, z1, z2, z3, _⟩ := blk4 hS; go_simp)⟩) (by assumption) ?_
  go_simp
  refine wpAnyH_ready (rs := [2]) (by kernel_rfl) (by simp) ?_
  refine AllReadyH.cons (o := _) rfl (fun K hK => ?_) AllReadyH.nil
  go_simp
  go_at_call 95
  refine (xunit_any p0 _).mono ?_
  rintro e w' ⟨rfl, rfl⟩
  go_wp2_with fail
  refine hK.out _ _ hHeld (fun hHeld => ?_)
  clear hK
  try simp only [Act.put, List.setIfInBounds_toArray, List.set_cons_zero, List.set_cons_succ]
  refine wpAnyH_ready (rs := [5]) (by kernel_rfl) (by simp) ?_
  refine AllReadyH.cons (o := _) rfl (fun K hK => ?_) AllReadyH.nil
  go_simp
  go_at_call 95
  refine (xunit_any p1 _).mono ?_
  rintro e w' ⟨rfl, rfl⟩
  go_wp2_with fail
  refine hK.out _ _ hHeld (fun hHeld => ?_)
  clear hK
  try simp only [Act.put, List.setIfInBounds_toArray, List.set_cons_zero, List.set_cons_succ]
  refine wpAnyH_ready (rs := [8]) (by kernel_rfl) (by simp) ?_
  refine AllReadyH.cons (o := _) rfl (fun K hK => ?_) AllReadyH.nil
  go_simp
  go_at_call 95
  refine (xunit_any p2 _).mono ?_
  rintro e w' ⟨rfl, rfl⟩
  go_wp2_with fail
  refine hK.out _ _ hHeld (fun hHeld => ?_)
  clear hK
  try simp only [Act.put, List.setIfInBounds_toArray, List.set_cons_zero, List.set_cons_succ]
  refine wpAnyH_ready (rs := [11]) (by kernel_rfl) (by simp) ?_
  refine AllReadyH.cons (o := _) rfl (fun K hK => ?_) AllReadyH.nil
  go_simp
  go_at_call 95
  refine (xunit_any p3 _).mono ?_
  rintro e w' ⟨rfl, rfl⟩
  go_wp2_with fail
  refine hK.out _ _ hHeld (fun hHeld => ?_)
  clear hK
  try simp only [Act.put, List.setIfInBounds_toArray, List.set_cons_zero, List.set_cons_succ]
  refine wpAnyH_take (i := 12) (oi := _) (v := .agg #[.int .i64 (unt p0), .int .i64 (unt p1), .int .i64 (unt p2), .int .i64 (unt p3)]) rfl (by kernel_rfl) (by kernel_rfl) (by kernel_rfl) (fun _ _ _ h => h) (Or.inl ⟨by rfl, fun W1 _ => by go_simp⟩) (by assumption) ?_
  go_simp
  obtain ⟨f0, f1, f2, f3, ff⟩ := blk4 B1
  refine wpAnyH_ready (rs := [13]) (by kernel_rfl) (by simp) ?_
  refine AllReadyH.cons (o := _) rfl (fun K hK => ?_) AllReadyH.nil
  rw [if_pos (by rfl)]
  go_simp
  refine hK.out _ _ ?_ (fun hHeld => ?_)
  · exact (Blk.set1 (Blk.set1 (Blk.set1 (Blk.set1 B0 (by simp) _) (by simp) _) (by simp) _) (by simp) _).drew
  clear hK
  try simp only [Act.put, List.setIfInBounds_toArray, List.set_cons_zero, List.set_cons_succ]
  refine wpAnyH_done (by kernel_rfl) ?_ _
  clear f0 f1 f2 f3 ff hHeld
  have B2 := ((((B1.set_ 0 (.int .i64 (unt p0))).set_ 1 (.int .i64 (unt p1))).set_ 2 (.int .i64 (unt p2))).set_ 3 (.int .i64 (unt p3))).drew
  have BB2 : Below w.heap.size w (((((W.setCell ⟨w.heap.size + 1, 0, none⟩ (.int .i64 (unt p0))).setCell ⟨w.heap.size + 1, 1, none⟩ (.int .i64 (unt p1))).setCell ⟨w.heap.size + 1, 2, none⟩ (.int .i64 (unt p2))).setCell ⟨w.heap.size + 1, 3, none⟩ (.int .i64 (unt p3))).drew) := ((((HBB.out.setCell (by simp) _).setCell (by simp) _).setCell (by simp) _).setCell (by simp) _).drew
  obtain ⟨W9, hW9⟩ : ∃ W9, ((((W.setCell ⟨w.heap.size + 1, 0, none⟩ (.int .i64 (unt p0))).setCell ⟨w.heap.size + 1, 1, none⟩ (.int .i64 (unt p1))).setCell ⟨w.heap.size + 1, 2, none⟩ (.int .i64 (unt p2))).setCell ⟨w.heap.size + 1, 3, none⟩ (.int .i64 (unt p3))).drew = W9 := ⟨_, rfl⟩
  rw [hW9] at B2 BB2 ⊢
  clear hW9 B0 B1
  obtain ⟨f0, f1, f2, f3, ff⟩ := blk4 (show Blk W9 _ _ #[.int .i64 (unt p0), .int .i64 (unt p1), .int .i64 (unt p2), .int .i64 (unt p3)] from B2)
  clear B2
  go_wp2_with fail
  refine bodyPost_ret (v := .agg #[.int .i64 (unt p0), .int .i64 (unt p1), .int .i64 (unt p2), .int .i64 (unt p3)]) (by simp [results, Try.results68, go_sem, f0, f1, f2, f3]) rfl ?_
  exact ⟨rfl, BB2⟩
set_option maxHeartbeats 4000000 in
theorem rxLimit_any (p : P4) (w : World) : Calls Try.prog 55 #[pagg p] w (LimC p w) := by
  obtain ⟨p0, p1, p2, p3⟩ := p
  have B0 : Blk ((w.alloc (.cells #[.int .i64 p0, .int .i64 p1, .int .i64 p2, .int .i64 p3] 23)).alloc (.cells #[.int .i64 0, .int .i64 0, .int .i64 0, .int .i64 0] 23)) w.heap.size 23 #[.int .i64 p0, .int .i64 p1, .int .i64 p2, .int .i64 p3] := (Blk.new _ _ _).alloc _
  have B1 : Blk ((w.alloc (.cells #[.int .i64 p0, .int .i64 p1, .int .i64 p2, .int .i64 p3] 23)).alloc (.cells #[.int .i64 0, .int .i64 0, .int .i64 0, .int .i64 0] 23)) (w.heap.size + 1) 23 #[.int .i64 0, .int .i64 0, .int .i64 0, .int .i64 0] := by
    have := Blk.new (w.alloc (.cells #[.int .i64 p0, .int .i64 p1, .int .i64 p2, .int .i64 p3] 23)) 23 #[.int .i64 0, .int .i64 0, .int .i64 0, .int .i64 0]
    simpa using this
  have BB : Below w.heap.size w ((w.alloc (.cells #[.int .i64 p0, .int .i64 p1, .int .i64 p2, .int .i64 p3] 23)).alloc (.cells #[.int .i64 0, .int .i64 0, .int .i64 0, .int .i64 0] 23)) := ((Below.refl _ _).alloc (Nat.le_refl _) _).alloc (by simp) _
  obtain ⟨W, hW⟩ : ∃ W, ((w.alloc (.cells #[.int .i64 p0, .int .i64 p1, .int .i64 p2, .int .i64 p3] 23)).alloc (.cells #[.int .i64 0, .int .i64 0, .int .i64 0, .int .i64 0] 23)) = W := ⟨_, rfl⟩
  rw [hW] at B0 B1 BB
  have HBB := Lib.hid BB
  clear BB
  unfold pagg
  go_enter Try.func55, Try.ntmps55
  go_wp2_with fail
  clear hW
  refine wp_region_held_drew (S := fun W => Blk W w.heap.size 23 #[.int .i64 p0, .int .i64 p1, .int .i64 p2, .int .i64 p3]) (by kernel_rfl) B0.drew (fun hHeld => ?_)
  refine wpAnyH_take (i := 0) (oi := _) (v := .pointer (some ⟨w.heap.size, 0, none⟩)) rfl (by kernel_rfl) (by kernel_rfl) (by kernel_rfl) (fun _ _ _ h => h) (Or.inl ⟨by rfl, fun W1 _ => by go_simp⟩) (by assumption) ?_
  go_simp
  refine wpAnyH_take (i := 1) (oi := _) (v := .int .i64 p0) rfl (by kernel_rfl) (by kernel_rfl) (by kernel_rfl) (fun _ _ _ h => h) (Or.inl ⟨by rfl, fun W1 hS => by (obtain ⟨z0, z1, z2, z3, _⟩ := blk4 hS; go_simp)⟩) (by assumption) ?_
  go_simp
  refine wpAnyH_take (i := 3) (oi := _) (v := .pointer (some ⟨w.heap.size, 1, none⟩)) rfl (by kernel_rfl) (by kernel_rfl) (by kernel_rfl) (fun _ _ _ h => h) (Or.inl ⟨by rfl, fun W1 _ => by go_simp⟩) (by assumption) ?_
  go_simp
  refine wpAnyH_take (i := 4) (oi := _) (v := .int .i64 p1) rfl (by kernel_rfl) (by kernel_rfl) (by kernel_rfl) (fun _ _ _ h => h) (Or.inl ⟨by rfl, fun W1 hS => by (obtain ⟨z0, z1, z2, z3, _⟩ := blk4 hS; go_simp)⟩) (by assumption) ?_
  go_simp
  refine wpAnyH_take (i := 6) (oi := _) (v := .pointer (some ⟨w.heap.size, 2, none⟩)) rfl (by kernel_rfl) (by kernel_rfl) (by kernel_rfl) (fun _ _ _ h => h) (Or.inl ⟨by rfl, fun W1 _ => by go_simp⟩) (by assumption) ?_
  go_simp
  refine wpAnyH_take (i := 7) (oi := _) (v := .int .i64 p2) rfl (by kernel_rfl) (by kernel_rfl) (by kernel_rfl) (fun _ _ _ h => h) (Or.inl ⟨by rfl, fun W1 hS => by (obtain ⟨z0, z1, z2, z3, _⟩ := blk4 hS; go_simp)⟩) (by assumption) ?_
  go_simp
  refine wpAnyH_take (i := 9) (oi := _) (v := .pointer (some ⟨w.heap.size, 3, none⟩)) rfl (by kernel_rfl) (by kernel_rfl) (by kernel_rfl) (fun _ _ _ h => h) (Or.inl ⟨by rfl, fun W1 _ => by go_simp⟩) (by assumption) ?_
  go_simp
  refine wpAnyH_take (i := 10) (oi := _) (v := .int .i64 p3) rfl (by kernel_rfl) (by kernel_rfl) (by kernel_rfl) (fun _ _ _ h => h) (Or.inl ⟨by rfl, fun W1 hS => by (obtain ⟨z0, z1, z2, z3, _⟩ := blk4 hS; go_simp)⟩) (by assumption) ?_
  go_simp
  refine wpAnyH_ready (rs := [2]) (by kernel_rfl) (by simp) ?_
  refine AllReadyH.cons (o := _) rfl (fun K hK => ?_) AllReadyH.nil
  go_simp
  go_at_call 86
  refine (rxU_any p0 _).mono ?_
  rintro e w' ⟨rfl, rfl⟩
  go_wp2_with fail
  refine hK.out _ _ hHeld (fun hHeld => ?_)
  clear hK
  try simp only [Act.put, List.setIfInBounds_toArray, List.set_cons_zero, List.set_cons_succ]
  refine wpAnyH_ready (rs := [5]) (by kernel_rfl) (by simp) ?_
  refine AllReadyH.cons (o := _) rfl (fun K hK => ?_) AllReadyH.nil
  go_simp
  go_at_call 86
  refine (rxU_any p1 _).mono ?_
  rintro e w' ⟨rfl, rfl⟩
  go_wp2_with fail
  refine hK.out _ _ hHeld (fun hHeld => ?_)
  clear hK
  try simp only [Act.put, List.setIfInBounds_toArray, List.set_cons_zero, List.set_cons_succ]
  refine wpAnyH_ready (rs := [8]) (by kernel_rfl) (by simp) ?_
  refine AllReadyH.cons (o := _) rfl (fun K hK => ?_) AllReadyH.nil
  go_simp
  go_at_call 86
  refine (rxU_any p2 _).mono ?_
  rintro e w' ⟨rfl, rfl⟩
  go_wp2_with fail
  refine hK.out _ _ hHeld (fun hHeld => ?_)
  clear hK
  try simp only [Act.put, List.setIfInBounds_toArray, List.set_cons_zero, List.set_cons_succ]
  refine wpAnyH_ready (rs := [11]) (by kernel_rfl) (by simp) ?_
  refine AllReadyH.cons (o := _) rfl (fun K hK => ?_) AllReadyH.nil
  go_simp
  go_at_call 86
  refine (rxU_any p3 _).mono ?_
  rintro e w' ⟨rfl, rfl⟩
  go_wp2_with fail
  refine hK.out _ _ hHeld (fun hHeld => ?_)
  clear hK
  try simp only [Act.put, List.setIfInBounds_toArray, List.set_cons_zero, List.set_cons_succ]
  refine wpAnyH_take (i := 12) (oi := _) (v := .agg #[.int .i64 (unt p0), .int .i64 (unt p1), .int .i64 (unt p2), .int .i64 (unt p3)]) rfl (by kernel_rfl) (by kernel_rfl) (by kernel_rfl) (fun _ _ _ h => h) (Or.inl ⟨by rfl, fun W1 _ => by go_simp⟩) (by assumption) ?_
  go_simp
  obtain ⟨f0, f1, f2, f3, ff⟩ := blk4 B1
  refine wpAnyH_ready (rs := [13]) (by kernel_rfl) (by simp) ?_
  refine AllReadyH.cons (o := _) rfl (fun K hK => ?_) AllReadyH.nil
  rw [if_pos (by rfl)]
  go_simp
  refine hK.out _ _ ?_ (fun hHeld => ?_)
  · exact (Blk.set1 (Blk.set1 (Blk.set1 (Blk.set1 B0 (by simp) _) (by simp) _) (by simp) _) (by simp) _).drew
  clear hK
  try simp only [Act.put, List.setIfInBounds_toArray, List.set_cons_zero, List.set_cons_succ]
  refine wpAnyH_done (by kernel_rfl) ?_ _
  clear f0 f1 f2 f3 ff hHeld
  have B2 := ((((B1.set_ 0 (.int .i64 (unt p0))).set_ 1 (.int .i64 (unt p1))).set_ 2 (.int .i64 (unt p2))).set_ 3 (.int .i64 (unt p3))).drew
  have BB2 : Below w.heap.size w (((((W.setCell ⟨w.heap.size + 1, 0, none⟩ (.int .i64 (unt p0))).setCell ⟨w.heap.size + 1, 1, none⟩ (.int .i64 (unt p1))).setCell ⟨w.heap.size + 1, 2, none⟩ (.int .i64 (unt p2))).setCell ⟨w.heap.size + 1, 3, none⟩ (.int .i64 (unt p3))).drew) := ((((HBB.out.setCell (by simp) _).setCell (by simp) _).setCell (by simp) _).setCell (by simp) _).drew
  obtain ⟨W9, hW9⟩ : ∃ W9, ((((W.setCell ⟨w.heap.size + 1, 0, none⟩ (.int .i64 (unt p0))).setCell ⟨w.heap.size + 1, 1, none⟩ (.int .i64 (unt p1))).setCell ⟨w.heap.size + 1, 2, none⟩ (.int .i64 (unt p2))).setCell ⟨w.heap.size + 1, 3, none⟩ (.int .i64 (unt p3))).drew = W9 := ⟨_, rfl⟩
  rw [hW9] at B2 BB2 ⊢
  clear hW9 B0 B1
  obtain ⟨f0, f1, f2, f3, ff⟩ := blk4 (show Blk W9 _ _ #[.int .i64 (unt p0), .int .i64 (unt p1), .int .i64 (unt p2), .int .i64 (unt p3)] from B2)
  clear B2
  go_wp2_with fail
  refine bodyPost_ret (v := .agg #[.int .i64 (unt p0), .int .i64 (unt p1), .int .i64 (unt p2), .int .i64 (unt p3)]) (by simp [results, Try.results55, go_sem, f0, f1, f2, f3]) rfl ?_
  exact ⟨rfl, BB2⟩

end Go.Proofs.Ytcighjeiimjbiaa.Pro

/- ProJ: Layer 9, both sides: knots of numbers, names. -/
namespace Go.Proofs.Ytcighjeiimjbiaa.Pro
open Go.RowKit Go.Proofs.Ytcighjeiimjbiaa Go.Proofs.Ytcighjeiimjbiaa.NumPure Go.Proofs.Ytcighjeiimjbiaa.RegG

/-- The knots of numbers. -/
def pairs : List Int → List K2
  | a :: b :: l => (a, b) :: pairs l
  | _ => []
theorem pairs_len : ∀ xs : List Int, (pairs xs).length = xs.length / 2
  | [] => rfl
  | [_] => by simp [pairs]
  | a :: b :: l => by
    simp only [pairs, List.length_cons, pairs_len l]
    omega
theorem pairs_at : ∀ (xs : List Int) (j : Nat) (h : j < (pairs xs).length) (h0 : 2 * j < xs.length) (h1 : 2 * j + 1 < xs.length), (pairs xs)[j] = (xs[2 * j], xs[2 * j + 1])
  | [], j, h, _, _ => by simp [pairs] at h
  | [_], j, h, _, _ => by simp [pairs] at h
  | a :: b :: l, 0, h, _, _ => rfl
  | a :: b :: l, j + 1, h, h0, h1 => by
    have := pairs_at l j (by simpa [pairs] using h) (by simp at h0; omega) (by simp at h1; omega)
    simp only [pairs, List.getElem_cons_succ, this]
    rfl
/-- Numbers that are read. -/
abbrev IntR (w : World) (A : Option Addr) (xs : List Int) : Prop := Reads w w.heap.size 1 A xs.length (xs.map (Value.int .i64))
theorem IntR.below {w w' : World} {A : Option Addr} {xs : List Int} (h : IntR w A xs) (hb : Below w.heap.size w w') : IntR w' A xs := (Reads.below h hb).more hb.size
theorem IntR.at_ {w : World} {ad : Addr} {xs : List Int} (h : IntR w (some ad) xs) (i : Nat) (hi : i < xs.length) : w.cell? (ad.add i) = some (.int .i64 xs[i]) := by
  obtain ⟨a, e, _, hc⟩ := h.2 (by omega)
  injection e with e
  subst e
  exact hc i _ (by simp [hi])
def KnC (l : List K2) (w : World) (e : Ending) (w' : World) : Prop := ∃ A cap, e = .returned (.slice A l.length cap) ∧ KnR w' A l ∧ New w.heap.size A ∧ Below w.heap.size w w'
theorem KnC.mk {l : List K2} {w w' : World} {A : Option Addr} {q cap : Nat} (hq : q = l.length) (h : KnR w' A l) (hw : New w.heap.size A) (hb : Below w.heap.size w w') : KnC l w (.returned (.slice A q cap)) w' := ⟨A, cap, by rw [hq], h, hw, hb⟩
theorem kns_snoc (l : List K2) (j : Nat) (hj : j < l.length) {x y : Int} (h : l[j] = (x, y)) : kns (l.take j) ++ (#[.int .i64 x, .int .i64 y] : Array Value).toList = kns (l.take (j + 1)) := by
  rw [List.take_succ_eq_append_getElem hj, kns_app, h]
  rfl
set_option maxRecDepth 100000 in
set_option maxHeartbeats 8000000 in
theorem knots_any (A : Option Addr) (xs : List Int) (c : Nat) (w : World) (h : IntR w A xs) (hmax : xs.length ≤ 1048576) : Calls Try.prog 31 #[.slice A xs.length c] w (KnC (pairs xs) w) := by
  obtain ⟨n, hn⟩ : ∃ n, xs.length = n := ⟨_, rfl⟩
  obtain ⟨q, hq⟩ : ∃ q, (pairs xs).length = q := ⟨_, rfl⟩
  have hqn : q = n / 2 := by rw [← hq, pairs_len, hn]
  rw [hn] at hmax ⊢
  have HN := Lib.hid hn
  have HQ := Lib.hid hq
  have H := Lib.hid h
  have HQN := Lib.hid hqn
  clear h hn hq hqn
  go_enter Try.func31, Try.ntmps31
  go_wp2_with fail
  go_loopw [3, 4] (fun v i wr => ∃ j : Nat, i = .int .i64 (2 * (j : Int)) ∧ j ≤ q ∧ wr.ownsRow w.heap.size 72 2 v j (kns ((pairs xs).take j)) ∧ Below w.heap.size w wr) (fun _ i _ => (n - intOf i).toNat)
  case atStart => exact ⟨0, rfl, by omega, ⟨by simp [kns], .inl ⟨rfl, rfl⟩⟩, Below.refl _ _⟩
  case round =>
    obtain ⟨j, rfl, hj, ho, hb⟩ := hrel
    have hqn := HQN.out
    have w1 : IntKind.i64.wrap (2 * (j : Int) + 1) = 2 * (j : Int) + 1 := IntWalk.i64_in _ (by omega)
    have w2 : IntKind.i64.wrap (2 * (j : Int) + 2) = 2 * (j : Int) + 2 := IntWalk.i64_in _ (by omega)
    by_cases hlt : j < q
    · have h0 : 2 * j < n := by omega
      have h1 : 2 * j + 1 < n := by omega
      have hi1 : (2 * (j : Int) + 1 < (n : Int)) := by omega
      have hi0 : (2 * (j : Int) < (n : Int)) := by omega
      have p0 : (0 : Int) ≤ 2 * (j : Int) := by omega
      have p1 : (0 : Int) ≤ 2 * (j : Int) + 1 := by omega
      have t0 : (2 * (j : Int)).toNat = 2 * j := by omega
      have t1 : (2 * (j : Int) + 1).toNat = 2 * j + 1 := by omega
      have hjl : j < (pairs xs).length := by have := HQ.out; omega
      have hx0 : 2 * j < xs.length := by have := HN.out; omega
      have hx1 : 2 * j + 1 < xs.length := by have := HN.out; omega
      obtain ⟨ad, rfl, _⟩ : ∃ ad, A = some ad ∧ ad.block < w.heap.size := by
        obtain ⟨a, e, hb, _⟩ := H.out.2 (by omega)
        exact ⟨a, e, hb⟩
      have hp := pairs_at xs j hjl hx0 hx1
      obtain ⟨x, hx⟩ : ∃ x, xs[2 * j] = x := ⟨_, rfl⟩
      obtain ⟨y, hy⟩ : ∃ y, xs[2 * j + 1] = y := ⟨_, rfl⟩
      have HC : Hid (∀ W, Below w.heap.size w W → W.cell? (ad.add (2 * j)) = some (.int .i64 x) ∧ W.cell? ⟨ad.block, ad.off + (2 * j + 1), none⟩ = some (.int .i64 y)) := Lib.hid (fun W hW => by
        have k0 := (H.out.below hW).at_ (2 * j) hx0
        have k1 := (H.out.below hW).at_ (2 * j + 1) hx1
        rw [hx] at k0
        rw [hy] at k1
        unfold Addr.add at k1
        rw [if_neg (by omega)] at k1
        exact ⟨k0, k1⟩)
      rw [hx, hy] at hp
      have R0 : R1 72 2 w u3 j (kns ((pairs xs).take j)) none wr.drew := R1.drew ⟨ho, (fun _ _ e => by cases e), hb⟩
      have HS := Lib.hid (kns_snoc (pairs xs) j hjl hp)
      clear hx hy ho hb hp hjl hqn
      go_wp2_with fail
      refine wp_region_G (S := S1 99 (fun _ => True) (fun W => Below w.heap.size w W)) (by kernel_rfl) ⟨fun _ => trivial, R0.below⟩ (fun hHeld => ?_)
      refine wpAnyG_take (i := 0) (oi := _) (v := u3) rfl (by kernel_rfl) (by kernel_rfl) (by kernel_rfl) (fun _ _ _ h => h) (fun _ _ => S1.un (by decide)) (by kernel_rfl) (Or.inl ⟨by rfl, fun W1 _ => by go_simp⟩) (S1.set (by decide) hHeld) (fun hHeld => ?_)
      go_simp
      refine wpAnyG_take (i := 1) (oi := _) (v := .slice (some ad) n c) rfl (by kernel_rfl) (by kernel_rfl) (by kernel_rfl) (fun _ _ _ h => h) (fun _ _ => S1.un (by decide)) (by kernel_rfl) (Or.inl ⟨by rfl, fun W1 _ => by go_simp⟩) (S1.set (by decide) hHeld) (fun hHeld => ?_)
      go_simp
      refine wpAnyG_take (i := 2) (oi := _) (v := .int .i64 (2 * (j : Int))) rfl (by kernel_rfl) (by kernel_rfl) (by kernel_rfl) (fun _ _ _ h => h) (fun _ _ => S1.un (by decide)) (by kernel_rfl) (Or.inl ⟨by rfl, fun W1 _ => by go_simp⟩) (S1.set (by decide) hHeld) (fun hHeld => ?_)
      go_simp
      refine wpAnyG_take (i := 3) (oi := _) (v := .pointer (some (ad.add (2 * j)))) rfl (by kernel_rfl) (by kernel_rfl) (by kernel_rfl) (fun _ _ _ h => h) (fun _ _ => S1.un (by decide)) (by kernel_rfl) (Or.inl ⟨by rfl, fun W1 _ => by (go_simp; try (intro hh; exact absurd hh (by omega)))⟩) (S1.set (by decide) hHeld) (fun hHeld => ?_)
      go_simp
      refine wpAnyG_take (i := 4) (oi := _) (v := .int .i64 x) rfl (by kernel_rfl) (by kernel_rfl) (by kernel_rfl) (fun _ _ _ h => h) (fun _ _ => S1.un (by decide)) (by kernel_rfl) (Or.inl ⟨by rfl, fun W1 h1 => by (obtain ⟨l, hcl, hi, hS⟩ := h1; have hT := hS.T; have z := HC.out W1 hT; obtain ⟨z0, z1⟩ := z; go_simp)⟩) (S1.set (by decide) hHeld) (fun hHeld => ?_)
      go_simp
      refine wpAnyG_take (i := 5) (oi := _) (v := .slice (some ad) n c) rfl (by kernel_rfl) (by kernel_rfl) (by kernel_rfl) (fun _ _ _ h => h) (fun _ _ => S1.un (by decide)) (by kernel_rfl) (Or.inl ⟨by rfl, fun W1 _ => by go_simp⟩) (S1.set (by decide) hHeld) (fun hHeld => ?_)
      go_simp
      refine wpAnyG_take (i := 6) (oi := _) (v := .int .i64 (2 * (j : Int))) rfl (by kernel_rfl) (by kernel_rfl) (by kernel_rfl) (fun _ _ _ h => h) (fun _ _ => S1.un (by decide)) (by kernel_rfl) (Or.inl ⟨by rfl, fun W1 _ => by go_simp⟩) (S1.set (by decide) hHeld) (fun hHeld => ?_)
      go_simp
      refine wpAnyG_take (i := 7) (oi := _) (v := .int .i64 (2 * (j : Int) + 1)) rfl (by kernel_rfl) (by kernel_rfl) (by kernel_rfl) (fun _ _ _ h => h) (fun _ _ => S1.un (by decide)) (by kernel_rfl) (Or.inl ⟨by rfl, fun W1 _ => by go_simp⟩) (S1.set (by decide) hHeld) (fun hHeld => ?_)
      go_simp
      refine wpAnyG_take (i := 8) (oi := _) (v := .pointer (some ⟨ad.block, ad.off + (2 * j + 1), none⟩)) rfl (by kernel_rfl) (by kernel_rfl) (by kernel_rfl) (fun _ _ _ h => h) (fun _ _ => S1.un (by decide)) (by kernel_rfl) (Or.inl ⟨by rfl, fun W1 _ => by (go_simp; try (intro hh; exact absurd hh (by omega)))⟩) (S1.set (by decide) hHeld) (fun hHeld => ?_)
      go_simp
      refine wpAnyG_take (i := 9) (oi := _) (v := .int .i64 y) rfl (by kernel_rfl) (by kernel_rfl) (by kernel_rfl) (fun _ _ _ h => h) (fun _ _ => S1.un (by decide)) (by kernel_rfl) (Or.inl ⟨by rfl, fun W1 h1 => by (obtain ⟨l, hcl, hi, hS⟩ := h1; have hT := hS.T; have z := HC.out W1 hT; obtain ⟨z0, z1⟩ := z; go_simp)⟩) (S1.set (by decide) hHeld) (fun hHeld => ?_)
      go_simp
      refine wpAnyG_take (i := 10) (oi := _) (v := .agg #[.int .i64 x, .int .i64 y]) rfl (by kernel_rfl) (by kernel_rfl) (by kernel_rfl) (fun _ _ _ h => h) (fun _ _ => S1.un (by decide)) (by kernel_rfl) (Or.inl ⟨by rfl, fun W1 _ => by go_simp⟩) (S1.set (by decide) hHeld) (fun hHeld => ?_)
      go_simp
      refine wpAnyG_ready (rs := [11]) (by kernel_rfl) (by simp) ?_
      refine AllReadyG.cons (o := _) rfl (fun K hK => ?_) AllReadyG.nil
      rw [if_pos (by rfl)]
      refine wp_litK 23 rfl _ rfl _ _ R0 rfl (fun gK wK R1 => ?_)
      refine hK.out _ _ (⟨fun _ => trivial, R1.below⟩) (fun hHeld => ?_)
      clear hK
      try simp only [Act.put, List.setIfInBounds_toArray, List.set_cons_zero, List.set_cons_succ]
      refine wpAnyG_ready (rs := [12]) (by kernel_rfl) (by simp) ?_
      refine AllReadyG.cons (o := _) rfl (fun K hK => ?_) AllReadyG.nil
      rw [if_pos (by rfl)]
      refine wp_appK 24 rfl _ _ rfl R1 rfl rfl rfl (fun y hy => by (simp only [List.mem_cons, List.not_mem_nil, or_false] at hy; rcases hy with rfl | rfl <;> rfl)) (by omega) (fun vK wk R2 => ?_)
      refine hK.out _ _ (⟨fun _ => trivial, R2.below⟩) (fun hHeld => ?_)
      clear hK
      try simp only [Act.put, List.setIfInBounds_toArray, List.set_cons_zero, List.set_cons_succ]
      refine wpAnyG_take (i := 13) (oi := _) (v := vK) rfl (by kernel_rfl) (by kernel_rfl) (by kernel_rfl) (fun _ _ _ h => h) (fun _ _ => S1.un (by decide)) (by kernel_rfl) (Or.inl ⟨by rfl, fun W1 _ => by go_simp⟩) (S1.set (by decide) hHeld) (fun hHeld => ?_)
      go_simp
      refine wpAnyG_done (by kernel_rfl) ?_ _
      have HR := Lib.hid R2
      clear hHeld R2 R1 R0
      go_wp2_with fail
      go_roundw
      case rel => exact ⟨j + 1, by go_num, by omega, HS.out ▸ HR.out.row, HR.out.below⟩
      case measure => simp [intOf]; omega
    · obtain rfl : j = q := by omega
      have hall : (pairs xs).take j = pairs xs := by rw [← HQ.out]; exact List.take_length
      rw [hall] at ho
      obtain ⟨A9, c9, rfl, hr, hnw⟩ := knr_of_own ho HQ.out.symm
      have HNW := Lib.hid hnw
      have hge : ¬ (2 * (j : Int) + 1 < (n : Int)) := by omega
      have d0 : decide (2 * (j : Int) + 1 < (n : Int)) = false := by simpa using hge
      have HR := Lib.hid hr
      have HB := Lib.hid hb
      clear ho hb hr hall hqn hge hnw
      go_wp2_with fail
      go_ret
      exact KnC.mk HQ.out.symm HR.out HNW.out HB.out
set_option maxRecDepth 100000 in
set_option maxHeartbeats 8000000 in
theorem rknots_any (A : Option Addr) (xs : List Int) (c : Nat) (w : World) (h : IntR w A xs) (hmax : xs.length ≤ 1048576) : Calls Try.prog 39 #[.slice A xs.length c] w (KnC (pairs xs) w) := by
  obtain ⟨n, hn⟩ : ∃ n, xs.length = n := ⟨_, rfl⟩
  obtain ⟨q, hq⟩ : ∃ q, (pairs xs).length = q := ⟨_, rfl⟩
  have hqn : q = n / 2 := by rw [← hq, pairs_len, hn]
  rw [hn] at hmax ⊢
  have HN := Lib.hid hn
  have HQ := Lib.hid hq
  have H := Lib.hid h
  have HQN := Lib.hid hqn
  clear h hn hq hqn
  go_enter Try.func39, Try.ntmps39
  go_wp2_with fail
  go_loopw [3, 4] (fun v i wr => ∃ j : Nat, i = .int .i64 (2 * (j : Int)) ∧ j ≤ q ∧ wr.ownsRow w.heap.size 72 2 v j (kns ((pairs xs).take j)) ∧ Below w.heap.size w wr) (fun _ i _ => (n - intOf i).toNat)
  case atStart => exact ⟨0, rfl, by omega, ⟨by simp [kns], .inl ⟨rfl, rfl⟩⟩, Below.refl _ _⟩
  case round =>
    obtain ⟨j, rfl, hj, ho, hb⟩ := hrel
    have hqn := HQN.out
    have w1 : IntKind.i64.wrap (2 * (j : Int) + 1) = 2 * (j : Int) + 1 := IntWalk.i64_in _ (by omega)
    have w2 : IntKind.i64.wrap (2 * (j : Int) + 2) = 2 * (j : Int) + 2 := IntWalk.i64_in _ (by omega)
    by_cases hlt : j < q
    · have h0 : 2 * j < n := by omega
      have h1 : 2 * j + 1 < n := by omega
      have hi1 : (2 * (j : Int) + 1 < (n : Int)) := by omega
      have hi0 : (2 * (j : Int) < (n : Int)) := by omega
      have p0 : (0 : Int) ≤ 2 * (j : Int) := by omega
      have p1 : (0 : Int) ≤ 2 * (j : Int) + 1 := by omega
      have t0 : (2 * (j : Int)).toNat = 2 * j := by omega
      have t1 : (2 * (j : Int) + 1).toNat = 2 * j + 1 := by omega
      have hjl : j < (pairs xs).length := by have := HQ.out; omega
      have hx0 : 2 * j < xs.length := by have := HN.out; omega
      have hx1 : 2 * j + 1 < xs.length := by have := HN.out; omega
      obtain ⟨ad, rfl, _⟩ : ∃ ad, A = some ad ∧ ad.block < w.heap.size := by
        obtain ⟨a, e, hb, _⟩ := H.out.2 (by omega)
        exact ⟨a, e, hb⟩
      have hp := pairs_at xs j hjl hx0 hx1
      obtain ⟨x, hx⟩ : ∃ x, xs[2 * j] = x := ⟨_, rfl⟩
      obtain ⟨y, hy⟩ : ∃ y, xs[2 * j + 1] = y := ⟨_, rfl⟩
      have HC : Hid (∀ W, Below w.heap.size w W → W.cell? (ad.add (2 * j)) = some (.int .i64 x) ∧ W.cell? ⟨ad.block, ad.off + (2 * j + 1), none⟩ = some (.int .i64 y)) := Lib.hid (fun W hW => by
        have k0 := (H.out.below hW).at_ (2 * j) hx0
        have k1 := (H.out.below hW).at_ (2 * j + 1) hx1
        rw [hx] at k0
        rw [hy] at k1
        unfold Addr.add at k1
        rw [if_neg (by omega)] at k1
        exact ⟨k0, k1⟩)
      rw [hx, hy] at hp
      have R0 : R1 72 2 w u3 j (kns ((pairs xs).take j)) none wr.drew := R1.drew ⟨ho, (fun _ _ e => by cases e), hb⟩
      have HS := Lib.hid (kns_snoc (pairs xs) j hjl hp)
      clear hx hy ho hb hp hjl hqn
      go_wp2_with fail
      refine wp_region_G (S := S1 99 (fun _ => True) (fun W => Below w.heap.size w W)) (by kernel_rfl) ⟨fun _ => trivial, R0.below⟩ (fun hHeld => ?_)
      refine wpAnyG_take (i := 0) (oi := _) (v := u3) rfl (by kernel_rfl) (by kernel_rfl) (by kernel_rfl) (fun _ _ _ h => h) (fun _ _ => S1.un (by decide)) (by kernel_rfl) (Or.inl ⟨by rfl, fun W1 _ => by go_simp⟩) (S1.set (by decide) hHeld) (fun hHeld => ?_)
      go_simp
      refine wpAnyG_take (i := 1) (oi := _) (v := .slice (some ad) n c) rfl (by kernel_rfl) (by kernel_rfl) (by kernel_rfl) (fun _ _ _ h => h) (fun _ _ => S1.un (by decide)) (by kernel_rfl) (Or.inl ⟨by rfl, fun W1 _ => by go_simp⟩) (S1.set (by decide) hHeld) (fun hHeld => ?_)
      go_simp
      refine wpAnyG_take (i := 2) (oi := _) (v := .int .i64 (2 * (j : Int))) rfl (by kernel_rfl) (by kernel_rfl) (by kernel_rfl) (fun _ _ _ h => h) (fun _ _ => S1.un (by decide)) (by kernel_rfl) (Or.inl ⟨by rfl, fun W1 _ => by go_simp⟩) (S1.set (by decide) hHeld) (fun hHeld => ?_)
      go_simp
      refine wpAnyG_take (i := 3) (oi := _) (v := .pointer (some (ad.add (2 * j)))) rfl (by kernel_rfl) (by kernel_rfl) (by kernel_rfl) (fun _ _ _ h => h) (fun _ _ => S1.un (by decide)) (by kernel_rfl) (Or.inl ⟨by rfl, fun W1 _ => by (go_simp; try (intro hh; exact absurd hh (by omega)))⟩) (S1.set (by decide) hHeld) (fun hHeld => ?_)
      go_simp
      refine wpAnyG_take (i := 4) (oi := _) (v := .int .i64 x) rfl (by kernel_rfl) (by kernel_rfl) (by kernel_rfl) (fun _ _ _ h => h) (fun _ _ => S1.un (by decide)) (by kernel_rfl) (Or.inl ⟨by rfl, fun W1 h1 => by (obtain ⟨l, hcl, hi, hS⟩ := h1; have hT := hS.T; have z := HC.out W1 hT; obtain ⟨z0, z1⟩ := z; go_simp)⟩) (S1.set (by decide) hHeld) (fun hHeld => ?_)
      go_simp
      refine wpAnyG_take (i := 5) (oi := _) (v := .slice (some ad) n c) rfl (by kernel_rfl) (by kernel_rfl) (by kernel_rfl) (fun _ _ _ h => h) (fun _ _ => S1.un (by decide)) (by kernel_rfl) (Or.inl ⟨by rfl, fun W1 _ => by go_simp⟩) (S1.set (by decide) hHeld) (fun hHeld => ?_)
      go_simp
      refine wpAnyG_take (i := 6) (oi := _) (v := .int .i64 (2 * (j : Int))) rfl (by kernel_rfl) (by kernel_rfl) (by kernel_rfl) (fun _ _ _ h => h) (fun _ _ => S1.un (by decide)) (by kernel_rfl) (Or.inl ⟨by rfl, fun W1 _ => by go_simp⟩) (S1.set (by decide) hHeld) (fun hHeld => ?_)
      go_simp
      refine wpAnyG_take (i := 7) (oi := _) (v := .int .i64 (2 * (j : Int) + 1)) rfl (by kernel_rfl) (by kernel_rfl) (by kernel_rfl) (fun _ _ _ h => h) (fun _ _ => S1.un (by decide)) (by kernel_rfl) (Or.inl ⟨by rfl, fun W1 _ => by go_simp⟩) (S1.set (by decide) hHeld) (fun hHeld => ?_)
      go_simp
      refine wpAnyG_take (i := 8) (oi := _) (v := .pointer (some ⟨ad.block, ad.off + (2 * j + 1), none⟩)) rfl (by kernel_rfl) (by kernel_rfl) (by kernel_rfl) (fun _ _ _ h => h) (fun _ _ => S1.un (by decide)) (by kernel_rfl) (Or.inl ⟨by rfl, fun W1 _ => by (go_simp; try (intro hh; exact absurd hh (by omega)))⟩) (S1.set (by decide) hHeld) (fun hHeld => ?_)
      go_simp
      refine wpAnyG_take (i := 9) (oi := _) (v := .int .i64 y) rfl (by kernel_rfl) (by kernel_rfl) (by kernel_rfl) (fun _ _ _ h => h) (fun _ _ => S1.un (by decide)) (by kernel_rfl) (Or.inl ⟨by rfl, fun W1 h1 => by (obtain ⟨l, hcl, hi, hS⟩ := h1; have hT := hS.T; have z := HC.out W1 hT; obtain ⟨z0, z1⟩ := z; go_simp)⟩) (S1.set (by decide) hHeld) (fun hHeld => ?_)
      go_simp
      refine wpAnyG_take (i := 10) (oi := _) (v := .agg #[.int .i64 x, .int .i64 y]) rfl (by kernel_rfl) (by kernel_rfl) (by kernel_rfl) (fun _ _ _ h => h) (fun _ _ => S1.un (by decide)) (by kernel_rfl) (Or.inl ⟨by rfl, fun W1 _ => by go_simp⟩) (S1.set (by decide) hHeld) (fun hHeld => ?_)
      go_simp
      refine wpAnyG_ready (rs := [11]) (by kernel_rfl) (by simp) ?_
      refine AllReadyG.cons (o := _) rfl (fun K hK => ?_) AllReadyG.nil
      rw [if_pos (by rfl)]
      refine wp_litK 23 rfl _ rfl _ _ R0 rfl (fun gK wK R1 => ?_)
      refine hK.out _ _ (⟨fun _ => trivial, R1.below⟩) (fun hHeld => ?_)
      clear hK
      try simp only [Act.put, List.setIfInBounds_toArray, List.set_cons_zero, List.set_cons_succ]
      refine wpAnyG_ready (rs := [12]) (by kernel_rfl) (by simp) ?_
      refine AllReadyG.cons (o := _) rfl (fun K hK => ?_) AllReadyG.nil
      rw [if_pos (by rfl)]
      refine wp_appK 24 rfl _ _ rfl R1 rfl rfl rfl (fun y hy => by (simp only [List.mem_cons, List.not_mem_nil, or_false] at hy; rcases hy with rfl | rfl <;> rfl)) (by omega) (fun vK wk R2 => ?_)
      refine hK.out _ _ (⟨fun _ => trivial, R2.below⟩) (fun hHeld => ?_)
      clear hK
      try simp only [Act.put, List.setIfInBounds_toArray, List.set_cons_zero, List.set_cons_succ]
      refine wpAnyG_take (i := 13) (oi := _) (v := vK) rfl (by kernel_rfl) (by kernel_rfl) (by kernel_rfl) (fun _ _ _ h => h) (fun _ _ => S1.un (by decide)) (by kernel_rfl) (Or.inl ⟨by rfl, fun W1 _ => by go_simp⟩) (S1.set (by decide) hHeld) (fun hHeld => ?_)
      go_simp
      refine wpAnyG_done (by kernel_rfl) ?_ _
      have HR := Lib.hid R2
      clear hHeld R2 R1 R0
      go_wp2_with fail
      go_roundw
      case rel => exact ⟨j + 1, by go_num, by omega, HS.out ▸ HR.out.row, HR.out.below⟩
      case measure => simp [intOf]; omega
    · obtain rfl : j = q := by omega
      have hall : (pairs xs).take j = pairs xs := by rw [← HQ.out]; exact List.take_length
      rw [hall] at ho
      obtain ⟨A9, c9, rfl, hr, hnw⟩ := knr_of_own ho HQ.out.symm
      have HNW := Lib.hid hnw
      have hge : ¬ (2 * (j : Int) + 1 < (n : Int)) := by omega
      have d0 : decide (2 * (j : Int) + 1 < (n : Int)) = false := by simpa using hge
      have HR := Lib.hid hr
      have HB := Lib.hid hb
      clear ho hb hr hall hqn hge hnw
      go_wp2_with fail
      go_ret
      exact KnC.mk HQ.out.symm HR.out HNW.out HB.out

end Go.Proofs.Ytcighjeiimjbiaa.Pro

/- ProK: Layer 9, both sides: names. -/
namespace Go.Proofs.Ytcighjeiimjbiaa.Pro
open Go.RowKit Go.Proofs.Ytcighjeiimjbiaa Go.Proofs.Ytcighjeiimjbiaa.NumPure

/-- Bytes from 33 to 126. -/
def byOk (s : ByteArray) (k : Nat) : Prop := ∀ i (h : i < s.size), i < k → 33 ≤ s[i].toNat ∧ s[i].toNat ≤ 126
def isNm (s : ByteArray) : Prop := 1 ≤ s.size ∧ s.size ≤ 32 ∧ byOk s s.size
def nmB (s : ByteArray) : Bool := decide (1 ≤ s.size) && decide (s.size ≤ 32) && s.data.toList.all fun c => decide (33 ≤ c.toNat) && decide (c.toNat ≤ 126)
theorem nmB_iff (s : ByteArray) : nmB s = true ↔ isNm s := by
  unfold nmB isNm byOk
  rw [Bool.and_eq_true, Bool.and_eq_true, decide_eq_true_eq, decide_eq_true_eq, List.all_eq_true, and_assoc]
  refine and_congr_right fun _ => and_congr_right fun _ => ⟨fun h i hi _ => ?_, fun h c hc => ?_⟩
  · have := h s[i] (by simp [ByteArray.getElem_eq_getElem_data])
    simpa using this
  · obtain ⟨i, hi, rfl⟩ := List.getElem_of_mem hc
    have hs : i < s.size := by simpa using hi
    have := h i hs hs
    simp only [Bool.and_eq_true, decide_eq_true_eq]
    exact this
theorem byOk_zero (s : ByteArray) : byOk s 0 := fun i h h0 => by omega
theorem byOk_step {s : ByteArray} {k : Nat} (h : byOk s k) (hk : k < s.size) (h0 : 33 ≤ s[k].toNat) (h1 : s[k].toNat ≤ 126) : byOk s (k + 1) := fun i hi hik => by
  by_cases e : i = k
  · subst e; exact ⟨h0, h1⟩
  · exact h i hi (by omega)
theorem nmB_yes {s : ByteArray} (h : isNm s) : true = nmB s := ((nmB_iff s).2 h).symm
theorem nmB_no {s : ByteArray} (h : ¬ isNm s) : false = nmB s := by
  cases e : nmB s with
  | false => rfl
  | true => exact absurd ((nmB_iff s).1 e) h
theorem nm_bad {s : ByteArray} {k : Nat} (hk : k < s.size) (h : ¬ (33 ≤ s[k].toNat ∧ s[k].toNat ≤ 126)) : ¬ isNm s := fun ⟨_, _, h3⟩ => h (h3 k hk hk)
theorem NmC.mk {s : ByteArray} {b : Bool} {w w' : World} (h : b = nmB s) (hw : w' = w) : (Ending.returned (.bool b) = .returned (.bool (nmB s))) ∧ w = w' := ⟨by rw [h], hw.symm⟩

set_option maxHeartbeats 1000000 in
set_option maxRecDepth 100000 in
theorem isName_any (s : ByteArray) (w : World) (hs : s.size ≤ 9223372036854775807) : Calls Try.prog 47 #[.string s] w fun e w' => e = .returned (.bool (nmB s)) ∧ w = w' := by
  go_enter Try.func47, Try.ntmps47
  by_cases hb : s.size < 1 ∨ 32 < s.size
  · have hn : ¬ isNm s := fun ⟨a, b, _⟩ => by omega
    have HN := Lib.hid hn
    clear hn
    by_cases h1 : s.size < 1
    · clear hb
      go_wp2_with fail
      go_ret
      exact NmC.mk (nmB_no HN.out) rfl
    · have h2 : 32 < s.size := by omega
      clear hb
      go_wp2_with fail
      go_ret
      exact NmC.mk (nmB_no HN.out) rfl
  · have h1 : ¬ s.size < 1 := fun h => hb (.inl h)
    have h2 : ¬ 32 < s.size := fun h => hb (.inr h)
    have hne : s.size ≠ 0 := by omega
    clear hb
    go_wp2_with fail
    go_loop [14] (fun v => ∃ k : Nat, k ≤ s.size ∧ v = .int .i64 k ∧ byOk s k) (fun v => s.size - (intOf v).toNat)
    case atStart => exact ⟨0, by omega, rfl, byOk_zero s⟩
    case round =>
      obtain ⟨k, hk, rfl, ho⟩ := hrel
      by_cases hlt : k < s.size
      · obtain ⟨b, hbb⟩ : ∃ b, s[k].toNat = b := ⟨_, rfl⟩
        have hbt : b < 256 := by rw [← hbb]; exact s[k].toNat_lt
        by_cases hg : 33 ≤ b ∧ b ≤ 126
        · have HO := Lib.hid (byOk_step ho hlt (by omega) (by omega))
          obtain ⟨g1, g2⟩ := hg
          clear ho
          go_wp2_with fail
          go_round
          case rel => exact ⟨k + 1, by omega, by go_num, HO.out⟩
          case measure => simp [intOf]; omega
        · have HN := Lib.hid (nm_bad hlt (by rw [hbb]; exact hg))
          by_cases g1 : b < 33
          · clear hg ho
            go_wp2_with fail
            go_ret
            exact NmC.mk (nmB_no HN.out) rfl
          · have g2 : 126 < b := by omega
            clear hg ho
            go_wp2_with fail
            go_ret
            exact NmC.mk (nmB_no HN.out) rfl
      · obtain rfl : k = s.size := by omega
        have HN := Lib.hid (show isNm s from ⟨by omega, by omega, ho⟩)
        clear ho
        go_wp2_with fail
        go_ret
        exact NmC.mk (nmB_yes HN.out) rfl

set_option maxHeartbeats 1000000 in
set_option maxRecDepth 100000 in
theorem rName_any (s : ByteArray) (w : World) (hs : s.size ≤ 9223372036854775807) : Calls Try.prog 50 #[.string s] w fun e w' => e = .returned (.bool (nmB s)) ∧ w = w' := by
  go_enter Try.func50, Try.ntmps50
  go_wp2_with fail
  go_loop [3] (fun v => ∃ k : Nat, k ≤ s.size ∧ v = .int .i64 k ∧ byOk s k) (fun v => s.size - (intOf v).toNat)
  case atStart => exact ⟨0, by omega, rfl, byOk_zero s⟩
  case round =>
    obtain ⟨k, hk, rfl, ho⟩ := hrel
    by_cases hlt : k < s.size
    · obtain ⟨b, hbb⟩ : ∃ b, s[k].toNat = b := ⟨_, rfl⟩
      have hbt : b < 256 := by rw [← hbb]; exact s[k].toNat_lt
      by_cases hg : 33 ≤ b ∧ b ≤ 126
      · have HO := Lib.hid (byOk_step ho hlt (by omega) (by omega))
        obtain ⟨g1, g2⟩ := hg
        clear ho
        go_wp2_with fail
        go_round
        case rel => exact ⟨k + 1, by omega, by go_num, HO.out⟩
        case measure => simp [intOf]; omega
      · have HN := Lib.hid (nm_bad hlt (by rw [hbb]; exact hg))
        by_cases g1 : b < 33
        · clear hg ho
          go_wp2_with fail
          go_ret
          exact NmC.mk (nmB_no HN.out) rfl
        · have g2 : 126 < b := by omega
          clear hg ho
          go_wp2_with fail
          go_ret
          exact NmC.mk (nmB_no HN.out) rfl
    · obtain rfl : k = s.size := by omega
      by_cases h1 : s.size < 1
      · have HN := Lib.hid (show ¬ isNm s from fun ⟨a, b, _⟩ => by omega)
        clear ho
        go_wp2_with fail
        go_ret
        exact NmC.mk (nmB_no HN.out) rfl
      · by_cases h2 : 32 < s.size
        · have HN := Lib.hid (show ¬ isNm s from fun ⟨a, b, _⟩ => by omega)
          clear ho
          go_wp2_with fail
          go_ret
          exact NmC.mk ((decide_eq_false (by omega)).trans (nmB_no HN.out)) rfl
        · have HN := Lib.hid (show isNm s from ⟨by omega, by omega, ho⟩)
          clear ho
          go_wp2_with fail
          go_ret
          exact NmC.mk ((decide_eq_true (by omega)).trans (nmB_yes HN.out)) rfl

end Go.Proofs.Ytcighjeiimjbiaa.Pro

/- ProL: Layer 9, both sides: Check. -/
namespace Go.Proofs.Ytcighjeiimjbiaa.Pro
open Go.RowKit Go.Proofs.Ytcighjeiimjbiaa Go.Proofs.Ytcighjeiimjbiaa.NumPure
open Go.Proofs.Ytcighjeiimjbiaa.Mat (al ac invM invX appM info9 info3)

/-- A profile. -/
structure Pf where
  nm : ByteArray
  A : Option Addr
  c : Nat
  k : List K2
  m : Nat → Int
def Pf.lst (p : Pf) : List Value := .string p.nm :: .slice p.A p.k.length p.c :: al 9 p.m
def Pf.cells (p : Pf) : Array Value := p.lst.toArray
def Pf.val (p : Pf) : Value := .agg p.cells
theorem Pf.len (p : Pf) : p.lst.length = 11 := by simp [Pf.lst, Mat.al_len]
theorem Pf.size (p : Pf) : p.cells.size = 11 := by simp [Pf.cells, Pf.len]
theorem Pf.info (p : Pf) : (Try.prog.info? 27).map (·.size) = some p.cells.size := by rw [p.size]; kernel_rfl
theorem Pf.one (p : Pf) : p.cells.all (·.oneCell') = true := by simp [Pf.cells, Pf.lst, al, Value.oneCell']
/-- What a profile reads. -/
structure PfR (w : World) (p : Pf) : Prop where
  kn : KnR w p.A p.k
  sz : p.nm.size ≤ 9223372036854775807
theorem PfR.below {w w' : World} {p : Pf} (h : PfR w p) (hb : Below w.heap.size w w') : PfR w' p := ⟨h.kn.below hb, h.sz⟩
theorem Blk.at_ {w : World} {g : Nat} {t : TypeId} {cs : Array Value} (h : Blk w g t cs) (j : Nat) (v : Value) (hv : cs[j]? = some v) : w.cell? ⟨g, j, none⟩ = some v := by
  have := h.cell j
  rw [this, hv]
theorem blkP {w : World} {g : Nat} {t : TypeId} {p : Pf} (h : Blk w g t p.cells) : w.cell? ⟨g, 0, none⟩ = some (.string p.nm) ∧ w.cell? ⟨g, 1, none⟩ = some (.slice p.A p.k.length p.c) ∧ w.rangeAt g 2 (al 9 p.m) := by
  refine ⟨Blk.at_ h 0 _ (by simp [Pf.cells, Pf.lst]), Blk.at_ h 1 _ (by simp [Pf.cells, Pf.lst]), fun j v hv => Blk.at_ h (2 + j) v ?_⟩
  have : p.cells[2 + j]? = (al 9 p.m)[j]? := by
    rw [Nat.add_comm]
    simp [Pf.cells, Pf.lst]
  rw [this, hv]
theorem info9l {m : Nat → Int} : (Try.prog.info? 25).map (·.size) = some (al 9 m).length := by rw [Mat.al_len]; kernel_rfl
theorem acl (n : Nat) (m : Nat → Int) : (al n m).toArray = ac n m := rfl

def pErr (p : Pf) : Int := if nmB p.nm = true then (if kRis p.k = true then (if invX p.m = 0 then 0 else 16) else 16) else 13
def ChkC (p : Pf) (w : World) (e : Ending) (w' : World) : Prop := e = .returned (.int .i64 (pErr p)) ∧ Below w.heap.size w w'
theorem ChkC.mk {p : Pf} {w w' : World} {z : Int} (h : pErr p = z) (hb : Below w.heap.size w w') : ChkC p w (.returned (.int .i64 z)) w' := ⟨by rw [h], hb⟩
theorem pErr_name {p : Pf} (h : nmB p.nm = false) : pErr p = 13 := by unfold pErr; rw [if_neg (by simp [h])]
theorem pErr_ris {p : Pf} (h : nmB p.nm = true) (h1 : kRis p.k = false) : pErr p = 16 := by unfold pErr; rw [if_pos h, if_neg (by simp [h1])]
theorem pErr_inv {p : Pf} (h : nmB p.nm = true) (h2 : invX p.m ≠ 0) : pErr p = 16 := by unfold pErr; rw [if_pos h, if_neg h2, ite_self]
theorem pErr_ok {p : Pf} (h : nmB p.nm = true) (h1 : kRis p.k = true) (h2 : invX p.m = 0) : pErr p = 0 := by unfold pErr; rw [if_pos h, if_pos h1, if_pos h2]
theorem pErr_zero {p : Pf} (h : pErr p = 0) : nmB p.nm = true ∧ kRis p.k = true ∧ invX p.m = 0 := by
  unfold pErr at h
  by_cases a : nmB p.nm = true
  · rw [if_pos a] at h
    by_cases b : kRis p.k = true
    · rw [if_pos b] at h
      by_cases c : invX p.m = 0
      · exact ⟨a, b, c⟩
      · rw [if_neg c] at h; simp at h
    · rw [if_neg b] at h; simp at h
  · rw [if_neg a] at h; simp at h

set_option maxRecDepth 100000 in
set_option maxHeartbeats 4000000 in
theorem Check_any (p : Pf) (w : World) (h : PfR w p) : Calls Try.prog 24 #[p.val] w (ChkC p w) := by
  have B0 : Blk (w.alloc (.cells p.cells 27)) w.heap.size 27 p.cells := Blk.new _ _ _
  have BB : Below w.heap.size w (w.alloc (.cells p.cells 27)) := (Below.refl _ _).alloc (Nat.le_refl _) _
  obtain ⟨W, hW⟩ : ∃ W, w.alloc (.cells p.cells 27) = W := ⟨_, rfl⟩
  have C1 := isName_any p.nm W h.sz
  have hsW : w.heap.size + 1 = W.heap.size := by rw [← hW]; exact (Array.size_push _).symm
  rw [hW] at B0 BB
  have hr := h.below BB
  have HB := Lib.hid BB
  have HSW := Lib.hid hsW
  obtain ⟨f0, f1, fr⟩ := blkP B0
  obtain ⟨bn, hn⟩ : ∃ b, nmB p.nm = b := ⟨_, rfl⟩
  rw [hn] at C1
  have HB0 := Lib.hid B0
  have HR := Lib.hid hr
  have HN := Lib.hid hn
  clear h hr BB hsW B0 hn
  unfold Pf.val
  go_enter Try.func24, Try.ntmps24
  go_wp2_with fail
  refine C1.mono ?_
  rintro e w1 ⟨rfl, rfl⟩
  clear C1
  cases bn with
  | false =>
    go_wp2_with fail
    go_ret
    exact ChkC.mk (pErr_name HN.out) HB.out
  | true =>
    have C2 := crising_any p.A p.k p.c W HR.out.kn
    unfold RisC at C2
    obtain ⟨br, hbr⟩ : ∃ b, kRis p.k = b := ⟨_, rfl⟩
    rw [hbr] at C2
    have HK := Lib.hid hbr
    clear hbr
    go_wp2_with fail
    refine C2.mono ?_
    rintro e w1 ⟨rfl, hb1⟩
    clear C2
    have B1 := HB0.out.below hb1 (by have := HSW.out; omega)
    have HB1 := Lib.hid (HB.out.trans (hb1.mono (by have := HSW.out; omega)))
    clear f0 f1 fr hb1
    obtain ⟨f0, f1, fr⟩ := blkP B1
    clear B1
    cases br with
    | false =>
      go_wp2_with fail
      go_ret
      exact ChkC.mk (pErr_ris HN.out HK.out) HB1.out
    | true =>
      have C3 := Mat.inverse_any p.m w1
      obtain ⟨z, hz⟩ : ∃ b, invX p.m = b := ⟨_, rfl⟩
      rw [hz] at C3
      have HZ := Lib.hid hz
      clear hz
      go_wp2_with (refine wpList_load_mid rfl _ _ rfl w.heap.size 2 rfl (al 9 p.m) _ fr Try.underlying25 rfl info9l ?_)
      refine C3.mono ?_
      rintro e w2 ⟨rfl, hb2⟩
      have HB2 := Lib.hid (HB1.out.trans (hb2.mono HB1.out.size))
      clear C3 hb2 f0 f1 fr
      by_cases h0 : z = 0
      · subst h0
        go_wp2_with (first
          | (refine Mat.wpList_alloc9 rfl rfl ?_)
          | (refine wpList_store_row rfl _ _ _ rfl w2.heap.size (ac 9 (invM p.m)) rfl rfl 25 (ac 9 fun _ => 0) (heap_alloc_new _ _) info9 Mat.ac_same (Mat.ac_one 9 _) ?_; rw [World.setRow_alloc_new]))
        go_ret
        exact ChkC.mk (pErr_ok HN.out HK.out HZ.out) (HB2.out.alloc HB2.out.size _)
      · have h1 : (z != 0) = true := by simpa using h0
        go_wp2_with (first
          | (refine Mat.wpList_alloc9 rfl rfl ?_)
          | (refine wpList_store_row rfl _ _ _ rfl w2.heap.size (ac 9 (invM p.m)) rfl rfl 25 (ac 9 fun _ => 0) (heap_alloc_new _ _) info9 Mat.ac_same (Mat.ac_one 9 _) ?_; rw [World.setRow_alloc_new]))
        go_ret
        exact ChkC.mk (pErr_inv HN.out (by rw [HZ.out]; exact h0)) (HB2.out.alloc HB2.out.size _)

set_option maxRecDepth 100000 in
set_option maxHeartbeats 4000000 in
theorem rCheck_any (p : Pf) (w : World) (h : PfR w p) : Calls Try.prog 25 #[p.val] w (ChkC p w) := by
  have B0 : Blk (w.alloc (.cells p.cells 27)) w.heap.size 27 p.cells := Blk.new _ _ _
  have BB : Below w.heap.size w (w.alloc (.cells p.cells 27)) := (Below.refl _ _).alloc (Nat.le_refl _) _
  obtain ⟨W, hW⟩ : ∃ W, w.alloc (.cells p.cells 27) = W := ⟨_, rfl⟩
  have C1 := rName_any p.nm W h.sz
  have hsW : w.heap.size + 1 = W.heap.size := by rw [← hW]; exact (Array.size_push _).symm
  rw [hW] at B0 BB
  have hr := h.below BB
  have HB := Lib.hid BB
  have HSW := Lib.hid hsW
  obtain ⟨f0, f1, fr⟩ := blkP B0
  obtain ⟨bn, hn⟩ : ∃ b, nmB p.nm = b := ⟨_, rfl⟩
  rw [hn] at C1
  have HB0 := Lib.hid B0
  have HR := Lib.hid hr
  have HN := Lib.hid hn
  clear h hr BB hsW B0 hn
  unfold Pf.val
  go_enter Try.func25, Try.ntmps25
  go_wp2_with fail
  refine C1.mono ?_
  rintro e w1 ⟨rfl, rfl⟩
  clear C1
  cases bn with
  | false =>
    go_wp2_with fail
    go_ret
    exact ChkC.mk (pErr_name HN.out) HB.out
  | true =>
    have C3 := Mat.rInverse_any p.m W
    obtain ⟨z, hz⟩ : ∃ b, invX p.m = b := ⟨_, rfl⟩
    rw [hz] at C3
    have HZ := Lib.hid hz
    clear hz
    go_wp2_with (refine wpList_load_mid rfl _ _ rfl w.heap.size 2 rfl (al 9 p.m) _ fr Try.underlying25 rfl info9l ?_)
    refine C3.mono ?_
    rintro e w2 ⟨rfl, hb2⟩
    clear C3 f0 f1 fr
    have B2 := HB0.out.below hb2 (by have := HSW.out; omega)
    have B3 := B2.alloc (.cells (ac 9 (invM p.m)) 25)
    clear B2
    obtain ⟨g0, g1, _⟩ := blkP B3
    have hb3 := ((Below.refl W.heap.size W).trans hb2).alloc hb2.size (.cells (ac 9 (invM p.m)) 25)
    have HB2 := Lib.hid (HB.out.trans (hb3.mono HB.out.size))
    have C2 := rcrising_any p.A p.k p.c _ (HR.out.below hb3).kn
    clear hb2 hb3 B3
    unfold RisC at C2
    obtain ⟨br, hbr⟩ : ∃ b, kRis p.k = b := ⟨_, rfl⟩
    rw [hbr] at C2
    have HK := Lib.hid hbr
    clear hbr
    go_wp2_with (first
      | (refine Mat.wpList_alloc9 rfl rfl ?_)
      | (refine wpList_store_row rfl _ _ _ rfl w2.heap.size (ac 9 (invM p.m)) rfl rfl 25 (ac 9 fun _ => 0) (heap_alloc_new _ _) info9 Mat.ac_same (Mat.ac_one 9 _) ?_; rw [World.setRow_alloc_new]))
    refine C2.mono ?_
    rintro e w3 ⟨rfl, hb3⟩
    have HB3 := Lib.hid (HB2.out.trans (hb3.mono HB2.out.size))
    clear C2 hb3 g0 g1
    cases br with
    | false =>
      go_wp2_with fail
      go_ret
      exact ChkC.mk (pErr_ris HN.out HK.out) HB3.out
    | true =>
      by_cases h0 : z = 0
      · subst h0
        go_wp2_with fail
        go_ret
        exact ChkC.mk (pErr_ok HN.out HK.out HZ.out) HB3.out
      · have h1 : (z != 0) = true := by simpa using h0
        go_wp2_with fail
        go_ret
        exact ChkC.mk (pErr_inv HN.out (by rw [HZ.out]; exact h0)) HB3.out

end Go.Proofs.Ytcighjeiimjbiaa.Pro
