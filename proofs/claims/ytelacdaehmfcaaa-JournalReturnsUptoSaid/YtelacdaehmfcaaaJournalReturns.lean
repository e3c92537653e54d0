/-
  JournalReturns: a journal that was written is read (within the statement's bound).
-/
import Derived.Test.YtelacdaehmfcaaaJouTl
namespace Go.Proofs.Ytelacdaehmfcaaa.JournalReturns
open Go.RowKit Go.Proofs.Ytelacdaehmfcaaa Go.Proofs.Ytelacdaehmfcaaa.WirePure Go.Proofs.Ytelacdaehmfcaaa.DigPure Go.Proofs.Ytelacdaehmfcaaa.JouPure Go.Proofs.Ytelacdaehmfcaaa.JouC Go.Proofs.Ytelacdaehmfcaaa.JouL

theorem RDs.more {w : World} {B B' : Nat} {A : Option Addr} {n : Nat} {f : Nat → Int × Int × ByteArray} (h : RDs w B A n f) (hb : B ≤ B') : RDs w B' A n f := fun h0 => by
  obtain ⟨ad, h1, h2, h3⟩ := h h0
  exact ⟨ad, h1, by omega, h3⟩

set_option maxHeartbeats 4000000 in
theorem walk (g : Int) (A : Option Addr) (n c : Nat) (f : Nat → Int × Int × ByteArray) (w : World) (hR : RDs w w.heap.size A n f) (hin : inOk n f) (hc : n ≤ c) : Calls Try.prog 6 #[.agg #[.int .i64 g, .slice A n c]] w fun e w' => e = .returned (.bool true) ∧ Below w.heap.size w w' := by
  obtain ⟨B, hB⟩ : ∃ B, w.heap.size = B := ⟨_, rfl⟩
  obtain ⟨w0, hw0⟩ : ∃ W, w.alloc (.cells #[.int .i64 g, .slice A n c] 38) = W := ⟨_, rfl⟩
  have T0 : Blk w0 B 38 #[.int .i64 g, .slice A n c] := by rw [← hB, ← hw0]; exact Blk.new _ _ _
  have c0 : Below B w w0 := by rw [← hB, ← hw0]; exact (Below.refl _ _).alloc (Nat.le_refl _) _
  have hB0 : B ≤ w0.heap.size := by rw [← hB]; exact c0.size
  have hR0 : RDs w0 w0.heap.size A n f := RDs.more (RDs.below hR (by rw [hB]; exact c0)) (by rw [hB]; exact hB0)
  have hw := write_any g A n c f w0 hR0 hin hc
  have hn20 : n ≤ 1048576 := hin.1
  rw [hB]
  clear hR hR0 hin
  have d0 := T0.cell 0
  have d1 := T0.cell 1
  simp only [List.getElem?_toArray, List.getElem?_cons_zero, List.getElem?_cons_succ] at d0 d1
  go_enter Try.func6, Try.ntmps6
  go_wp2_with fail
  refine hw.mono ?_
  clear hw hw0 d0 d1
  intro e w1 hwp
  rcases hwp with ⟨rfl, b1⟩ | ⟨gn, rs, vE, vL, rfl, hg1, hg2, hok, hn, rfl, oE, oL, b1⟩
  · have c1 := c0.trans (b1.mono hB0)
    go_wp2_with fail
    refine (example_any _).mono ?_
    rintro e w2 ⟨rfl, b2⟩
    go_wp2_with fail
    go_ret
    exact ⟨rfl, c1.trans (b2.mono (by have := b1.size; omega))⟩
  · have c1 := c0.trans (b1.mono hB0)
    have T1 := T0.below b1 T0.lt
    obtain ⟨A1, c1', rfl⟩ := own_form oE
    obtain ⟨A2, c2, rfl⟩ := own_form oL
    have hsc := scan_returns gn rs hg1 hg2 hok (by omega)
    have hjs := jou_size gn (by omega) rs hok
    obtain ⟨u, hu⟩ : ∃ u : ByteArray, (⟨(jou gn rs).toArray⟩ : ByteArray) = u := ⟨_, rfl⟩
    have hud : u.data.toList = jou gn rs := by rw [← hu]
    have hus : (jou gn rs).length = u.size := by rw [← hu, mk_size]
    rw [hus] at hjs hsc
    have hul : u.size ≤ 1099587125248 := by
      refine Nat.le_trans hjs ?_
      refine Nat.le_trans (Nat.mul_le_mul_left 1048600 (by omega : rs.length + 1 ≤ 1048577)) ?_
      decide
    rw [← hud] at hsc
    have h2 := fun W => Jou.scan_any u W (by omega)
    have h4 := fun W => Jou.whole_any u W (by omega)
    rw [hsc] at h4
    simp only at h4
    obtain ⟨N, hN⟩ : ∃ N, rs.length + 1 = N := ⟨_, rfl⟩
    rw [hN, hu]
    rw [hn] at oL ⊢
    have i1 : ¬ (N : Int) = 0 := by omega
    have d0 := T1.cell 0
    simp only [List.getElem?_toArray, List.getElem?_cons_zero] at d0
    have HSJ := Lib.hid hsc
    have HN := Lib.hid hn
    clear hjs hus hud hu hsc hN hn oE
    go_wp2_with fail
    refine (h2 _).mono ?_
    intro e w2 hsp
    obtain ⟨A3, c3, rfl, o3, b2⟩ := SP_of HSJ.out hsp
    rw [HN.out] at o3
    rw [HN.out]
    have oL2 := Reads.of_own (oL.kept (grown_below b2) (Classical.em _))
    have oM2 := Reads.of_own o3
    have cc2 := c1.trans (b2.mono (by have := b1.size; omega))
    have T2 := T1.below b2 T1.lt
    have d0 := T2.cell 0
    simp only [List.getElem?_toArray, List.getElem?_cons_zero] at d0
    clear hsp oL o3 b2
    go_wp2_with fail
    refine (same_yes A2 A3 _ c3 n 1 rs _ HN.out (by omega) oL2 oM2).mono ?_
    rintro e w3 ⟨rfl, m3, rfl⟩
    have cc3 := WireRd.bdN cc2 m3
    clear cc2 T2 d0 oL2 oM2
    go_wp2_with fail
    refine (h4 _).mono ?_
    rintro e w4 ⟨rfl, b4⟩
    have cc4 := cc3.trans (b4.mono (by have := cc3.size; omega))
    clear cc3 b4
    go_wp2_with fail
    refine (example_any _).mono ?_
    rintro e w5 ⟨rfl, b5⟩
    go_wp2_with fail
    go_ret
    exact ⟨rfl, cc4.trans (b5.mono (by have := cc4.size; omega))⟩

open Go.ChangeShapes Go.WideShapes Go.ChangeAt Go.Joins

theorem contract (H : Type) (enc : TypeId × Value → H) (W : World) (base : Nat) (args : Array Value) (ds gs : List (DataW H)) (before : List MemPlace)
    (hval : ∀ (j : Nat) t v, Try.f6.params[j]? = some t → args[j]? = some v → Value.okWide Try.prog W .any base t v)
    (hW : DataW.Whole enc Try.prog Try.f6.params.toList Rows.journalReturnsSpec.vars false W args.toList ds gs before) (hk : Rows.uptoSmall H (ds ++ gs) = true) :
    Calls Try.prog 6 args W fun e W' => ∃ v, e = .returned v ∧ Rows.journalReturnsSpec.post enc Try.prog Try.f6 false true false false W args v W' := by
  have hW' := hW
  obtain ⟨p, q, hA0, hV, rfl, hfz, hnd⟩ := hW
  have hA : DataW.TrodAll enc Try.prog W 0 (fun _ => true) true Try.f6.params.toList args.toList ds p := hA0
  rw [Try.params6] at hA hval
  obtain ⟨v0, vs0, d0, ds0, p0, q0, hargs, rfl, rfl, g0, r0⟩ := trodAll_cons hA
  obtain ⟨rfl, rfl, rfl⟩ := trodAll_nil r0
  obtain rfl : args = #[v0] := by cases args; simp_all
  obtain ⟨rfl, rfl⟩ := trodVars_none hV
  have hk0 : Rows.uptoBulk d0 ≤ 1048576 := Nat.le_trans ((bulk_mem _).2 d0 (by simp)) (of_decide_eq_true hk : Rows.uptoBulkAll _ ≤ 1048576)
  obtain ⟨z0, A0, n0, c0, f0, rfl, za0, zb0, hR0, hin0, hc0⟩ := openTale (hval 0 38 v0 rfl rfl) g0 hk0
  clear hA0
  simp only [List.append_nil] at hk
  refine (walk z0 A0 n0 c0 f0 W hR0 hin0 hc0).mono fun e W' ⟨he, hb⟩ => ?_
  subst he
  exact ⟨_, rfl, Frame.law_post Frame.laidOut (by kernel_rfl) Try.underlying4 (by kernel_rfl) rfl rfl hW' hb⟩

set_option maxRecDepth 100000 in
theorem lifted (os : Os) (started : os.Started) (H : Type) (enc : TypeId × Value → H) (F : Stop.Interp) :
    ReturnsInHanded {} Try.checked os 6 .any ((Rows.OpenSpec.upto Rows.journalReturnsSpec).pre6 enc Try.prog Try.f6 Rows.journalReturnsUptoRow.domain false) (((Rows.OpenSpec.upto Rows.journalReturnsSpec).at F).post enc Try.prog Try.f6 false true false false) := by
  refine returnsInHanded_of_cond (C := Try.checked) (s := Rows.OpenSpec.upto Rows.journalReturnsSpec) (k := Rows.uptoSmall) rfl Frame.own started (by kernel_rfl) Try.func6
    (OpenSpec.witness (enc := enc) (C := Try.checked) (s := Rows.OpenSpec.upto Rows.journalReturnsSpec) (k := Rows.uptoSmall) rfl false ⟨#[], #[.agg #[.int .i64 0, .slice none 0 0]], []⟩ 8 (by kernel_rfl) (by kernel_rfl) (by kernel_rfl)
      (x := ([.agg [.lit (.int .i64 0), .nil]], [], [])) (by kernel_rfl) rfl (by kernel_rfl)) ?_
  intro W base args ds gs before hval hW _ hk _
  exact contract H enc W base args ds gs before hval hW hk

theorem proved : Rows.JournalReturnsUptoSaid :=
  OpenClaim.holds_of_cond 6 Try.f6 rfl rfl rfl rfl rfl rfl rfl ⟨rfl, rfl, rfl, rfl, rfl⟩ rfl rfl rfl rfl rfl (by kernel_rfl) Try.func6 (by kernel_rfl)
    (of_decide_eq_true (by kernel_rfl)) (by unfold Func.isWrapper; first | (rw [if_pos (by decide +kernel)]; kernel_rfl) | (rw [if_neg (by decide +kernel)]; exact ⟨rfl, rfl⟩))
    (fun os started H enc _ F => lifted os started H enc F)

end Go.Proofs.Ytelacdaehmfcaaa.JournalReturns
