/-
  Package journal: Append and Whole of any text.
-/
import Derived.Test.YtelacdaehmfcaaaJouC4
import Derived.Test.YtelacdaehmfcaaaJouSn
namespace Go.Proofs.Ytelacdaehmfcaaa.Jou
open Go.RowKit Go.Proofs.Ytelacdaehmfcaaa Go.Proofs.Ytelacdaehmfcaaa.WirePure Go.Proofs.Ytelacdaehmfcaaa.DigPure Go.Proofs.Ytelacdaehmfcaaa.JouPure Go.Proofs.Ytelacdaehmfcaaa.JouC

theorem whole_any (s : ByteArray) (w : World) (hs : s.size ≤ 4398046511104) : Calls Try.prog 20 #[.string s] w fun e w' => e = .returned (.bool ((scanJ s.data.toList).2.2.2 == 0)) ∧ Below w.heap.size w w' := by
  obtain ⟨g, l, m, x, hJ⟩ : ∃ g l m x, scanJ s.data.toList = (g, l, m, x) := ⟨_, _, _, _, rfl⟩
  have HSJ := Lib.hid hJ
  rw [hJ]
  have hsc := fun W => scan_any s W hs
  clear hJ
  go_enter Try.func20, Try.ntmps20
  go_wp2_with fail
  refine (hsc _).mono ?_
  intro e w1 hsp
  obtain ⟨A, c, rfl, hown, hb1⟩ := SP_of HSJ.out hsp
  clear hsp hown
  go_wp2_with fail
  go_ret
  exact ⟨rfl, hb1⟩

set_option maxHeartbeats 4000000 in
theorem append_any (s : ByteArray) (k q : Int) (hk : k ≤ 9223372036854775807) (d : ByteArray) (w : World) (hs : s.size ≤ 4398046511104) (hd : d.size ≤ 140737488355328) : Calls Try.prog 15 #[.string s, .agg #[.int .i64 k, .int .i64 q, .string d]] w fun e w' => e = .returned (erV (appJ s.data.toList k q d.data.toList)) ∧ Below w.heap.size w w' := by
  have hlen := cond_len s
  obtain ⟨g, l, m, x, hJ⟩ : ∃ g l m x, scanJ s.data.toList = (g, l, m, x) := ⟨_, _, _, _, rfl⟩
  have hll := scanJ_len s.data.toList
  rw [hJ, hlen] at hll
  simp only at hll
  have HSJ := Lib.hid hJ
  have hsc := fun W => scan_any s W hs
  obtain ⟨eb, y, he⟩ : ∃ eb y, encR k q d.data.toList = (eb, y) := ⟨_, _, rfl⟩
  have hen := fun W => encode_any k q hk d W hd
  rw [he] at hen
  unfold erV at hen
  simp only at hen
  have hcase := app_cases s.data.toList k q d.data.toList g m l x y eb hJ he
  rw [hlen] at hcase
  obtain ⟨u, hu⟩ : ∃ u : ByteArray, (⟨eb.toArray⟩ : ByteArray) = u := ⟨_, rfl⟩
  have hus : eb.length = u.size := by rw [← hu, mk_size]
  have hul := encR_len k q d.data.toList
  rw [he] at hul
  simp only at hul
  rw [hu] at hen
  rw [hus] at hcase hul
  have hsu : (s ++ u) = ⟨(s.data.toList ++ eb).toArray⟩ := by rw [← hu]; exact Dig.app_mk s.data.toList eb
  have H0 := Blk.new w 23 #[.int .i64 k, .int .i64 q, .string d]
  have hc0 : Below w.heap.size w (w.alloc (.cells #[.int .i64 k, .int .i64 q, .string d] 23)) := (Below.refl _ _).alloc (Nat.le_refl _) _
  clear hJ he hu hus hlen
  rcases hcase with ⟨hx, hF⟩ | ⟨rfl, hq, hF⟩ | ⟨rfl, rfl, hy, hF⟩ | ⟨rfl, rfl, rfl, hl, hF⟩ | ⟨rfl, rfl, rfl, hl, hF⟩
  · have HF := Lib.hid hF
    have tx : (x != 0) = true := by simpa using hx
    clear hF hx hsu
    go_enter Try.func15, Try.ntmps15
    go_wp2_with fail
    refine (hsc _).mono ?_
    intro e w1 hsp
    obtain ⟨A, c, rfl, hown, hb1⟩ := SP_of HSJ.out hsp
    have B1 := H0.below hb1 H0.lt
    have c1 := hc0.trans (hb1.mono hc0.size)
    have d0 := B1.cell 0
    have d1 := B1.cell 1
    have d2 := B1.cell 2
    simp only [List.getElem?_toArray, List.getElem?_cons_zero, List.getElem?_cons_succ] at d0 d1 d2
    clear hsp hown hb1
    go_wp2_with fail
    go_ret2
    exact ⟨by rw [HF.out]; rfl, c1⟩
  · have HF := Lib.hid hF
    have t1 : (q == (l.length : Int) + 1) = false := by simpa using hq
    have t2 : (q != (l.length : Int) + 1) = true := by simpa using hq
    clear hF hq hsu
    go_enter Try.func15, Try.ntmps15
    go_wp2_with fail
    refine (hsc _).mono ?_
    intro e w1 hsp
    obtain ⟨A, c, rfl, hown, hb1⟩ := SP_of HSJ.out hsp
    have B1 := H0.below hb1 H0.lt
    have c1 := hc0.trans (hb1.mono hc0.size)
    have d0 := B1.cell 0
    have d1 := B1.cell 1
    have d2 := B1.cell 2
    simp only [List.getElem?_toArray, List.getElem?_cons_zero, List.getElem?_cons_succ] at d0 d1 d2
    clear hsp hown hb1
    go_wp2_with fail
    go_ret2
    exact ⟨by rw [HF.out]; rfl, c1⟩
  · have HF := Lib.hid hF
    have ty : (y != 0) = true := by simpa using hy
    clear hF hy hsu
    go_enter Try.func15, Try.ntmps15
    go_wp2_with fail
    refine (hsc _).mono ?_
    intro e w1 hsp
    obtain ⟨A, c, rfl, hown, hb1⟩ := SP_of HSJ.out hsp
    have B1 := H0.below hb1 H0.lt
    have c1 := hc0.trans (hb1.mono hc0.size)
    have d0 := B1.cell 0
    have d1 := B1.cell 1
    have d2 := B1.cell 2
    simp only [List.getElem?_toArray, List.getElem?_cons_zero, List.getElem?_cons_succ] at d0 d1 d2
    clear hsp hown hb1
    go_wp2_with fail
    refine (hen _).mono ?_
    rintro e w2 ⟨rfl, hb2⟩
    have c2 := c1.trans (hb2.mono c1.size)
    clear hb2 d0 d1 d2
    go_wp2_with fail
    go_ret2
    exact ⟨by rw [HF.out]; rfl, c2⟩
  · have HF := Lib.hid hF
    clear hF hsu
    go_enter Try.func15, Try.ntmps15
    go_wp2_with fail
    refine (hsc _).mono ?_
    intro e w1 hsp
    obtain ⟨A, c, rfl, hown, hb1⟩ := SP_of HSJ.out hsp
    have B1 := H0.below hb1 H0.lt
    have c1 := hc0.trans (hb1.mono hc0.size)
    have d0 := B1.cell 0
    have d1 := B1.cell 1
    have d2 := B1.cell 2
    simp only [List.getElem?_toArray, List.getElem?_cons_zero, List.getElem?_cons_succ] at d0 d1 d2
    clear hsp hown hb1
    go_wp2_with fail
    refine (hen _).mono ?_
    rintro e w2 ⟨rfl, hb2⟩
    have c2 := c1.trans (hb2.mono c1.size)
    clear hb2 d0 d1 d2
    go_wp2_with fail
    go_ret2
    exact ⟨by rw [HF.out]; rfl, c2⟩
  · have HF := Lib.hid (hF.trans rfl)
    have HS := Lib.hid hsu
    clear hF hsu
    go_enter Try.func15, Try.ntmps15
    go_wp2_with fail
    refine (hsc _).mono ?_
    intro e w1 hsp
    obtain ⟨A, c, rfl, hown, hb1⟩ := SP_of HSJ.out hsp
    have B1 := H0.below hb1 H0.lt
    have c1 := hc0.trans (hb1.mono hc0.size)
    have d0 := B1.cell 0
    have d1 := B1.cell 1
    have d2 := B1.cell 2
    simp only [List.getElem?_toArray, List.getElem?_cons_zero, List.getElem?_cons_succ] at d0 d1 d2
    clear hsp hown hb1
    go_wp2_with fail
    refine (hen _).mono ?_
    rintro e w2 ⟨rfl, hb2⟩
    have c2 := c1.trans (hb2.mono c1.size)
    clear hb2 d0 d1 d2
    go_wp2_with fail
    go_ret2
    exact ⟨by rw [HF.out]; unfold erV; simp only; rw [← HS.out]; rfl, c2⟩

end Go.Proofs.Ytelacdaehmfcaaa.Jou
