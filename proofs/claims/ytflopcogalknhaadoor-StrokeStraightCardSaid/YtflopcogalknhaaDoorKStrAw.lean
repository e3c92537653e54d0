/-
  Layer 21's laws: the chapter's examples.
-/
import Derived.Test.YtflopcogalknhaaDoorKStrEx
import Derived.Test.YtflopcogalknhaaDoorKStrLn
import Derived.Test.YtflopcogalknhaaDoorKStrOv
set_option linter.unusedVariables false
set_option linter.unusedSimpArgs false
namespace Go.Proofs.YtflopcogalknhaaDoor.Str
open Go.RowKit Go.Proofs.YtflopcogalknhaaDoor Go.Proofs.YtflopcogalknhaaDoor.NumPure

theorem two_z {w : World} {g : Nat} (h : Blk w g 30 #[.int .i64 0, .int .i64 0]) : w.cell? ⟨g, 0, none⟩ = some (.int .i64 0) ∧ w.cell? ⟨g, 1, none⟩ = some (.int .i64 0) := ⟨h.cell 0, h.cell 1⟩
theorem drew_z {n : Nat} (w : World) : Below n w w.drew := (Below.refl n w).drew
theorem line8d (a b c d a2 b2 c2 d2 : Int) (w : World) : Calls Tryd.prog 18 #[.slice (some ⟨w.heap.size, 0, none⟩) 8 8] (w.alloc (.cells #[.int .i64 a, .int .i64 b, .int .i64 c, .int .i64 d, .int .i64 a2, .int .i64 b2, .int .i64 c2, .int .i64 d2] 3)).drew (LnO [(a, b), (c, d), (a2, b2), (c2, d2)] w.drew) := by
  have hb : Below w.drew.heap.size w.drew (w.alloc (.cells #[.int .i64 a, .int .i64 b, .int .i64 c, .int .i64 d, .int .i64 a2, .int .i64 b2, .int .i64 c2, .int .i64 d2] 3)).drew :=
    (Below.refl w.drew.heap.size w.drew).alloc (Nat.le_refl _) (.cells #[.int .i64 a, .int .i64 b, .int .i64 c, .int .i64 d, .int .i64 a2, .int .i64 b2, .int .i64 c2, .int .i64 d2] 3)
  refine (line_any w.heap.size 8 [a, b, c, d, a2, b2, c2, d2] _ (inr_blk [a, b, c, d, a2, b2, c2, d2] (Blk.new w 3 _).drew rfl) (show 8 ≤ 1048576 by omega)).mono ?_
  rintro e w' ⟨A, cc, rfl, hp, hb'⟩
  exact ⟨A, cc, rfl, hp, hb.trans (hb'.mono hb.size)⟩
def bdB (L : List (List P2)) : Bool := L.all fun l => decide (l.length ≤ 100) && l.all fun p => decide (-1000 ≤ p.1) && decide (p.1 ≤ 1000) && decide (-1000 ≤ p.2) && decide (p.2 ≤ 1000)
theorem bd_all {L : List (List P2)} (h : bdB L = true) : (∀ l ∈ L, AllB 1000000000000 l) ∧ ∀ l ∈ L, l.length ≤ 100 := by
  unfold bdB at h
  simp only [List.all_eq_true, Bool.and_eq_true, decide_eq_true_eq] at h
  refine ⟨fun l hl p hp => ?_, fun l hl => (h l hl).1⟩
  have := (h l hl).2 p hp
  unfold Inb
  omega
/-- Lists that are equal. -/
theorem alike0 (A B : Option Addr) (ca cb : Nat) (L : List (List P2)) (w : World) (hA : PolR w A L) (hB : PolR w B L) (hb : bdB L = true) (hn : L.length ≤ 1000) :
    Calls Tryd.prog 13 #[.slice A L.length ca, .slice B L.length cb, .agg #[.int .i64 0, .int .i64 0]] w fun e w' => e = .returned (.bool true) ∧ Below w.heap.size w w' :=
  alike_any A B ca cb (0, 0) L w (by rw [mov_zero]; exact hA) hB (bd_all hb).1 ⟨by decide, by decide⟩ (by omega) (fun l hl => by have := (bd_all hb).2 l hl; omega)
theorem outC {wd j e : Int} {ls : List (List P2)} {ob : List Bool} {F : Int × List (List P2)} (hF : outF wd j e ls ob = F) (A Ab : Option Addr) (c cb : Nat) (w : World) (h : PolR w A ls) (hls : bdB ls = true) (hn : ls.length ≤ 1000) (hob : BoR w Ab ob) (hobn : ob.length ≤ 1000) (hT : Num.Tab w) :
    Calls Tryd.prog 9 #[.slice A ls.length c, .slice Ab ob.length cb, .int .i64 wd, .int .i64 j, .int .i64 e] w (OuC F w) := by
  rw [← hF]
  exact Outline_any A c ls Ab cb ob wd j e w h (by omega) (fun l hl => by have := (bd_all hls).2 l hl; omega) hob (by omega) hT
theorem dasC {ls : List (List P2)} {ob : List Bool} {p : List Int} {o : Int} {F : Int × List (List P2)} (hF : dasF ls ob p o = F) (A Ab Ap : Option Addr) (c cb cp : Nat) (w : World) (h : PolR w A ls) (hls : bdB ls = true) (hn : ls.length ≤ 1000) (hob : BoR w Ab ob) (hobn : ob.length ≤ 1000) (hp : InR w Ap p) (hpn : p.length ≤ 1000) :
    Calls Tryd.prog 15 #[.slice A ls.length c, .slice Ab ob.length cb, .slice Ap p.length cp, .int .i64 o] w (OuK F w) := by
  rw [← hF]
  exact Dash_any A c ls Ab cb ob Ap cp p o w h (by omega) (fun l hl => by have := (bd_all hls).2 l hl; omega) hob (by omega) hp (by omega)
set_option maxRecDepth 100000 in
set_option maxHeartbeats 4000000 in
theorem awake_any (w : World) (hT : Num.Tab w) : Calls Tryd.prog 14 #[] w fun e w' => e = .returned (.bool true) ∧ Below w.heap.size w w' := by
  have hb1 : Below w.heap.size w ((w.alloc (.cells #[.bool true] 4)).alloc (.cells #[.int .i64 0, .int .i64 0] 30)) := ((Below.refl _ _).alloc (Nat.le_refl _) _).alloc (by simp) _
  have hk1 : Blk ((w.alloc (.cells #[.bool true] 4)).alloc (.cells #[.int .i64 0, .int .i64 0] 30)) w.heap.size 4 #[.bool true] := (Blk.new w 4 #[.bool true]).alloc _
  have hk2 : Blk ((w.alloc (.cells #[.bool true] 4)).alloc (.cells #[.int .i64 0, .int .i64 0] 30)) (w.heap.size + 1) 30 #[.int .i64 0, .int .i64 0] := by
    have := Blk.new (w.alloc (.cells #[.bool true] 4)) 30 #[.int .i64 0, .int .i64 0]
    rw [← size_alloc1] at this
    exact this
  go_enter Tryd.func14, Tryd.ntmps14
  go_upto_region 2 with fail
  obtain ⟨W1, hW1⟩ : ∃ W, (w.alloc (.cells #[.bool true] 4)).alloc (.cells #[.int .i64 0, .int .i64 0] 30) = W := ⟨_, rfl⟩
  obtain ⟨g1, hg1⟩ : ∃ g, w.heap.size = g := ⟨_, rfl⟩
  obtain ⟨g2, hg2⟩ : ∃ g, g1 + 1 = g := ⟨_, rfl⟩
  rw [hW1] at hb1 hk1 hk2
  rw [hg1] at hk1 hk2
  rw [hg2] at hk2
  try rw [hW1]
  try rw [hg1]
  try rw [hg2]
  have HB := Lib.hid hb1
  have HT := Lib.hid (tab_below hT hb1)
  have HO := Lib.hid (bor_blk hk1)
  have HZ := Lib.hid hk2
  clear hb1 hk1 hk2 hT hW1 hg1 hg2
  go_wp2_with fail
  refine (line4 (5) (5) (5) (5) _).mono ?_
  rintro e9 w1 ⟨A_l1, c_l1, rfl, hp, hb⟩
  have HBx := Lib.hid (HB.out.trans (hb.mono HB.out.size))
  clear HB
  have HB := HBx
  clear HBx
  have HTx := Lib.hid (tab_below HT.out hb)
  clear HT
  have HT := HTx
  clear HTx
  have HOx := Lib.hid (BoR.below HO.out hb)
  clear HO
  have HO := HOx
  clear HOx
  have HZx := Lib.hid (HZ.out.below hb HZ.out.lt)
  clear HZ
  have HZ := HZx
  clear HZx
  clear hb
  have P_l1 := Lib.hid hp
  clear hp
  go_wp2_with fail
  refine (outC ex_a A_l1 (some ⟨g1, 0, none⟩) c_l1 _ _ P_l1.out (by decide) (by decide) HO.out (by decide) HT.out).mono ?_
  rintro e9 w2 ⟨A_a, c_a, rfl, hp, hb⟩
  dsimp only at hp ⊢
  have HBx := Lib.hid (HB.out.trans (hb.mono HB.out.size))
  clear HB
  have HB := HBx
  clear HBx
  have HTx := Lib.hid (tab_below HT.out hb)
  clear HT
  have HT := HTx
  clear HTx
  have HOx := Lib.hid (BoR.below HO.out hb)
  clear HO
  have HO := HOx
  clear HOx
  have HZx := Lib.hid (HZ.out.below hb HZ.out.lt)
  clear HZ
  have HZ := HZx
  clear HZx
  have P_l1x := Lib.hid (P_l1.out.below hb)
  clear P_l1
  have P_l1 := P_l1x
  clear P_l1x
  clear hb
  have P_a := Lib.hid hp
  clear hp
  clear P_l1
  go_wp2_with fail
  refine (line4 (5) (5) (5) (5) _).mono ?_
  rintro e9 w3 ⟨A_l2, c_l2, rfl, hp, hb⟩
  have HBx := Lib.hid (HB.out.trans (hb.mono HB.out.size))
  clear HB
  have HB := HBx
  clear HBx
  have HTx := Lib.hid (tab_below HT.out hb)
  clear HT
  have HT := HTx
  clear HTx
  have HOx := Lib.hid (BoR.below HO.out hb)
  clear HO
  have HO := HOx
  clear HOx
  have HZx := Lib.hid (HZ.out.below hb HZ.out.lt)
  clear HZ
  have HZ := HZx
  clear HZx
  have P_ax := Lib.hid (P_a.out.below hb)
  clear P_a
  have P_a := P_ax
  clear P_ax
  clear hb
  have P_l2 := Lib.hid hp
  clear hp
  go_wp2_with fail
  refine (outC ex_b A_l2 (some ⟨g1, 0, none⟩) c_l2 _ _ P_l2.out (by decide) (by decide) HO.out (by decide) HT.out).mono ?_
  rintro e9 w4 ⟨A_b, c_b, rfl, hp, hb⟩
  dsimp only at hp ⊢
  have HBx := Lib.hid (HB.out.trans (hb.mono HB.out.size))
  clear HB
  have HB := HBx
  clear HBx
  have HTx := Lib.hid (tab_below HT.out hb)
  clear HT
  have HT := HTx
  clear HTx
  have HOx := Lib.hid (BoR.below HO.out hb)
  clear HO
  have HO := HOx
  clear HOx
  have HZx := Lib.hid (HZ.out.below hb HZ.out.lt)
  clear HZ
  have HZ := HZx
  clear HZx
  have P_ax := Lib.hid (P_a.out.below hb)
  clear P_a
  have P_a := P_ax
  clear P_ax
  have P_l2x := Lib.hid (P_l2.out.below hb)
  clear P_l2
  have P_l2 := P_l2x
  clear P_l2x
  clear hb
  have P_b := Lib.hid hp
  clear hp
  clear P_l2
  clear P_b
  go_wp2_with fail
  refine (line4 (0) (0) (100) (0) _).mono ?_
  rintro e9 w5 ⟨A_l3, c_l3, rfl, hp, hb⟩
  have HBx := Lib.hid (HB.out.trans (hb.mono HB.out.size))
  clear HB
  have HB := HBx
  clear HBx
  have HTx := Lib.hid (tab_below HT.out hb)
  clear HT
  have HT := HTx
  clear HTx
  have HOx := Lib.hid (BoR.below HO.out hb)
  clear HO
  have HO := HOx
  clear HOx
  have HZx := Lib.hid (HZ.out.below hb HZ.out.lt)
  clear HZ
  have HZ := HZx
  clear HZx
  have P_ax := Lib.hid (P_a.out.below hb)
  clear P_a
  have P_a := P_ax
  clear P_ax
  clear hb
  have P_l3 := Lib.hid hp
  clear hp
  go_wp2_with fail
  refine (outC ex_c A_l3 (some ⟨g1, 0, none⟩) c_l3 _ _ P_l3.out (by decide) (by decide) HO.out (by decide) HT.out).mono ?_
  rintro e9 w6 ⟨A_c, c_c, rfl, hp, hb⟩
  dsimp only at hp ⊢
  have HBx := Lib.hid (HB.out.trans (hb.mono HB.out.size))
  clear HB
  have HB := HBx
  clear HBx
  have HTx := Lib.hid (tab_below HT.out hb)
  clear HT
  have HT := HTx
  clear HTx
  have HOx := Lib.hid (BoR.below HO.out hb)
  clear HO
  have HO := HOx
  clear HOx
  have HZx := Lib.hid (HZ.out.below hb HZ.out.lt)
  clear HZ
  have HZ := HZx
  clear HZx
  have P_ax := Lib.hid (P_a.out.below hb)
  clear P_a
  have P_a := P_ax
  clear P_ax
  have P_l3x := Lib.hid (P_l3.out.below hb)
  clear P_l3
  have P_l3 := P_l3x
  clear P_l3x
  clear hb
  have P_c := Lib.hid hp
  clear hp
  clear P_l3
  go_wp2_with fail
  refine (line4 (0) (0) (10) (0) _).mono ?_
  rintro e9 w7 ⟨A_l4, c_l4, rfl, hp, hb⟩
  have HBx := Lib.hid (HB.out.trans (hb.mono HB.out.size))
  clear HB
  have HB := HBx
  clear HBx
  have HTx := Lib.hid (tab_below HT.out hb)
  clear HT
  have HT := HTx
  clear HTx
  have HOx := Lib.hid (BoR.below HO.out hb)
  clear HO
  have HO := HOx
  clear HOx
  have HZx := Lib.hid (HZ.out.below hb HZ.out.lt)
  clear HZ
  have HZ := HZx
  clear HZx
  have P_ax := Lib.hid (P_a.out.below hb)
  clear P_a
  have P_a := P_ax
  clear P_ax
  have P_cx := Lib.hid (P_c.out.below hb)
  clear P_c
  have P_c := P_cx
  clear P_cx
  clear hb
  have P_l4 := Lib.hid hp
  clear hp
  go_wp2_with fail
  have hpi := inr_blk [3, 2] (Blk.new w7 3 #[.int .i64 3, .int .i64 2]) rfl
  have hbi : Below w7.heap.size w7 (w7.alloc (.cells #[.int .i64 3, .int .i64 2] 3)) := (Below.refl _ _).alloc (Nat.le_refl _) _
  refine (dasC ex_d A_l4 (some ⟨g1, 0, none⟩) (some ⟨w7.heap.size, 0, none⟩) c_l4 _ _ _ (P_l4.out.below hbi) (by decide) (by decide) (BoR.below HO.out hbi) (by decide) hpi (by decide)).mono ?_
  rintro e9 w8 ⟨A_d, c_d, rfl, hp, hb0, hcd⟩
  dsimp only at hp ⊢
  have hb : Below w7.heap.size w7 w8 := hbi.trans (hb0.mono hbi.size)
  clear hbi hpi hb0
  have HBx := Lib.hid (HB.out.trans (hb.mono HB.out.size))
  clear HB
  have HB := HBx
  clear HBx
  have HTx := Lib.hid (tab_below HT.out hb)
  clear HT
  have HT := HTx
  clear HTx
  have HOx := Lib.hid (BoR.below HO.out hb)
  clear HO
  have HO := HOx
  clear HOx
  have HZx := Lib.hid (HZ.out.below hb HZ.out.lt)
  clear HZ
  have HZ := HZx
  clear HZx
  have P_ax := Lib.hid (P_a.out.below hb)
  clear P_a
  have P_a := P_ax
  clear P_ax
  have P_cx := Lib.hid (P_c.out.below hb)
  clear P_c
  have P_c := P_cx
  clear P_cx
  have P_l4x := Lib.hid (P_l4.out.below hb)
  clear P_l4
  have P_l4 := P_l4x
  clear P_l4x
  clear hb
  have P_d := Lib.hid hp
  clear hp
  clear P_l4
  go_wp2_with fail
  refine (line4 (0) (0) (10) (0) _).mono ?_
  rintro e9 w9 ⟨A_l5, c_l5, rfl, hp, hb⟩
  have HBx := Lib.hid (HB.out.trans (hb.mono HB.out.size))
  clear HB
  have HB := HBx
  clear HBx
  have HTx := Lib.hid (tab_below HT.out hb)
  clear HT
  have HT := HTx
  clear HTx
  have HOx := Lib.hid (BoR.below HO.out hb)
  clear HO
  have HO := HOx
  clear HOx
  have HZx := Lib.hid (HZ.out.below hb HZ.out.lt)
  clear HZ
  have HZ := HZx
  clear HZx
  have P_ax := Lib.hid (P_a.out.below hb)
  clear P_a
  have P_a := P_ax
  clear P_ax
  have P_cx := Lib.hid (P_c.out.below hb)
  clear P_c
  have P_c := P_cx
  clear P_cx
  have P_dx := Lib.hid (P_d.out.below hb)
  clear P_d
  have P_d := P_dx
  clear P_dx
  clear hb
  have P_l5 := Lib.hid hp
  clear hp
  go_wp2_with fail
  refine ((dasC ex_i A_l5 (some ⟨g1, 0, none⟩) none c_l5 _ 0 _ P_l5.out (by decide) (by decide) HO.out (by decide) Reads.none_ (by decide)).mono (fun e w9 h => by obtain ⟨A, c, h1, h2, h3, _⟩ := h; exact (⟨A, c, h1, h2, h3⟩ : OuC _ _ _ _))).mono ?_
  rintro e9 w10 ⟨A_i, c_i, rfl, hp, hb⟩
  dsimp only at hp ⊢
  have HBx := Lib.hid (HB.out.trans (hb.mono HB.out.size))
  clear HB
  have HB := HBx
  clear HBx
  have HTx := Lib.hid (tab_below HT.out hb)
  clear HT
  have HT := HTx
  clear HTx
  have HOx := Lib.hid (BoR.below HO.out hb)
  clear HO
  have HO := HOx
  clear HOx
  have HZx := Lib.hid (HZ.out.below hb HZ.out.lt)
  clear HZ
  have HZ := HZx
  clear HZx
  have P_ax := Lib.hid (P_a.out.below hb)
  clear P_a
  have P_a := P_ax
  clear P_ax
  have P_cx := Lib.hid (P_c.out.below hb)
  clear P_c
  have P_c := P_cx
  clear P_cx
  have P_dx := Lib.hid (P_d.out.below hb)
  clear P_d
  have P_d := P_dx
  clear P_dx
  have P_l5x := Lib.hid (P_l5.out.below hb)
  clear P_l5
  have P_l5 := P_l5x
  clear P_l5x
  clear hb
  have P_i := Lib.hid hp
  clear hp
  clear P_l5
  clear P_i
  go_wp2_with fail
  refine (line4 (0) (0) (100) (0) _).mono ?_
  rintro e9 w11 ⟨A_l6, c_l6, rfl, hp, hb⟩
  have HBx := Lib.hid (HB.out.trans (hb.mono HB.out.size))
  clear HB
  have HB := HBx
  clear HBx
  have HTx := Lib.hid (tab_below HT.out hb)
  clear HT
  have HT := HTx
  clear HTx
  have HOx := Lib.hid (BoR.below HO.out hb)
  clear HO
  have HO := HOx
  clear HOx
  have HZx := Lib.hid (HZ.out.below hb HZ.out.lt)
  clear HZ
  have HZ := HZx
  clear HZx
  have P_ax := Lib.hid (P_a.out.below hb)
  clear P_a
  have P_a := P_ax
  clear P_ax
  have P_cx := Lib.hid (P_c.out.below hb)
  clear P_c
  have P_c := P_cx
  clear P_cx
  have P_dx := Lib.hid (P_d.out.below hb)
  clear P_d
  have P_d := P_dx
  clear P_dx
  clear hb
  have P_l6 := Lib.hid hp
  clear hp
  go_wp2_with fail
  refine (outC ex_j A_l6 none c_l6 0 _ P_l6.out (by decide) (by decide) Reads.none_ (by decide) HT.out).mono ?_
  rintro e9 w12 ⟨A_j, c_j, rfl, hp, hb⟩
  dsimp only at hp ⊢
  have HBx := Lib.hid (HB.out.trans (hb.mono HB.out.size))
  clear HB
  have HB := HBx
  clear HBx
  have HTx := Lib.hid (tab_below HT.out hb)
  clear HT
  have HT := HTx
  clear HTx
  have HOx := Lib.hid (BoR.below HO.out hb)
  clear HO
  have HO := HOx
  clear HOx
  have HZx := Lib.hid (HZ.out.below hb HZ.out.lt)
  clear HZ
  have HZ := HZx
  clear HZx
  have P_ax := Lib.hid (P_a.out.below hb)
  clear P_a
  have P_a := P_ax
  clear P_ax
  have P_cx := Lib.hid (P_c.out.below hb)
  clear P_c
  have P_c := P_cx
  clear P_cx
  have P_dx := Lib.hid (P_d.out.below hb)
  clear P_d
  have P_d := P_dx
  clear P_dx
  have P_l6x := Lib.hid (P_l6.out.below hb)
  clear P_l6
  have P_l6 := P_l6x
  clear P_l6x
  clear hb
  have P_j := Lib.hid hp
  clear hp
  clear P_l6
  clear P_j
  obtain ⟨ad, hAd, _⟩ := P_d.out.addr (by decide)
  subst hAd
  have hcd3 : (3 : Int) ≤ (c_d : Int) := by have : 3 ≤ c_d := hcd; omega
  have hcd2 : (2 : Int) ≤ (c_d : Int) := by omega
  have hcd1 : (1 : Int) ≤ (c_d : Int) := by omega
  have hcn1 : 1 ≤ c_d := by omega
  have hcn2 : 2 ≤ c_d := by omega
  have hcn3 : 3 ≤ c_d := by omega
  have K0 := fun W => Check_any 0 9 9 W
  rw [show chkE 0 9 9 = 2 by decide] at K0
  have CK0 := Lib.hid K0
  clear K0
  have K1 := fun W => Check_any 1 3 0 W
  rw [show chkE 1 3 0 = 8 by decide] at K1
  have CK1 := Lib.hid K1
  clear K1
  have K2 := fun W => Check_any 4096 2 2 W
  rw [show chkE 4096 2 2 = 0 by decide] at K2
  have CK2 := Lib.hid K2
  clear K2
  go_upto_region 8 with fail
  have HZ0 := HZ
  have hb : Below w12.heap.size w12 w12.drew := (Below.refl _ _).drew
  have HBx := Lib.hid (HB.out.trans (hb.mono HB.out.size))
  clear HB
  have HB := HBx
  clear HBx
  have HTx := Lib.hid (tab_below HT.out hb)
  clear HT
  have HT := HTx
  clear HTx
  have HOx := Lib.hid (BoR.below HO.out hb)
  clear HO
  have HO := HOx
  clear HOx
  have HZx := Lib.hid (HZ.out.below hb HZ.out.lt)
  clear HZ
  have HZ := HZx
  clear HZx
  have P_ax := Lib.hid (P_a.out.below hb)
  clear P_a
  have P_a := P_ax
  clear P_ax
  have P_cx := Lib.hid (P_c.out.below hb)
  clear P_c
  have P_c := P_cx
  clear P_cx
  have P_dx := Lib.hid (P_d.out.below hb)
  clear P_d
  have P_d := P_dx
  clear P_dx
  clear hb
  have HK := two_z HZ.out
  dsimp only [List.append]
  go_region_held3? (fun W => W.cell? ⟨g2, 0, none⟩ = some (.int .i64 0) ∧ W.cell? ⟨g2, 1, none⟩ = some (.int .i64 0))
    (first | exact HK | exact two_z (HZ.out.alloc _) | exact two_z (HZ0.out.alloc _).drew | go_keep)
    (first
      | (go_at_call_of 11 (Value.int IntKind.i64 9); refine (CK0.out _).mono ?_; rintro e' w' ⟨rfl, rfl⟩)
      | (go_at_call_of 11 (Value.int IntKind.i64 3); refine (CK1.out _).mono ?_; rintro e' w' ⟨rfl, rfl⟩)
      | (go_at_call_of 11 (Value.int IntKind.i64 4096); refine (CK2.out _).mono ?_; rintro e' w' ⟨rfl, rfl⟩)
      | (have fk := F2; clear fk; go_at_call 18; refine (line4 _ _ _ _ _).mono ?_; rintro e9 w9 ⟨A_m, c_m, rfl, hp, hb⟩; have HBx := Lib.hid (HB.out.trans (hb.mono HB.out.size)); clear HB; have HB := HBx; clear HBx; have HTx := Lib.hid (tab_below HT.out hb); clear HT; have HT := HTx; clear HTx; have HOx := Lib.hid (BoR.below HO.out hb); clear HO; have HO := HOx; clear HOx; have HZx := Lib.hid (HZ.out.below hb HZ.out.lt); clear HZ; have HZ := HZx; clear HZx; have P_ax := Lib.hid (P_a.out.below hb); clear P_a; have P_a := P_ax; clear P_ax; have P_cx := Lib.hid (P_c.out.below hb); clear P_c; have P_c := P_cx; clear P_cx; have P_dx := Lib.hid (P_d.out.below hb); clear P_d; have P_d := P_dx; clear P_dx; clear HK; have HK := two_z HZ.out; have P_m := Lib.hid hp; clear hp hb)
      | (have fk := F1; clear fk; go_at_call 18; refine (line8 _ _ _ _ _ _ _ _ _).mono ?_; rintro e9 w9 ⟨A_m, c_m, rfl, hp, hb⟩; have HBx := Lib.hid (HB.out.trans (hb.mono HB.out.size)); clear HB; have HB := HBx; clear HBx; have HTx := Lib.hid (tab_below HT.out hb); clear HT; have HT := HTx; clear HTx; have HOx := Lib.hid (BoR.below HO.out hb); clear HO; have HO := HOx; clear HOx; have HZx := Lib.hid (HZ.out.below hb HZ.out.lt); clear HZ; have HZ := HZx; clear HZx; have P_ax := Lib.hid (P_a.out.below hb); clear P_a; have P_a := P_ax; clear P_ax; have P_cx := Lib.hid (P_c.out.below hb); clear P_c; have P_c := P_cx; clear P_cx; have P_dx := Lib.hid (P_d.out.below hb); clear P_d; have P_d := P_dx; clear P_dx; clear HK; have HK := two_z HZ.out; have P_m := Lib.hid hp; clear hp hb)
      | (go_at_call 18; refine (line8d _ _ _ _ _ _ _ _ _).mono ?_; rintro e9 w9 ⟨A_m, c_m, rfl, hp, hb⟩; have HBx := Lib.hid (HB.out.trans (hb.mono HB.out.size)); clear HB; have HB := HBx; clear HBx; have HTx := Lib.hid (tab_below HT.out hb); clear HT; have HT := HTx; clear HTx; have HOx := Lib.hid (BoR.below HO.out hb); clear HO; have HO := HOx; clear HOx; have HZx := Lib.hid (HZ.out.below hb HZ.out.lt); clear HZ; have HZ := HZx; clear HZx; have P_ax := Lib.hid (P_a.out.below hb); clear P_a; have P_a := P_ax; clear P_ax; have P_cx := Lib.hid (P_c.out.below hb); clear P_c; have P_c := P_cx; clear P_cx; have P_dx := Lib.hid (P_d.out.below hb); clear P_d; have P_d := P_dx; clear P_dx; clear HK; have HK := two_z HZ.out; have P_m := Lib.hid hp; clear hp hb)
      | (have fk := F4; clear fk; go_at_call 13; refine (alike0 _ A_m _ _ [[(9, 0), (10, 0)]] _ (P_d.out.sub 2 1 (by decide) (by decide)) P_m.out (by decide) (by decide)).mono ?_; rintro e9 w9 ⟨rfl, hb⟩; clear P_m; have HBx := Lib.hid (HB.out.trans (hb.mono HB.out.size)); clear HB; have HB := HBx; clear HBx; have HTx := Lib.hid (tab_below HT.out hb); clear HT; have HT := HTx; clear HTx; have HOx := Lib.hid (BoR.below HO.out hb); clear HO; have HO := HOx; clear HOx; have HZx := Lib.hid (HZ.out.below hb HZ.out.lt); clear HZ; have HZ := HZx; clear HZx; have P_ax := Lib.hid (P_a.out.below hb); clear P_a; have P_a := P_ax; clear P_ax; have P_cx := Lib.hid (P_c.out.below hb); clear P_c; have P_c := P_cx; clear P_cx; have P_dx := Lib.hid (P_d.out.below hb); clear P_d; have P_d := P_dx; clear P_dx; clear HK; have HK := two_z HZ.out; clear hb; have F5 := Lib.hid True.intro)
      | (have fk := F3; clear fk; go_at_call 13; refine (alike0 _ A_m _ _ [[(4, 0), (7, 0)]] _ (P_d.out.sub 1 1 (by decide) (by decide)) P_m.out (by decide) (by decide)).mono ?_; rintro e9 w9 ⟨rfl, hb⟩; clear P_m; have HBx := Lib.hid (HB.out.trans (hb.mono HB.out.size)); clear HB; have HB := HBx; clear HBx; have HTx := Lib.hid (tab_below HT.out hb); clear HT; have HT := HTx; clear HTx; have HOx := Lib.hid (BoR.below HO.out hb); clear HO; have HO := HOx; clear HOx; have HZx := Lib.hid (HZ.out.below hb HZ.out.lt); clear HZ; have HZ := HZx; clear HZx; have P_ax := Lib.hid (P_a.out.below hb); clear P_a; have P_a := P_ax; clear P_ax; have P_cx := Lib.hid (P_c.out.below hb); clear P_c; have P_c := P_cx; clear P_cx; have P_dx := Lib.hid (P_d.out.below hb); clear P_d; have P_d := P_dx; clear P_dx; clear HK; have HK := two_z HZ.out; clear hb; have F4 := Lib.hid True.intro)
      | (have fk := F2; clear fk; go_at_call 13; refine (alike0 _ A_m _ _ [[(0, 0), (2, 0)]] _ (P_d.out.sub 0 1 (by decide) (by decide)) P_m.out (by decide) (by decide)).mono ?_; rintro e9 w9 ⟨rfl, hb⟩; clear P_m; have HBx := Lib.hid (HB.out.trans (hb.mono HB.out.size)); clear HB; have HB := HBx; clear HBx; have HTx := Lib.hid (tab_below HT.out hb); clear HT; have HT := HTx; clear HTx; have HOx := Lib.hid (BoR.below HO.out hb); clear HO; have HO := HOx; clear HOx; have HZx := Lib.hid (HZ.out.below hb HZ.out.lt); clear HZ; have HZ := HZx; clear HZx; have P_ax := Lib.hid (P_a.out.below hb); clear P_a; have P_a := P_ax; clear P_ax; have P_cx := Lib.hid (P_c.out.below hb); clear P_c; have P_c := P_cx; clear P_cx; have P_dx := Lib.hid (P_d.out.below hb); clear P_d; have P_d := P_dx; clear P_dx; clear HK; have HK := two_z HZ.out; clear hb; have F3 := Lib.hid True.intro)
      | (have fk := F1; clear fk; go_at_call 13; refine (alike0 _ A_m _ _ [[(0, -10), (100, -10), (100, 10), (0, 10)]] _ P_c.out P_m.out (by decide) (by decide)).mono ?_; rintro e9 w9 ⟨rfl, hb⟩; clear P_m; have HBx := Lib.hid (HB.out.trans (hb.mono HB.out.size)); clear HB; have HB := HBx; clear HBx; have HTx := Lib.hid (tab_below HT.out hb); clear HT; have HT := HTx; clear HTx; have HOx := Lib.hid (BoR.below HO.out hb); clear HO; have HO := HOx; clear HOx; have HZx := Lib.hid (HZ.out.below hb HZ.out.lt); clear HZ; have HZ := HZx; clear HZx; have P_ax := Lib.hid (P_a.out.below hb); clear P_a; have P_a := P_ax; clear P_ax; have P_cx := Lib.hid (P_c.out.below hb); clear P_c; have P_c := P_cx; clear P_cx; have P_dx := Lib.hid (P_d.out.below hb); clear P_d; have P_d := P_dx; clear P_dx; clear HK; have HK := two_z HZ.out; clear hb; have F2 := Lib.hid True.intro)
      | (go_at_call 13; refine (alike0 _ A_m _ _ [[(3, 3), (7, 3), (7, 7), (3, 7)]] _ P_a.out P_m.out (by decide) (by decide)).mono ?_; rintro e9 w9 ⟨rfl, hb⟩; clear P_m; have HBx := Lib.hid (HB.out.trans (hb.mono HB.out.size)); clear HB; have HB := HBx; clear HBx; have HTx := Lib.hid (tab_below HT.out hb); clear HT; have HT := HTx; clear HTx; have HOx := Lib.hid (BoR.below HO.out hb); clear HO; have HO := HOx; clear HOx; have HZx := Lib.hid (HZ.out.below hb HZ.out.lt); clear HZ; have HZ := HZx; clear HZx; have P_ax := Lib.hid (P_a.out.below hb); clear P_a; have P_a := P_ax; clear P_ax; have P_cx := Lib.hid (P_c.out.below hb); clear P_c; have P_c := P_cx; clear P_cx; have P_dx := Lib.hid (P_d.out.below hb); clear P_d; have P_d := P_dx; clear P_dx; clear HK; have HK := two_z HZ.out; clear hb; have F1 := Lib.hid True.intro))
  go_wp2_with fail
  go_ret
  exact ⟨rfl, HB.out⟩
end Go.Proofs.YtflopcogalknhaaDoor.Str
