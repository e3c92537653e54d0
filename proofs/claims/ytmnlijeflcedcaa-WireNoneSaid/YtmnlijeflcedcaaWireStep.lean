/-
  The law's own 'step': one call of both readers. Package wire's reader and the reference's answer the same, in every state.
-/
import Derived.Test.YtmnlijeflcedcaaRef04Rd3
import Derived.Test.YtmnlijeflcedcaaWireShortest
import Derived.Deep.RegionHeld3
namespace Go.Proofs.Ytmnlijeflcedcaa.WireRd
open Go.RowKit Go.Proofs.Ytmnlijeflcedcaa Go.Proofs.Ytmnlijeflcedcaa.WirePure Go.Proofs.Ytmnlijeflcedcaa.WireShortest

def SP (B : Nat) (g g' : Option Nat) (a' : A) (w : World) (e : Ending) (w' : World) : Prop := e = .returned (.bool true) ∧ Is w' g a' ∧ Ref04Rd.Is w' g' a' ∧ Below B w w'

theorem Is.alloc {w : World} {g : Option Nat} {a : A} (h : Is w g a) (o : Obj) : Is (w.alloc o) g a := h.grown (World.grownBy_alloc w o none) (fun _ _ => by simp)
theorem _root_.Go.Proofs.Ytmnlijeflcedcaa.Ref04Rd.Is.alloc' {w : World} {g : Option Nat} {a : A} (h : Ref04Rd.Is w g a) (o : Obj) : Ref04Rd.Is (w.alloc o) g a := h.grown (World.grownBy_alloc w o none) (fun _ _ => by simp)
theorem bgr {B : Nat} {a w w' : World} {g : Option Nat} (h : Below B a w) (hg : w.grownBy w' g) (hB : B ≤ a.heap.size) (hb : ∀ b, g = some b → B ≤ b) : Below B a w' := h.grown hg (Nat.le_trans hB h.size) hb
theorem cellG {w w1 w2 : World} {g : Option Nat} {p : Addr} {v : Value} (h : w1.cell? p = some v) (hg : w1.grownBy w2 g) (hp : p.block = w.heap.size) (hb : ∀ b, g = some b → b < w.heap.size) : w2.cell? p = some v :=
  hg.cell h (fun e => by have := hb _ e.symm; omega)

/-- Numbers that were read from few bytes are few. -/
theorem ints_small (a : A) (most : Int) (h : a.left ≤ 1048586) : (a.ints most).1.length ≤ 1048586 := by
  cases a with
  | bad e => simp [A.ints, A.count, A.uint]
  | ready l =>
    have := (ints_size l most _ _ (show (A.ready l).ints most = (((A.ready l).ints most).1, ((A.ready l).ints most).2) from rfl)).1
    simp only [A.left] at h
    omega

theorem lt_new {b : Nat} {w : World} {o : Obj} (h : b < w.heap.size) : b < (w.alloc o).drew.heap.size := by
  show b < (w.heap.push o).size
  rw [Array.size_push]
  omega

theorem same_two {w0 w1 W : World} {v v' : Value} {zs : List Int} (h : W.ownsRow w0.heap.size 3 1 v zs.length (zs.map (Value.int .i64))) (h' : W.ownsRow w1.heap.size 3 1 v' zs.length (zs.map (Value.int .i64))) (hl : zs.length ≤ 1048586) :
    Calls Try.prog 20 #[v, v'] W fun e w' => e = .returned (.bool true) ∧ ∃ n, w' = W.drewN n := by
  obtain ⟨A1, c1, rfl⟩ := own_slice h
  obtain ⟨A2, c2, rfl⟩ := own_slice h'
  exact same_eq W.heap.size A1 A2 c1 c2 zs W (Reads.of_own h) (Reads.of_own h') (by omega)

theorem Is.drew {w : World} {g : Option Nat} {a : A} (h : Is w g a) : Is w.drew g a := by
  cases a with
  | bad x => exact h
  | ready l => exact h

set_option maxHeartbeats 2000000 in
set_option maxRecDepth 100000 in
theorem step0 (B : Nat) (g g' : Option Nat) (a : A) (kind most : Int) (w : World) (hi : Is w g a) (hr : Ref04Rd.Is w g' a) (hne : ∀ b, g = some b → some b ≠ g') (hB : B ≤ w.heap.size) (hgB : ∀ b, g = some b → B ≤ b) (hgB' : ∀ b, g' = some b → B ≤ b) (_hm : most ≤ 9223372036854775807) (hk : kind = 0) :
    Calls Try.prog 28 #[pt g, Ref04Rd.pt g', .agg #[.int .i64 kind, .int .i64 most]] w (SP B g g' a.uint.2 w) := by
  subst hk
  have hne' : ∀ b, g' = some b → some b ≠ g := fun b h1 h2 => hne b h2.symm h1.symm
  have hlg := fun b hb => hi.lt b hb
  have hlg' := fun b hb => hr.lt b hb
  have hi0 := hi.alloc (.cells #[.int .i64 0, .int .i64 most] 49)
  have hr0 := hr.alloc' (.cells #[.int .i64 0, .int .i64 most] 49)
  have hb0 : Below B w (w.alloc (.cells #[.int .i64 0, .int .i64 most] 49)) := (Below.refl _ _).alloc hB _
  have hx0 : (w.alloc (.cells #[.int .i64 0, .int .i64 most] 49)).cell? ⟨w.heap.size, 1, none⟩ = some (.int .i64 most) := (Blk.new w _ _).cell 1
  have HNE := Lib.hid hne
  have HNE' := Lib.hid hne'
  have HG := Lib.hid hgB
  have HG' := Lib.hid hgB'
  have HL := Lib.hid hlg
  have HL' := Lib.hid hlg'
  clear hne hne' hgB hgB' hlg hlg' hi hr
  go_enter Try.func28, Try.ntmps28
  go_wp2_with fail
  refine (uint_any g a _ hi0).mono ?_
  rintro e w1 ⟨rfl, hg1, hi1⟩
  have hr1 := hr0.grown hg1 HNE'.out
  have hb1 := bgr hb0 hg1 hB HG.out
  clear hi0 hr0 hb0 hx0 hg1
  go_wp2_with fail
  refine (Ref04Rd.uint_any g' a _ hr1).mono ?_
  rintro e w2 ⟨rfl, hg2, hr2⟩
  have hi2 := hi1.grown hg2 HNE.out
  have hb2 := bgr hb1 hg2 hB HG'.out
  clear hi1 hr1 hb1 hg2
  go_wp2_with fail
  refine (left_any g _ _ hi2).mono ?_
  rintro e w3 ⟨rfl, n1, rfl⟩
  go_wp2_with fail
  refine (Ref04Rd.left_any g' _ _ (hr2.drewN _)).mono ?_
  rintro e w3 ⟨rfl, n2, rfl⟩
  go_wp2_with fail
  refine (err_any g _ _ (hi2.drewN _)).mono ?_
  rintro e w3 ⟨rfl, rfl⟩
  go_wp2_with fail
  refine (Ref04Rd.err_any g' _ _ (hr2.drewN _)).mono ?_
  rintro e w3 ⟨rfl, rfl⟩
  go_wp2_with fail
  refine (fin_any g _ _ (hi2.drewN _)).mono ?_
  rintro e w3 ⟨rfl, n3, rfl⟩
  go_wp2_with fail
  refine (Ref04Rd.fin_any g' _ _ (hr2.drewN _)).mono ?_
  rintro e w3 ⟨rfl, n4, rfl⟩
  go_wp2
  go_ret
  exact ⟨rfl, hi2.drewN _, hr2.drewN _, bdN hb2 _⟩

set_option maxHeartbeats 2000000 in
set_option maxRecDepth 100000 in
theorem step1 (B : Nat) (g g' : Option Nat) (a : A) (kind most : Int) (w : World) (hi : Is w g a) (hr : Ref04Rd.Is w g' a) (hne : ∀ b, g = some b → some b ≠ g') (hB : B ≤ w.heap.size) (hgB : ∀ b, g = some b → B ≤ b) (hgB' : ∀ b, g' = some b → B ≤ b) (_hm : most ≤ 9223372036854775807) (hk : kind = 1) :
    Calls Try.prog 28 #[pt g, Ref04Rd.pt g', .agg #[.int .i64 kind, .int .i64 most]] w (SP B g g' a.int.2 w) := by
  subst hk
  have hne' : ∀ b, g' = some b → some b ≠ g := fun b h1 h2 => hne b h2.symm h1.symm
  have hlg := fun b hb => hi.lt b hb
  have hlg' := fun b hb => hr.lt b hb
  have hi0 := hi.alloc (.cells #[.int .i64 1, .int .i64 most] 49)
  have hr0 := hr.alloc' (.cells #[.int .i64 1, .int .i64 most] 49)
  have hb0 : Below B w (w.alloc (.cells #[.int .i64 1, .int .i64 most] 49)) := (Below.refl _ _).alloc hB _
  have hx0 : (w.alloc (.cells #[.int .i64 1, .int .i64 most] 49)).cell? ⟨w.heap.size, 1, none⟩ = some (.int .i64 most) := (Blk.new w _ _).cell 1
  have HNE := Lib.hid hne
  have HNE' := Lib.hid hne'
  have HG := Lib.hid hgB
  have HG' := Lib.hid hgB'
  have HL := Lib.hid hlg
  have HL' := Lib.hid hlg'
  clear hne hne' hgB hgB' hlg hlg' hi hr
  go_enter Try.func28, Try.ntmps28
  go_wp2_with fail
  refine (int_any g a _ hi0).mono ?_
  rintro e w1 ⟨rfl, hg1, hi1⟩
  have hr1 := hr0.grown hg1 HNE'.out
  have hb1 := bgr hb0 hg1 hB HG.out
  clear hi0 hr0 hb0 hx0 hg1
  go_wp2_with fail
  refine (Ref04Rd.int_any g' a _ hr1).mono ?_
  rintro e w2 ⟨rfl, hg2, hr2⟩
  have hi2 := hi1.grown hg2 HNE.out
  have hb2 := bgr hb1 hg2 hB HG'.out
  clear hi1 hr1 hb1 hg2
  go_wp2_with fail
  refine (left_any g _ _ hi2).mono ?_
  rintro e w3 ⟨rfl, n1, rfl⟩
  go_wp2_with fail
  refine (Ref04Rd.left_any g' _ _ (hr2.drewN _)).mono ?_
  rintro e w3 ⟨rfl, n2, rfl⟩
  go_wp2_with fail
  refine (err_any g _ _ (hi2.drewN _)).mono ?_
  rintro e w3 ⟨rfl, rfl⟩
  go_wp2_with fail
  refine (Ref04Rd.err_any g' _ _ (hr2.drewN _)).mono ?_
  rintro e w3 ⟨rfl, rfl⟩
  go_wp2_with fail
  refine (fin_any g _ _ (hi2.drewN _)).mono ?_
  rintro e w3 ⟨rfl, n3, rfl⟩
  go_wp2_with fail
  refine (Ref04Rd.fin_any g' _ _ (hr2.drewN _)).mono ?_
  rintro e w3 ⟨rfl, n4, rfl⟩
  go_wp2
  go_ret
  exact ⟨rfl, hi2.drewN _, hr2.drewN _, bdN hb2 _⟩

set_option maxHeartbeats 2000000 in
set_option maxRecDepth 100000 in
theorem step2 (B : Nat) (g g' : Option Nat) (a : A) (kind most : Int) (w : World) (hi : Is w g a) (hr : Ref04Rd.Is w g' a) (hne : ∀ b, g = some b → some b ≠ g') (hB : B ≤ w.heap.size) (hgB : ∀ b, g = some b → B ≤ b) (hgB' : ∀ b, g' = some b → B ≤ b) (hm : most ≤ 9223372036854775807) (hk : kind = 2) :
    Calls Try.prog 28 #[pt g, Ref04Rd.pt g', .agg #[.int .i64 kind, .int .i64 most]] w (SP B g g' (a.text most).2 w) := by
  subst hk
  have hne' : ∀ b, g' = some b → some b ≠ g := fun b h1 h2 => hne b h2.symm h1.symm
  have hlg := fun b hb => hi.lt b hb
  have hlg' := fun b hb => hr.lt b hb
  have hi0 := hi.alloc (.cells #[.int .i64 2, .int .i64 most] 49)
  have hr0 := hr.alloc' (.cells #[.int .i64 2, .int .i64 most] 49)
  have hb0 : Below B w (w.alloc (.cells #[.int .i64 2, .int .i64 most] 49)) := (Below.refl _ _).alloc hB _
  have hx0 : (w.alloc (.cells #[.int .i64 2, .int .i64 most] 49)).cell? ⟨w.heap.size, 1, none⟩ = some (.int .i64 most) := (Blk.new w _ _).cell 1
  have HNE := Lib.hid hne
  have HNE' := Lib.hid hne'
  have HG := Lib.hid hgB
  have HG' := Lib.hid hgB'
  have HL := Lib.hid hlg
  have HL' := Lib.hid hlg'
  clear hne hne' hgB hgB' hlg hlg' hi hr
  go_enter Try.func28, Try.ntmps28
  go_wp2_with fail
  go_region_held3 (fun w' => w'.cell? ⟨w.heap.size, 1, none⟩ = some (.int .i64 most))
    (first | exact hx0 | exact cellG (by assumption) hgq rfl HL.out | exact cellG (by assumption) hgr rfl HL'.out | go_keep)
    (first
      | (go_at_call 19; refine (text_any g a most _ (Is.drew hi0) hm).mono ?_; rintro e w1 ⟨rfl, hgq, hi1⟩)
      | (go_at_call 38; refine (Ref04Rd.text_any g' a most _ (Ref04Rd.Is.grown (Ref04Rd.Is.drewN hr0 1) hgq HNE'.out) hm).mono ?_; rintro e w2 ⟨rfl, hgr, hr2⟩))
  have hi2 := hi1.grown hgr HNE.out
  have hb2 := bgr (bgr hb0.drew hgq hB HG.out) hgr hB HG'.out
  clear hi0 hr0 hb0 hx0 hi1 hgq hgr
  go_wp2_with fail
  refine (left_any g _ _ hi2).mono ?_
  rintro e w3 ⟨rfl, n1, rfl⟩
  go_wp2_with fail
  refine (Ref04Rd.left_any g' _ _ (hr2.drewN _)).mono ?_
  rintro e w3 ⟨rfl, n2, rfl⟩
  go_wp2_with fail
  refine (err_any g _ _ (hi2.drewN _)).mono ?_
  rintro e w3 ⟨rfl, rfl⟩
  go_wp2_with fail
  refine (Ref04Rd.err_any g' _ _ (hr2.drewN _)).mono ?_
  rintro e w3 ⟨rfl, rfl⟩
  go_wp2_with fail
  refine (fin_any g _ _ (hi2.drewN _)).mono ?_
  rintro e w3 ⟨rfl, n3, rfl⟩
  go_wp2_with fail
  refine (Ref04Rd.fin_any g' _ _ (hr2.drewN _)).mono ?_
  rintro e w3 ⟨rfl, n4, rfl⟩
  go_wp2
  go_ret
  exact ⟨rfl, hi2.drewN _, hr2.drewN _, bdN hb2 _⟩

set_option maxHeartbeats 2000000 in
set_option maxRecDepth 100000 in
theorem step3 (B : Nat) (g g' : Option Nat) (a : A) (kind most : Int) (w : World) (hi : Is w g a) (hr : Ref04Rd.Is w g' a) (hne : ∀ b, g = some b → some b ≠ g') (hB : B ≤ w.heap.size) (hgB : ∀ b, g = some b → B ≤ b) (hgB' : ∀ b, g' = some b → B ≤ b) (hm : most ≤ 9223372036854775807) (hk : kind = 3) :
    Calls Try.prog 28 #[pt g, Ref04Rd.pt g', .agg #[.int .i64 kind, .int .i64 most]] w (SP B g g' (a.count most).2 w) := by
  subst hk
  have hne' : ∀ b, g' = some b → some b ≠ g := fun b h1 h2 => hne b h2.symm h1.symm
  have hlg := fun b hb => hi.lt b hb
  have hlg' := fun b hb => hr.lt b hb
  have hi0 := hi.alloc (.cells #[.int .i64 3, .int .i64 most] 49)
  have hr0 := hr.alloc' (.cells #[.int .i64 3, .int .i64 most] 49)
  have hb0 : Below B w (w.alloc (.cells #[.int .i64 3, .int .i64 most] 49)) := (Below.refl _ _).alloc hB _
  have hx0 : (w.alloc (.cells #[.int .i64 3, .int .i64 most] 49)).cell? ⟨w.heap.size, 1, none⟩ = some (.int .i64 most) := (Blk.new w _ _).cell 1
  have HNE := Lib.hid hne
  have HNE' := Lib.hid hne'
  have HG := Lib.hid hgB
  have HG' := Lib.hid hgB'
  have HL := Lib.hid hlg
  have HL' := Lib.hid hlg'
  clear hne hne' hgB hgB' hlg hlg' hi hr
  go_enter Try.func28, Try.ntmps28
  go_wp2_with fail
  go_region_held3 (fun w' => w'.cell? ⟨w.heap.size, 1, none⟩ = some (.int .i64 most))
    (first | exact hx0 | exact cellG (by assumption) hgq rfl HL.out | exact cellG (by assumption) hgr rfl HL'.out | go_keep)
    (first
      | (go_at_call 34; refine (count_any g a most _ (Is.drew hi0) hm).mono ?_; rintro e w1 ⟨rfl, hgq, hi1⟩)
      | (go_at_call 39; refine (Ref04Rd.count_any g' a most _ (Ref04Rd.Is.grown (Ref04Rd.Is.drewN hr0 1) hgq HNE'.out) hm).mono ?_; rintro e w2 ⟨rfl, hgr, hr2⟩))
  have hi2 := hi1.grown hgr HNE.out
  have hb2 := bgr (bgr hb0.drew hgq hB HG.out) hgr hB HG'.out
  clear hi0 hr0 hb0 hx0 hi1 hgq hgr
  go_wp2_with fail
  refine (left_any g _ _ hi2).mono ?_
  rintro e w3 ⟨rfl, n1, rfl⟩
  go_wp2_with fail
  refine (Ref04Rd.left_any g' _ _ (hr2.drewN _)).mono ?_
  rintro e w3 ⟨rfl, n2, rfl⟩
  go_wp2_with fail
  refine (err_any g _ _ (hi2.drewN _)).mono ?_
  rintro e w3 ⟨rfl, rfl⟩
  go_wp2_with fail
  refine (Ref04Rd.err_any g' _ _ (hr2.drewN _)).mono ?_
  rintro e w3 ⟨rfl, rfl⟩
  go_wp2_with fail
  refine (fin_any g _ _ (hi2.drewN _)).mono ?_
  rintro e w3 ⟨rfl, n3, rfl⟩
  go_wp2_with fail
  refine (Ref04Rd.fin_any g' _ _ (hr2.drewN _)).mono ?_
  rintro e w3 ⟨rfl, n4, rfl⟩
  go_wp2
  go_ret
  exact ⟨rfl, hi2.drewN _, hr2.drewN _, bdN hb2 _⟩

set_option maxHeartbeats 2000000 in
set_option maxRecDepth 100000 in
theorem step4 (B : Nat) (g g' : Option Nat) (a : A) (kind most : Int) (w : World) (hi : Is w g a) (hr : Ref04Rd.Is w g' a) (hne : ∀ b, g = some b → some b ≠ g') (hB : B ≤ w.heap.size) (hgB : ∀ b, g = some b → B ≤ b) (hgB' : ∀ b, g' = some b → B ≤ b) (hm : most ≤ 9223372036854775807) (hroom : a.left ≤ 1048586) (hk : kind = 4) :
    Calls Try.prog 28 #[pt g, Ref04Rd.pt g', .agg #[.int .i64 kind, .int .i64 most]] w (SP B g g' (a.ints most).2 w) := by
  subst hk
  have hne' : ∀ b, g' = some b → some b ≠ g := fun b h1 h2 => hne b h2.symm h1.symm
  have hlg := fun b hb => hi.lt b hb
  have hlg' := fun b hb => hr.lt b hb
  have hi0 := hi.alloc (.cells #[.int .i64 4, .int .i64 most] 49)
  have hr0 := hr.alloc' (.cells #[.int .i64 4, .int .i64 most] 49)
  have hb0 : Below B w (w.alloc (.cells #[.int .i64 4, .int .i64 most] 49)) := (Below.refl _ _).alloc hB _
  have hx0 : (w.alloc (.cells #[.int .i64 4, .int .i64 most] 49)).cell? ⟨w.heap.size, 1, none⟩ = some (.int .i64 most) := (Blk.new w _ _).cell 1
  have HNE := Lib.hid hne
  have HNE' := Lib.hid hne'
  have HG := Lib.hid hgB
  have HG' := Lib.hid hgB'
  have HL := Lib.hid hlg
  have HL' := Lib.hid hlg'
  clear hne hne' hgB hgB' hlg hlg' hi hr
  go_enter Try.func28, Try.ntmps28
  have hz := ints_small a most hroom
  go_wp2_with fail
  go_region_held3 (fun w' => w'.cell? ⟨w.heap.size, 1, none⟩ = some (.int .i64 most))
    (first | exact hx0 | exact cellG (by assumption) hgq rfl HL.out | exact cellG (by assumption) hgr rfl HL'.out | go_keep)
    (first
      | (go_at_call 21; refine (ints_any g a most _ (Is.drew hi0) hm (by omega)).mono ?_; rintro e w1 ⟨v1, rfl, ho1, hgq, hi1⟩)
      | (go_at_call 40; refine (Ref04Rd.ints_any g' a most _ (Ref04Rd.Is.grown (Ref04Rd.Is.drewN hr0 1) hgq HNE'.out) hm (by omega)).mono ?_; rintro e w2 ⟨v2, rfl, ho2, hgr, hr2⟩)
      | (go_at_call 20; refine (same_two (own_apart ho1 hgr (fun b hb => lt_new (HL'.out b hb))) ho2 hz).mono ?_; rintro e w3 ⟨rfl, nd, rfl⟩))
  have hi2 := (hi1.grown hgr HNE.out).drewN nd
  have hb2 := bdN (bgr (bgr hb0.drew hgq hB HG.out) hgr hB HG'.out) nd
  clear hi0 hr0 hb0 hx0 hi1 hgq hgr ho1 ho2
  have hr3 := hr2.drewN nd
  clear hr2
  have hr2 := hr3
  clear hr3
  obtain ⟨W, hW⟩ : ∃ W, W = w2.drewN nd := ⟨_, rfl⟩
  rw [← hW] at hi2 hb2 hr2 ⊢
  clear hW
  go_wp2_with fail
  refine (left_any g _ _ hi2).mono ?_
  rintro e w3 ⟨rfl, n1, rfl⟩
  go_wp2_with fail
  refine (Ref04Rd.left_any g' _ _ (hr2.drewN _)).mono ?_
  rintro e w3 ⟨rfl, n2, rfl⟩
  go_wp2_with fail
  refine (err_any g _ _ (hi2.drewN _)).mono ?_
  rintro e w3 ⟨rfl, rfl⟩
  go_wp2_with fail
  refine (Ref04Rd.err_any g' _ _ (hr2.drewN _)).mono ?_
  rintro e w3 ⟨rfl, rfl⟩
  go_wp2_with fail
  refine (fin_any g _ _ (hi2.drewN _)).mono ?_
  rintro e w3 ⟨rfl, n3, rfl⟩
  go_wp2_with fail
  refine (Ref04Rd.fin_any g' _ _ (hr2.drewN _)).mono ?_
  rintro e w3 ⟨rfl, n4, rfl⟩
  go_wp2
  go_ret
  exact ⟨rfl, hi2.drewN _, hr2.drewN _, bdN hb2 _⟩

set_option maxHeartbeats 2000000 in
set_option maxRecDepth 100000 in
theorem step5 (B : Nat) (g g' : Option Nat) (a : A) (kind most : Int) (w : World) (hi : Is w g a) (hr : Ref04Rd.Is w g' a) (hne : ∀ b, g = some b → some b ≠ g') (hB : B ≤ w.heap.size) (hgB : ∀ b, g = some b → B ≤ b) (hgB' : ∀ b, g' = some b → B ≤ b) (_hm : most ≤ 9223372036854775807) (hk : kind = 5) :
    Calls Try.prog 28 #[pt g, Ref04Rd.pt g', .agg #[.int .i64 kind, .int .i64 most]] w (SP B g g' (a.fail most) w) := by
  subst hk
  have hne' : ∀ b, g' = some b → some b ≠ g := fun b h1 h2 => hne b h2.symm h1.symm
  have hlg := fun b hb => hi.lt b hb
  have hlg' := fun b hb => hr.lt b hb
  have hi0 := hi.alloc (.cells #[.int .i64 5, .int .i64 most] 49)
  have hr0 := hr.alloc' (.cells #[.int .i64 5, .int .i64 most] 49)
  have hb0 : Below B w (w.alloc (.cells #[.int .i64 5, .int .i64 most] 49)) := (Below.refl _ _).alloc hB _
  have hx0 : (w.alloc (.cells #[.int .i64 5, .int .i64 most] 49)).cell? ⟨w.heap.size, 1, none⟩ = some (.int .i64 most) := (Blk.new w _ _).cell 1
  have HNE := Lib.hid hne
  have HNE' := Lib.hid hne'
  have HG := Lib.hid hgB
  have HG' := Lib.hid hgB'
  have HL := Lib.hid hlg
  have HL' := Lib.hid hlg'
  clear hne hne' hgB hgB' hlg hlg' hi hr
  go_enter Try.func28, Try.ntmps28
  go_wp2_with fail
  refine (fail_any g a most _ hi0).mono ?_
  rintro e w1 ⟨rfl, hg1, hi1⟩
  have hr1 := hr0.grown hg1 HNE'.out
  have hb1 := bgr hb0 hg1 hB HG.out
  have hx1 := cellG hx0 hg1 rfl HL.out
  clear hi0 hr0 hb0 hx0 hg1
  go_wp2_with fail
  refine (Ref04Rd.fail_any g' a most _ hr1).mono ?_
  rintro e w2 ⟨rfl, hg2, hr2⟩
  have hi2 := hi1.grown hg2 HNE.out
  have hb2 := bgr hb1 hg2 hB HG'.out
  clear hi1 hr1 hb1 hg2 hx1
  go_wp2_with fail
  refine (left_any g _ _ hi2).mono ?_
  rintro e w3 ⟨rfl, n1, rfl⟩
  go_wp2_with fail
  refine (Ref04Rd.left_any g' _ _ (hr2.drewN _)).mono ?_
  rintro e w3 ⟨rfl, n2, rfl⟩
  go_wp2_with fail
  refine (err_any g _ _ (hi2.drewN _)).mono ?_
  rintro e w3 ⟨rfl, rfl⟩
  go_wp2_with fail
  refine (Ref04Rd.err_any g' _ _ (hr2.drewN _)).mono ?_
  rintro e w3 ⟨rfl, rfl⟩
  go_wp2_with fail
  refine (fin_any g _ _ (hi2.drewN _)).mono ?_
  rintro e w3 ⟨rfl, n3, rfl⟩
  go_wp2_with fail
  refine (Ref04Rd.fin_any g' _ _ (hr2.drewN _)).mono ?_
  rintro e w3 ⟨rfl, n4, rfl⟩
  go_wp2
  go_ret
  exact ⟨rfl, hi2.drewN _, hr2.drewN _, bdN hb2 _⟩

set_option maxHeartbeats 2000000 in
set_option maxRecDepth 100000 in
theorem step6 (B : Nat) (g g' : Option Nat) (a : A) (kind most : Int) (w : World) (hi : Is w g a) (hr : Ref04Rd.Is w g' a) (hne : ∀ b, g = some b → some b ≠ g') (hB : B ≤ w.heap.size) (hgB : ∀ b, g = some b → B ≤ b) (hgB' : ∀ b, g' = some b → B ≤ b) (_hm : most ≤ 9223372036854775807) (hk : kind < 0 ∨ 5 < kind) :
    Calls Try.prog 28 #[pt g, Ref04Rd.pt g', .agg #[.int .i64 kind, .int .i64 most]] w (SP B g g' a w) := by
  have k0 : (kind == 0) = false := beq_eq_false_iff_ne.2 (by omega)
  have k1 : (kind == 1) = false := beq_eq_false_iff_ne.2 (by omega)
  have k2 : (kind == 2) = false := beq_eq_false_iff_ne.2 (by omega)
  have k3 : (kind == 3) = false := beq_eq_false_iff_ne.2 (by omega)
  have k4 : (kind == 4) = false := beq_eq_false_iff_ne.2 (by omega)
  have k5 : (kind == 5) = false := beq_eq_false_iff_ne.2 (by omega)
  have hne' : ∀ b, g' = some b → some b ≠ g := fun b h1 h2 => hne b h2.symm h1.symm
  have hlg := fun b hb => hi.lt b hb
  have hlg' := fun b hb => hr.lt b hb
  have hi0 := hi.alloc (.cells #[.int .i64 kind, .int .i64 most] 49)
  have hr0 := hr.alloc' (.cells #[.int .i64 kind, .int .i64 most] 49)
  have hb0 : Below B w (w.alloc (.cells #[.int .i64 kind, .int .i64 most] 49)) := (Below.refl _ _).alloc hB _
  have hx0 : (w.alloc (.cells #[.int .i64 kind, .int .i64 most] 49)).cell? ⟨w.heap.size, 1, none⟩ = some (.int .i64 most) := (Blk.new w _ _).cell 1
  have HNE := Lib.hid hne
  have HNE' := Lib.hid hne'
  have HG := Lib.hid hgB
  have HG' := Lib.hid hgB'
  have HL := Lib.hid hlg
  have HL' := Lib.hid hlg'
  clear hne hne' hgB hgB' hlg hlg' hi hr
  go_enter Try.func28, Try.ntmps28
  have hi2 := hi0
  have hr2 := hr0
  have hb2 := hb0
  clear hi0 hr0 hb0 hx0
  go_wp2_with fail
  refine (left_any g _ _ hi2).mono ?_
  rintro e w3 ⟨rfl, n1, rfl⟩
  go_wp2_with fail
  refine (Ref04Rd.left_any g' _ _ (hr2.drewN _)).mono ?_
  rintro e w3 ⟨rfl, n2, rfl⟩
  go_wp2_with fail
  refine (err_any g _ _ (hi2.drewN _)).mono ?_
  rintro e w3 ⟨rfl, rfl⟩
  go_wp2_with fail
  refine (Ref04Rd.err_any g' _ _ (hr2.drewN _)).mono ?_
  rintro e w3 ⟨rfl, rfl⟩
  go_wp2_with fail
  refine (fin_any g _ _ (hi2.drewN _)).mono ?_
  rintro e w3 ⟨rfl, n3, rfl⟩
  go_wp2_with fail
  refine (Ref04Rd.fin_any g' _ _ (hr2.drewN _)).mono ?_
  rintro e w3 ⟨rfl, n4, rfl⟩
  go_wp2
  go_ret
  exact ⟨rfl, hi2.drewN _, hr2.drewN _, bdN hb2 _⟩

end Go.Proofs.Ytmnlijeflcedcaa.WireRd
