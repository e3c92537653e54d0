/-
  Package wire: New, and the examples of the chapter, which hold.
-/
import Derived.Test.YtmnlijeflcedcaaWireRd3
namespace Go.Proofs.Ytmnlijeflcedcaa.WireRd
open Go.RowKit Go.Proofs.Ytmnlijeflcedcaa Go.Proofs.Ytmnlijeflcedcaa.WirePure

def NP (s : ByteArray) (w : World) (e : Ending) (w' : World) : Prop := e = .returned (pt (some w.heap.size)) ∧ Below w.heap.size w w' ∧ Is w' (some w.heap.size) (.ready s.data.toList)

theorem new_any (s : ByteArray) (w : World) (hs : s.size ≤ 140737488355328) : Calls Try.prog 18 #[.string s] w (NP s w) := by
  go_enter Try.func18, Try.ntmps18
  go_wp2
  go_ret
  exact ⟨rfl, (Below.refl _ _).alloc (Nat.le_refl _) _, Is.ready_of (p := 0) (Blk.new w _ _) (Nat.zero_le _) hs⟩

theorem uint_is {g : Option Nat} {a : A} {w : World} (h : Is w g a) (n : Nat) (a' : A) (e : a.uint = (n, a')) : Calls Try.prog 23 #[pt g] w (RP g (.int .u64 n) a' w) := by
  have := uint_any g a w h
  rwa [e] at this
theorem int_is {g : Option Nat} {a : A} {w : World} (h : Is w g a) (n : Int) (a' : A) (e : a.int = (n, a')) : Calls Try.prog 22 #[pt g] w (RP g (.int .i64 n) a' w) := by
  have := int_any g a w h
  rwa [e] at this
theorem text_is {g : Option Nat} {a : A} {w : World} (h : Is w g a) (most : Int) (hm : most ≤ 9223372036854775807) (t : List UInt8) (a' : A) (e : a.text most = (t, a')) : Calls Try.prog 19 #[pt g, .int .i64 most] w (RP g (.string ⟨t.toArray⟩) a' w) := by
  have := text_any g a most w h hm
  rwa [e] at this
theorem left_is {g : Option Nat} {a : A} {w : World} (h : Is w g a) (n : Nat) (e : a.left = n) : Calls Try.prog 25 #[pt g] w fun e w' => e = .returned (.int .i64 n) ∧ ∃ n, w' = w.drewN n := by
  have := left_any g a w h
  rwa [e] at this
theorem err_is {g : Option Nat} {a : A} {w : World} (h : Is w g a) (n : Int) (e : a.err = n) : Calls Try.prog 26 #[pt g] w fun e w' => e = .returned (.int .i64 n) ∧ w = w' := by
  have := err_any g a w h
  rwa [e] at this
theorem fin_is {g : Option Nat} {a : A} {w : World} (h : Is w g a) (n : Int) (e : a.fin = n) : Calls Try.prog 24 #[pt g] w fun e w' => e = .returned (.int .i64 n) ∧ ∃ n, w' = w.drewN n := by
  have := fin_any g a w h
  rwa [e] at this

theorem below_grown {B : Nat} {a w w' : World} {b : Nat} (h : Below B a w) (hg : w.grownBy w' (some b)) (hB : B ≤ w.heap.size) (hb : B ≤ b) : Below B a w' :=
  h.grown hg hB (fun k hk => by cases hk; exact hb)

theorem bdN {B : Nat} {a w : World} (h : Below B a w) (n : Nat) : Below B a (w.drewN n) := ⟨h.os, h.tape, h.output, h.size, h.block⟩

theorem uv300 : Lib.uvarint 300 = [172, 2] := by rw [Lib.uvarint_big (by decide), Lib.uvarint_small (by decide)]; rfl
theorem uv3 : Lib.uvarint (Lib.zigzag (-2)) = [3] := by rw [show Lib.zigzag (-2) = 3 from rfl, Lib.uvarint_small (by decide)]; rfl
theorem enAb : WireEnc.encText ⟨#[97, 98]⟩ = [2, 97, 98] := by unfold WireEnc.encText; rw [show (ByteArray.mk #[97, 98]).size = 2 from rfl, Lib.uvarint_small (by decide)]; rfl
theorem en11 : WireEnc.encInts [1, -1] = [2, 2, 1] := by
  unfold WireEnc.encInts
  simp only [List.flatMap_cons, List.flatMap_nil, List.length_cons, List.length_nil]
  rw [show Lib.zigzag 1 = 2 from rfl, show Lib.zigzag (-1) = 1 from rfl, Lib.uvarint_small (by decide), Lib.uvarint_small (by decide)]
  rfl

theorem reads_new (w : World) (cs : Array Value) (t : TypeId) (n : Nat) (hn : cs.size = n) : Reads (w.alloc (.cells cs t)) (w.alloc (.cells cs t)).heap.size 1 (some ⟨w.heap.size, 0, none⟩) n cs.toList := by
  refine ⟨by simpa using hn, fun _ => ⟨_, rfl, by simp, fun j u hu => ?_⟩⟩
  have h := (Blk.new w t cs).cell j
  have e : (Addr.mk w.heap.size 0 none).add j = ⟨w.heap.size, j, none⟩ := by
    unfold Addr.add
    split
    · subst_vars; rfl
    · simp
  rw [e, h]
  simpa using hu

set_option maxHeartbeats 1000000 in
theorem example_any (w : World) : Calls Try.prog 17 #[] w fun e w' => e = .returned (.bool true) ∧ Below w.heap.size w w' := by
  go_enter Try.func17, Try.ntmps17
  go_wp2_with fail
  refine (new_any _ _ (by decide)).mono ?_
  rintro e w1 ⟨rfl, hb1, hi1⟩
  go_wp2_with fail
  refine (uint_is hi1 300 (.ready [0]) rfl).mono ?_
  rintro e w2 ⟨rfl, hg2, hi2⟩
  go_wp2_with fail
  refine (left_is hi2 1 rfl).mono ?_
  rintro e w3 ⟨rfl, n3, rfl⟩
  go_wp2_with fail
  refine (int_is (hi2.drewN _) 0 (.ready []) rfl).mono ?_
  rintro e w3 ⟨rfl, hg3, hi3⟩
  go_wp2_with fail
  refine (fin_is hi3 0 rfl).mono ?_
  rintro e w4 ⟨rfl, n4, rfl⟩
  have hb3 : Below w.heap.size w (w3.drewN n4) := bdN (below_grown (bdN (below_grown hb1 hg2 hb1.size (Nat.le_refl _)) n3) hg3 (Nat.le_trans hb1.size hg2.size) (Nat.le_refl _)) _
  clear hb1 hi1 hg2 hi2 hg3 hi3
  obtain ⟨W, hW⟩ : ∃ W, W = w3.drewN n4 := ⟨_, rfl⟩
  rw [← hW] at hb3 ⊢
  clear hW
  go_wp2_with fail
  refine (new_any _ _ (by decide)).mono ?_
  rintro e w1 ⟨rfl, hb1, hi1⟩
  go_wp2_with fail
  refine (text_is hi1 4 (by decide) [] (.bad 3) rfl).mono ?_
  rintro e w2 ⟨rfl, hg2, hi2⟩
  go_wp2_with fail
  refine (err_is hi2 3 rfl).mono ?_
  rintro e w2 ⟨rfl, rfl⟩
  go_wp2_with fail
  refine (left_is hi2 0 rfl).mono ?_
  rintro e w3 ⟨rfl, n3, rfl⟩
  go_wp2_with fail
  refine (uint_is (hi2.drewN _) 0 (.bad 3) rfl).mono ?_
  rintro e w3 ⟨rfl, hg3, hi3⟩
  have hb4 : Below w.heap.size w w3 := below_grown (bdN (below_grown (hb3.trans (hb1.mono hb3.size)) hg2 (Nat.le_trans hb3.size hb1.size) hb3.size) n3) hg3 (Nat.le_trans (Nat.le_trans hb3.size hb1.size) hg2.size) hb3.size
  clear hb1 hi1 hg2 hi2 hg3 hi3 hb3
  go_wp2_with fail
  refine (WireEnc.uint_any 300 (by decide) _).mono ?_
  rintro e w4 ⟨rfl, hb5⟩
  rw [uv300]
  go_wp2_with fail
  refine (WireEnc.int_any (-2) (by decide) (by decide) _).mono ?_
  rintro e w5 ⟨rfl, hb6⟩
  rw [uv3]
  go_wp2_with fail
  refine (WireEnc.text_any _ (by decide) _).mono ?_
  rintro e w6 ⟨rfl, hb7⟩
  rw [enAb]
  have hb8 : Below w.heap.size w w6 := ((hb4.trans (hb5.mono hb4.size)).trans (hb6.mono (Nat.le_trans hb4.size hb5.size))).trans (hb7.mono (Nat.le_trans (Nat.le_trans hb4.size hb5.size) hb6.size))
  clear hb4 hb5 hb6 hb7
  go_wp2_with fail
  have hr := reads_new w6 #[Value.int IntKind.i64 1, Value.int IntKind.i64 (-1)] 3 2 rfl
  refine (WireEnc.ints_any _ 2 [1, -1] _ hr (by decide) (by decide)).mono ?_
  rintro e w7 ⟨rfl, hb9⟩
  rw [en11]
  clear hr
  go_wp2
  go_ret
  exact ⟨rfl, (hb8.alloc hb8.size _).trans (hb9.mono (by have := hb8.size; simp; omega))⟩

end Go.Proofs.Ytmnlijeflcedcaa.WireRd
