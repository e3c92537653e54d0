/-
  Package wire: New, and the examples of the chapter, which hold.
-/
import Derived.Test.YtokdbpalkfghaaaWireRd3
namespace Go.Proofs.Ytokdbpalkfghaaa.WireRd
open Go.RowKit Go.Proofs.Ytokdbpalkfghaaa Go.Proofs.Ytokdbpalkfghaaa.WirePure

def NP (s : ByteArray) (w : World) (e : Ending) (w' : World) : Prop := e = .returned (pt (some w.heap.size)) ∧ Below w.heap.size w w' ∧ Is w' (some w.heap.size) (.ready s.data.toList)

theorem new_any (s : ByteArray) (w : World) (hs : s.size ≤ 281474976710656) : Calls Try.prog 26 #[.string s] w (NP s w) := by
  go_enter Try.func26, Try.ntmps26
  go_wp2
  go_ret
  exact ⟨rfl, (Below.refl _ _).alloc (Nat.le_refl _) _, Is.ready_of (p := 0) (Blk.new w _ _) (Nat.zero_le _) hs⟩

theorem uint_is {g : Option Nat} {a : A} {w : World} (h : Is w g a) (n : Nat) (a' : A) (e : a.uint = (n, a')) : Calls Try.prog 35 #[pt g] w (RP g (.int .u64 n) a' w) := by
  have := uint_any g a w h
  rwa [e] at this
theorem text_is {g : Option Nat} {a : A} {w : World} (h : Is w g a) (most : Int) (hm : most ≤ 9223372036854775807) (t : List UInt8) (a' : A) (e : a.text most = (t, a')) : Calls Try.prog 27 #[pt g, .int .i64 most] w (RP g (.string ⟨t.toArray⟩) a' w) := by
  have := text_any g a most w h hm
  rwa [e] at this
theorem left_is {g : Option Nat} {a : A} {w : World} (h : Is w g a) (n : Nat) (e : a.left = n) : Calls Try.prog 29 #[pt g] w fun e w' => e = .returned (.int .i64 n) ∧ ∃ n, w' = w.drewN n := by
  have := left_any g a w h
  rwa [e] at this
theorem err_is {g : Option Nat} {a : A} {w : World} (h : Is w g a) (n : Int) (e : a.err = n) : Calls Try.prog 28 #[pt g] w fun e w' => e = .returned (.int .i64 n) ∧ w = w' := by
  have := err_any g a w h
  rwa [e] at this
theorem below_grown {B : Nat} {a w w' : World} {b : Nat} (h : Below B a w) (hg : w.grownBy w' (some b)) (hB : B ≤ w.heap.size) (hb : B ≤ b) : Below B a w' :=
  h.grown hg hB (fun k hk => by cases hk; exact hb)

theorem bdN {B : Nat} {a w : World} (h : Below B a w) (n : Nat) : Below B a (w.drewN n) := ⟨h.os, h.tape, h.output, h.size, h.block⟩

theorem uv300 : Lib.uvarint 300 = [172, 2] := by rw [Lib.uvarint_big (by decide), Lib.uvarint_small (by decide)]; rfl
theorem uv3 : Lib.uvarint (Lib.zigzag (-2)) = [3] := by rw [show Lib.zigzag (-2) = 3 from rfl, Lib.uvarint_small (by decide)]; rfl
theorem enAb : WireEnc.encText ⟨#[97, 98]⟩ = [2, 97, 98] := by unfold WireEnc.encText; rw [show (ByteArray.mk #[97, 98]).size = 2 from rfl, Lib.uvarint_small (by decide)]; rfl
theorem en11 : WireEnc.encInts [1, -1] = [2, 2, 1] := by
  unfold WireEnc.encInts
  simp only [List.flatMap_cons, List.flatMap_nil, List.length_cons, List.length_nil]
  rw [show Lib.zigzag 1 = 2 from rfl, show Lib.zigzag (-1) = 1 from rfl, Lib.uvarint_small (by decide), Lib.uvarint_small (by decide)]
  rfl

theorem reads_new (w : World) (cs : Array Value) (t : TypeId) (n : Nat) (hn : cs.size = n) : Reads (w.alloc (.cells cs t)) (w.alloc (.cells cs t)).heap.size 1 (some ⟨w.heap.size, 0, none⟩) n cs.toList := by
  refine ⟨by simpa using hn, fun _ => ⟨_, rfl, by simp, fun j u hu => ?_⟩⟩
  have h := (Blk.new w t cs).cell j
  have e : (Addr.mk w.heap.size 0 none).add j = ⟨w.heap.size, j, none⟩ := by
    unfold Addr.add
    split
    · subst_vars; rfl
    · simp
  rw [e, h]
  simpa using hu

end Go.Proofs.Ytokdbpalkfghaaa.WireRd
