/-
  Package wire's reader: Ints and New.
-/
import Derived.Test.YtokdbpalkfghaaaWireRd2
import Derived.Test.YtokdbpalkfghaaaWirePure2
import Derived.Test.YtokdbpalkfghaaaWireEnc
namespace Go.Proofs.Ytokdbpalkfghaaa.WireRd
open Go.RowKit Go.Proofs.Ytokdbpalkfghaaa Go.Proofs.Ytokdbpalkfghaaa.WirePure

theorem info64 : (Try.prog.info? 3).map (fun i => (i.zero, i.size, i.bytes)) = some (some (.int .i64 0), 1, 8) := by kernel_rfl

def IP (g : Option Nat) (zs : List Int) (a' : A) (w : World) (e : Ending) (w' : World) : Prop := ∃ v, e = .returned v ∧ w'.ownsRow w.heap.size 3 1 v zs.length (zs.map (Value.int .i64)) ∧ w.grownBy w' g ∧ Is w' g a'

theorem ints_bad (most : Int) (a : A) (n : Nat) (e : Int) (h : a.count most = (n, .bad e)) : a.ints most = ([], .bad e) := by
  unfold A.ints; rw [h]
theorem ints_ok (most : Int) (a : A) (n : Nat) (l : List UInt8) (h : a.count most = (n, .ready l)) : a.ints most = intsN n l := by
  unfold A.ints; rw [h]
theorem count_len (most : Int) (a : A) (n : Nat) (l : List UInt8) (h : a.count most = (n, .ready l)) : l.length ≤ a.left := by
  cases a with
  | bad e => simp [A.count, A.uint] at h
  | ready l0 =>
    unfold A.count A.uint at h
    by_cases h0 : (uv 0 0 l0).1 = 0
    · simp only [h0, if_pos] at h
      split at h
      · simp at h
      · have := uv_len l0 0 0 h0
        simp only [Prod.mk.injEq, A.ready.injEq] at h
        rw [← h.2]
        simp only [A.left]
        omega
    · simp [h0] at h

theorem grown_trans {w w1 w2 : World} {g r : Option Nat} (h : w.grownBy w1 g) (k : w1.grownBy w2 r) (hr : ∀ b, r = some b → w.heap.size ≤ b ∨ r = g) : w.grownBy w2 g :=
  ⟨k.os.trans h.os, k.tape.trans h.tape, k.output.trans h.output, Nat.le_trans h.size k.size, fun i hi hne => (k.block i (Nat.lt_of_lt_of_le hi h.size) (fun e => by
    rcases hr i e.symm with h1 | h1
    · omega
    · exact hne (e.trans h1))).trans (h.block i hi hne)⟩

theorem Is.lt {w : World} {g : Option Nat} {a : A} (h : Is w g a) (b : Nat) (hb : g = some b) : b < w.heap.size := by
  cases a with
  | bad x =>
    rcases h with ⟨rfl, rfl⟩ | ⟨b', s, p, e', rfl, rfl, hb'⟩ | ⟨b', s, p, rfl, hx, hb'⟩
    · cases hb
    · cases hb; exact hb'.lt
    · cases hb; exact hb'.lt
  | ready l =>
    obtain ⟨b', s, p, rfl, hb', hp, hs, rfl⟩ := h
    cases hb
    exact hb'.lt

theorem own_apart {w wr w2 : World} {g : Option Nat} {e : TypeId} {size n : Nat} {v : Value} {xs : List Value} (hown : wr.ownsRow w.heap.size e size v n xs) (hg : wr.grownBy w2 g) (hlt : ∀ b, g = some b → b < w.heap.size) : w2.ownsRow w.heap.size e size v n xs := by
  refine hown.kept hg ?_
  cases hv : v.ownBlock with
  | none => exact .inl rfl
  | some k =>
    refine .inr (fun e => ?_)
    have h1 := (hown.lt k hv).1
    have h2 := hlt k e.symm
    omega

/-- Behind an append onto a row of the call's own. -/
theorem app_grown {w w2 w3 : World} {g : Option Nat} {o : Obj} {e : TypeId} {size n : Nat} {v : Value} {xs : List Value} (hgr : w.grownBy w2 g) (hown : w2.ownsRow w.heap.size e size v n xs) (hgrow : (w2.alloc o).grownBy w3 v.ownBlock) : w.grownBy w3 g :=
  grown_trans (grown_trans hgr (World.grownBy_alloc w2 o none) (fun b hb => by cases hb)) hgrow (fun b hb => .inl (hown.lt b hb).1)
theorem app_is {w w2 w3 : World} {g : Option Nat} {a : A} {o : Obj} {e : TypeId} {size n : Nat} {v : Value} {xs : List Value} (hi : Is w2 g a) (hown : w2.ownsRow w.heap.size e size v n xs) (hgrow : (w2.alloc o).grownBy w3 v.ownBlock) (hlt : ∀ b, g = some b → b < w.heap.size) : Is w3 g a :=
  (hi.grown (World.grownBy_alloc w2 o none) (fun _ _ => by simp)).grown hgrow (fun b hb hv => by have := (hown.lt b hv.symm).1; have := hlt b hb; omega)

end Go.Proofs.Ytokdbpalkfghaaa.WireRd
