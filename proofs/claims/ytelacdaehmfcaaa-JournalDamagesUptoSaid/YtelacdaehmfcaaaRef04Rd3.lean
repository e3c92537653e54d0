/-
  The reference's reader: Ints and New.
-/
import Derived.Test.YtelacdaehmfcaaaRef04Rd2
import Derived.Test.YtelacdaehmfcaaaWireSame
namespace Go.Proofs.Ytelacdaehmfcaaa.Ref04Rd
open Go.RowKit Go.Proofs.Ytelacdaehmfcaaa Go.Proofs.Ytelacdaehmfcaaa.WirePure
open Go.Proofs.Ytelacdaehmfcaaa.WireRd (grown_trans own_apart app_grown info64 ints_bad ints_ok count_len)

def IP (g : Option Nat) (zs : List Int) (a' : A) (w : World) (e : Ending) (w' : World) : Prop := ∃ v, e = .returned v ∧ w'.ownsRow w.heap.size 3 1 v zs.length (zs.map (Value.int .i64)) ∧ w.grownBy w' g ∧ Is w' g a'

theorem Is.lt {w : World} {g : Option Nat} {a : A} (h : Is w g a) (b : Nat) (hb : g = some b) : b < w.heap.size := by
  cases a with
  | bad x =>
    rcases h with ⟨rfl, rfl⟩ | ⟨b', s, p, e', rfl, rfl, hb'⟩ | ⟨b', s, p, rfl, hx, hb'⟩
    · cases hb
    · cases hb; exact hb'.lt
    · cases hb; exact hb'.lt
  | ready l =>
    obtain ⟨b', s, p, rfl, hb', hp, hs, rfl⟩ := h
    cases hb
    exact hb'.lt
theorem app_is {w w2 w3 : World} {g : Option Nat} {a : A} {o : Obj} {e : TypeId} {size n : Nat} {v : Value} {xs : List Value} (hi : Is w2 g a) (hown : w2.ownsRow w.heap.size e size v n xs) (hgrow : (w2.alloc o).grownBy w3 v.ownBlock) (hlt : ∀ b, g = some b → b < w.heap.size) : Is w3 g a :=
  (hi.grown (World.grownBy_alloc w2 o none) (fun _ _ => by simp)).grown hgrow (fun b hb hv => by have := (hown.lt b hv.symm).1; have := hlt b hb; omega)

theorem good_no (g : Option Nat) (x : Int) (w : World) (h : Is w g (.bad x)) :
    Calls Try.prog 56 #[pt g] w fun e w' => e = .returned (.bool false) ∧ w = w' := ready_bad g x w h

def NP (s : ByteArray) (w : World) (e : Ending) (w' : World) : Prop := e = .returned (pt (some w.heap.size)) ∧ Below w.heap.size w w' ∧ Is w' (some w.heap.size) (.ready s.data.toList)

theorem new_any (s : ByteArray) (w : World) (hs : s.size ≤ 140737488355328) : Calls Try.prog 45 #[.string s] w (NP s w) := by
  go_enter Try.func45, Try.ntmps45
  go_wp2
  go_ret
  exact ⟨rfl, (Below.refl _ _).alloc (Nat.le_refl _) _, Is.ready_of (p := 0) (Blk.new w _ _) (Nat.zero_le _) hs⟩

end Go.Proofs.Ytelacdaehmfcaaa.Ref04Rd
