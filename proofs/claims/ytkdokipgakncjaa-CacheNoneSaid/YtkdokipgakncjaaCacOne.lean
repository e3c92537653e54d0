/-
  Layer 36's laws: one cache over a world that stands still below.
-/
import Derived.Test.YtkdokipgakncjaaCacDo
namespace Go.Proofs.Ytkdokipgakncjaa.Cac
open Go.RowKit Go.Proofs.Ytkdokipgakncjaa

/-- A cache whose blocks all lie from B on; below B all is as it was in w0. -/
structure One (B g m : Nat) (s : St) (w0 W : World) : Prop where
  st : ∃ M, IsC W B g m s M
  ok : s.ok m
  below : Below B w0 W
  low : B ≤ w0.heap.size
section
variable {B g m : Nat} {s : St} {w0 W W' : World}
theorem One.size (h : One B g m s w0 W) : B ≤ W.heap.size := Nat.le_trans h.low h.below.size
theorem One.later (h : One B g m s w0 W) (hb : Below W.heap.size W W') : One B g m s w0 W' := by
  obtain ⟨M, hM⟩ := h.st
  exact ⟨⟨M, hM.tch (M' := []) ((Tch.refl _ _).below hb) (fun k hk => by simp at hk) (fun k _ => by simp)⟩, h.ok, h.below.trans (hb.mono h.size), h.low⟩
theorem One.left {m' : Nat} {s' : St} {M : List Nat} (h : One B g m s w0 W) (hM : IsC W B g m s M) (hL : Left B g m' s' M W W') (hok : s'.ok m') : One B g m' s' w0 W' := by
  obtain ⟨M', h1, h2, _⟩ := hL
  exact ⟨⟨M', h1⟩, hok, h.below.trans (h2.to_below h.size hM.lows), h.low⟩
theorem one_new (B : Nat) (n : Int) (w0 W : World) (hb : Below B w0 W) (hB : B ≤ w0.heap.size) : Calls Try.prog 9 #[.int .i64 n] W fun e w' => ∃ g, e = .returned (.pointer (some ⟨g, 0, none⟩)) ∧ One B g 0 (St.new n) w0 w' := by
  have hs := hb.size
  refine (new_any B n W (by omega)).mono ?_
  rintro e w' ⟨g, M, rfl, hI, hb', _⟩
  exact ⟨g, rfl, ⟨M, hI⟩, St.new_ok n, hb.trans (hb'.mono (by omega)), hB⟩
theorem one_put (h : One B g m s w0 W) (k : K5) (hk : K5ok k) (i : Img) (v : Value) (hv : ImgR W W.heap.size v i) (hpx : i.px.length ≤ 4398046511104) (hm : m ≤ 4398046511104) :
    Calls Try.prog 26 #[.pointer (some ⟨g, 0, none⟩), kagg k, v] W fun e w' => e = .returned (.tuple #[]) ∧ One B g (m + 1) (s.put k i) w0 w' := by
  obtain ⟨M, hM⟩ := h.st
  have h1 := h.ok.len
  have h2 := h.ok.most
  have h3 := h.ok.evict
  refine (put_any B g m s k hk i v M W hM hv (by omega) (by omega) (by omega) (by omega) h2 h.size).mono ?_
  rintro e w' ⟨rfl, hL⟩
  exact ⟨rfl, h.left hM hL (h.ok.put_ok k i hpx)⟩
theorem one_get (h : One B g m s w0 W) (k : K5) (hk : K5ok k) :
    Calls Try.prog 19 #[.pointer (some ⟨g, 0, none⟩), kagg k] W fun e w' => ∃ v, e = .returned (.tuple #[v, .bool (look s.l k).isSome]) ∧ ImgV w' W.heap.size v ((look s.l k).getD img0) ∧ One B g m (s.get k) w0 w' := by
  obtain ⟨M, hM⟩ := h.st
  have h1 := h.ok.len
  have h2 := h.ok.most
  refine (get_any B g m s k hk M W hM (by omega) (fun p hp => by have := h.ok.px p hp; omega)).mono ?_
  rintro e w' ⟨v, rfl, hI, hL⟩
  exact ⟨v, rfl, hI, h.left hM hL (h.ok.get_ok k)⟩
theorem one_drop (h : One B g m s w0 W) (z : Int) :
    Calls Try.prog 28 #[.pointer (some ⟨g, 0, none⟩), .int .i64 z] W fun e w' => e = .returned (.int .i64 ((s.l.length - (dropE s.l z).length : Nat) : Int)) ∧ One B g m (s.drop z) w0 w' := by
  obtain ⟨M, hM⟩ := h.st
  have h1 := h.ok.len
  have h2 := h.ok.most
  refine (drop_any B g m s z M W hM (by omega)).mono ?_
  rintro e w' ⟨rfl, hL⟩
  exact ⟨rfl, h.left hM hL (h.ok.drop_ok z)⟩
theorem one_resize (h : One B g m s w0 W) (z : Int) (hm : m ≤ 4398046511105) :
    Calls Try.prog 32 #[.pointer (some ⟨g, 0, none⟩), .int .i64 z] W fun e w' => e = .returned (.int .i64 (({ s with b := clampN z } : St).over : Int)) ∧ One B g m (s.resize z) w0 w' := by
  obtain ⟨M, hM⟩ := h.st
  have h1 := h.ok.len
  have h2 := h.ok.most
  have h3 := h.ok.evict
  refine (resize_any B g m s z M W hM (by omega) (by omega)).mono ?_
  rintro e w' ⟨rfl, hL⟩
  exact ⟨rfl, h.left hM hL (h.ok.resize_ok z)⟩
theorem one_evicted (h : One B g m s w0 W) : Calls Try.prog 15 #[.pointer (some ⟨g, 0, none⟩)] W fun e w' => e = .returned (.int .i64 s.e) ∧ W = w' := by
  obtain ⟨M, hM⟩ := h.st
  exact evicted_any B g m s M W hM
theorem one_keys (h : One B g m s w0 W) : Calls Try.prog 13 #[.pointer (some ⟨g, 0, none⟩)] W fun e w' => ∃ A cap, e = .returned (.slice A s.l.length cap) ∧ KR w' A (keys s.l) ∧ Below W.heap.size W w' := by
  obtain ⟨M, hM⟩ := h.st
  have h1 := h.ok.len
  have h2 := h.ok.most
  refine (keys_q B g m s.l.length s M W hM (by omega) rfl).mono ?_
  rintro e w' ⟨A, cap, rfl, ho, hb⟩
  exact ⟨A, cap, rfl, KR.of_own ho (keys_len s.l).symm, hb⟩
theorem one_do (h : One B g m s w0 W) (x : CallV) (r : Value) (hx : CallR W W.heap.size r x) (hm : m ≤ 4398046511104) :
    Calls Try.prog 18 #[.pointer (some ⟨g, 0, none⟩), cagg x r] W fun e w' => e = .returned (.tuple #[]) ∧ One B g (m + 1) (s.step x) w0 w' := by
  obtain ⟨M, hM⟩ := h.st
  refine (do_any B g m s x r M W hM h.ok hx hm h.size).mono ?_
  rintro e w' ⟨rfl, hL⟩
  exact ⟨rfl, h.left hM hL (h.ok.step_ok x hx.2.2)⟩
end
theorem img0R (W : World) (B : Nat) : ImgR W B (.agg #[.int .i64 0, .int .i64 0, .slice none 0 0]) img0 := ⟨none, 0, rfl, Reads.none_, fun _ => rfl⟩

/-! the example -/
def ka : K5 := (1, 0, 0, 0, 0)
def kb : K5 := (2, 0, 0, 0, 0)
def kd : K5 := (3, 0, 0, 0, 0)
def e4 : St := ((((St.new 2).put ka img0).put kb img0).get ka).put kd img0
def e5 : St := e4.resize 1
theorem e4k : keys e4.l = [ka, kd] := by rfl
theorem e4e : e4.e = 1 := by rfl
theorem e4o : ({ e4 with b := clampN 1 } : St).over = 1 := by rfl
theorem e5k : keys e5.l = [kd] := by rfl
theorem e5e : e5.e = 2 := by rfl
theorem e5d : e5.l.length - (dropE e5.l 3).length = 1 := by rfl

end Go.Proofs.Ytkdokipgakncjaa.Cac
