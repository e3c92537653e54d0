/-
  Layer 36's laws: one call of a cache.
-/
import Derived.Test.YtkdokipgakncjaaCacSK
namespace Go.Proofs.Ytkdokipgakncjaa.Cac
open Go.RowKit Go.Proofs.Ytkdokipgakncjaa

/-- A call's ten cells. -/
def cagg (x : CallV) (r : Value) : Value := .agg #[.int .i64 x.kind, .int .i64 x.n, .int .i64 x.k.1, .int .i64 x.k.2.1, .int .i64 x.k.2.2.1, .int .i64 x.k.2.2.2.1, .int .i64 x.k.2.2.2.2, .int .i64 x.i.W, .int .i64 x.i.H, r]
/-- A call that is read. -/
def CallR (w : World) (B : Nat) (r : Value) (x : CallV) : Prop := ImgR w B (.agg #[.int .i64 x.i.W, .int .i64 x.i.H, r]) x.i ∧ K5ok x.k ∧ x.i.px.length ≤ 4398046511104
def DoneC (B g m : Nat) (s : St) (x : CallV) (M : List Nat) (w : World) (e : Ending) (w' : World) : Prop := e = .returned (.tuple #[]) ∧ Left B g (m + 1) (s.step x) M w w'
theorem Left.more {B g m m' : Nat} {s : St} {M : List Nat} {w w' : World} (h : Left B g m s M w w') (hm : m ≤ m') : Left B g m' s M w w' := by
  obtain ⟨M', h1, h2, h3⟩ := h
  exact ⟨M', h1.more hm, h2, h3⟩
theorem Left.same {B g m : Nat} {s : St} {M : List Nat} {w w' : World} (h : IsC w B g m s M) (hT : Tch [] w w') : Left B g m s M w w' :=
  ⟨M, h.tch hT (fun k hk => by simp at hk) (fun k _ => by simp), hT.mono (fun k hk => by simp at hk), fun k hk => .inl hk⟩
theorem DoneC.mk {B g m : Nat} {s : St} {x : CallV} {M : List Nat} {w W w' : World} (h : Left B g (m + 1) (s.step x) M W w') (hT : Tch [] w W) : DoneC B g m s x M w (.returned (.tuple #[])) w' :=
  ⟨rfl, h.mk (hT.mono (fun k hk => by simp at hk)) (fun k hk => .inl hk)⟩
theorem step0 {s : St} {x : CallV} (h : x.kind = 0) : s.step x = s.get x.k := by unfold St.step; rw [if_pos h]
theorem step1 {s : St} {x : CallV} (h : x.kind = 1) : s.step x = s.put x.k x.i := by unfold St.step; rw [if_neg (by omega), if_pos h]
theorem step2 {s : St} {x : CallV} (h : x.kind = 2) : s.step x = s.drop x.n := by unfold St.step; rw [if_neg (by omega), if_neg (by omega), if_pos h]
theorem step3 {s : St} {x : CallV} (h : x.kind = 3) : s.step x = s.remove x.k := by unfold St.step; rw [if_neg (by omega), if_neg (by omega), if_neg (by omega), if_pos h]
theorem step4 {s : St} {x : CallV} (h : x.kind = 4) : s.step x = s.resize x.n := by unfold St.step; rw [if_neg (by omega), if_neg (by omega), if_neg (by omega), if_neg (by omega), if_pos h]
theorem step5 {s : St} {x : CallV} (h0 : x.kind ≠ 0) (h1 : x.kind ≠ 1) (h2 : x.kind ≠ 2) (h3 : x.kind ≠ 3) (h4 : x.kind ≠ 4) : s.step x = s := by unfold St.step; rw [if_neg h0, if_neg h1, if_neg h2, if_neg h3, if_neg h4]

set_option maxHeartbeats 2000000 in
theorem do_any (B g m : Nat) (s : St) (x : CallV) (r : Value) (M : List Nat) (w : World) (h : IsC w B g m s M) (hok : s.ok m) (hx : CallR w w.heap.size r x) (hm : m ≤ 4398046511104) (hB : B ≤ w.heap.size) :
    Calls Try.prog 18 #[.pointer (some ⟨g, 0, none⟩), cagg x r] w (DoneC B g m s x M w) := by
  obtain ⟨hI, hk, hpx⟩ := hx
  obtain ⟨A, q, cc, rfl⟩ : ∃ A q cc, r = .slice A q cc := by
    obtain ⟨A, cc, he, _⟩ := hI
    exact ⟨A, _, cc, by simpa using he⟩
  have T : Tch [] w (w.alloc (.cells #[.int .i64 x.kind, .int .i64 x.n, .int .i64 x.k.1, .int .i64 x.k.2.1, .int .i64 x.k.2.2.1, .int .i64 x.k.2.2.2.1, .int .i64 x.k.2.2.2.2, .int .i64 x.i.W, .int .i64 x.i.H, .slice A q cc] 34)) := (Tch.refl _ _).alloc _
  obtain ⟨W, hW⟩ : ∃ W, W = w.alloc (.cells #[.int .i64 x.kind, .int .i64 x.n, .int .i64 x.k.1, .int .i64 x.k.2.1, .int .i64 x.k.2.2.1, .int .i64 x.k.2.2.2.1, .int .i64 x.k.2.2.2.2, .int .i64 x.i.W, .int .i64 x.i.H, .slice A q cc] 34) := ⟨_, rfl⟩
  rw [← hW] at T
  have hbW : Below w.heap.size w W := T.to_below (Nat.le_refl _) (by simp)
  have h' := h.tch T (fun k hk => by simp at hk) (fun k _ => by simp)
  have hI' := (hI.below hbW).more hbW.size
  have hsz := hbW.size
  have hlen := hok.len
  have hmost := hok.most
  have hev := hok.evict
  have c0 := get_any B g m s x.k hk M W h' (by omega) (fun p hp => by have := hok.px p hp; omega)
  have c1 := put_any B g m s x.k hk x.i _ M W h' hI' (by omega) (by omega) (by omega) (by omega) hmost (by omega)
  have c2 := drop_any B g m s x.n M W h' (by omega)
  have c3 := remove_any B g m s x.k hk M W h' (by omega)
  have c4 := resize_any B g m s x.n M W h' (by omega) (by omega)
  have HT := Lib.hid T
  have H := Lib.hid h'
  rw [hW] at c0 c1 c2 c3 c4
  have HW := Lib.hid hW
  clear h h' hI hI' hok hW T hbW hlen hmost hev hk hpx hsz
  unfold cagg
  unfold kagg at c0 c1 c3
  by_cases k0 : x.kind = 0
  · have HK := Lib.hid k0
    have q0 : (x.kind == 0) = true := by simpa using k0
    clear k0
    go_enter Try.func18, Try.ntmps18
    go_wp2_with (go_at_call 19; refine c0.mono ?_; rintro e w1 ⟨v, rfl, _, hL⟩)
    go_end0
    rw [← HW.out] at hL
    exact DoneC.mk (by rw [step0 HK.out]; exact hL.more (Nat.le_succ _)) HT.out
  by_cases k1 : x.kind = 1
  · have HK := Lib.hid k1
    have q0 : (x.kind == 0) = false := by simpa using k0
    have q1 : (x.kind == 1) = true := by simpa using k1
    clear k0 k1
    go_enter Try.func18, Try.ntmps18
    go_wp2_with (go_at_call 26; refine c1.mono ?_; rintro e w1 ⟨rfl, hL⟩)
    go_end0
    rw [← HW.out] at hL
    exact DoneC.mk (by rw [step1 HK.out]; exact hL) HT.out
  by_cases k2 : x.kind = 2
  · have HK := Lib.hid k2
    have q0 : (x.kind == 0) = false := by simpa using k0
    have q1 : (x.kind == 1) = false := by simpa using k1
    have q2 : (x.kind == 2) = true := by simpa using k2
    clear k0 k1 k2
    go_enter Try.func18, Try.ntmps18
    go_wp2_with (go_at_call 28; refine c2.mono ?_; rintro e w1 ⟨rfl, hL⟩)
    go_end0
    rw [← HW.out] at hL
    exact DoneC.mk (by rw [step2 HK.out]; exact hL.more (Nat.le_succ _)) HT.out
  by_cases k3 : x.kind = 3
  · have HK := Lib.hid k3
    have q0 : (x.kind == 0) = false := by simpa using k0
    have q1 : (x.kind == 1) = false := by simpa using k1
    have q2 : (x.kind == 2) = false := by simpa using k2
    have q3 : (x.kind == 3) = true := by simpa using k3
    clear k0 k1 k2 k3
    go_enter Try.func18, Try.ntmps18
    go_wp2_with (go_at_call 30; refine c3.mono ?_; rintro e w1 ⟨rfl, hL⟩)
    go_end0
    rw [← HW.out] at hL
    exact DoneC.mk (by rw [step3 HK.out]; exact hL.more (Nat.le_succ _)) HT.out
  by_cases k4 : x.kind = 4
  · have HK := Lib.hid k4
    have q0 : (x.kind == 0) = false := by simpa using k0
    have q1 : (x.kind == 1) = false := by simpa using k1
    have q2 : (x.kind == 2) = false := by simpa using k2
    have q3 : (x.kind == 3) = false := by simpa using k3
    have q4 : (x.kind == 4) = true := by simpa using k4
    clear k0 k1 k2 k3 k4
    go_enter Try.func18, Try.ntmps18
    go_wp2_with (go_at_call 32; refine c4.mono ?_; rintro e w1 ⟨rfl, hL⟩)
    go_end0
    rw [← HW.out] at hL
    exact DoneC.mk (by rw [step4 HK.out]; exact hL.more (Nat.le_succ _)) HT.out
  have q0 : (x.kind == 0) = false := by simpa using k0
  have q1 : (x.kind == 1) = false := by simpa using k1
  have q2 : (x.kind == 2) = false := by simpa using k2
  have q3 : (x.kind == 3) = false := by simpa using k3
  have q4 : (x.kind == 4) = false := by simpa using k4
  have HS := Lib.hid (step5 (s := s) k0 k1 k2 k3 k4)
  clear k0 k1 k2 k3 k4
  go_enter Try.func18, Try.ntmps18
  go_wp2_with fail
  go_end0
  rw [← HW.out]
  exact DoneC.mk (by rw [HS.out]; exact (Left.same H.out (Tch.refl _ _)).more (Nat.le_succ _)) HT.out

end Go.Proofs.Ytkdokipgakncjaa.Cac
