/-
  Layer 36's laws: several objects that stand apart in memory.
-/
import Derived.Test.YtkdokipgakncjaaCacLw
namespace Go.Proofs.Ytkdokipgakncjaa.Cac
open Go.RowKit Go.Proofs.Ytkdokipgakncjaa

/-- An object: a state of memory and the blocks that are its own. -/
abbrev Obj := World → List Nat → Prop
structure Ob (P : Cac.Obj) (B : Nat) : Prop where
  tch : ∀ {w w' : World} {M M' : List Nat}, P w M → Tch M' w w' → NoPix w M' → (∀ k ∈ M, k ∉ M') → P w' M
  noPix : ∀ {w : World} {M : List Nat}, P w M → NoPix w M
  size : ∀ {w : World} {M : List Nat}, P w M → ∀ k ∈ M, k < w.heap.size
  lows : ∀ {w : World} {M : List Nat}, P w M → ∀ k ∈ M, B ≤ k
/-- What a call leaves of an object. -/
def Out (P : Cac.Obj) (M : List Nat) (w w' : World) : Prop := ∃ M', P w' M' ∧ Tch M w w' ∧ ∀ k ∈ M', k ∈ M ∨ w.heap.size ≤ k
def Both (P Q : Cac.Obj) : Cac.Obj := fun W M => ∃ M1 M2, M = M1 ++ M2 ∧ P W M1 ∧ Q W M2 ∧ ∀ k ∈ M1, k ∉ M2
section
variable {P P' P'' Q Q' : Cac.Obj} {B : Nat} {M : List Nat} {w w' w1 w0 W W' : World}
theorem NoPix.nil : NoPix w [] := fun k hk => by simp at hk
theorem Ob.later (hP : Ob P B) (h : P w M) (hb : Below w.heap.size w w') : P w' M := hP.tch h ((Tch.refl [] _).below hb) NoPix.nil (fun k _ => by simp)
theorem Ob.tch0 (hP : Ob P B) (h : P w M) (hb : Tch [] w w') : P w' M := hP.tch h hb NoPix.nil (fun k _ => by simp)
theorem Ob.both (hP : Ob P B) (hQ : Ob Q B) : Ob (Both P Q) B where
  tch := fun ⟨M1, M2, e, h1, h2, hd⟩ ht hn hm => ⟨M1, M2, e, hP.tch h1 ht hn (fun k hk => hm k (by rw [e]; simp [hk])), hQ.tch h2 ht hn (fun k hk => hm k (by rw [e]; simp [hk])), hd⟩
  noPix := fun ⟨M1, M2, e, h1, h2, _⟩ k hk => by
    rw [e] at hk
    rcases List.mem_append.1 hk with hk | hk
    · exact hP.noPix h1 k hk
    · exact hQ.noPix h2 k hk
  size := fun ⟨M1, M2, e, h1, h2, _⟩ k hk => by
    rw [e] at hk
    rcases List.mem_append.1 hk with hk | hk
    · exact hP.size h1 k hk
    · exact hQ.size h2 k hk
  lows := fun ⟨M1, M2, e, h1, h2, _⟩ k hk => by
    rw [e] at hk
    rcases List.mem_append.1 hk with hk | hk
    · exact hP.lows h1 k hk
    · exact hQ.lows h2 k hk
theorem Out.refl (h : P w M) (ht : Tch [] w w) : Out P M w w := ⟨M, h, ht.mono (fun k hk => by simp at hk), fun k hk => .inl hk⟩
theorem Out.later (hP : Ob P B) (h : Out P M w w1) (hb : Below w1.heap.size w1 w') : Out P M w w' := by
  obtain ⟨M', h1, h2, h3⟩ := h
  exact ⟨M', hP.later h1 hb, h2.below hb, h3⟩
theorem Out.tch0 (hP : Ob P B) (h : Out P M w w1) (hb : Tch [] w1 w') : Out P M w w' := by
  obtain ⟨M', h1, h2, h3⟩ := h
  exact ⟨M', hP.tch0 h1 hb, h2.trans hb (fun k hk => by simp at hk), h3⟩
theorem Out.stay (hP : Ob P B) (h : P w M) (hb : Tch [] w w') : Out P M w w' := ⟨M, hP.tch0 h hb, hb.mono (fun k hk => by simp at hk), fun k hk => .inl hk⟩
theorem Out.trans (h : Out P M w w1) (h' : ∀ M', P w1 M' → Out P' M' w1 w') : Out P' M w w' := by
  obtain ⟨M', h1, h2, h3⟩ := h
  obtain ⟨M'', k1, k2, k3⟩ := h' M' h1
  refine ⟨M'', k1, h2.trans k2 h3, fun k hk => ?_⟩
  rcases k3 k hk with h4 | h4
  · exact h3 k h4
  · exact .inr (Nat.le_trans h2.size h4)
theorem Out.first (hP : Ob P B) (hQ : Ob Q B) {M1 M2 : List Nat} (h2 : Q w M2) (hd : ∀ k ∈ M1, k ∉ M2) (h1 : P w M1) (h : Out P' M1 w w') : Out (Both P' Q) (M1 ++ M2) w w' := by
  obtain ⟨M', k1, k2, k3⟩ := h
  refine ⟨M' ++ M2, ⟨M', M2, rfl, k1, hQ.tch h2 k2 (hP.noPix h1) (fun k hk hm => hd k hm hk), fun k hk hm => ?_⟩, k2.mono (fun k hk => .inl (by simp [hk])), fun k hk => ?_⟩
  · rcases k3 k hk with h4 | h4
    · exact hd k h4 hm
    · have := hQ.size h2 k hm
      omega
  · rcases List.mem_append.1 hk with hk | hk
    · rcases k3 k hk with h4 | h4
      · exact .inl (by simp [h4])
      · exact .inr h4
    · exact .inl (by simp [hk])
theorem Out.second (hP : Ob P B) (hQ : Ob Q B) {M1 M2 : List Nat} (h1 : P w M1) (hd : ∀ k ∈ M1, k ∉ M2) (h2 : Q w M2) (h : Out Q' M2 w w') : Out (Both P Q') (M1 ++ M2) w w' := by
  obtain ⟨M', k1, k2, k3⟩ := h
  refine ⟨M1 ++ M', ⟨M1, M', rfl, hP.tch h1 k2 (hQ.noPix h2) (fun k hk hm => hd k hk hm), k1, fun k hk hm => ?_⟩, k2.mono (fun k hk => .inl (by simp [hk])), fun k hk => ?_⟩
  · rcases k3 k hm with h4 | h4
    · exact hd k hk h4
    · have := hP.size h1 k hk
      omega
  · rcases List.mem_append.1 hk with hk | hk
    · exact .inl (by simp [hk])
    · rcases k3 k hk with h4 | h4
      · exact .inl (by simp [h4])
      · exact .inr h4
theorem both_first {f : Nat} {args : Array Value} {R : Ending → World → Prop} (hP : Ob P B) (hQ : Ob Q B) (h : Both P Q w M) (hc : ∀ M1, P w M1 → Calls Try.prog f args w fun e w' => R e w' ∧ Out P' M1 w w') :
    Calls Try.prog f args w fun e w' => R e w' ∧ Out (Both P' Q) M w w' := by
  obtain ⟨M1, M2, rfl, h1, h2, hd⟩ := h
  exact (hc M1 h1).mono fun e w' h => ⟨h.1, Out.first hP hQ h2 hd h1 h.2⟩
theorem both_second {f : Nat} {args : Array Value} {R : Ending → World → Prop} (hP : Ob P B) (hQ : Ob Q B) (h : Both P Q w M) (hc : ∀ M1, Q w M1 → Calls Try.prog f args w fun e w' => R e w' ∧ Out Q' M1 w w') :
    Calls Try.prog f args w fun e w' => R e w' ∧ Out (Both P Q') M w w' := by
  obtain ⟨M1, M2, rfl, h1, h2, hd⟩ := h
  exact (hc M2 h2).mono fun e w' h => ⟨h.1, Out.second hP hQ h1 hd h2 h.2⟩
theorem Both.one (h : Both P Q w M) : ∃ M1, P w M1 := by obtain ⟨M1, M2, _, h1, h2, _⟩ := h; exact ⟨M1, h1⟩
theorem Both.two (h : Both P Q w M) : ∃ M1, Q w M1 := by obtain ⟨M1, M2, _, h1, h2, _⟩ := h; exact ⟨M2, h2⟩

/-- An object over a world that stands still below B. -/
structure Hold (P : Cac.Obj) (B : Nat) (w0 W : World) : Prop where
  st : ∃ M, P W M
  below : Below B w0 W
  low : B ≤ w0.heap.size
theorem Hold.size (h : Hold P B w0 W) : B ≤ W.heap.size := Nat.le_trans h.low h.below.size
theorem Hold.later (h : Hold P B w0 W) (hP : Ob P B) (hb : Below W.heap.size W W') : Hold P B w0 W' := by
  obtain ⟨M, hM⟩ := h.st
  exact ⟨⟨M, hP.later hM hb⟩, h.below.trans (hb.mono h.size), h.low⟩
theorem Hold.call {f : Nat} {args : Array Value} {R : Ending → World → Prop} (h : Hold P B w0 W) (hP : Ob P B) (hc : ∀ M, P W M → Calls Try.prog f args W fun e w' => R e w' ∧ Out P' M W w') :
    Calls Try.prog f args W fun e w' => R e w' ∧ Hold P' B w0 w' := by
  obtain ⟨M, hM⟩ := h.st
  refine (hc M hM).mono fun e w' ⟨hR, M', h1, h2, _⟩ => ⟨hR, ⟨M', h1⟩, h.below.trans (h2.to_below h.size (hP.lows hM)), h.low⟩
theorem Hold.join (h : Hold P B w0 W) (hP : Ob P B) {N : List Nat} (hN : Q W' N) (hnew : ∀ k ∈ N, W.heap.size ≤ k) (hb : Below W.heap.size W W') : Hold (Both P Q) B w0 W' := by
  obtain ⟨M, hM⟩ := h.st
  exact ⟨⟨M ++ N, M, N, rfl, hP.later hM hb, hN, fun k hk hm => by have := hP.size hM k hk; have := hnew k hm; omega⟩, h.below.trans (hb.mono h.size), h.low⟩
end

/-- A cache of the program. -/
def CP (B g m : Nat) (s : St) : Cac.Obj := fun W M => IsC W B g m s M ∧ s.ok m
theorem obC (B g m : Nat) (s : St) : Ob (CP B g m s) B where
  tch := fun h ht hn hm => ⟨h.1.tch ht hn hm, h.2⟩
  noPix := fun h => h.1.noPix
  size := fun h => h.1.size
  lows := fun h => h.1.lows
section
variable {B g m : Nat} {s : St} {M : List Nat} {W : World}
theorem cp_do (h : CP B g m s W M) (x : CallV) (r : Value) (hx : CallR W W.heap.size r x) (hm : m ≤ 4398046511104) (hB : B ≤ W.heap.size) :
    Calls Try.prog 18 #[.pointer (some ⟨g, 0, none⟩), cagg x r] W fun e w' => e = .returned (.tuple #[]) ∧ Out (CP B g (m + 1) (s.step x)) M W w' := by
  refine (do_any B g m s x r M W h.1 h.2 hx hm hB).mono ?_
  rintro e w' ⟨rfl, M', h1, h2, h3⟩
  exact ⟨rfl, M', ⟨h1, h.2.step_ok x hx.2.2⟩, h2, h3⟩
theorem cp_keys (h : CP B g m s W M) (q : Nat) (hq : s.l.length = q) : Calls Try.prog 13 #[.pointer (some ⟨g, 0, none⟩)] W fun e w' => ∃ A cap, e = .returned (.slice A q cap) ∧ KR w' A (keys s.l) ∧ Below W.heap.size W w' := by
  have h1 := h.2.len
  have h2 := h.2.most
  refine (keys_q B g m q s M W h.1 (by omega) hq.symm).mono ?_
  rintro e w' ⟨A, cap, rfl, ho, hb⟩
  exact ⟨A, cap, rfl, KR.of_own ho (by rw [keys_len, hq]), hb⟩
theorem cp_evicted (h : CP B g m s W M) : Calls Try.prog 15 #[.pointer (some ⟨g, 0, none⟩)] W fun e w' => e = .returned (.int .i64 s.e) ∧ W = w' := evicted_any B g m s M W h.1
theorem cp_len (h : CP B g m s W M) : s.l.length ≤ 1024 := Nat.le_trans h.2.len h.2.most
end
theorem cp_new (B : Nat) (n : Int) (W : World) (hB : B ≤ W.heap.size) : Calls Try.prog 9 #[.int .i64 n] W fun e w' => ∃ g M, e = .returned (.pointer (some ⟨g, 0, none⟩)) ∧ CP B g 0 (St.new n) w' M ∧ (∀ k ∈ M, W.heap.size ≤ k) ∧ Below W.heap.size W w' := by
  refine (new_any B n W hB).mono ?_
  rintro e w' ⟨g, M, rfl, hI, hb, hk⟩
  exact ⟨g, M, rfl, ⟨hI, St.new_ok n⟩, hk, hb⟩
theorem Hold.new_ {P : Cac.Obj} {B : Nat} {w0 W : World} (h : Hold P B w0 W) (hP : Ob P B) (n : Int) : Calls Try.prog 9 #[.int .i64 n] W fun e w' => ∃ g, e = .returned (.pointer (some ⟨g, 0, none⟩)) ∧ Hold (Both P (CP B g 0 (St.new n))) B w0 w' := by
  refine (cp_new B n W h.size).mono ?_
  rintro e w' ⟨g, M, rfl, h1, h2, h3⟩
  exact ⟨g, rfl, h.join hP h1 h2 h3⟩
theorem hold_new (B : Nat) (n : Int) (w0 W : World) (hb : Below B w0 W) (hB : B ≤ w0.heap.size) : Calls Try.prog 9 #[.int .i64 n] W fun e w' => ∃ g, e = .returned (.pointer (some ⟨g, 0, none⟩)) ∧ Hold (CP B g 0 (St.new n)) B w0 w' := by
  have hs := hb.size
  refine (cp_new B n W (by omega)).mono ?_
  rintro e w' ⟨g, M, rfl, h1, h2, h3⟩
  exact ⟨g, rfl, ⟨M, h1⟩, hb.trans (h3.mono (by omega)), hB⟩
section
variable {B g m : Nat} {s : St} {w0 W : World} {P Q : Cac.Obj}
theorem Hold.keys1 (h : Hold (Both (CP B g m s) Q) B w0 W) (q : Nat) (hq : s.l.length = q) : Calls Try.prog 13 #[.pointer (some ⟨g, 0, none⟩)] W fun e w' => ∃ A cap, e = .returned (.slice A q cap) ∧ KR w' A (keys s.l) ∧ Below W.heap.size W w' := by
  obtain ⟨M, hM⟩ := h.st
  obtain ⟨M1, h1⟩ := hM.one
  exact cp_keys h1 q hq
theorem Hold.keys2 (h : Hold (Both P (CP B g m s)) B w0 W) (q : Nat) (hq : s.l.length = q) : Calls Try.prog 13 #[.pointer (some ⟨g, 0, none⟩)] W fun e w' => ∃ A cap, e = .returned (.slice A q cap) ∧ KR w' A (keys s.l) ∧ Below W.heap.size W w' := by
  obtain ⟨M, hM⟩ := h.st
  obtain ⟨M1, h1⟩ := hM.two
  exact cp_keys h1 q hq
theorem Hold.ev1 (h : Hold (Both (CP B g m s) Q) B w0 W) (q : Nat) (hq : s.e = q) : Calls Try.prog 15 #[.pointer (some ⟨g, 0, none⟩)] W fun e w' => e = .returned (.int .i64 q) ∧ W = w' := by
  obtain ⟨M, hM⟩ := h.st
  obtain ⟨M1, h1⟩ := hM.one
  rw [← hq]
  exact cp_evicted h1
theorem Hold.ev2 (h : Hold (Both P (CP B g m s)) B w0 W) (q : Nat) (hq : s.e = q) : Calls Try.prog 15 #[.pointer (some ⟨g, 0, none⟩)] W fun e w' => e = .returned (.int .i64 q) ∧ W = w' := by
  obtain ⟨M, hM⟩ := h.st
  obtain ⟨M1, h1⟩ := hM.two
  rw [← hq]
  exact cp_evicted h1
theorem Hold.len1 (h : Hold (Both (CP B g m s) Q) B w0 W) : s.l.length ≤ 1024 := by
  obtain ⟨M, hM⟩ := h.st
  obtain ⟨M1, h1⟩ := hM.one
  exact cp_len h1
end

end Go.Proofs.Ytkdokipgakncjaa.Cac
