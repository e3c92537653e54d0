/-
  Layer 36's laws: caches that are nil or were not made.
-/
import Derived.Test.YtkdokipgakncjaaCacPair
namespace Go.Proofs.Ytkdokipgakncjaa.Cac
open Go.RowKit Go.Proofs.Ytkdokipgakncjaa

def VoidC (W : World) (e : Ending) (w' : World) : Prop := e = .returned (.tuple #[]) ∧ Below W.heap.size W w'
theorem none_Get (k : K5) (v : Value) (W : World) (hm : ∀ W', Below W.heap.size W W' → Calls Try.prog 34 #[v] W' fun e w' => e = .returned (.bool false) ∧ W' = w') :
    Calls Try.prog 19 #[v, kagg k] W fun e w' => e = .returned (.tuple #[.agg #[.int .i64 0, .int .i64 0, .slice none 0 0], .bool false]) ∧ Below W.heap.size W w' := by
  unfold kagg
  go_enter Try.func19, Try.ntmps19
  go_wp2_with fail
  refine (hm _ ?_).mono ?_
  · first | exact Below.refl _ _ | exact (Below.refl _ _).alloc (Nat.le_refl _) _ | exact ((Below.refl _ _).alloc (Nat.le_refl _) _).alloc (by simp) _
  rintro e w1 ⟨rfl, rfl⟩
  go_wp2_with fail
  refine bodyPost_ret (v := .tuple #[.agg #[.int .i64 0, .int .i64 0, .slice none 0 0], .bool false]) (by simp [results, Try.results19, go_sem]) rfl ?_
  first | exact ⟨rfl, Below.refl _ _⟩ | exact ⟨rfl, (Below.refl _ _).alloc (Nat.le_refl _) _⟩ | exact ⟨rfl, ((Below.refl _ _).alloc (Nat.le_refl _) _).alloc (by simp) _⟩ | exact ⟨⟨_, rfl⟩, (Below.refl _ _).alloc (Nat.le_refl _) _⟩
theorem none_Put (k : K5) (iW iH : Int) (A : Option Addr) (n c : Nat) (v : Value) (W : World) (hm : ∀ W', Below W.heap.size W W' → Calls Try.prog 34 #[v] W' fun e w' => e = .returned (.bool false) ∧ W' = w') :
    Calls Try.prog 26 #[v, kagg k, .agg #[.int .i64 iW, .int .i64 iH, .slice A n c]] W (VoidC W) := by
  unfold kagg
  go_enter Try.func26, Try.ntmps26
  go_wp2_with fail
  refine (hm _ ?_).mono ?_
  · first | exact Below.refl _ _ | exact (Below.refl _ _).alloc (Nat.le_refl _) _ | exact ((Below.refl _ _).alloc (Nat.le_refl _) _).alloc (by simp) _
  rintro e w1 ⟨rfl, rfl⟩
  go_wp2_with fail
  go_end0
  first | exact ⟨rfl, Below.refl _ _⟩ | exact ⟨rfl, (Below.refl _ _).alloc (Nat.le_refl _) _⟩ | exact ⟨rfl, ((Below.refl _ _).alloc (Nat.le_refl _) _).alloc (by simp) _⟩ | exact ⟨⟨_, rfl⟩, (Below.refl _ _).alloc (Nat.le_refl _) _⟩
theorem none_Drop (z : Int) (v : Value) (W : World) (hm : ∀ W', Below W.heap.size W W' → Calls Try.prog 34 #[v] W' fun e w' => e = .returned (.bool false) ∧ W' = w') :
    Calls Try.prog 28 #[v, .int .i64 z] W fun e w' => e = .returned (.int .i64 0) ∧ Below W.heap.size W w' := by
  go_enter Try.func28, Try.ntmps28
  go_wp2_with fail
  refine (hm _ ?_).mono ?_
  · first | exact Below.refl _ _ | exact (Below.refl _ _).alloc (Nat.le_refl _) _ | exact ((Below.refl _ _).alloc (Nat.le_refl _) _).alloc (by simp) _
  rintro e w1 ⟨rfl, rfl⟩
  go_wp2_with fail
  go_ret
  first | exact ⟨rfl, Below.refl _ _⟩ | exact ⟨rfl, (Below.refl _ _).alloc (Nat.le_refl _) _⟩ | exact ⟨rfl, ((Below.refl _ _).alloc (Nat.le_refl _) _).alloc (by simp) _⟩ | exact ⟨⟨_, rfl⟩, (Below.refl _ _).alloc (Nat.le_refl _) _⟩
theorem none_Remove (k : K5) (v : Value) (W : World) (hm : ∀ W', Below W.heap.size W W' → Calls Try.prog 34 #[v] W' fun e w' => e = .returned (.bool false) ∧ W' = w') :
    Calls Try.prog 30 #[v, kagg k] W fun e w' => e = .returned (.bool false) ∧ Below W.heap.size W w' := by
  unfold kagg
  go_enter Try.func30, Try.ntmps30
  go_wp2_with fail
  refine (hm _ ?_).mono ?_
  · first | exact Below.refl _ _ | exact (Below.refl _ _).alloc (Nat.le_refl _) _ | exact ((Below.refl _ _).alloc (Nat.le_refl _) _).alloc (by simp) _
  rintro e w1 ⟨rfl, rfl⟩
  go_wp2_with fail
  go_ret
  first | exact ⟨rfl, Below.refl _ _⟩ | exact ⟨rfl, (Below.refl _ _).alloc (Nat.le_refl _) _⟩ | exact ⟨rfl, ((Below.refl _ _).alloc (Nat.le_refl _) _).alloc (by simp) _⟩ | exact ⟨⟨_, rfl⟩, (Below.refl _ _).alloc (Nat.le_refl _) _⟩
theorem none_Resize (z : Int) (v : Value) (W : World) (hm : ∀ W', Below W.heap.size W W' → Calls Try.prog 34 #[v] W' fun e w' => e = .returned (.bool false) ∧ W' = w') :
    Calls Try.prog 32 #[v, .int .i64 z] W fun e w' => e = .returned (.int .i64 0) ∧ Below W.heap.size W w' := by
  go_enter Try.func32, Try.ntmps32
  go_wp2_with fail
  refine (hm _ ?_).mono ?_
  · first | exact Below.refl _ _ | exact (Below.refl _ _).alloc (Nat.le_refl _) _ | exact ((Below.refl _ _).alloc (Nat.le_refl _) _).alloc (by simp) _
  rintro e w1 ⟨rfl, rfl⟩
  go_wp2_with fail
  go_ret
  first | exact ⟨rfl, Below.refl _ _⟩ | exact ⟨rfl, (Below.refl _ _).alloc (Nat.le_refl _) _⟩ | exact ⟨rfl, ((Below.refl _ _).alloc (Nat.le_refl _) _).alloc (by simp) _⟩ | exact ⟨⟨_, rfl⟩, (Below.refl _ _).alloc (Nat.le_refl _) _⟩
theorem none_Keys (v : Value) (W : World) (hm : ∀ W', Below W.heap.size W W' → Calls Try.prog 34 #[v] W' fun e w' => e = .returned (.bool false) ∧ W' = w') :
    Calls Try.prog 13 #[v] W fun e w' => e = .returned (.slice none 0 0) ∧ Below W.heap.size W w' := by
  go_enter Try.func13, Try.ntmps13
  go_wp2_with fail
  refine (hm _ ?_).mono ?_
  · first | exact Below.refl _ _ | exact (Below.refl _ _).alloc (Nat.le_refl _) _ | exact ((Below.refl _ _).alloc (Nat.le_refl _) _).alloc (by simp) _
  rintro e w1 ⟨rfl, rfl⟩
  go_wp2_with fail
  go_ret
  first | exact ⟨rfl, Below.refl _ _⟩ | exact ⟨rfl, (Below.refl _ _).alloc (Nat.le_refl _) _⟩ | exact ⟨rfl, ((Below.refl _ _).alloc (Nat.le_refl _) _).alloc (by simp) _⟩ | exact ⟨⟨_, rfl⟩, (Below.refl _ _).alloc (Nat.le_refl _) _⟩
theorem none_Ev (v : Value) (W : World) (hm : Calls Try.prog 34 #[v] W fun e w' => e = .returned (.bool false) ∧ W = w') : Calls Try.prog 15 #[v] W fun e w' => e = .returned (.int .i64 (0 : Nat)) ∧ W = w' := by
  go_enter Try.func15, Try.ntmps15
  go_wp2_with fail
  refine hm.mono ?_
  rintro e w1 ⟨rfl, rfl⟩
  go_wp2_with fail
  go_ret
  exact ⟨rfl, rfl⟩
theorem none_Copy (v : Value) (W : World) (hm : ∀ W', Below W.heap.size W W' → Calls Try.prog 34 #[v] W' fun e w' => e = .returned (.bool false) ∧ W' = w') :
    Calls Try.prog 21 #[v] W fun e w' => e = .returned (.pointer none) ∧ Below W.heap.size W w' := by
  go_enter Try.func21, Try.ntmps21
  go_wp2_with fail
  refine (hm _ ?_).mono ?_
  · first | exact Below.refl _ _ | exact (Below.refl _ _).alloc (Nat.le_refl _) _ | exact ((Below.refl _ _).alloc (Nat.le_refl _) _).alloc (by simp) _
  rintro e w1 ⟨rfl, rfl⟩
  go_wp2_with fail
  go_ret
  first | exact ⟨rfl, Below.refl _ _⟩ | exact ⟨rfl, (Below.refl _ _).alloc (Nat.le_refl _) _⟩ | exact ⟨rfl, ((Below.refl _ _).alloc (Nat.le_refl _) _).alloc (by simp) _⟩ | exact ⟨⟨_, rfl⟩, (Below.refl _ _).alloc (Nat.le_refl _) _⟩
theorem none_rGet (k : K5) (v : Value) (W : World) (hm : ∀ W', Below W.heap.size W W' → Calls Try.prog 36 #[v] W' fun e w' => e = .returned (.bool false) ∧ W' = w') :
    Calls Try.prog 25 #[v, kagg k] W fun e w' => e = .returned (.tuple #[.agg #[.int .i64 0, .int .i64 0, .slice none 0 0], .bool false]) ∧ Below W.heap.size W w' := by
  unfold kagg
  go_enter Try.func25, Try.ntmps25
  go_wp2_with fail
  refine (hm _ ?_).mono ?_
  · first | exact Below.refl _ _ | exact (Below.refl _ _).alloc (Nat.le_refl _) _ | exact ((Below.refl _ _).alloc (Nat.le_refl _) _).alloc (by simp) _
  rintro e w1 ⟨rfl, rfl⟩
  go_wp2_with fail
  refine bodyPost_ret (v := .tuple #[.agg #[.int .i64 0, .int .i64 0, .slice none 0 0], .bool false]) (by simp [results, Try.results25, go_sem]) rfl ?_
  first | exact ⟨rfl, Below.refl _ _⟩ | exact ⟨rfl, (Below.refl _ _).alloc (Nat.le_refl _) _⟩ | exact ⟨rfl, ((Below.refl _ _).alloc (Nat.le_refl _) _).alloc (by simp) _⟩ | exact ⟨⟨_, rfl⟩, (Below.refl _ _).alloc (Nat.le_refl _) _⟩
theorem none_rPut (k : K5) (iW iH : Int) (A : Option Addr) (n c : Nat) (v : Value) (W : World) (hm : ∀ W', Below W.heap.size W W' → Calls Try.prog 36 #[v] W' fun e w' => e = .returned (.bool false) ∧ W' = w') :
    Calls Try.prog 27 #[v, kagg k, .agg #[.int .i64 iW, .int .i64 iH, .slice A n c]] W (VoidC W) := by
  unfold kagg
  go_enter Try.func27, Try.ntmps27
  go_wp2_with fail
  refine (hm _ ?_).mono ?_
  · first | exact Below.refl _ _ | exact (Below.refl _ _).alloc (Nat.le_refl _) _ | exact ((Below.refl _ _).alloc (Nat.le_refl _) _).alloc (by simp) _
  rintro e w1 ⟨rfl, rfl⟩
  go_wp2_with fail
  go_end0
  first | exact ⟨rfl, Below.refl _ _⟩ | exact ⟨rfl, (Below.refl _ _).alloc (Nat.le_refl _) _⟩ | exact ⟨rfl, ((Below.refl _ _).alloc (Nat.le_refl _) _).alloc (by simp) _⟩ | exact ⟨⟨_, rfl⟩, (Below.refl _ _).alloc (Nat.le_refl _) _⟩
theorem none_rDrop (z : Int) (v : Value) (W : World) (hm : ∀ W', Below W.heap.size W W' → Calls Try.prog 36 #[v] W' fun e w' => e = .returned (.bool false) ∧ W' = w') :
    Calls Try.prog 29 #[v, .int .i64 z] W fun e w' => e = .returned (.int .i64 0) ∧ Below W.heap.size W w' := by
  go_enter Try.func29, Try.ntmps29
  go_wp2_with fail
  refine (hm _ ?_).mono ?_
  · first | exact Below.refl _ _ | exact (Below.refl _ _).alloc (Nat.le_refl _) _ | exact ((Below.refl _ _).alloc (Nat.le_refl _) _).alloc (by simp) _
  rintro e w1 ⟨rfl, rfl⟩
  go_wp2_with fail
  go_ret
  first | exact ⟨rfl, Below.refl _ _⟩ | exact ⟨rfl, (Below.refl _ _).alloc (Nat.le_refl _) _⟩ | exact ⟨rfl, ((Below.refl _ _).alloc (Nat.le_refl _) _).alloc (by simp) _⟩ | exact ⟨⟨_, rfl⟩, (Below.refl _ _).alloc (Nat.le_refl _) _⟩
theorem none_rRemove (k : K5) (v : Value) (W : World) (hm : ∀ W', Below W.heap.size W W' → Calls Try.prog 36 #[v] W' fun e w' => e = .returned (.bool false) ∧ W' = w') :
    Calls Try.prog 31 #[v, kagg k] W fun e w' => e = .returned (.bool false) ∧ Below W.heap.size W w' := by
  unfold kagg
  go_enter Try.func31, Try.ntmps31
  go_wp2_with fail
  refine (hm _ ?_).mono ?_
  · first | exact Below.refl _ _ | exact (Below.refl _ _).alloc (Nat.le_refl _) _ | exact ((Below.refl _ _).alloc (Nat.le_refl _) _).alloc (by simp) _
  rintro e w1 ⟨rfl, rfl⟩
  go_wp2_with fail
  go_ret
  first | exact ⟨rfl, Below.refl _ _⟩ | exact ⟨rfl, (Below.refl _ _).alloc (Nat.le_refl _) _⟩ | exact ⟨rfl, ((Below.refl _ _).alloc (Nat.le_refl _) _).alloc (by simp) _⟩ | exact ⟨⟨_, rfl⟩, (Below.refl _ _).alloc (Nat.le_refl _) _⟩
theorem none_rResize (z : Int) (v : Value) (W : World) (hm : ∀ W', Below W.heap.size W W' → Calls Try.prog 36 #[v] W' fun e w' => e = .returned (.bool false) ∧ W' = w') :
    Calls Try.prog 33 #[v, .int .i64 z] W fun e w' => e = .returned (.int .i64 0) ∧ Below W.heap.size W w' := by
  go_enter Try.func33, Try.ntmps33
  go_wp2_with fail
  refine (hm _ ?_).mono ?_
  · first | exact Below.refl _ _ | exact (Below.refl _ _).alloc (Nat.le_refl _) _ | exact ((Below.refl _ _).alloc (Nat.le_refl _) _).alloc (by simp) _
  rintro e w1 ⟨rfl, rfl⟩
  go_wp2_with fail
  go_ret
  first | exact ⟨rfl, Below.refl _ _⟩ | exact ⟨rfl, (Below.refl _ _).alloc (Nat.le_refl _) _⟩ | exact ⟨rfl, ((Below.refl _ _).alloc (Nat.le_refl _) _).alloc (by simp) _⟩ | exact ⟨⟨_, rfl⟩, (Below.refl _ _).alloc (Nat.le_refl _) _⟩
theorem none_rKeys (v : Value) (W : World) (hm : ∀ W', Below W.heap.size W W' → Calls Try.prog 36 #[v] W' fun e w' => e = .returned (.bool false) ∧ W' = w') :
    Calls Try.prog 14 #[v] W fun e w' => (∃ A, e = .returned (.slice A 0 0)) ∧ Below W.heap.size W w' := by
  go_enter Try.func14, Try.ntmps14
  go_wp2_with fail
  refine (hm _ ?_).mono ?_
  · first | exact Below.refl _ _ | exact (Below.refl _ _).alloc (Nat.le_refl _) _ | exact ((Below.refl _ _).alloc (Nat.le_refl _) _).alloc (by simp) _
  rintro e w1 ⟨rfl, rfl⟩
  go_wp2_with fail
  go_ret
  first | exact ⟨rfl, Below.refl _ _⟩ | exact ⟨rfl, (Below.refl _ _).alloc (Nat.le_refl _) _⟩ | exact ⟨rfl, ((Below.refl _ _).alloc (Nat.le_refl _) _).alloc (by simp) _⟩ | exact ⟨⟨_, rfl⟩, (Below.refl _ _).alloc (Nat.le_refl _) _⟩
theorem none_rEv (v : Value) (W : World) (hm : Calls Try.prog 36 #[v] W fun e w' => e = .returned (.bool false) ∧ W = w') : Calls Try.prog 16 #[v] W fun e w' => e = .returned (.int .i64 (0 : Nat)) ∧ W = w' := by
  go_enter Try.func16, Try.ntmps16
  go_wp2_with fail
  refine hm.mono ?_
  rintro e w1 ⟨rfl, rfl⟩
  go_wp2_with fail
  go_ret
  exact ⟨rfl, rfl⟩
theorem none_rCopy (v : Value) (W : World) (hm : ∀ W', Below W.heap.size W W' → Calls Try.prog 36 #[v] W' fun e w' => e = .returned (.bool false) ∧ W' = w') :
    Calls Try.prog 22 #[v] W fun e w' => e = .returned (.pointer none) ∧ Below W.heap.size W w' := by
  go_enter Try.func22, Try.ntmps22
  go_wp2_with fail
  refine (hm _ ?_).mono ?_
  · first | exact Below.refl _ _ | exact (Below.refl _ _).alloc (Nat.le_refl _) _ | exact ((Below.refl _ _).alloc (Nat.le_refl _) _).alloc (by simp) _
  rintro e w1 ⟨rfl, rfl⟩
  go_wp2_with fail
  go_ret
  first | exact ⟨rfl, Below.refl _ _⟩ | exact ⟨rfl, (Below.refl _ _).alloc (Nat.le_refl _) _⟩ | exact ⟨rfl, ((Below.refl _ _).alloc (Nat.le_refl _) _).alloc (by simp) _⟩ | exact ⟨⟨_, rfl⟩, (Below.refl _ _).alloc (Nat.le_refl _) _⟩

/-- The state of a cache that was not made. -/
def s00 : St := ⟨0, [], 0⟩
theorem s00_step (x : CallV) : (s00.step x).l = [] ∧ (s00.step x).e = 0 := by
  unfold St.step
  by_cases h0 : x.kind = 0
  · rw [if_pos h0]; exact ⟨rfl, rfl⟩
  rw [if_neg h0]
  by_cases h1 : x.kind = 1
  · rw [if_pos h1]; exact ⟨rfl, rfl⟩
  rw [if_neg h1]
  by_cases h2 : x.kind = 2
  · rw [if_pos h2]; exact ⟨rfl, rfl⟩
  rw [if_neg h2]
  by_cases h3 : x.kind = 3
  · rw [if_pos h3]; exact ⟨rfl, rfl⟩
  rw [if_neg h3]
  by_cases h4 : x.kind = 4
  · rw [if_pos h4]
    refine ⟨?_, ?_⟩
    · show ([] : List Ent).drop _ = []
      simp
    · show 0 + (0 - _) = 0
      simp
  rw [if_neg h4]
  exact ⟨rfl, rfl⟩
theorem tch_of {W w' : World} (hb : Below W.heap.size W w') : Tch [] W w' := (Tch.refl [] W).below hb
theorem img0V (W : World) (B : Nat) : ImgV W B (.agg #[.int .i64 0, .int .i64 0, .slice none 0 0]) img0 := ⟨.slice none 0 0, rfl, rfl, .inl ⟨rfl, rfl⟩⟩
theorem steps_none (vc vr : Value) (B : Nat) (P : Cac.Obj) (hob : Ob P B) (hc : ∀ W M, P W M → Calls Try.prog 34 #[vc] W fun e w' => e = .returned (.bool false) ∧ W = w') (hr : ∀ W M, P W M → Calls Try.prog 36 #[vr] W fun e w' => e = .returned (.bool false) ∧ W = w') (x : CallV) (A : Option Addr) (n c : Nat) :
    Steps vc vr B P P P s00 x (.slice A n c) := by
  have hc' : ∀ W M, P W M → ∀ W', Below W.heap.size W W' → Calls Try.prog 34 #[vc] W' fun e w' => e = .returned (.bool false) ∧ W' = w' := fun W M hP W' hb => hc W' M (hob.later hP hb)
  have hr' : ∀ W M, P W M → ∀ W', Below W.heap.size W W' → Calls Try.prog 36 #[vr] W' fun e w' => e = .returned (.bool false) ∧ W' = w' := fun W M hP W' hb => hr W' M (hob.later hP hb)
  obtain ⟨hl, he⟩ := s00_step x
  refine ⟨hob, hob, hob, ?_, ?_, ?_, ?_, ?_, ?_, ?_, ?_, ?_, ?_, ?_, ?_, ?_, ?_, ?_, ?_, ?_⟩
  · intro _ M W hP _
    exact (none_Get x.k vc W (hc' W M hP)).mono fun e w' h => ⟨⟨_, h.1, img0V _ _⟩, Out.stay hob hP (tch_of h.2)⟩
  · intro _ M W hP _
    exact (none_rGet x.k vr W (hr' W M hP)).mono fun e w' h => ⟨⟨_, h.1, img0V _ _⟩, Out.stay hob hP (tch_of h.2)⟩
  · intro _
    show ([] : List P4).length ≤ _
    simp
  · intro _ M W hP _ _
    exact (none_Put x.k x.i.W x.i.H A n c vc W (hc' W M hP)).mono fun e w' h => ⟨h.1, Out.stay hob hP (tch_of h.2)⟩
  · intro _ M W hP _ _
    exact (none_rPut x.k x.i.W x.i.H A n c vr W (hr' W M hP)).mono fun e w' h => ⟨h.1, Out.stay hob hP (tch_of h.2)⟩
  · intro _ M W hP _
    exact (none_Drop x.n vc W (hc' W M hP)).mono fun e w' h => ⟨h.1, Out.stay hob hP (tch_of h.2)⟩
  · intro _ M W hP _
    exact (none_rDrop x.n vr W (hr' W M hP)).mono fun e w' h => ⟨h.1, Out.stay hob hP (tch_of h.2)⟩
  · intro _ M W hP _
    exact (none_Remove x.k vc W (hc' W M hP)).mono fun e w' h => ⟨h.1, Out.stay hob hP (tch_of h.2)⟩
  · intro _ M W hP _
    exact (none_rRemove x.k vr W (hr' W M hP)).mono fun e w' h => ⟨h.1, Out.stay hob hP (tch_of h.2)⟩
  · intro _ M W hP _
    have e0 : ((({ s00 with b := clampN x.n } : St).over : Nat) : Int) = 0 := by
      show (((0 - clampN x.n : Nat)) : Int) = 0
      omega
    rw [e0]
    exact (none_Resize x.n vc W (hc' W M hP)).mono fun e w' h => ⟨h.1, Out.stay hob hP (tch_of h.2)⟩
  · intro _ M W hP _
    have e0 : ((({ s00 with b := clampN x.n } : St).over : Nat) : Int) = 0 := by
      show (((0 - clampN x.n : Nat)) : Int) = 0
      omega
    rw [e0]
    exact (none_rResize x.n vr W (hr' W M hP)).mono fun e w' h => ⟨h.1, Out.stay hob hP (tch_of h.2)⟩
  · intro M W hP _
    rw [hl]
    exact (none_Keys vc W (hc' W M hP)).mono fun e w' h => ⟨none, 0, h.1, fun h => absurd h (by simp [keys]), h.2⟩
  · intro M W hP _
    rw [hl]
    exact (none_rKeys vr W (hr' W M hP)).mono fun e w' h => ⟨h.1.choose, 0, h.1.choose_spec, fun h => absurd h (by simp [keys]), h.2⟩
  · intro M W hP
    rw [he]
    exact none_Ev vc W (hc W M hP)
  · intro M W hP
    rw [he]
    exact none_rEv vr W (hr W M hP)
  · exact fun _ _ _ _ _ _ _ h => h
  · rw [hl]; simp

end Go.Proofs.Ytkdokipgakncjaa.Cac
