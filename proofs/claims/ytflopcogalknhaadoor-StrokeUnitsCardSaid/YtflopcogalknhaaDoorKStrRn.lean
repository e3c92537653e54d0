/-
  Layer 21: regions that make two blocks, call twice and store twice, in whatever order.
-/
import Derived.Test.YtflopcogalknhaaDoorKStrRc
set_option linter.unusedVariables false
set_option linter.unusedSimpArgs false
namespace Go.Proofs.YtflopcogalknhaaDoor.Str
open Go.RowKit Go.Proofs.YtflopcogalknhaaDoor Go.Proofs.YtflopcogalknhaaDoor.NumPure

theorem put_comm (a : Act) {d e : Tmp} (h : d ≠ e) (v u : Value) : (a.put (some d) v).put (some e) u = (a.put (some e) u).put (some d) v := by
  obtain ⟨t, f⟩ := a
  simp only [Act.put]
  congr 1
  apply Array.ext_getElem?
  intro i
  simp only [Array.getElem?_setIfInBounds, Array.size_setIfInBounds]
  by_cases h1 : e = i <;> by_cases h2 : d = i
  · exact absurd (h2.trans h1.symm) h
  all_goals simp [h1, h2]
theorem eval_far (a : Act) {d e : Tmp} (h : d ≠ e) (v : Value) : (a.put (some d) v).eval (.tmp e) = a.eval (.tmp e) := by
  obtain ⟨t, f⟩ := a
  simp only [Act.put, Act.eval, Array.getD_eq_getD_getElem?, Array.getElem?_setIfInBounds, if_neg h]
theorem eval_at (a : Act) {d : Tmp} (h : d < a.tmps.size) (v : Value) : (a.put (some d) v).eval (.tmp d) = v := by
  obtain ⟨t, f⟩ := a
  simp only at h
  simp [Act.put, Act.eval, Array.getD_eq_getD_getElem?, Array.getElem?_setIfInBounds, h]
theorem put_size (a : Act) (d : Tmp) (v : Value) : (a.put (some d) v).tmps.size = a.tmps.size := by
  obtain ⟨t, f⟩ := a
  simp [Act.put]
/-- A call of a function with three arguments. -/
theorem wp_call3 {o : Oper} {a : Act} {W : World} {K : Act → World → Prop} {Q : Exit → Act → World → Prop} {x y z : Tmp} {f : FuncId} {ts : Array TypeId} {u v s : Value} {d : Tmp} (hx : a.eval (.tmp x) = u) (hy : a.eval (.tmp y) = v) (hz : a.eval (.tmp z) = s)
    (ho : o.op = .call { callee := .value (.func f), args := #[.tmp x, .tmp y, .tmp z], argTypes := ts }) (hd : o.dst = some d) (hf : ∀ (args : Array Value) (W : World), (callFunc f args).run Tryd.prog W = .ok (.enter f args) W) (h : Calls Tryd.prog f #[u, v, s] W fun e w' => match e, w' with
      | .returned r, w'' => K (a.put (some d) r) w''
      | .panicked chain, w'' => Q (.panic chain) a w''
      | .outgrown, _ => LetsOut Q) : o.wp Tryd.prog a W K Q := by
  unfold Oper.wp execOp
  have he : a.eval (.func f) = .func (.func f) #[] #[] := rfl
  simp only [ho, resolve, invoke, Sem.run_bind, Sem.run_pure, Result.andThen_ok, List.map_toArray, List.map_cons, List.map_nil, hx, hy, hz, he, Deferred.ofValue, Array.append_empty, Array.empty_append, hf]
  rw [← hd] at h
  exact h
def ptrV (g : Nat) : Value := .pointer (some ⟨g, 0, none⟩)
def putO (a : Act) (e : Tmp) : Option Nat → Act
  | none => a
  | some g => a.put (some e) (ptrV g)
def putC (a : Act) (d1 d2 : Tmp) (v1 v2 : Value) : Nat → Act
  | 0 => a
  | 1 => a.put (some d1) v1
  | _ + 2 => (a.put (some d1) v1).put (some d2) v2
def zPt : Array Value := #[.int .i64 0, .int .i64 0]
def opB (w0 W : World) (x : Option Nat) : Prop := ∀ g, x = some g → Blk W g 30 zPt ∧ w0.heap.size ≤ g
def c2List (i1 i2 j1 j2 : Nat) (c : Nat) (b1 b2 : Bool) : List Nat := (if c = 0 then [i1] else if c = 1 then [i2] else []) ++ ((if b1 then [] else [j1]) ++ (if b2 then [] else [j2]))
section
variable {ops : Array Oper} {Q : Exit → Act → World → Prop} {w0 : World} {a0 : Act} {i1 i2 j1 j2 k1 k2 : Nat} {o1 o2 p1 p2 q1 q2 : Oper} {d1 d2 e1 e2 : Tmp} {u1 u2 : Array Value} {Lst : Nat → Bool → Bool → Array Bool} {A : Act → Prop}
abbrev stA (a0 : Act) (d1 d2 e1 e2 : Tmp) (v1 v2 : Value) (c : Nat) (x1 x2 : Option Nat) : Act := putO (putO (putC a0 d1 d2 v1 v2 c) e1 x1) e2 x2
theorem putO_comm (a : Act) {e d : Tmp} (h : e ≠ d) (x : Option Nat) (v : Value) : (putO a e x).put (some d) v = putO (a.put (some d) v) e x := by
  cases x with
  | none => rfl
  | some g => exact put_comm a h _ _
theorem putO_size (a : Act) (e : Tmp) (x : Option Nat) : (putO a e x).tmps.size = a.tmps.size := by
  cases x with
  | none => rfl
  | some g => exact put_size _ _ _
theorem putC_size (a : Act) (d1 d2 : Tmp) (v1 v2 : Value) : ∀ c, (putC a d1 d2 v1 v2 c).tmps.size = a.tmps.size
  | 0 => rfl
  | 1 => put_size _ _ _
  | _ + 2 => (put_size _ _ _).trans (put_size _ _ _)
theorem c2a2s2 (hw : ∀ o, o = o1 ∨ o = o2 ∨ o = p1 ∨ o = p2 ∨ o = q1 ∨ o = q2 → ∀ a : Act, Region.wanted o (yielded ops a.tmps) = true)
    (hi1 : ops[i1]? = some o1) (hi2 : ops[i2]? = some o2) (hj1 : ops[j1]? = some p1) (hj2 : ops[j2]? = some p2) (hk1 : ops[k1]? = some q1) (hk2 : ops[k2]? = some q2)
    (hA0 : A a0) (hAp : ∀ a v d, d = d1 ∨ d = d2 ∨ d = e1 ∨ d = e2 → A a → A (a.put (some d) v))
    (hd : d1 ≠ d2 ∧ d1 ≠ e1 ∧ d1 ≠ e2 ∧ d2 ≠ e1 ∧ d2 ≠ e2 ∧ e1 ≠ e2) (hsz : d1 < a0.tmps.size ∧ d2 < a0.tmps.size ∧ e1 < a0.tmps.size ∧ e2 < a0.tmps.size)
    (c1 : ∀ a W K, A a → (∀ W', Below W.heap.size W W' → K (a.put (some d1) (.agg u1)) W') → o1.wp Tryd.prog a W K Q)
    (c2 : ∀ a W K, A a → (∀ W', Below W.heap.size W W' → K (a.put (some d2) (.agg u2)) W') → o2.wp Tryd.prog a W K Q)
    (ha1 : p1.dst = some e1 ∧ p1.op = .alloc 30) (ha2 : p2.dst = some e2 ∧ p2.op = .alloc 30)
    (hs1 : q1.op = .store 30 (.tmp e1) (.tmp d1) ∧ q1.dst = none) (hs2 : q2.op = .store 30 (.tmp e2) (.tmp d2) ∧ q2.dst = none)
    (hu1 : u1.size = 2 ∧ u1.all (·.oneCell') = true) (hu2 : u2.size = 2 ∧ u2.all (·.oneCell') = true)
    (hr : ∀ c b1 b2, c ≤ 2 → Region.ready .any ops (Lst c b1 b2) = if c = 2 ∧ b1 = true ∧ b2 = true then [k1] else c2List i1 i2 j1 j2 c b1 b2)
    (hl : ∀ b1 b2, (Lst 0 b1 b2).setIfInBounds i1 true = Lst 1 b1 b2 ∧ (Lst 1 b1 b2).setIfInBounds i2 true = Lst 2 b1 b2)
    (hl1 : ∀ c b2, c ≤ 2 → (Lst c false b2).setIfInBounds j1 true = Lst c true b2) (hl2 : ∀ c b1, c ≤ 2 → (Lst c b1 false).setIfInBounds j2 true = Lst c b1 true)
    (hr1 : Region.ready .any ops ((Lst 2 true true).setIfInBounds k1 true) = [k2]) (hr2 : Region.ready .any ops (((Lst 2 true true).setIfInBounds k1 true).setIfInBounds k2 true) = [])
    (hQ : ∀ g1 g2 W, Bn w0 W [(g1, 30, u1), (g2, 30, u2)] → w0.heap.size ≤ g1 → w0.heap.size ≤ g2 → g1 ≠ g2 → Q .normal (stA a0 d1 d2 e1 e2 (.agg u1) (.agg u2) 2 (some g1) (some g2)) W) :
    ∀ (N c : Nat) (x1 x2 : Option Nat) (W : World), c ≤ 2 → N = (2 - c) + ((if x1.isSome then 0 else 1) + (if x2.isSome then 0 else 1)) → Below w0.heap.size w0 W → opB w0 W x1 → opB w0 W x2 → (∀ g g', x1 = some g → x2 = some g' → g ≠ g') →
      wpAnyH Tryd.prog .any ops Q (fun W => Below w0.heap.size w0 W) (N + 2) (Lst c x1.isSome x2.isSome) (stA a0 d1 d2 e1 e2 (.agg u1) (.agg u2) c x1 x2) W := by
  obtain ⟨n1, n2, n3, n4, n5, n6⟩ := hd
  obtain ⟨s1, s2, s3, s4⟩ := hsz
  have hAO : ∀ a x, A a → A (putO a e1 x) := fun a x h => by cases x with
    | none => exact h
    | some g => exact hAp _ _ _ (by simp) h
  have hAO2 : ∀ a x, A a → A (putO a e2 x) := fun a x h => by cases x with
    | none => exact h
    | some g => exact hAp _ _ _ (by simp) h
  have hAC : ∀ c, A (putC a0 d1 d2 (.agg u1) (.agg u2) c) := fun c => by
    rcases c with _ | _ | c
    · exact hA0
    · exact hAp _ _ _ (by simp) hA0
    · exact hAp _ _ _ (by simp) (hAp _ _ _ (by simp) hA0)
  have hAS : ∀ c x1 x2, A (stA a0 d1 d2 e1 e2 (.agg u1) (.agg u2) c x1 x2) := fun c x1 x2 => hAO2 _ _ (hAO _ _ (hAC c))
  have later : ∀ {W W' : World} {x : Option Nat}, opB w0 W x → Below W.heap.size W W' → opB w0 W' x := fun h hb g e => ⟨(h g e).1.below hb (h g e).1.lt, (h g e).2⟩
  intro N
  induction N with
  | zero =>
    intro c x1 x2 W hc hN hb h1 h2 hne
    have hc2 : c = 2 := by omega
    subst hc2
    cases x1 with
    | none => exfalso; cases x2 <;> simp at hN
    | some g1 =>
    cases x2 with
    | none => simp at hN
    | some g2 =>
    have hn := hne g1 g2 rfl rfl
    obtain ⟨b1, l1⟩ := h1 g1 rfl
    obtain ⟨b2, l2⟩ := h2 g2 rfl
    refine wpAnyH_ready (rs := [k1]) (by rw [hr 2 _ _ (Nat.le_refl _)]; rfl) (by simp) ?_
    refine AllReadyH.cons hk1 (fun K hK => ?_) AllReadyH.nil
    rw [if_pos (hw _ (by simp) _)]
    have ev1 : (stA a0 d1 d2 e1 e2 (.agg u1) (.agg u2) 2 (some g1) (some g2)).eval (.tmp e1) = ptrV g1 := by
      show (((putC a0 d1 d2 _ _ 2).put (some e1) (ptrV g1)).put (some e2) (ptrV g2)).eval (.tmp e1) = _
      rw [eval_far _ n6.symm, eval_at _ (by rw [putC_size]; exact s3)]
    have ev2 : (stA a0 d1 d2 e1 e2 (.agg u1) (.agg u2) 2 (some g1) (some g2)).eval (.tmp d1) = .agg u1 := by
      show ((((a0.put (some d1) (.agg u1)).put (some d2) (.agg u2)).put (some e1) (ptrV g1)).put (some e2) (ptrV g2)).eval (.tmp d1) = _
      rw [eval_far _ n3.symm, eval_far _ n2.symm, eval_far _ n1.symm, eval_at _ s1]
    have ev3 : (stA a0 d1 d2 e1 e2 (.agg u1) (.agg u2) 2 (some g1) (some g2)).eval (.tmp e2) = ptrV g2 := by
      show (((putC a0 d1 d2 _ _ 2).put (some e1) (ptrV g1)).put (some e2) (ptrV g2)).eval (.tmp e2) = _
      rw [eval_at _ (by rw [put_size, putC_size]; exact s4)]
    have ev4 : (stA a0 d1 d2 e1 e2 (.agg u1) (.agg u2) 2 (some g1) (some g2)).eval (.tmp d2) = .agg u2 := by
      show ((((a0.put (some d1) (.agg u1)).put (some d2) (.agg u2)).put (some e1) (ptrV g1)).put (some e2) (ptrV g2)).eval (.tmp d2) = _
      rw [eval_far _ n5.symm, eval_far _ n4.symm, eval_at _ (by rw [put_size]; exact s2)]
    have iP : (Tryd.prog.info? 30).map (·.size) = some 2 := infoPt (0, 0)
    refine wp_store_row 30 _ _ hs1.1 g1 u1 ev1 ev2 30 zPt b1 (by rw [hu1.1]; exact iP) (by rw [hu1.1]; rfl) hu1.2 ?_
    rw [hs1.2]
    have hb' : Below w0.heap.size w0 (W.setRow g1 u1) := below_setRow hb l1 _
    refine hK.out _ _ hb' (fun _ => ?_)
    refine wpAnyH_ready (rs := [k2]) hr1 (by simp) ?_
    refine AllReadyH.cons hk2 (fun K hK => ?_) AllReadyH.nil
    rw [if_pos (hw _ (by simp) _)]
    refine wp_store_row 30 _ _ hs2.1 g2 u2 ev3 ev4 30 zPt (Blk.rowFar b2 (fun e => hn e.symm) _) (by rw [hu2.1]; exact iP) (by rw [hu2.1]; rfl) hu2.2 ?_
    rw [hs2.2]
    have hb'' : Below w0.heap.size w0 ((W.setRow g1 u1).setRow g2 u2) := below_setRow hb' l2 _
    refine hK.out _ _ hb'' (fun _ => ?_)
    refine wpAnyH_done hr2 ?_ _
    exact hQ g1 g2 _ (Bn.of2 hb'' (Blk.rowFar (Blk.row b1 _) hn _) (Blk.row (Blk.rowFar b2 (fun e => hn e.symm) _) _)) l1 l2 hn
  | succ N ih =>
    intro c x1 x2 W hc hN hb h1 h2 hne
    have hnd : ¬ (c = 2 ∧ x1.isSome = true ∧ x2.isSome = true) := by
      rintro ⟨rfl, e1, e2⟩
      rw [e1, e2] at hN
      simp at hN
    have hrd := hr c x1.isSome x2.isSome hc
    rw [if_neg hnd] at hrd
    have hne0 : c2List i1 i2 j1 j2 c x1.isSome x2.isSome ≠ [] := by
      intro h
      unfold c2List at h
      apply hnd
      have h3 := List.append_eq_nil_iff.1 h
      have h4 := List.append_eq_nil_iff.1 h3.2
      refine ⟨?_, ?_, ?_⟩
      · have := h3.1
        by_cases e0 : c = 0
        · simp [e0] at this
        · by_cases e1 : c = 1
          · simp [e1] at this
          · omega
      · have := h4.1
        cases h9 : x1.isSome with
        | true => rfl
        | false => rw [h9] at this; simp at this
      · have := h4.2
        cases h9 : x2.isSome with
        | true => rfl
        | false => rw [h9] at this; simp at this
    refine wpAnyH_ready hrd hne0 ?_
    intro i hi
    unfold c2List at hi
    rcases List.mem_append.1 hi with hi | hi
    · by_cases e0 : c = 0
      · subst e0
        simp only [if_pos, List.mem_singleton] at hi
        subst hi
        refine (AllReadyH.cons hi1 (fun K hK => ?_) AllReadyH.nil : AllReadyH _ _ _ _ _ _ _ _ _ [i]) i (by simp)
        rw [if_pos (hw _ (by simp) _)]
        refine c1 _ _ _ (hAS 0 x1 x2) (fun W' hb' => ?_)
        have hb2 := hb.trans (hb'.mono hb.size)
        refine hK.out _ _ hb2 (fun _ => ?_)
        have e : (stA a0 d1 d2 e1 e2 (.agg u1) (.agg u2) 0 x1 x2).put (some d1) (.agg u1) = stA a0 d1 d2 e1 e2 (.agg u1) (.agg u2) 1 x1 x2 := by
          show (putO (putO a0 e1 x1) e2 x2).put (some d1) _ = putO (putO (a0.put (some d1) _) e1 x1) e2 x2
          rw [putO_comm _ n3.symm, putO_comm _ n2.symm]
        rw [e, (hl _ _).1]
        exact ih 1 x1 x2 W' (by omega) (by omega) hb2 (later h1 hb') (later h2 hb') hne
      · rw [if_neg e0] at hi
        by_cases e1' : c = 1
        · subst e1'
          simp only [if_pos, List.mem_singleton] at hi
          subst hi
          refine (AllReadyH.cons hi2 (fun K hK => ?_) AllReadyH.nil : AllReadyH _ _ _ _ _ _ _ _ _ [i]) i (by simp)
          rw [if_pos (hw _ (by simp) _)]
          refine c2 _ _ _ (hAS 1 x1 x2) (fun W' hb' => ?_)
          have hb2 := hb.trans (hb'.mono hb.size)
          refine hK.out _ _ hb2 (fun _ => ?_)
          have e : (stA a0 d1 d2 e1 e2 (.agg u1) (.agg u2) 1 x1 x2).put (some d2) (.agg u2) = stA a0 d1 d2 e1 e2 (.agg u1) (.agg u2) 2 x1 x2 := by
            show (putO (putO (a0.put (some d1) _) e1 x1) e2 x2).put (some d2) _ = putO (putO ((a0.put (some d1) _).put (some d2) _) e1 x1) e2 x2
            rw [putO_comm _ n5.symm, putO_comm _ n4.symm]
          rw [e, (hl _ _).2]
          exact ih 2 x1 x2 W' (by omega) (by omega) hb2 (later h1 hb') (later h2 hb') hne
        · rw [if_neg e1'] at hi
          simp at hi
    · rcases List.mem_append.1 hi with hi | hi
      · cases x1 with
        | some g => simp at hi
        | none =>
          simp only [Option.isSome_none, Bool.false_eq_true, if_false, List.mem_singleton] at hi
          subst hi
          refine (AllReadyH.cons hj1 (fun K hK => ?_) AllReadyH.nil : AllReadyH _ _ _ _ _ _ _ _ _ [i]) i (by simp)
          rw [if_pos (hw _ (by simp) _)]
          refine wp_allocPt e1 ha1.1 ha1.2 ?_
          have hb' : Below W.heap.size W (W.alloc (.cells zPt 30)) := (Below.refl _ _).alloc (Nat.le_refl _) _
          have hb2 := hb.trans (hb'.mono hb.size)
          refine hK.out _ _ hb2 (fun _ => ?_)
          have e : (stA a0 d1 d2 e1 e2 (.agg u1) (.agg u2) c none x2).put (some e1) (.pointer (some ⟨W.heap.size, 0, none⟩)) = stA a0 d1 d2 e1 e2 (.agg u1) (.agg u2) c (some W.heap.size) x2 := by
            show (putO (putC a0 d1 d2 _ _ c) e2 x2).put (some e1) _ = putO ((putC a0 d1 d2 _ _ c).put (some e1) _) e2 x2
            rw [putO_comm _ n6.symm]
            rfl
          rw [e]
          have := hl1 c x2.isSome hc
          simp only [Option.isSome_none]
          rw [this]
          exact ih c (some W.heap.size) x2 _ hc (by simp at hN ⊢; omega) hb2 (fun g eg => by injection eg with eg; subst eg; exact ⟨Blk.new _ _ _, hb.size⟩) (later h2 hb') (fun g g' eg eg' => by
            injection eg with eg
            have := (h2 g' eg').1.lt
            omega)
      · cases x2 with
        | some g => simp at hi
        | none =>
          simp only [Option.isSome_none, Bool.false_eq_true, if_false, List.mem_singleton] at hi
          subst hi
          refine (AllReadyH.cons hj2 (fun K hK => ?_) AllReadyH.nil : AllReadyH _ _ _ _ _ _ _ _ _ [i]) i (by simp)
          rw [if_pos (hw _ (by simp) _)]
          refine wp_allocPt e2 ha2.1 ha2.2 ?_
          have hb' : Below W.heap.size W (W.alloc (.cells zPt 30)) := (Below.refl _ _).alloc (Nat.le_refl _) _
          have hb2 := hb.trans (hb'.mono hb.size)
          refine hK.out _ _ hb2 (fun _ => ?_)
          have := hl2 c x1.isSome hc
          simp only [Option.isSome_none]
          rw [this]
          exact ih c x1 (some W.heap.size) _ hc (by simp at hN ⊢; omega) hb2 (later h1 hb') (fun g eg => by injection eg with eg; subst eg; exact ⟨Blk.new _ _ _, hb.size⟩) (fun g g' eg eg' => by
            injection eg' with eg'
            have := (h1 g eg).1.lt
            omega)
theorem c2a2s2f {listed : Array Bool} {W : World} (Lst : Nat → Bool → Bool → Array Bool) (hL : listed = Lst 0 false false) (A : Act → Prop) (hw : ∀ o, o = o1 ∨ o = o2 ∨ o = p1 ∨ o = p2 ∨ o = q1 ∨ o = q2 → ∀ a : Act, Region.wanted o (yielded ops a.tmps) = true)
    (hi1 : ops[i1]? = some o1) (hi2 : ops[i2]? = some o2) (hj1 : ops[j1]? = some p1) (hj2 : ops[j2]? = some p2) (hk1 : ops[k1]? = some q1) (hk2 : ops[k2]? = some q2)
    (hA0 : A a0) (hAp : ∀ a v d, d = d1 ∨ d = d2 ∨ d = e1 ∨ d = e2 → A a → A (a.put (some d) v))
    (hd : d1 ≠ d2 ∧ d1 ≠ e1 ∧ d1 ≠ e2 ∧ d2 ≠ e1 ∧ d2 ≠ e2 ∧ e1 ≠ e2) (hsz : d1 < a0.tmps.size ∧ d2 < a0.tmps.size ∧ e1 < a0.tmps.size ∧ e2 < a0.tmps.size)
    (c1 : ∀ a W K, A a → (∀ W', Below W.heap.size W W' → K (a.put (some d1) (.agg u1)) W') → o1.wp Tryd.prog a W K Q)
    (c2 : ∀ a W K, A a → (∀ W', Below W.heap.size W W' → K (a.put (some d2) (.agg u2)) W') → o2.wp Tryd.prog a W K Q)
    (ha1 : p1.dst = some e1 ∧ p1.op = .alloc 30) (ha2 : p2.dst = some e2 ∧ p2.op = .alloc 30)
    (hs1 : q1.op = .store 30 (.tmp e1) (.tmp d1) ∧ q1.dst = none) (hs2 : q2.op = .store 30 (.tmp e2) (.tmp d2) ∧ q2.dst = none)
    (hu1 : u1.size = 2 ∧ u1.all (·.oneCell') = true) (hu2 : u2.size = 2 ∧ u2.all (·.oneCell') = true)
    (hr : ∀ c b1 b2, c ≤ 2 → Region.ready .any ops (Lst c b1 b2) = if c = 2 ∧ b1 = true ∧ b2 = true then [k1] else c2List i1 i2 j1 j2 c b1 b2)
    (hl : ∀ b1 b2, (Lst 0 b1 b2).setIfInBounds i1 true = Lst 1 b1 b2 ∧ (Lst 1 b1 b2).setIfInBounds i2 true = Lst 2 b1 b2)
    (hl1 : ∀ c b2, c ≤ 2 → (Lst c false b2).setIfInBounds j1 true = Lst c true b2) (hl2 : ∀ c b1, c ≤ 2 → (Lst c b1 false).setIfInBounds j2 true = Lst c b1 true)
    (hr1 : Region.ready .any ops ((Lst 2 true true).setIfInBounds k1 true) = [k2]) (hr2 : Region.ready .any ops (((Lst 2 true true).setIfInBounds k1 true).setIfInBounds k2 true) = [])
    (hQ : ∀ g1 g2 W, Bn w0 W [(g1, 30, u1), (g2, 30, u2)] → w0.heap.size ≤ g1 → w0.heap.size ≤ g2 → g1 ≠ g2 → Q .normal (stA a0 d1 d2 e1 e2 (.agg u1) (.agg u2) 2 (some g1) (some g2)) W)
    (hb : Below w0.heap.size w0 W) : wpAnyH Tryd.prog .any ops Q (fun W => Below w0.heap.size w0 W) 6 listed a0 W := by
  rw [hL]
  exact c2a2s2 (A := A) (Lst := Lst) hw hi1 hi2 hj1 hj2 hk1 hk2 hA0 hAp hd hsz c1 c2 ha1 ha2 hs1 hs2 hu1 hu2 hr hl hl1 hl2 hr1 hr2 hQ 4 0 none none W (by omega) rfl hb (fun g e => by cases e) (fun g e => by cases e) (fun g g' e => by cases e)
end
end Go.Proofs.YtflopcogalknhaaDoor.Str
