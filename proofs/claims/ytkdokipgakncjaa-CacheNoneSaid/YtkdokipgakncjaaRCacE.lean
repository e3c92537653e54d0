/-
  Layer 36, the document's answer: shrink, Remove, Resize, Drop.
-/
import Derived.Test.YtkdokipgakncjaaRCacD
namespace Go.Proofs.Ytkdokipgakncjaa.Cac
open Go.RowKit Go.Proofs.Ytkdokipgakncjaa Go.Proofs.Ytkdokipgakncjaa.RegG

theorem ents_erase (L : List E3) (i : Nat) : ents (L.eraseIdx i) = (ents L).eraseIdx i := by
  induction L generalizing i with
  | nil => rfl
  | cons a l ih =>
    cases i with
    | zero => rfl
    | succ i => simp only [List.eraseIdx_cons_succ, ents, List.map_cons] at ih ⊢; rw [ih]
theorem rem_at {l : List Ent} {k : K5} (i : Nat) (hi : i < l.length) (h : (keys l).Nodup) (hk : l[i].1 = k) : rem l k = l.eraseIdx i := by
  induction l generalizing i with
  | nil => simp at hi
  | cons a l ih =>
    cases i with
    | zero =>
      simp only [List.getElem_cons_zero] at hk
      subst hk
      exact rem_head h
    | succ i =>
      simp only [List.getElem_cons_succ] at hk
      have hl : i < l.length := by simpa using hi
      have hn : (keys l).Nodup := by unfold keys at h ⊢; rw [List.map_cons, List.nodup_cons] at h; exact h.2
      have hne : a.1 ≠ k := fun e => by
        unfold keys at h
        rw [List.map_cons, List.nodup_cons] at h
        exact h.1 (List.mem_map.2 ⟨l[i], List.getElem_mem hl, by rw [hk, e]⟩)
      rw [List.eraseIdx_cons_succ, ← ih i hl hn hk]
      unfold rem
      rw [List.filter_cons_of_pos (by simpa using hne)]
theorem look_at {l : List Ent} {k : K5} (i : Nat) (hi : i < l.length) (h : (keys l).Nodup) (hk : l[i].1 = k) : look l k = some l[i].2 :=
  look_of_mem h (by rw [← hk]; exact List.getElem_mem hi)
theorem ents_at (L : List E3) (i : Nat) (hi : i < L.length) : (ents L)[i]'(by rw [ents_len]; exact hi) = (L[i].1, L[i].2.1) := by simp [ents]
abbrev ROut (B g : Nat) (s : St) (M : List Nat) (w w' : World) : Prop := Out (fun w M => IsR w B g s M) M w w'
/-- Behind some takes. -/
structure RT (B g b e : Nat) (M : List Nat) (w : World) (L : List E3) (wr : World) : Prop where
  st : ∃ kv iv, RC wr B g kv iv b L e ∧ ∀ k ∈ rfoot g kv iv, k ∈ M ∨ w.heap.size ≤ k
  tch : Tch M w wr
  gM : g ∈ M
  low : B ≤ w.heap.size
section
variable {B g b e : Nat} {M : List Nat} {w wr w' : World} {L : List E3} {kv iv : Value}
theorem RT.start (h : RC w B g kv iv b L e) (hB : B ≤ w.heap.size) : RT B g b e (rfoot g kv iv) w L w := ⟨⟨kv, iv, h, fun _ hk => .inl hk⟩, Tch.refl _ _, mem_rfoot.2 (.inl rfl), hB⟩
theorem RT.sameM (h : RT B g b e M w L wr) (ht : Tch [] wr w') : RT B g b e M w L w' := by
  obtain ⟨⟨kv, iv, h1, h2⟩, h3, h4, h5⟩ := h
  exact ⟨⟨kv, iv, h1.tch0 ht, h2⟩, h3.trans ht (fun k hk => by simp at hk), h4, h5⟩
theorem RT.later (h : RT B g b e M w L wr) (hb : Below wr.heap.size wr w') : RT B g b e M w L w' := h.sameM ((Tch.refl _ _).below hb)
theorem RT.take (h : RT B g b e M w L wr) (i : Nat) (hi : i < L.length) (hmax : L.length ≤ 1048576) :
    Calls Try.prog 41 #[.pointer (some ⟨g, 0, none⟩), .int .i64 (i : Int)] wr fun en w' => en = .returned (.tuple #[]) ∧ RT B g b e M w (L.eraseIdx i) w' := by
  obtain ⟨⟨kv, iv, h1, h2⟩, h3, h4, h5⟩ := h
  refine (rtake_any B g b e kv iv L i wr h1 hi hmax (Nat.le_trans h5 h3.size)).mono ?_
  rintro en w' ⟨rfl, kv', iv', k1, k2, k3, k4⟩
  have hs := h3.size
  refine ⟨rfl, ⟨kv', iv', k1, fun k hk => ?_⟩, h3.trans k2 (fun k hk => .inl (by simp at hk; rw [hk]; exact h4)), h4, h5⟩
  rcases mem_rfoot.1 hk with rfl | hk | hk
  · exact .inl h4
  · exact .inr (Nat.le_trans hs (k3 k hk))
  · exact .inr (Nat.le_trans hs (k4 k hk))
theorem RT.out (h : RT B g b e M w L wr) : ROut B g ⟨b, ents L, e⟩ M w wr := by
  obtain ⟨⟨kv, iv, h1, h2⟩, h3, _⟩ := h
  exact ⟨rfoot g kv iv, ⟨kv, iv, L, rfl, rfl, h1⟩, h3, h2⟩
theorem RT.place (h : RT B g b e M w L wr) (k : K5) (hmax : L.length ≤ 1048576) : Calls Try.prog 40 #[.pointer (some ⟨g, 0, none⟩), kagg k] wr (Placed (kys L) k wr) := by
  obtain ⟨⟨kv, iv, h1, _⟩, _⟩ := h
  exact rplace_any B g b e kv iv L k wr h1 hmax
theorem RT.made (h : RT B g b e M w L wr) : Calls Try.prog 36 #[.pointer (some ⟨g, 0, none⟩)] wr fun en w' => en = .returned (.bool true) ∧ wr = w' := by
  obtain ⟨⟨kv, iv, h1, _⟩, _⟩ := h
  exact rmade_yes g _ _ _ _ wr h1.box
/-- The budget or the count of evictions is stored. -/
theorem RT.put0 (h : RT B g b e M w L wr) (z : Int) (b' : Nat) (hz : z = b') : RT B g b' e M w L (wr.setCell ⟨g, 0, none⟩ (.int .i64 z)) := by
  subst hz
  obtain ⟨⟨kv, iv, h1, h2⟩, h3, h4, h5⟩ := h
  have T : Tch [g] wr (wr.setCell ⟨g, 0, none⟩ (.int .i64 b')) := (Tch.refl _ _).setCell (.inl (by simp)) _
  have n1 := own_ne_blk h1.krow h1.box (by decide)
  have n2 := own_ne_blk h1.irow h1.box (by decide)
  refine ⟨⟨kv, iv, ⟨?_, T.own h1.krow (fun k a c => n1 k a (by simpa using c)), T.own h1.irow (fun k a c => n2 k a (by simpa using c)), fun p hp => pix_tch (h1.pix p hp) T (fun k hk => ?_), h1.low⟩, h2⟩, h3.setCell (.inl h4) _, h4, h5⟩
  · have := h1.box.set_ 0 (.int .i64 b')
    simpa using this
  · simp only [List.mem_singleton] at hk
    subst hk
    exact NoPix.cells h1.box (by decide)
theorem RT.put1 (h : RT B g b e M w L wr) (z : Int) (e' : Nat) (hz : z = e') : RT B g b e' M w L (wr.setCell ⟨g, 1, none⟩ (.int .i64 z)) := by
  subst hz
  obtain ⟨⟨kv, iv, h1, h2⟩, h3, h4, h5⟩ := h
  have T : Tch [g] wr (wr.setCell ⟨g, 1, none⟩ (.int .i64 e')) := (Tch.refl _ _).setCell (.inl (by simp)) _
  have n1 := own_ne_blk h1.krow h1.box (by decide)
  have n2 := own_ne_blk h1.irow h1.box (by decide)
  refine ⟨⟨kv, iv, ⟨?_, T.own h1.krow (fun k a c => n1 k a (by simpa using c)), T.own h1.irow (fun k a c => n2 k a (by simpa using c)), fun p hp => pix_tch (h1.pix p hp) T (fun k hk => ?_), h1.low⟩, h2⟩, h3.setCell (.inl h4) _, h4, h5⟩
  · have := h1.box.set_ 1 (.int .i64 e')
    simpa using this
  · simp only [List.mem_singleton] at hk
    subst hk
    exact NoPix.cells h1.box (by decide)
theorem RT.cells (h : RT B g b e M w L wr) (q : Nat) (hq : L.length = q) : ∃ A cap A2 cap2, wr.cell? ⟨g, 0, none⟩ = some (.int .i64 b) ∧ wr.cell? ⟨g, 1, none⟩ = some (.int .i64 e) ∧ wr.cell? ⟨g, 2, none⟩ = some (.slice A q cap) ∧ wr.cell? ⟨g, 3, none⟩ = some (.slice A2 q cap2) ∧ (∀ o, wr.frozen? ⟨g, o, none⟩ = false) ∧ g < wr.heap.size ∧
    wr.ownsRow B 29 5 (.slice A q cap) q (kcs (kys L)) ∧ wr.ownsRow B 32 3 (.slice A2 q cap2) q (ics L) := by
  obtain ⟨⟨kv, iv, h1, h2⟩, h3, h4, h5⟩ := h
  obtain ⟨A, cap, A2, cap2, rfl, rfl, hk, hi, hbox⟩ := h1.shapes q hq
  obtain ⟨x0, x1, x2, x3, x4, xf⟩ := blk5 hbox
  exact ⟨A, cap, A2, cap2, x0, x1, x2, x3, xf, hbox.lt, hk, hi⟩
end
theorem St.shrink_over (s : St) : s.shrink = ⟨s.b, s.l.drop s.over, s.e + s.over⟩ := rfl

set_option maxHeartbeats 2000000 in
theorem rshrink_rt (B g b e : Nat) (M : List Nat) (w0 : World) (L : List E3) (w : World) (h : RT B g b e M w0 L w) (hmax : L.length ≤ 1048576) (he : e ≤ 4398046511106) :
    Calls Try.prog 43 #[.pointer (some ⟨g, 0, none⟩)] w fun en w' => en = .returned (.int .i64 ((L.length - b : Nat) : Int)) ∧ RT B g b (e + (L.length - b)) M w0 (L.drop (L.length - b)) w' := by
  obtain ⟨n, hn⟩ : ∃ n, L.length = n := ⟨_, rfl⟩
  rw [hn] at hmax ⊢
  obtain ⟨t, ht⟩ : ∃ t, n - b = t := ⟨_, rfl⟩
  rw [ht]
  have HN := Lib.hid hn
  clear hn
  go_enter Try.func43, Try.ntmps43
  go_wp2_with fail
  go_loopw [3] (fun i wr => ∃ j : Nat, i = .int .i64 j ∧ j ≤ t ∧ RT B g b e M w0 (L.drop j) wr) (fun i _ => t - (intOf i).toNat)
  case atStart => exact ⟨0, rfl, by omega, h⟩
  case round =>
    clear h
    obtain ⟨j, rfl, hj, h⟩ := hrel
    have hdl : (L.drop j).length = n - j := by rw [List.length_drop, HN.out]
    obtain ⟨A, cap, A2, cap2, x0, x1, x2, x3, xf, hgl, _, _⟩ := h.cells (n - j) hdl
    by_cases hlt : j < t
    · have hgt : ((n - j : Nat) : Int) > (b : Int) := by omega
      have htk := fun (W : World) (hb : Below wr.heap.size wr W) => (h.later hb).take 0 (by omega) (by omega)
      rw [show (L.drop j).eraseIdx 0 = L.drop (j + 1) by rw [List.eraseIdx_zero, List.tail_drop]] at htk
      have H := Lib.hid h
      have HT := Lib.hid htk
      clear h htk hdl
      go_wp2_with fail
      go_quiet (fail)
      have htk2 := HT.out _ (⟨rfl, rfl, rfl, Nat.le_refl _, fun _ _ => rfl⟩ : Below wr.heap.size wr (wr.drewN nq))
      go_wp2_with fail
      refine htk2.mono ?_
      rintro en w2 ⟨rfl, h2⟩
      have H2 := Lib.hid h2
      clear h2 htk2
      go_wp2_with fail
      go_roundw
      case rel => exact ⟨j + 1, by go_num, by omega, H2.out⟩
      case measure => simp [intOf]; omega
    · obtain rfl : j = t := by omega
      have hgt : decide ((b : Int) < ((n - j : Nat) : Int)) = false := by simp; omega
      have H := Lib.hid h
      clear h hdl
      go_wp2_with fail
      go_quiet (fail)
      have hw : IntKind.i64.wrap ((e : Int) + (j : Int)) = (e : Int) + (j : Int) := IntWalk.i64_in _ (by omega)
      go_wp2_with fail
      go_ret
      exact ⟨rfl, (H.out.later (⟨rfl, rfl, rfl, Nat.le_refl _, fun _ _ => rfl⟩ : Below wr.heap.size wr (wr.drewN nq))).put1 _ (e + j) (by omega)⟩

end Go.Proofs.Ytkdokipgakncjaa.Cac
