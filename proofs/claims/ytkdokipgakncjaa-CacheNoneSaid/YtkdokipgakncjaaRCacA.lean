/-
  Layer 36, the document's answer: a cache in memory; what only reads it.
-/
import Derived.Test.YtkdokipgakncjaaCacSame
import Derived.Test.YtkdokipgakncjaaRegG
import Derived.Great.BuildSlice
import Derived.Test.YtkdokipgakncjaaRef01Fl
namespace Go.Proofs.Ytkdokipgakncjaa.Cac
open Go.RowKit Go.Proofs.Ytkdokipgakncjaa Go.Proofs.Ytkdokipgakncjaa.RegG

/-- An entry: its key, its image, where its pixels lie. -/
abbrev E3 := K5 × Img × Value
def ic (p : E3) : List Value := [.int .i64 p.2.1.W, .int .i64 p.2.1.H, p.2.2]
def ics : List E3 → List Value
  | [] => []
  | p :: l => ic p ++ ics l
def ents (L : List E3) : List Ent := L.map fun p => (p.1, p.2.1)
def kys (L : List E3) : List K5 := L.map (·.1)
theorem kys_ents (L : List E3) : keys (ents L) = kys L := by unfold keys ents kys; rw [List.map_map]; rfl
theorem ents_len (L : List E3) : (ents L).length = L.length := List.length_map _
theorem kys_len (L : List E3) : (kys L).length = L.length := List.length_map _
theorem kys_app (L M : List E3) : kys (L ++ M) = kys L ++ kys M := List.map_append
theorem ents_app (L M : List E3) : ents (L ++ M) = ents L ++ ents M := List.map_append
theorem ics_len (L : List E3) : (ics L).length = L.length * 3 := by
  induction L with
  | nil => rfl
  | cons k l ih => simp only [ics, List.length_append, ih, List.length_cons, ic, List.length_nil]; omega
theorem ics_app (l m : List E3) : ics (l ++ m) = ics l ++ ics m := by
  induction l with
  | nil => rfl
  | cons k l ih => simp only [List.cons_append, ics, ih, List.append_assoc]
theorem ics_at (l : List E3) (i : Nat) (h : i < l.length) (c : Nat) (hc : c < 3) : (ics l)[i * 3 + c]? = (ic l[i])[c]? := by
  have e : ics l = ics (l.take i) ++ (ic l[i] ++ ics (l.drop (i + 1))) := by
    rw [← ics, ← ics_app, ← List.drop_eq_getElem_cons h, List.take_append_drop]
  have hl : (ics (l.take i)).length = i * 3 := by rw [ics_len, List.length_take, Nat.min_eq_left (by omega)]
  rw [e, List.getElem?_append_right (by omega), hl, Nat.add_sub_cancel_left, List.getElem?_append_left (by simp [ic]; exact hc)]

/-- The document's cache in memory. -/
structure RC (w : World) (B g : Nat) (kv iv : Value) (b : Nat) (L : List E3) (e : Nat) : Prop where
  box : Blk w g 50 #[.int .i64 b, .int .i64 e, kv, iv, .bool true]
  krow : w.ownsRow B 29 5 kv L.length (kcs (kys L))
  irow : w.ownsRow B 32 3 iv L.length (ics L)
  pix : ∀ p ∈ L, w.ownsRow B 63 4 p.2.2 p.2.1.px.length (pcs p.2.1.px)
  low : B ≤ g
def rfoot (g : Nat) (kv iv : Value) : List Nat := g :: (bl kv ++ bl iv)
theorem mem_rfoot {g : Nat} {kv iv : Value} {k : Nat} : k ∈ rfoot g kv iv ↔ k = g ∨ kv.ownBlock = some k ∨ iv.ownBlock = some k := by
  unfold rfoot
  rw [List.mem_cons, List.mem_append, mem_bl, mem_bl]
def IsR (w : World) (B g : Nat) (s : St) (M : List Nat) : Prop := ∃ kv iv L, M = rfoot g kv iv ∧ ents L = s.l ∧ RC w B g kv iv s.b L s.e
section
variable {w w' : World} {B g b e : Nat} {kv iv : Value} {L : List E3} {M : List Nat}
theorem own_notPix {base size n : Nat} {t : TypeId} {v : Value} {xs : List Value} (h : w.ownsRow base t size v n xs) (ht : t ≠ 63) (k : Nat) (hk : v.ownBlock = some k) : ∀ cur fz, w.heap[k]? ≠ some (.cells cur 63 fz) := fun cur fz e => by
  rcases h.2 with ⟨rfl, _⟩ | ⟨g', cap, cur', rfl, _, hh, _⟩
  · simp [Value.ownBlock] at hk
  · have e1 : g' = k := by simpa [Value.ownBlock] using hk
    subst e1
    rw [hh] at e
    injection e with e
    injection e with _ e
    exact ht e
theorem pix_tch {base n : Nat} {v : Value} {xs : List Value} (h : w.ownsRow base 63 4 v n xs) (ht : Tch M w w') (hM : NoPix w M) : w'.ownsRow base 63 4 v n xs :=
  ht.own h fun k hk hm => by
    rcases h.2 with ⟨e, _⟩ | ⟨g, cap, cur, e, _, hh, _⟩
    · rw [e] at hk; simp [Value.ownBlock] at hk
    · rw [e] at hk
      obtain rfl : g = k := by simpa [Value.ownBlock] using hk
      exact hM g hm cur (0, 0) hh
theorem RC.noPix (h : RC w B g kv iv b L e) : NoPix w (rfoot g kv iv) := fun k hk => by
  rcases mem_rfoot.1 hk with rfl | hk | hk
  · exact NoPix.cells h.box (by decide)
  · exact own_notPix h.krow (by decide) k hk
  · exact own_notPix h.irow (by decide) k hk
theorem RC.size (h : RC w B g kv iv b L e) : ∀ k ∈ rfoot g kv iv, k < w.heap.size := fun k hk => by
  rcases mem_rfoot.1 hk with rfl | hk | hk
  · exact h.box.lt
  · exact own_lt h.krow k hk
  · exact own_lt h.irow k hk
theorem RC.lows (h : RC w B g kv iv b L e) : ∀ k ∈ rfoot g kv iv, B ≤ k := fun k hk => by
  rcases mem_rfoot.1 hk with rfl | hk | hk
  · exact h.low
  · exact own_low h.krow k hk
  · exact own_low h.irow k hk
theorem RC.tch (h : RC w B g kv iv b L e) (ht : Tch M w w') (hM : NoPix w M) (hd : ∀ k ∈ rfoot g kv iv, k ∉ M) : RC w' B g kv iv b L e :=
  ⟨ht.blk h.box (hd g (mem_rfoot.2 (.inl rfl))), ht.own h.krow (fun k hk => hd k (mem_rfoot.2 (.inr (.inl hk)))), ht.own h.irow (fun k hk => hd k (mem_rfoot.2 (.inr (.inr hk)))), fun p hp => pix_tch (h.pix p hp) ht hM, h.low⟩
theorem RC.tch0 (h : RC w B g kv iv b L e) (ht : Tch [] w w') : RC w' B g kv iv b L e := h.tch ht NoPix.nil (fun k _ => by simp)
theorem RC.later (h : RC w B g kv iv b L e) (hb : Below w.heap.size w w') : RC w' B g kv iv b L e := h.tch0 ((Tch.refl _ _).below hb)
theorem obR (B g : Nat) (s : St) : Ob (fun w M => IsR w B g s M) B where
  tch := fun ⟨kv, iv, L, e, h1, h2⟩ ht hn hm => ⟨kv, iv, L, e, h1, h2.tch ht hn (fun k hk => hm k (by rw [e]; exact hk))⟩
  noPix := fun ⟨kv, iv, L, e, h1, h2⟩ => by rw [e]; exact h2.noPix
  size := fun ⟨kv, iv, L, e, h1, h2⟩ => by rw [e]; exact h2.size
  lows := fun ⟨kv, iv, L, e, h1, h2⟩ => by rw [e]; exact h2.lows
/-- The rows, opened. -/
theorem RC.shapes (h : RC w B g kv iv b L e) (q : Nat) (hq : L.length = q) : ∃ A cap A2 cap2, kv = .slice A q cap ∧ iv = .slice A2 q cap2 ∧ w.ownsRow B 29 5 (.slice A q cap) q (kcs (kys L)) ∧ w.ownsRow B 32 3 (.slice A2 q cap2) q (ics L) ∧ Blk w g 50 #[.int .i64 b, .int .i64 e, .slice A q cap, .slice A2 q cap2, .bool true] := by
  subst hq
  have h1 := h.krow
  have h2 := h.irow
  have h3 := h.box
  obtain ⟨A, cap, rfl, _⟩ := own_open h1
  obtain ⟨A2, cap2, rfl, _⟩ := own_open h2
  exact ⟨A, cap, A2, cap2, rfl, rfl, h1, h2, h3⟩
end
theorem rmade_yes (g : Nat) (c0 c1 c2 c3 : Value) (w : World) (h : Blk w g 50 #[c0, c1, c2, c3, .bool true]) : Calls Try.prog 36 #[.pointer (some ⟨g, 0, none⟩)] w fun e w' => e = .returned (.bool true) ∧ w = w' := by
  have d1 := h.cell 4
  go_enter Try.func36, Try.ntmps36
  go_wp2
  go_ret
  exact ⟨rfl, rfl⟩
theorem rmade_zero (g : Nat) (c0 c1 c2 c3 : Value) (w : World) (h : Blk w g 50 #[c0, c1, c2, c3, .bool false]) : Calls Try.prog 36 #[.pointer (some ⟨g, 0, none⟩)] w fun e w' => e = .returned (.bool false) ∧ w = w' := by
  have d1 := h.cell 4
  go_enter Try.func36, Try.ntmps36
  go_wp2
  go_ret
  exact ⟨rfl, rfl⟩
theorem rmade_nil (w : World) : Calls Try.prog 36 #[.pointer none] w fun e w' => e = .returned (.bool false) ∧ w = w' := by
  go_enter Try.func36, Try.ntmps36
  go_wp2
  go_ret
  exact ⟨rfl, rfl⟩
theorem rnew_any (B : Nat) (n : Int) (w : World) (hB : B ≤ w.heap.size) : Calls Try.prog 10 #[.int .i64 n] w fun e w' => ∃ g M, e = .returned (.pointer (some ⟨g, 0, none⟩)) ∧ IsR w' B g (St.new n) M ∧ (∀ k ∈ M, w.heap.size ≤ k) ∧ Below w.heap.size w w' := by
  go_enter Try.func10, Try.ntmps10
  go_wp2_with (go_at_call 24; refine (Ref01.clamp_any _ _ _ _).mono ?_; rintro e w' ⟨rfl, rfl⟩)
  go_ret
  refine ⟨w.heap.size, _, rfl, ⟨.slice none 0 0, .slice none 0 0, [], rfl, rfl, ?_, ⟨rfl, .inl ⟨rfl, rfl⟩⟩, ⟨rfl, .inl ⟨rfl, rfl⟩⟩, fun p hp => by simp at hp, hB⟩, fun k hk => ?_, (Below.refl _ _).alloc (Nat.le_refl _) _⟩
  · rw [clp_n]
    exact Blk.new _ _ _
  · rcases mem_rfoot.1 hk with rfl | hk | hk
    · exact Nat.le_refl _
    · simp [Value.ownBlock] at hk
    · simp [Value.ownBlock] at hk
theorem revicted_any (B g b e : Nat) (kv iv : Value) (L : List E3) (w : World) (h : RC w B g kv iv b L e) : Calls Try.prog 16 #[.pointer (some ⟨g, 0, none⟩)] w fun en w' => en = .returned (.int .i64 e) ∧ w = w' := by
  have hm := rmade_yes g _ _ _ _ w h.box
  obtain ⟨x0, x1, x2, x3, x4, xf⟩ := blk5 h.box
  go_enter Try.func16, Try.ntmps16
  go_wp2_with (go_at_call 36; refine hm.mono ?_; rintro e w' ⟨rfl, rfl⟩)
  go_ret
  exact ⟨rfl, rfl⟩

/-- Where a key stands. -/
def Placed (l : List K5) (k : K5) (w : World) (e : Ending) (w' : World) : Prop :=
  ((∃ (j : Nat) (hj : j < l.length), l[j] = k ∧ (∀ i (h : i < l.length), i < j → l[i] ≠ k) ∧ e = .returned (.int .i64 j)) ∨ (k ∉ l ∧ e = .returned (.int .i64 (-1)))) ∧ Below w.heap.size w w'
set_option maxHeartbeats 2000000 in
theorem rplace_any (B g b e : Nat) (kv iv : Value) (L : List E3) (k : K5) (w : World) (h : RC w B g kv iv b L e) (hmax : L.length ≤ 1048576) :
    Calls Try.prog 40 #[.pointer (some ⟨g, 0, none⟩), kagg k] w (Placed (kys L) k w) := by
  obtain ⟨n, hn⟩ : ∃ n, L.length = n := ⟨_, rfl⟩
  obtain ⟨A, cap, A2, cap2, rfl, rfl, hk, hi, hbox⟩ := h.shapes n hn
  obtain ⟨x0, x1, x2, x3, x4, xf⟩ := blk5 hbox
  have hgl := hbox.lt
  have hnk : (kys L).length = n := by rw [kys_len, hn]
  rw [hn] at hmax
  have HN := Lib.hid hnk
  have HK := Lib.hid hk
  have HX := Lib.hid hbox
  clear h hn hi hk hnk hbox
  obtain ⟨k0, k1, k2, k3, k4⟩ := k
  unfold kagg
  have T0 : Below w.heap.size w (w.alloc (.cells #[.int .i64 k0, .int .i64 k1, .int .i64 k2, .int .i64 k3, .int .i64 k4] 29)) := (Below.refl _ _).alloc (Nat.le_refl _) _
  have B0 : Blk (w.alloc (.cells #[.int .i64 k0, .int .i64 k1, .int .i64 k2, .int .i64 k3, .int .i64 k4] 29)) w.heap.size 29 #[.int .i64 k0, .int .i64 k1, .int .i64 k2, .int .i64 k3, .int .i64 k4] := Blk.new _ _ _
  clear x0 x1 x2 x3 x4
  go_enter Try.func40, Try.ntmps40
  go_wp2_with fail
  go_loopw [5] (fun i wr => ∃ j : Nat, i = .int .i64 j ∧ j ≤ n ∧ (∀ m (hm : m < (kys L).length), m < j → (kys L)[m] ≠ (k0, k1, k2, k3, k4)) ∧ Below w.heap.size w wr ∧ Blk wr w.heap.size 29 #[.int .i64 k0, .int .i64 k1, .int .i64 k2, .int .i64 k3, .int .i64 k4]) (fun i _ => n - (intOf i).toNat)
  case atStart => exact ⟨0, rfl, by omega, fun m hm h => by omega, T0, B0⟩
  case round =>
    clear T0 B0
    obtain ⟨j, rfl, hj, hf, hb, hbk⟩ := hrel
    obtain ⟨z0, z1, z2, z3, z4, zf⟩ := blk5 (HX.out.below hb hgl)
    obtain ⟨q0, q1, q2, q3, q4, qf⟩ := blk5 hbk
    have HF := Lib.hid hf
    have HB := Lib.hid hb
    have HBK := Lib.hid hbk
    clear hf hb hbk
    by_cases hlt2 : j < n
    · have hjl : j < (kys L).length := by have := HN.out; omega
      have hr2 := own_at HK.out (fun k hk => HB.out.block k (own_lt HK.out k hk))
      obtain ⟨o, rfl⟩ := own_some hr2 (by omega)
      have hol : o < wr.heap.size := own_lt hr2 o rfl
      obtain ⟨y0, y1, y2, y3, y4⟩ := key_cells hr2 j hjl
      obtain ⟨y, hy⟩ : ∃ y, y = (kys L)[j]'hjl := ⟨_, rfl⟩
      rw [← hy] at y0 y1 y2 y3 y4
      have HY := Lib.hid hy
      obtain ⟨j0, j1, j2, j3, j4⟩ := y
      clear hy hr2
      have hq := fun W => eqlKey (j0, j1, j2, j3, j4) (k0, k1, k2, k3, k4) W
      unfold kagg at hq
      by_cases heq : (j0, j1, j2, j3, j4) = (k0, k1, k2, k3, k4)
      · rw [decide_eq_true heq] at hq
        have HQ := Lib.hid heq
        clear heq
        go_wp2_with fail
        go_quiet (fail)
        go_wp2_with fail
        go_ret
        exact ⟨.inl ⟨j, hjl, HY.out.symm.trans HQ.out, HF.out, rfl⟩, HB.out.trans ⟨rfl, rfl, rfl, Nat.le_refl _, fun _ _ => rfl⟩⟩
      · rw [decide_eq_false heq] at hq
        have HQ := Lib.hid heq
        clear heq
        go_wp2_with fail
        go_quiet (fail)
        go_wp2_with fail
        go_roundw
        case rel => exact ⟨j + 1, by go_num, by omega, not_snoc HF.out hjl HY.out HQ.out, HB.out.trans ⟨rfl, rfl, rfl, Nat.le_refl _, fun _ _ => rfl⟩, HBK.out⟩
        case measure => simp [intOf]; omega
    · obtain rfl : j = n := by omega
      go_wp2_with fail
      go_ret
      refine ⟨.inr ⟨fun hm => ?_, rfl⟩, HB.out⟩
      obtain ⟨i, hi, e⟩ := List.getElem_of_mem hm
      exact HF.out i hi (by have := HN.out; omega) e

end Go.Proofs.Ytkdokipgakncjaa.Cac
