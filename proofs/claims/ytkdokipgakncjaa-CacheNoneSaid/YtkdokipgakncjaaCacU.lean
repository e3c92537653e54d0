/-
  Layer 36: a key struck out of the order of a cache.
-/
import Derived.Test.YtkdokipgakncjaaCacC
namespace Go.Proofs.Ytkdokipgakncjaa.Cac
open Go.RowKit Go.Proofs.Ytkdokipgakncjaa

/-- A cache's block and the row of its order. -/
structure Ord (w : World) (B g : Nat) (c0 c1 ov c3 : Value) (L : List K5) : Prop where
  box : Blk w g 47 #[c0, c1, ov, c3]
  row : w.ownsRow B 29 5 ov L.length (kcs L)
  low : B ≤ g
/-- What is left of the order. -/
def Unl (B g : Nat) (c0 c1 ov c3 : Value) (L : List K5) (w : World) (e : Ending) (w' : World) : Prop :=
  e = .returned (.tuple #[]) ∧ ∃ ov', Ord w' B g c0 c1 ov' c3 L ∧ Tch (g :: bl ov) w w' ∧ ov'.ownBlock = ov.ownBlock
theorem Ord.tch {w w' : World} {B g : Nat} {c0 c1 ov c3 : Value} {L : List K5} {M : List Nat} (h : Ord w B g c0 c1 ov c3 L) (ht : Tch M w w') (hg : g ∉ M) (ho : ∀ k, ov.ownBlock = some k → k ∉ M) : Ord w' B g c0 c1 ov c3 L :=
  ⟨ht.blk h.box hg, ht.own h.row ho, h.low⟩

theorem unlist_none (B g : Nat) (c0 c1 c3 : Value) (k : K5) (w : World) (h : Ord w B g c0 c1 (.slice none 0 0) c3 []) :
    Calls Try.prog 44 #[.pointer (some ⟨g, 0, none⟩), kagg k] w (Unl B g c0 c1 (.slice none 0 0) c3 [] w) := by
  have d2 := h.box.cell 2
  have hlt := h.box.lt
  have H := Lib.hid h
  clear h
  unfold kagg
  go_enter Try.func44, Try.ntmps44
  go_wp2_with fail
  go_loopw [11] (fun i wr => i = .int .i64 0 ∧ Tch [] w wr) (fun _ _ => 0)
  case atStart => exact ⟨rfl, ((Tch.refl _ _).alloc _)⟩
  case round =>
    obtain ⟨rfl, ht⟩ := hrel
    go_wp2_with fail
    go_end0
    exact ⟨rfl, _, H.out.tch ht (by simp) (by simp), ht.mono (by simp), rfl⟩

theorem kc5 (k : K5) : (kc k)[0]? = some (.int .i64 k.1) ∧ (kc k)[1]? = some (.int .i64 k.2.1) ∧ (kc k)[2]? = some (.int .i64 k.2.2.1) ∧ (kc k)[3]? = some (.int .i64 k.2.2.2.1) ∧ (kc k)[4]? = some (.int .i64 k.2.2.2.2) := ⟨rfl, rfl, rfl, rfl, rfl⟩
/-- A key's five cells in a row of one's own. -/
theorem key_cells {w : World} {base o n cap : Nat} {L : List K5} (h : w.ownsRow base 29 5 (.slice (some ⟨o, 0, none⟩) n cap) n (kcs L)) (j : Nat) (hj : j < L.length) :
    w.cell? ⟨o, j * 5, none⟩ = some (.int .i64 L[j].1) ∧ w.cell? ⟨o, j * 5 + 1, none⟩ = some (.int .i64 L[j].2.1) ∧ w.cell? ⟨o, j * 5 + 2, none⟩ = some (.int .i64 L[j].2.2.1) ∧ w.cell? ⟨o, j * 5 + 3, none⟩ = some (.int .i64 L[j].2.2.2.1) ∧ w.cell? ⟨o, j * 5 + 4, none⟩ = some (.int .i64 L[j].2.2.2.2) := by
  have hl := h.1
  rw [kcs_len] at hl
  have k := fun c (hc : c < 5) => (h.cellAt (j * 5 + c) (by omega)).trans (kcs_at L j hj c hc)
  obtain ⟨e0, e1, e2, e3, e4⟩ := kc5 L[j]
  exact ⟨(k 0 (by omega)).trans e0, (k 1 (by omega)).trans e1, (k 2 (by omega)).trans e2, (k 3 (by omega)).trans e3, (k 4 (by omega)).trans e4⟩
theorem erase_first (L : List K5) (k : K5) (j : Nat) (hj : j < L.length) (he : L[j] = k) (hf : ∀ i (h : i < L.length), i < j → L[i] ≠ k) : L.erase k = L.eraseIdx j := by
  induction L generalizing j with
  | nil => simp at hj
  | cons a l ih =>
    rcases j with _ | j
    · simp at he; subst he; simp
    · have h0 : a ≠ k := hf 0 (by simp) (by omega)
      rw [List.erase_cons_tail (by simpa using h0), List.eraseIdx_cons_succ, ih j (by simpa using hj) (by simpa using he) (fun i hi hij => hf (i + 1) (by simpa using hi) (by omega))]
theorem erase_not (L : List K5) (k : K5) (hf : ∀ i (h : i < L.length), L[i] ≠ k) : L.erase k = L :=
  List.erase_of_not_mem fun hm => by obtain ⟨i, hi, e⟩ := List.getElem_of_mem hm; exact hf i hi e

theorem not_snoc {L : List K5} {k y : K5} {j : Nat} (hf : ∀ m (hm : m < L.length), m < j → L[m] ≠ k) (hj : j < L.length) (hy : y = L[j]) (hq : ¬ y = k) : ∀ m (hm : m < L.length), m < j + 1 → L[m] ≠ k := fun m hm h => by
  rcases Nat.lt_or_ge m j with h2 | h2
  · exact hf m hm h2
  · obtain rfl : m = j := by omega
    rw [← hy]
    exact hq
theorem Unl.del {B g o n cap j : Nat} {c0 c1 c3 : Value} {L : List K5} {k : K5} {w wr w' : World} {ob : Obj} (hgo : o ≠ g) (hlow : B ≤ g) (hn : n = L.length) (ht : Tch [] w wr) (hj : j < L.length) (he : L[j] = k)
    (hf : ∀ i (h : i < L.length), i < j → L[i] ≠ k) (bx : Blk w' g 47 #[c0, c1, .slice (some ⟨o, 0, none⟩) n cap, c3])
    (ho : w'.ownsRow B 29 5 (.slice (some ⟨o, 0, none⟩) (n - 1) cap) (n - 1) ((kcs L).take (j * 5) ++ (kcs L).drop ((j + 1) * 5))) (hg : (wr.alloc ob).grownBy w' (some o)) :
    Unl B g c0 c1 (.slice (some ⟨o, 0, none⟩) n cap) c3 (L.erase k) w (.returned (.tuple #[])) (w'.setCell ⟨g, 2, none⟩ (.slice (some ⟨o, 0, none⟩) (n - 1) cap)) := by
  rw [kcs_cut L j hj, ← erase_first L k j hj he hf] at ho
  have hlen : (L.erase k).length = n - 1 := by rw [hn, List.length_erase_of_mem (by rw [← he]; exact List.getElem_mem hj)]
  refine ⟨rfl, .slice (some ⟨o, 0, none⟩) (n - 1) cap, ⟨?_, ?_, hlow⟩, ?_, rfl⟩
  · have := bx.set_ 2 (.slice (some ⟨o, 0, none⟩) (n - 1) cap)
    simpa using this
  · rw [hlen]
    exact own_at ho fun k hk => Below.heap_setCell _ _ _ _ (by simp [Value.ownBlock] at hk; subst hk; exact hgo)
  · refine Tch.setCell ?_ (.inl (by simp)) _
    exact Tch.grown ((ht.alloc ob).mono (by simp)) hg (fun k hk => .inl (by simp [bl, Value.ownBlock]; simp at hk; exact .inr hk.symm))
set_option maxHeartbeats 1000000 in
theorem unlist_some (B g o n cap : Nat) (c0 c1 c3 : Value) (L : List K5) (k : K5) (w : World) (h : Ord w B g c0 c1 (.slice (some ⟨o, 0, none⟩) n cap) c3 L) (hn : n = L.length) (hmax : n ≤ 1048577) :
    Calls Try.prog 44 #[.pointer (some ⟨g, 0, none⟩), kagg k] w (Unl B g c0 c1 (.slice (some ⟨o, 0, none⟩) n cap) c3 (L.erase k) w) := by
  have d2 := h.box.cell 2
  have hlt := h.box.lt
  have hrow := h.row
  rw [← hn] at hrow
  have hol : o < w.heap.size := own_lt hrow o (by simp [Value.ownBlock])
  have hgo : o ≠ g := own_ne_blk hrow h.box (by decide) o (by simp [Value.ownBlock])
  have H := Lib.hid h
  have HR := Lib.hid hrow
  have HN := Lib.hid hn
  clear h hrow hn
  obtain ⟨k0, k1, k2, k3, k4⟩ := k
  unfold kagg
  go_enter Try.func44, Try.ntmps44
  go_wp2_with fail
  have T0 : Tch [] w (w.alloc (.cells #[.int .i64 k0, .int .i64 k1, .int .i64 k2, .int .i64 k3, .int .i64 k4] 29)) := (Tch.refl _ _).alloc _
  have B0 : Blk (w.alloc (.cells #[.int .i64 k0, .int .i64 k1, .int .i64 k2, .int .i64 k3, .int .i64 k4] 29)) w.heap.size 29 #[.int .i64 k0, .int .i64 k1, .int .i64 k2, .int .i64 k3, .int .i64 k4] := Blk.new _ _ _
  go_loopw [4, 5, 11] (fun _ _ i wr => ∃ j : Nat, i = .int .i64 j ∧ j ≤ n ∧ (∀ m (hm : m < L.length), m < j → L[m] ≠ (k0, k1, k2, k3, k4)) ∧ Tch [] w wr ∧ Blk wr w.heap.size 29 #[.int .i64 k0, .int .i64 k1, .int .i64 k2, .int .i64 k3, .int .i64 k4]) (fun _ _ i _ => n - (intOf i).toNat)
  case atStart => exact ⟨0, rfl, by omega, fun m hm h => by omega, T0, B0⟩
  case round =>
    obtain ⟨j, rfl, hj, hf, ht, hb⟩ := hrel
    have hs := hb.lt
    have hbx := ht.blk H.out.box (by simp)
    have z2 : wr.cell? ⟨g, 2, none⟩ = some (.slice (some ⟨o, 0, none⟩) n cap) := hbx.cell 2
    have hgl : g < wr.heap.size := hbx.lt
    have hol2 : o < wr.heap.size := by omega
    obtain ⟨x0, x1, x2, x3, x4, xf⟩ := blk5 hb
    have HF := Lib.hid hf
    clear hf
    by_cases hlt2 : j < n
    · have hjl : j < L.length := by have := HN.out; omega
      have hr2 := ht.own HR.out (by simp)
      obtain ⟨y0, y1, y2, y3, y4⟩ := key_cells hr2 j hjl
      obtain ⟨y, hy⟩ : ∃ y, y = L[j]'hjl := ⟨_, rfl⟩
      rw [← hy] at y0 y1 y2 y3 y4
      have HY := Lib.hid hy
      have HR2 := Lib.hid hr2
      obtain ⟨j0, j1, j2, j3, j4⟩ := y
      clear hy hr2
      have hq := fun W => eqlKey (j0, j1, j2, j3, j4) (k0, k1, k2, k3, k4) W
      unfold kagg at hq
      by_cases heq : (j0, j1, j2, j3, j4) = (k0, k1, k2, k3, k4)
      · rw [decide_eq_true heq] at hq
        have HQ := Lib.hid heq
        clear heq
        have hdl := delete_any B o n cap j j ((j : Int) + 1) rfl rfl (kcs L) (wr.alloc (.cells #[.int .i64 j0, .int .i64 j1, .int .i64 j2, .int .i64 j3, .int .i64 j4] 29)) (HR2.out.alloc _) hlt2 hmax (kcs_one L)
        go_wp2_with (go_at_call 46; refine hdl.mono ?_; rintro e w' ⟨rfl, ho, hg⟩; have bx2 := (hbx.alloc (.cells #[.int .i64 j0, .int .i64 j1, .int .i64 j2, .int .i64 j3, .int .i64 j4] 29)).grown hg (by simp; omega); have q2 := bx2.cell 2; have qf := bx2.frozen 2; have HO := Lib.hid ho; clear ho)
        go_end0
        exact Unl.del hgo H.out.low HN.out ht hjl (HY.out.symm.trans HQ.out) HF.out bx2 HO.out hg
      · rw [decide_eq_false heq] at hq
        have HQ := Lib.hid heq
        clear heq
        go_wp2_with fail
        go_roundw
        case rel => exact ⟨j + 1, by go_num, by omega, not_snoc HF.out hjl HY.out HQ.out, ht.alloc _, hb.alloc _⟩
        case measure => simp [intOf]; omega
    · obtain rfl : j = n := by omega
      go_wp2_with fail
      go_end0
      rw [erase_not L _ (fun m hm => HF.out m hm (by have := HN.out; omega))]
      exact ⟨rfl, _, H.out.tch ht (by simp) (by simp), ht.mono (by simp), rfl⟩
theorem unlist_any (B g : Nat) (c0 c1 ov c3 : Value) (L : List K5) (k : K5) (w : World) (h : Ord w B g c0 c1 ov c3 L) (hmax : L.length ≤ 1048577) :
    Calls Try.prog 44 #[.pointer (some ⟨g, 0, none⟩), kagg k] w (Unl B g c0 c1 ov c3 (L.erase k) w) := by
  rcases h.row.2 with ⟨rfl, hn⟩ | ⟨o, cap, cur, rfl, _⟩
  · obtain rfl := List.eq_nil_of_length_eq_zero hn
    exact unlist_none B g c0 c1 c3 k w h
  · exact unlist_some B g o L.length cap c0 c1 c3 L k w h rfl hmax

end Go.Proofs.Ytkdokipgakncjaa.Cac
