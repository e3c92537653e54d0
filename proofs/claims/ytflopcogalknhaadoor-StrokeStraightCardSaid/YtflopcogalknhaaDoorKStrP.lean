/-
  Layer 21: lists of polygons that are read; their error.
-/
import Derived.Test.YtflopcogalknhaaDoorKStrO
set_option linter.unusedVariables false
set_option linter.unusedSimpArgs false
namespace Go.Proofs.YtflopcogalknhaaDoor.Str
open Go.RowKit Go.Proofs.YtflopcogalknhaaDoor Go.Proofs.YtflopcogalknhaaDoor.NumPure

/-! polygons that are read -/
def slcs (ra : Nat → Option Addr) (rc : Nat → Nat) (ls : List (List P2)) : List Value := (List.range ls.length).map fun i => .slice (ra i) (ls.getD i []).length (rc i)
theorem slcs_len (ra : Nat → Option Addr) (rc : Nat → Nat) (ls : List (List P2)) : (slcs ra rc ls).length = ls.length := by simp [slcs]
theorem slcs_at (ra : Nat → Option Addr) (rc : Nat → Nat) (ls : List (List P2)) (i : Nat) (h : i < ls.length) : (slcs ra rc ls)[i]? = some (.slice (ra i) (ls.getD i []).length (rc i)) := by simp [slcs, h]
/-- A list of polygons that is read. -/
def PolR (w : World) (A : Option Addr) (ls : List (List P2)) : Prop := ∃ (ra : Nat → Option Addr) (rc : Nat → Nat), Reads w w.heap.size 1 A ls.length (slcs ra rc ls) ∧ ∀ i, i < ls.length → PtR w (ra i) (ls.getD i [])
theorem PolR.below {w w' : World} {A : Option Addr} {ls : List (List P2)} (h : PolR w A ls) (hb : Below w.heap.size w w') : PolR w' A ls := by
  obtain ⟨ra, rc, h1, h2⟩ := h
  exact ⟨ra, rc, (Reads.below h1 hb).more hb.size, fun i hi => (h2 i hi).below hb⟩
theorem PolR.addr {w : World} {A : Option Addr} {ls : List (List P2)} (h : PolR w A ls) (h0 : 0 < ls.length) : ∃ ad, A = some ad ∧ ad.block < w.heap.size := by
  obtain ⟨ra, rc, h1, _⟩ := h
  obtain ⟨a, e, hb, _⟩ := h1.2 h0
  exact ⟨a, e, hb⟩
theorem PolR.cell {w : World} {ad : Addr} {ls : List (List P2)} (h : PolR w (some ad) ls) (i : Nat) (hi : i < ls.length) : ∃ A c, w.cell? (ad.add i) = some (.slice A (ls.getD i []).length c) ∧ PtR w A (ls.getD i []) := by
  obtain ⟨ra, rc, h1, h2⟩ := h
  obtain ⟨a, e, _, hc⟩ := h1.2 (by omega)
  injection e with e
  subst e
  exact ⟨ra i, rc i, hc i _ (slcs_at ra rc ls i hi), h2 i hi⟩
theorem PolR.nil (w : World) : PolR w none [] := ⟨fun _ => none, fun _ => 0, ⟨rfl, fun h => absurd h (Nat.lt_irrefl 0)⟩, fun i hi => absurd hi (Nat.not_lt_zero i)⟩

/-! the error of polygons -/
def okP (p : P2) : Bool := decide (-16777216 ≤ p.1 ∧ p.1 ≤ 16777216 ∧ -16777216 ≤ p.2 ∧ p.2 ≤ 16777216)
def covE (ls : List (List P2)) : Int := if 4096 < ptsN ls then 3 else if (ls.all fun l => l.all okP) = true then 0 else 2
def ptsTo (ls : List (List P2)) (j : Nat) : Nat := ptsN (ls.take j)
theorem ptsTo_next (ls : List (List P2)) (j : Nat) (h : j < ls.length) : ptsTo ls (j + 1) = ptsTo ls j + (ls.getD j []).length := by
  unfold ptsTo ptsN
  rw [List.take_succ_eq_append_getElem h, List.map_append, List.sum_append, List.getD_eq_getElem?_getD, List.getElem?_eq_getElem h]
  simp
theorem ptsN_app (a b : List (List P2)) : ptsN (a ++ b) = ptsN a + ptsN b := by unfold ptsN; rw [List.map_append, List.sum_append]
theorem ptsTo_le (ls : List (List P2)) (j : Nat) : ptsTo ls j ≤ ptsN ls := by
  have := ptsN_app (ls.take j) (ls.drop j)
  rw [List.take_append_drop] at this
  unfold ptsTo
  omega
theorem ptsTo_all (ls : List (List P2)) : ptsTo ls ls.length = ptsN ls := by unfold ptsTo; rw [List.take_length]
theorem all_next {α : Type} (l : List α) (d : α) (f : α → Bool) (j : Nat) (h : j < l.length) (h1 : (l.take j).all f = true) (h2 : f (l.getD j d) = true) : (l.take (j + 1)).all f = true := by
  rw [List.take_succ_eq_append_getElem h, List.all_append, h1]
  rw [List.getD_eq_getElem?_getD, List.getElem?_eq_getElem h] at h2
  simpa using h2
theorem all_not {α : Type} (l : List α) (d : α) (f : α → Bool) (j : Nat) (h : j < l.length) (h2 : f (l.getD j d) = false) : l.all f = false := by
  rw [List.getD_eq_getElem?_getD, List.getElem?_eq_getElem h] at h2
  rw [Bool.eq_false_iff]
  intro e
  have := List.all_eq_true.1 e _ (List.getElem_mem h)
  rw [show f l[j] = false from h2] at this
  cases this
theorem cov_two {ls : List (List P2)} (h0 : ptsN ls ≤ 4096) (j k : Nat) (hj : j < ls.length) (hk : k < (ls.getD j []).length) (h : okP ((ls.getD j []).getD k (0, 0)) = false) : covE ls = 2 := by
  unfold covE
  rw [if_neg (by omega), if_neg (by rw [all_not ls [] _ j hj (all_not _ (0, 0) _ k hk h)]; exact Bool.false_ne_true)]
theorem cov_zero {ls : List (List P2)} (h : covE ls = 0) : ptsN ls ≤ 4096 ∧ ∀ l ∈ ls, AllB 16777216 l := by
  unfold covE at h
  by_cases h0 : 4096 < ptsN ls
  · rw [if_pos h0] at h; cases h
  rw [if_neg h0] at h
  refine ⟨by omega, fun l hl p hp => ?_⟩
  by_cases h1 : (ls.all fun l => l.all okP) = true
  · have := List.all_eq_true.1 (List.all_eq_true.1 h1 l hl) p hp
    unfold okP at this
    rw [decide_eq_true_eq] at this
    exact ⟨⟨this.1, this.2.1⟩, this.2.2⟩
  · rw [if_neg h1] at h; cases h
theorem len_le {ls : List (List P2)} {l : List P2} (h : l ∈ ls) : l.length ≤ ptsN ls := by
  induction ls with
  | nil => simp at h
  | cons a r ih =>
    have e : ptsN (a :: r) = a.length + ptsN r := by simp [ptsN]
    rcases List.mem_cons.1 h with rfl | h
    · omega
    · have := ih h
      omega
theorem mem_getD {ls : List (List P2)} {j : Nat} (h : j < ls.length) : ls.getD j [] ∈ ls := by
  rw [List.getD_eq_getElem?_getD, List.getElem?_eq_getElem h]
  exact List.getElem_mem h

set_option maxRecDepth 100000 in
set_option maxHeartbeats 8000000 in
theorem cov_any (A : Option Addr) (ls : List (List P2)) (c : Nat) (w : World) (h : PolR w A ls) (hl : ls.length ≤ 140737488355328) (hl2 : ∀ l ∈ ls, l.length ≤ 140737488355328) : Calls Tryd.prog 20 #[.slice A ls.length c, .int .i64 0] w (NmC (covE ls) w) := by
  obtain ⟨n, hn⟩ : ∃ n, ls.length = n := ⟨_, rfl⟩
  rw [hn] at hl ⊢
  have HN := Lib.hid hn
  have HR := Lib.hid h
  have HL2 := Lib.hid hl2
  clear h hn hl2
  go_enter Tryd.func20, Tryd.ntmps20
  go_wp2_with fail
  go_loopw [5, 20] (fun s i wr => ∃ j m : Nat, i = .int .i64 j ∧ j ≤ n ∧ s = .int .i64 m ∧ m = ptsTo ls j ∧ m ≤ 4096 ∧ Below w.heap.size w wr) (fun _ i _ => n - (intOf i).toNat)
  case atStart => exact ⟨0, 0, rfl, by omega, rfl, by simp [ptsTo, ptsN], by omega, Below.refl _ _⟩
  case round =>
    obtain ⟨j, m, rfl, hj, rfl, hm, hm4, hbw⟩ := hrel
    have HBW := Lib.hid hbw
    have HRW := Lib.hid (HR.out.below hbw)
    clear hbw
    by_cases hlt : j < n
    · have hjl : j < ls.length := by have := HN.out; omega
      obtain ⟨ad, rfl, _⟩ := HR.out.addr (by omega)
      obtain ⟨A1, c1, hc, _⟩ := HRW.out.cell j hjl
      have hq := ptsTo_next ls j hjl
      rw [← hm] at hq
      have hle := HL2.out _ (mem_getD hjl)
      obtain ⟨q, hq2⟩ : ∃ q, (ls.getD j []).length = q := ⟨_, rfl⟩
      rw [hq2] at hc hq hle
      have HQ := Lib.hid hq
      clear hq hq2 hm
      by_cases hb : 4096 < m + q
      · have HE : Hid (covE ls = 3) := Lib.hid (by
          unfold covE
          rw [if_pos]
          have := ptsTo_le ls (j + 1)
          have := HQ.out
          omega)
        have hb1 : (4096 : Int) < (m : Int) + (q : Int) := by omega
        go_wp2_with fail
        go_ret
        exact ⟨congrArg (fun z => Ending.returned (.int .i64 z)) HE.out.symm, HBW.out⟩
      · have hb1 : ¬ (4096 : Int) < (m : Int) + (q : Int) := by omega
        go_wp2_with fail
        go_roundw
        case rel => exact ⟨j + 1, m + q, by go_num, by omega, by go_num, HQ.out.symm, by omega, HBW.out⟩
        case measure => simp [intOf]; omega
    · obtain rfl : j = n := by omega
      have HM : Hid (ptsN ls ≤ 4096) := Lib.hid (by rw [← ptsTo_all, HN.out, ← hm]; exact hm4)
      clear hm
      go_wp2_with fail
      go_loopw [33] (fun i wr => ∃ a : Nat, i = .int .i64 a ∧ a ≤ j ∧ ((ls.take a).all fun l => l.all okP) = true ∧ Below w.heap.size w wr) (fun i _ => j - (intOf i).toNat)
      case atStart => exact ⟨0, rfl, by omega, by simp, HBW.out⟩
      case round =>
        obtain ⟨a, rfl, ha, hok, hb⟩ := hrel
        have HOK := Lib.hid hok
        have HB := Lib.hid hb
        clear hok hb
        by_cases hlt2 : a < j
        · have hal : a < ls.length := by have := HN.out; omega
          obtain ⟨ad, rfl, _⟩ := HR.out.addr (by omega)
          obtain ⟨A1, c1, hc, hp⟩ := (HR.out.below HB.out).cell a hal
          have hle := HL2.out _ (mem_getD hal)
          obtain ⟨l, hl1⟩ : ∃ l, ls.getD a [] = l := ⟨_, rfl⟩
          obtain ⟨q, hq⟩ : ∃ q, l.length = q := ⟨_, rfl⟩
          rw [hl1] at hp
          rw [hl1, hq] at hle
          rw [hl1, hq] at hc
          have HL1 := Lib.hid hl1
          have HQ := Lib.hid hq
          have HP := Lib.hid hp
          have HPC : Hid (∀ W, Below wr.heap.size wr W → W.cell? (ad.add a) = some (.slice A1 q c1)) := Lib.hid fun W hW => (hW.cell (World.block_lt_of_cell? _ _ hc)).trans hc
          clear hl1 hq hp
          go_wp2_with fail
          go_loopw [39] (fun i w9 => ∃ b : Nat, i = .int .i64 b ∧ b ≤ q ∧ (l.take b).all okP = true ∧ Below wr.heap.size wr w9) (fun i _ => q - (intOf i).toNat)
          case atStart => exact ⟨0, rfl, by omega, by simp, Below.refl _ _⟩
          case round =>
            obtain ⟨b, rfl, hb, hok, hbb⟩ := hrel
            have HOK2 := Lib.hid hok
            have HB2 := Lib.hid hbb
            clear hok hbb
            have hc := HPC.out _ HB2.out
            by_cases hlt3 : b < q
            · have hbl : b < l.length := by have := HQ.out; omega
              obtain ⟨ad1, rfl, _⟩ := HP.out.addr (by omega)
              obtain ⟨p0, p1⟩ := pt_cells (HP.out.below HB2.out) b hbl
              rw [← getD_at hbl] at p0 p1
              obtain ⟨⟨x, y⟩, hxy⟩ : ∃ p, l.getD b (0, 0) = p := ⟨_, rfl⟩
              rw [hxy] at p0 p1
              dsimp only at p0 p1
              have HNX : Hid (okP (x, y) = true → (l.take (b + 1)).all okP = true) := Lib.hid fun e => all_next l (0, 0) okP b hbl HOK2.out (by rw [hxy]; exact e)
              have HNE : Hid (okP (x, y) = false → covE ls = 2) := Lib.hid fun e => cov_two HM.out a b hal (by rw [HL1.out]; exact hbl) (by rw [HL1.out, hxy]; exact e)
              clear hxy
              have HOKP : Hid (okP (x, y) = decide (-16777216 ≤ x ∧ x ≤ 16777216 ∧ -16777216 ≤ y ∧ y ≤ 16777216)) := Lib.hid rfl
              have hcase : x < -16777216 ∨ (-16777216 ≤ x ∧ 16777216 < x) ∨ (-16777216 ≤ x ∧ x ≤ 16777216 ∧ y < -16777216) ∨ (-16777216 ≤ x ∧ x ≤ 16777216 ∧ -16777216 ≤ y ∧ 16777216 < y) ∨ (-16777216 ≤ x ∧ x ≤ 16777216 ∧ -16777216 ≤ y ∧ y ≤ 16777216) := by omega
              have HBD := Lib.hid (HB.out.trans ((HB2.out.alloc HB2.out.size (.cells #[.int .i64 x, .int .i64 y] 30)).mono HB.out.size))
              have HB3 := Lib.hid (HB2.out.alloc HB2.out.size (.cells #[.int .i64 x, .int .i64 y] 30))
              rcases hcase with h1 | ⟨h1, h2⟩ | ⟨h1, h2, h3⟩ | ⟨h1, h2, h3, h4⟩ | ⟨h1, h2, h3, h4⟩
              · have HE : Hid (covE ls = 2) := Lib.hid (HNE.out (by rw [HOKP.out]; simp; omega))
                go_wp2_with fail
                go_ret
                exact ⟨congrArg (fun z => Ending.returned (.int .i64 z)) HE.out.symm, HBD.out⟩
              · have HE : Hid (covE ls = 2) := Lib.hid (HNE.out (by rw [HOKP.out]; simp; omega))
                go_wp2_with fail
                go_ret
                exact ⟨congrArg (fun z => Ending.returned (.int .i64 z)) HE.out.symm, HBD.out⟩
              · have HE : Hid (covE ls = 2) := Lib.hid (HNE.out (by rw [HOKP.out]; simp; omega))
                go_wp2_with fail
                go_ret
                exact ⟨congrArg (fun z => Ending.returned (.int .i64 z)) HE.out.symm, HBD.out⟩
              · have HE : Hid (covE ls = 2) := Lib.hid (HNE.out (by rw [HOKP.out]; simp; omega))
                go_wp2_with fail
                go_ret
                exact ⟨congrArg (fun z => Ending.returned (.int .i64 z)) HE.out.symm, HBD.out⟩
              · have HE := Lib.hid (HNX.out (by rw [HOKP.out]; simp; omega))
                have q1 : ¬ x < -16777216 := by omega
                have q2 : ¬ 16777216 < x := by omega
                have q3 : ¬ y < -16777216 := by omega
                have q4 : ¬ 16777216 < y := by omega
                go_wp2_with fail
                go_roundw
                case rel => exact ⟨b + 1, by go_num, by omega, HE.out, HB3.out⟩
                case measure => simp [intOf]; omega
            · obtain rfl : b = q := by omega
              have HA : Hid (((ls.take (a + 1)).all fun l => l.all okP) = true) := Lib.hid (all_next ls [] _ a hal HOK.out (by rw [HL1.out]; have := HOK2.out; rwa [← HQ.out, List.take_length] at this))
              have HBD := Lib.hid (HB.out.trans (HB2.out.mono HB.out.size))
              go_wp2_with fail
              go_roundw
              case rel => exact ⟨a + 1, by go_num, by omega, HA.out, HBD.out⟩
              case measure => simp [intOf]; omega
        · obtain rfl : a = j := by omega
          have HE : Hid (covE ls = 0) := Lib.hid (by
            unfold covE
            have := HM.out
            rw [if_neg (by omega), if_pos (by have := HOK.out; rwa [← HN.out, List.take_length] at this)])
          go_wp2_with fail
          go_ret
          exact ⟨congrArg (fun z => Ending.returned (.int .i64 z)) HE.out.symm, HB.out⟩
set_option maxRecDepth 100000 in
set_option maxHeartbeats 8000000 in
theorem rcov_any (A : Option Addr) (ls : List (List P2)) (c : Nat) (w : World) (h : PolR w A ls) (hl : ls.length ≤ 140737488355328) (hl2 : ∀ l ∈ ls, l.length ≤ 140737488355328) : Calls Tryd.prog 22 #[.slice A ls.length c, .int .i64 0] w (NmC (covE ls) w) := by
  obtain ⟨n, hn⟩ : ∃ n, ls.length = n := ⟨_, rfl⟩
  rw [hn] at hl ⊢
  have HN := Lib.hid hn
  have HR := Lib.hid h
  have HL2 := Lib.hid hl2
  clear h hn hl2
  go_enter Tryd.func22, Tryd.ntmps22
  go_wp2_with fail
  go_loopw [5, 6] (fun s i wr => ∃ j m : Nat, i = .int .i64 j ∧ j ≤ n ∧ s = .int .i64 m ∧ m = ptsTo ls j ∧ m ≤ 4096 ∧ Below w.heap.size w wr) (fun _ i _ => n - (intOf i).toNat)
  case atStart => exact ⟨0, 0, rfl, by omega, rfl, by simp [ptsTo, ptsN], by omega, Below.refl _ _⟩
  case round =>
    obtain ⟨j, m, rfl, hj, rfl, hm, hm4, hbw⟩ := hrel
    have HBW := Lib.hid hbw
    have HRW := Lib.hid (HR.out.below hbw)
    clear hbw
    by_cases hlt : j < n
    · have hjl : j < ls.length := by have := HN.out; omega
      obtain ⟨ad, rfl, _⟩ := HR.out.addr (by omega)
      obtain ⟨A1, c1, hc, _⟩ := HRW.out.cell j hjl
      have hq := ptsTo_next ls j hjl
      rw [← hm] at hq
      have hle := HL2.out _ (mem_getD hjl)
      obtain ⟨q, hq2⟩ : ∃ q, (ls.getD j []).length = q := ⟨_, rfl⟩
      rw [hq2] at hc hq hle
      have HQ := Lib.hid hq
      clear hq hq2 hm
      by_cases hb : 4096 < m + q
      · have HE : Hid (covE ls = 3) := Lib.hid (by
          unfold covE
          rw [if_pos]
          have := ptsTo_le ls (j + 1)
          have := HQ.out
          omega)
        have hb1 : (4096 : Int) < (m : Int) + (q : Int) := by omega
        go_wp2_with fail
        go_ret
        exact ⟨congrArg (fun z => Ending.returned (.int .i64 z)) HE.out.symm, HBW.out⟩
      · have hb1 : ¬ (4096 : Int) < (m : Int) + (q : Int) := by omega
        go_wp2_with fail
        go_roundw
        case rel => exact ⟨j + 1, m + q, by go_num, by omega, by go_num, HQ.out.symm, by omega, HBW.out⟩
        case measure => simp [intOf]; omega
    · obtain rfl : j = n := by omega
      have HM : Hid (ptsN ls ≤ 4096) := Lib.hid (by rw [← ptsTo_all, HN.out, ← hm]; exact hm4)
      clear hm
      go_wp2_with fail
      go_loopw [8] (fun i wr => ∃ a : Nat, i = .int .i64 a ∧ a ≤ j ∧ ((ls.take a).all fun l => l.all okP) = true ∧ Below w.heap.size w wr) (fun i _ => j - (intOf i).toNat)
      case atStart => exact ⟨0, rfl, by omega, by simp, HBW.out⟩
      case round =>
        obtain ⟨a, rfl, ha, hok, hb⟩ := hrel
        have HOK := Lib.hid hok
        have HB := Lib.hid hb
        clear hok hb
        by_cases hlt2 : a < j
        · have hal : a < ls.length := by have := HN.out; omega
          obtain ⟨ad, rfl, _⟩ := HR.out.addr (by omega)
          obtain ⟨A1, c1, hc, hp⟩ := (HR.out.below HB.out).cell a hal
          have hle := HL2.out _ (mem_getD hal)
          obtain ⟨l, hl1⟩ : ∃ l, ls.getD a [] = l := ⟨_, rfl⟩
          obtain ⟨q, hq⟩ : ∃ q, l.length = q := ⟨_, rfl⟩
          rw [hl1] at hp
          rw [hl1, hq] at hle
          rw [hl1, hq] at hc
          have HL1 := Lib.hid hl1
          have HQ := Lib.hid hq
          have HP := Lib.hid hp
          have HPC : Hid (∀ W, Below wr.heap.size wr W → W.cell? (ad.add a) = some (.slice A1 q c1)) := Lib.hid fun W hW => (hW.cell (World.block_lt_of_cell? _ _ hc)).trans hc
          clear hl1 hq hp
          go_wp2_with fail
          go_loopw [9] (fun i w9 => ∃ b : Nat, i = .int .i64 b ∧ b ≤ q ∧ (l.take b).all okP = true ∧ Below wr.heap.size wr w9) (fun i _ => q - (intOf i).toNat)
          case atStart => exact ⟨0, rfl, by omega, by simp, Below.refl _ _⟩
          case round =>
            obtain ⟨b, rfl, hb, hok, hbb⟩ := hrel
            have HOK2 := Lib.hid hok
            have HB2 := Lib.hid hbb
            clear hok hbb
            have hc := HPC.out _ HB2.out
            by_cases hlt3 : b < q
            · have hbl : b < l.length := by have := HQ.out; omega
              obtain ⟨ad1, rfl, _⟩ := HP.out.addr (by omega)
              obtain ⟨p0, p1⟩ := pt_cells (HP.out.below HB2.out) b hbl
              rw [← getD_at hbl] at p0 p1
              obtain ⟨⟨x, y⟩, hxy⟩ : ∃ p, l.getD b (0, 0) = p := ⟨_, rfl⟩
              rw [hxy] at p0 p1
              dsimp only at p0 p1
              have HNX : Hid (okP (x, y) = true → (l.take (b + 1)).all okP = true) := Lib.hid fun e => all_next l (0, 0) okP b hbl HOK2.out (by rw [hxy]; exact e)
              have HNE : Hid (okP (x, y) = false → covE ls = 2) := Lib.hid fun e => cov_two HM.out a b hal (by rw [HL1.out]; exact hbl) (by rw [HL1.out, hxy]; exact e)
              clear hxy
              have HOKP : Hid (okP (x, y) = decide (-16777216 ≤ x ∧ x ≤ 16777216 ∧ -16777216 ≤ y ∧ y ≤ 16777216)) := Lib.hid rfl
              have hcase : x < -16777216 ∨ (-16777216 ≤ x ∧ 16777216 < x) ∨ (-16777216 ≤ x ∧ x ≤ 16777216 ∧ y < -16777216) ∨ (-16777216 ≤ x ∧ x ≤ 16777216 ∧ -16777216 ≤ y ∧ 16777216 < y) ∨ (-16777216 ≤ x ∧ x ≤ 16777216 ∧ -16777216 ≤ y ∧ y ≤ 16777216) := by omega
              have HBD := Lib.hid (HB.out.trans ((HB2.out.alloc HB2.out.size (.cells #[.int .i64 x, .int .i64 y] 30)).mono HB.out.size))
              have HB3 := Lib.hid (HB2.out.alloc HB2.out.size (.cells #[.int .i64 x, .int .i64 y] 30))
              rcases hcase with h1 | ⟨h1, h2⟩ | ⟨h1, h2, h3⟩ | ⟨h1, h2, h3, h4⟩ | ⟨h1, h2, h3, h4⟩
              · have HE : Hid (covE ls = 2) := Lib.hid (HNE.out (by rw [HOKP.out]; simp; omega))
                go_wp2_with fail
                go_ret
                exact ⟨congrArg (fun z => Ending.returned (.int .i64 z)) HE.out.symm, HBD.out⟩
              · have HE : Hid (covE ls = 2) := Lib.hid (HNE.out (by rw [HOKP.out]; simp; omega))
                go_wp2_with fail
                go_ret
                exact ⟨congrArg (fun z => Ending.returned (.int .i64 z)) HE.out.symm, HBD.out⟩
              · have HE : Hid (covE ls = 2) := Lib.hid (HNE.out (by rw [HOKP.out]; simp; omega))
                go_wp2_with fail
                go_ret
                exact ⟨congrArg (fun z => Ending.returned (.int .i64 z)) HE.out.symm, HBD.out⟩
              · have HE : Hid (covE ls = 2) := Lib.hid (HNE.out (by rw [HOKP.out]; simp; omega))
                go_wp2_with fail
                go_ret
                exact ⟨congrArg (fun z => Ending.returned (.int .i64 z)) HE.out.symm, HBD.out⟩
              · have HE := Lib.hid (HNX.out (by rw [HOKP.out]; simp; omega))
                have q1 : ¬ x < -16777216 := by omega
                have q2 : ¬ 16777216 < x := by omega
                have q3 : ¬ y < -16777216 := by omega
                have q4 : ¬ 16777216 < y := by omega
                go_wp2_with fail
                go_roundw
                case rel => exact ⟨b + 1, by go_num, by omega, HE.out, HB3.out⟩
                case measure => simp [intOf]; omega
            · obtain rfl : b = q := by omega
              have HA : Hid (((ls.take (a + 1)).all fun l => l.all okP) = true) := Lib.hid (all_next ls [] _ a hal HOK.out (by rw [HL1.out]; have := HOK2.out; rwa [← HQ.out, List.take_length] at this))
              have HBD := Lib.hid (HB.out.trans (HB2.out.mono HB.out.size))
              go_wp2_with fail
              go_roundw
              case rel => exact ⟨a + 1, by go_num, by omega, HA.out, HBD.out⟩
              case measure => simp [intOf]; omega
        · obtain rfl : a = j := by omega
          have HE : Hid (covE ls = 0) := Lib.hid (by
            unfold covE
            have := HM.out
            rw [if_neg (by omega), if_pos (by have := HOK.out; rwa [← HN.out, List.take_length] at this)])
          go_wp2_with fail
          go_ret
          exact ⟨congrArg (fun z => Ending.returned (.int .i64 z)) HE.out.symm, HB.out⟩
end Go.Proofs.YtflopcogalknhaaDoor.Str
