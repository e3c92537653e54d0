/-
  Layer 36's laws: lists of keys compared.
-/
import Derived.Test.YtkdokipgakncjaaCacCopy
namespace Go.Proofs.Ytkdokipgakncjaa.Cac
open Go.RowKit Go.Proofs.Ytkdokipgakncjaa

/-- A list of keys that lies at the head of a block. -/
def KR (w : World) (A : Option Addr) (L : List K5) : Prop := 0 < L.length → ∃ o, A = some ⟨o, 0, none⟩ ∧ o < w.heap.size ∧ ∀ j u, (kcs L)[j]? = some u → w.cell? ⟨o, j, none⟩ = some u
theorem KR.of_own {w : World} {base n cap : Nat} {A : Option Addr} {L : List K5} (h : w.ownsRow base 29 5 (.slice A n cap) n (kcs L)) (hn : n = L.length) : KR w A L := fun h0 => by
  subst hn
  obtain ⟨o, rfl⟩ := own_some h h0
  exact ⟨o, rfl, own_lt h o rfl, fun j u hu => (h.cellAt j (by have := h.1; have := (List.getElem?_eq_some_iff.1 hu).1; omega)).trans hu⟩
theorem KR.of_blk {w : World} {o : Nat} {L : List K5} (h : Blk w o 29 (kcs L).toArray) : KR w (some ⟨o, 0, none⟩) L := fun _ => ⟨o, rfl, h.lt, fun j u hu => (h.cell j).trans (by simpa using hu)⟩
theorem KR.below {w w' : World} {A : Option Addr} {L : List K5} (h : KR w A L) (hb : Below w.heap.size w w') : KR w' A L := fun h0 => by
  obtain ⟨o, rfl, ho, hc⟩ := h h0
  exact ⟨o, rfl, Nat.lt_of_lt_of_le ho hb.size, fun j u hu => (hb.cell (p := ⟨o, j, none⟩) ho).trans (hc j u hu)⟩
theorem KR.at_ {w : World} {A : Option Addr} {L : List K5} (h : KR w A L) (j : Nat) (hj : j < L.length) : ∃ o, A = some ⟨o, 0, none⟩ ∧ o < w.heap.size ∧ w.cell? ⟨o, j * 5, none⟩ = some (.int .i64 L[j].1) ∧ w.cell? ⟨o, j * 5 + 1, none⟩ = some (.int .i64 L[j].2.1) ∧ w.cell? ⟨o, j * 5 + 2, none⟩ = some (.int .i64 L[j].2.2.1) ∧ w.cell? ⟨o, j * 5 + 3, none⟩ = some (.int .i64 L[j].2.2.2.1) ∧ w.cell? ⟨o, j * 5 + 4, none⟩ = some (.int .i64 L[j].2.2.2.2) := by
  obtain ⟨o, rfl, ho, hc⟩ := h (by omega)
  have k := fun c (hc5 : c < 5) (u : Value) (hu : (kc L[j])[c]? = some u) => hc (j * 5 + c) u ((kcs_at L j hj c hc5).trans hu)
  obtain ⟨e0, e1, e2, e3, e4⟩ := kc5 L[j]
  exact ⟨o, rfl, ho, k 0 (by omega) _ e0, k 1 (by omega) _ e1, k 2 (by omega) _ e2, k 3 (by omega) _ e3, k 4 (by omega) _ e4⟩

theorem all_snoc {L1 L2 : List K5} {j : Nat} (hf : ∀ i (h1 : i < L1.length) (h2 : i < L2.length), i < j → L1[i] = L2[i]) (hj1 : j < L1.length) (hj2 : j < L2.length) (he : L1[j] = L2[j]) : ∀ i (h1 : i < L1.length) (h2 : i < L2.length), i < j + 1 → L1[i] = L2[i] := fun i h1 h2 h => by
  rcases Nat.lt_or_ge i j with h3 | h3
  · exact hf i h1 h2 h3
  · obtain rfl : i = j := by omega
    exact he
def SameK (L1 L2 : List K5) (w : World) (e : Ending) (w' : World) : Prop := e = .returned (.bool (decide (L1 = L2))) ∧ Below w.heap.size w w'
theorem SameK.no {L1 L2 : List K5} {w w' : World} (h : L1 ≠ L2) (hb : Below w.heap.size w w') : SameK L1 L2 w (.returned (.bool false)) w' := ⟨by rw [decide_eq_false h], hb⟩
theorem SameK.yes {L1 L2 : List K5} {w w' : World} (h : L1 = L2) (hb : Below w.heap.size w w') : SameK L1 L2 w (.returned (.bool true)) w' := ⟨by rw [decide_eq_true h], hb⟩
theorem ext_k {L1 L2 : List K5} (hl : L1.length = L2.length) (h : ∀ i (h1 : i < L1.length) (h2 : i < L2.length), L1[i] = L2[i]) : L1 = L2 := List.ext_getElem hl h

set_option maxHeartbeats 1000000 in
theorem sameKeys_any (A1 A2 : Option Addr) (n1 n2 c1 c2 : Nat) (L1 L2 : List K5) (w : World) (h1 : KR w A1 L1) (h2 : KR w A2 L2) (hn1 : n1 = L1.length) (hn2 : n2 = L2.length) (hm : n1 ≤ 1048577) (hm2 : n2 ≤ 1048577) :
    Calls Try.prog 12 #[.slice A1 n1 c1, .slice A2 n2 c2] w (SameK L1 L2 w) := by
  have H1 := Lib.hid h1
  have H2 := Lib.hid h2
  have HN1 := Lib.hid hn1
  have HN2 := Lib.hid hn2
  clear h1 h2 hn1 hn2
  by_cases hlen : n1 = n2
  · subst hlen
    go_enter Try.func12, Try.ntmps12
    go_wp2_with fail
    go_loopw [5] (fun i wr => ∃ j : Nat, i = .int .i64 j ∧ j ≤ n1 ∧ (∀ i (h1 : i < L1.length) (h2 : i < L2.length), i < j → L1[i] = L2[i]) ∧ Below w.heap.size w wr) (fun i _ => n1 - (intOf i).toNat)
    case atStart => exact ⟨0, rfl, by omega, fun i _ _ h => by omega, Below.refl _ _⟩
    case round =>
      obtain ⟨j, rfl, hj, hf, hb⟩ := hrel
      have HF := Lib.hid hf
      clear hf
      by_cases hlt : j < n1
      · have hj1 : j < L1.length := by have := HN1.out; omega
        have hj2 : j < L2.length := by have := HN2.out; omega
        obtain ⟨o1, rfl, ho1, y0, y1, y2, y3, y4⟩ := (H1.out.below hb).at_ j hj1
        obtain ⟨o2, rfl, ho2, z0, z1, z2, z3, z4⟩ := (H2.out.below hb).at_ j hj2
        obtain ⟨y, hy⟩ : ∃ y, y = L1[j]'hj1 := ⟨_, rfl⟩
        obtain ⟨z, hz⟩ : ∃ z, z = L2[j]'hj2 := ⟨_, rfl⟩
        rw [← hy] at y0 y1 y2 y3 y4
        rw [← hz] at z0 z1 z2 z3 z4
        have HY := Lib.hid hy
        have HZ := Lib.hid hz
        clear hy hz
        have hq := fun W => neqKey y z W
        unfold kagg at hq
        have HB := Lib.hid hb
        clear hb
        by_cases heq : y = z
        · rw [decide_eq_true heq] at hq
          have HE := Lib.hid heq
          clear heq
          go_wp2_with fail
          go_quiet (fail)
          go_wp2_with fail
          go_roundw
          case rel => exact ⟨j + 1, by go_num, by omega, all_snoc HF.out hj1 hj2 (HY.out.symm.trans (HE.out.trans HZ.out)), HB.out.trans ⟨rfl, rfl, rfl, Nat.le_refl _, fun _ _ => rfl⟩⟩
          case measure => simp [intOf]; omega
        · rw [decide_eq_false heq] at hq
          have HE := Lib.hid heq
          clear heq
          go_wp2_with fail
          go_quiet (fail)
          go_wp2_with fail
          go_ret
          exact SameK.no (fun e => HE.out (by rw [HY.out, HZ.out]; simp only [e])) (HB.out.trans ⟨rfl, rfl, rfl, Nat.le_refl _, fun _ _ => rfl⟩)
      · obtain rfl : j = n1 := by omega
        have HB := Lib.hid hb
        clear hb
        go_wp2_with fail
        go_ret
        exact SameK.yes (ext_k (by have := HN1.out; have := HN2.out; omega) (fun i h1 h2 => HF.out i h1 h2 (by have := HN1.out; omega))) HB.out
  · have hq : ((n1 : Int) == (n2 : Int)) = false := by simpa using (by omega : ¬ (n1 : Int) = (n2 : Int))
    go_enter Try.func12, Try.ntmps12
    go_wp2_with fail
    go_ret
    exact SameK.no (fun e => hlen (by rw [HN1.out, HN2.out, e])) (Below.refl _ _)

end Go.Proofs.Ytkdokipgakncjaa.Cac
