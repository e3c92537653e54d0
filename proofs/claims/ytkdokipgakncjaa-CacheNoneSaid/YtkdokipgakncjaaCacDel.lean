/-
  Layer 36: slices.Delete of one key.
-/
import Derived.Test.YtkdokipgakncjaaCacClo
import Derived.Lib.Hide
import Derived.Deep.DeepCutAuto
import Derived.Deep.RegionHeld3
import Derived.Deep.DeepAppendRoom
namespace Go.Proofs.Ytkdokipgakncjaa.Cac
open Go.RowKit Go.Proofs.Ytkdokipgakncjaa

theorem zero_key (w : World) : (zeroValue 29).run Try.prog w = .ok (.agg zeroKey) w := by
  obtain ⟨i0, hi0, hz0, hz1, hz2⟩ := info_parts infoKey
  simp [zeroValue, typeInfo, hi0, hz0]
theorem run_clear_key (w : World) (ty : TypeId) (g o c : Nat) (hc : ∀ j, j < 5 → (w.cell? ⟨g, o + j, none⟩).isSome = true) (hf : ∀ j, j < 5 → w.frozen? ⟨g, o + j, none⟩ = false) :
    (Builtin.clear_ #[36] ty #[.slice (some ⟨g, o, none⟩) 1 c]).run Try.prog w = .ok (.tuple #[]) (w.setCells g o zeroKey.toList) := by
  have hst := run_storeCells_cells (P := Try.prog) g o zeroKey.toList 0 w (by simpa [zeroKey] using hc) (by simpa [zeroKey] using hf) (fun v hv => by simp [zeroKey] at hv; subst hv; rfl)
  simp only [Nat.add_zero] at hst
  have hs2 : (storeCells ⟨g, o, none⟩ [.int .i64 0, .int .i64 0, .int .i64 0, .int .i64 0, .int .i64 0]).run Try.prog w = .ok () (w.setCells g o zeroKey.toList) := hst
  have hz2 : (Builtin.zeroCells (Value.agg #[.int .i64 0, .int .i64 0, .int .i64 0, .int .i64 0, .int .i64 0]).cells 1).toList = [.int .i64 0, .int .i64 0, .int .i64 0, .int .i64 0, .int .i64 0] := by kernel_rfl
  simp [Builtin.clear_, run_underlying Try.underlying36, hz2, hs2]
theorem own_cells {w : World} {base e n cap g : Nat} {xs : List Value} (h : w.ownsRow base e 5 (.slice (some ⟨g, 0, none⟩) n cap) n xs) (o : Nat) (ho : o + 5 ≤ cap * 5) : (∀ j, j < 5 → (w.cell? ⟨g, o + j, none⟩).isSome = true) ∧ ∀ j, j < 5 → w.frozen? ⟨g, o + j, none⟩ = false := by
  obtain ⟨_, h0 | ⟨g', cap', cur, hv, hb, hh, hn', hm, hs, hx⟩⟩ := h
  · exact absurd h0.1 (by simp)
  · injection hv with hA _ hc
    injection hA with hA
    injection hA with hg
    subst hc hg
    refine ⟨fun j hj => ?_, fun j hj => ?_⟩
    · have hlt : o + j < cur.size := by omega
      simp [World.cell?, hh, hlt]
    · simp [World.frozen?, hh]
theorem grown_cells {w w' : World} {g : Nat} (h : w.grownBy w' (some g)) (o : Nat) (vs : List Value) : w.grownBy (w'.setCells g o vs) (some g) := by
  have e : ∀ (vs : List Value) (o : Nat) (w : World), (w.setCells g o vs).os = w.os ∧ (w.setCells g o vs).tape = w.tape ∧ (w.setCells g o vs).output = w.output ∧ (w.setCells g o vs).heap.size = w.heap.size ∧ ∀ i, i ≠ g → (w.setCells g o vs).heap[i]? = w.heap[i]? := fun vs => by
    induction vs with
    | nil => intro o w; exact ⟨rfl, rfl, rfl, rfl, fun _ _ => rfl⟩
    | cons v r ih =>
      intro o w
      obtain ⟨a, b, c, d, f⟩ := ih (o + 1) (w.setCell ⟨g, o, none⟩ v)
      exact ⟨a, b, c, by simp only [World.setCells]; rw [d]; simp [World.setCell], fun i hi => (f i hi).trans (Below.heap_setCell w ⟨g, o, none⟩ v i hi)⟩
  obtain ⟨a, b, c, d, f⟩ := e vs o w'
  exact ⟨a.trans h.1, b.trans h.2, c.trans h.3, by rw [d]; exact h.4, fun i hi hne => (f i (fun e => hne (by rw [e]))).trans (h.5 i hi hne)⟩

set_option maxHeartbeats 1000000 in
theorem delete_any (base g n cap i : Nat) (iz jz : Int) (hiz : iz = i) (hjz : jz = (i : Int) + 1) (xs : List Value) (w : World) (h : w.ownsRow base 29 5 (.slice (some ⟨g, 0, none⟩) n cap) n xs) (hi : i < n) (hn : n ≤ 1048577) (h1 : ∀ u ∈ xs, u.oneCell' = true) :
    Calls Try.prog 46 #[.slice (some ⟨g, 0, none⟩) n cap, .int .i64 iz, .int .i64 jz] w fun e w' => e = .returned (.slice (some ⟨g, 0, none⟩) (n - 1) cap) ∧
      w'.ownsRow base 29 5 (.slice (some ⟨g, 0, none⟩) (n - 1) cap) (n - 1) (xs.take (i * 5) ++ xs.drop ((i + 1) * 5)) ∧ w.grownBy w' (some g) := by
  obtain ⟨i0, hi0, hz0, hz1, hz2⟩ := info_parts infoKey
  subst hiz
  obtain ⟨j, hj⟩ : ∃ j, i + 1 = j := ⟨_, rfl⟩
  obtain rfl : jz = (j : Int) := by omega
  have hcap : n ≤ cap ∧ cap ≤ 9223372036854775807 := by
    obtain ⟨_, h0 | ⟨g', cap', cur, hv, hb, hh, hn', hm, hs, hx⟩⟩ := h
    · exact absurd h0.1 (by simp)
    · injection hv with _ _ hc
      subst hc
      exact ⟨hn', by unfold maxLen at hm; omega⟩
  obtain ⟨hc1, hc2⟩ := hcap
  have q1 : (i : Int) ≤ (j : Int) := by omega
  have q2 : (j : Int) ≤ (n : Int) := by omega
  have q3 : (i : Int) ≤ (n : Int) := by omega
  have q4 : (n : Int) ≤ (cap : Int) := by omega
  have q5 : ((i : Int) == (j : Int)) = false := by simpa using (by omega : ¬ (i : Int) = (j : Int))
  obtain ⟨o5, ho5⟩ : ∃ o, (if cap = j then 0 else j * 5) = o := ⟨_, rfl⟩
  have e1 : cap = j → o5 = 0 := fun h => by rw [← ho5, if_pos h]
  have e2 : cap ≠ j → o5 = j * 5 := fun h => by rw [← ho5, if_neg h]
  have hxl := h.1
  have hnews : ∀ (k : Nat) (u : Value), (xs.drop (j * 5))[k]? = some u → w.drew.cell? ((⟨g, o5, none⟩ : Addr).add k) = some u := fun k u hu => by
    rw [List.getElem?_drop] at hu
    have hlt : j * 5 + k < xs.length := (List.getElem?_eq_some_iff.1 hu).1
    have hne : cap ≠ j := by omega
    rw [e2 hne, Addr.add_mid]
    exact (h.cellAt (j * 5 + k) (by omega)).trans hu
  have E1 := Lib.hid e1
  have E2 := Lib.hid e2
  have HNW := Lib.hid hnews
  have H := Lib.hid h
  have HJ := Lib.hid hj
  clear h hj hjz e1 e2 hnews ho5 hxl
  go_enter Try.func46, Try.ntmps46
  go_upto_region 5 with fail
  refine wp_region_held_drew (S := fun _ => True) (by kernel_rfl) trivial (fun hHeld => ?_)
  refine wpAnyH_take (i := 0) (oi := _) (v := .slice (some ⟨g, 0, none⟩) n cap) rfl (by kernel_rfl) (by kernel_rfl) (by kernel_rfl) (fun _ _ _ h => h) (Or.inl ⟨by rfl, fun W1 _ => by go_simp⟩) (by assumption) ?_
  go_simp
  refine wpAnyH_take (i := 1) (oi := _) (v := .int .i64 (i : Nat)) rfl (by kernel_rfl) (by kernel_rfl) (by kernel_rfl) (fun _ _ _ h => h) (Or.inl ⟨by rfl, fun W1 _ => by go_simp⟩) (by assumption) ?_
  go_simp
  refine wpAnyH_take (i := 2) (oi := _) (v := .slice (some ⟨g, 0, none⟩) i cap) rfl (by kernel_rfl) (by kernel_rfl) (by kernel_rfl) (fun _ _ _ h => h) (Or.inl ⟨by rfl, fun W1 _ => by (go_simp; intro hh; exact absurd hh (by omega))⟩) (by assumption) ?_
  go_simp
  refine wpAnyH_take (i := 3) (oi := _) (v := .slice (some ⟨g, 0, none⟩) n cap) rfl (by kernel_rfl) (by kernel_rfl) (by kernel_rfl) (fun _ _ _ h => h) (Or.inl ⟨by rfl, fun W1 _ => by go_simp⟩) (by assumption) ?_
  go_simp
  refine wpAnyH_take (i := 4) (oi := _) (v := .int .i64 (j : Nat)) rfl (by kernel_rfl) (by kernel_rfl) (by kernel_rfl) (fun _ _ _ h => h) (Or.inl ⟨by rfl, fun W1 _ => by go_simp⟩) (by assumption) ?_
  go_simp
  refine wpAnyH_take (i := 5) (oi := _) (v := .slice (some ⟨g, o5, none⟩) (n - j) (cap - j)) rfl (by kernel_rfl) (by kernel_rfl) (by kernel_rfl) (fun _ _ _ h => h) (Or.inl ⟨by rfl, fun W1 _ => by ((by_cases hcj : cap = j) <;> first | (rw [E1.out hcj]; go_simp; done) | (rw [E1.out hcj]; go_simp; intro hh; exact absurd hcj hh) | (rw [E2.out hcj]; go_simp; done) | (rw [E2.out hcj]; go_simp; intro hh; exact absurd hh hcj))⟩) (by assumption) ?_
  go_simp
  refine wpAnyH_ready (rs := [6]) (by kernel_rfl) (by simp) ?_
  refine AllReadyH.cons (o := _) rfl (fun K hK => ?_) AllReadyH.nil
  rw [if_pos (by rfl)]
  refine wp_append_own_spare w.drew _ _ 36 rfl base 29 i0 5 Try.underlying36 hi0 hz1 g i cap (xs.take (i * 5)) rfl (own_front (A := some ⟨g, 0, none⟩) H.out (by simp) (by omega)) ⟨g, o5, none⟩ (n - j) (cap - j) (xs.drop (j * 5)) rfl (by rw [List.length_drop, H.out.1]; omega) HNW.out (fun u hu => h1 u (List.mem_of_mem_drop hu)) (by omega) (fun w' ho hg => ?_)
  have hnn : i + (n - j) = n - 1 := by have := HJ.out; omega
  rw [hnn] at ho
  rw [hnn]
  have hg2 : w.grownBy w' (some g) := ⟨hg.1, hg.2, hg.3, hg.4, hg.5⟩
  obtain ⟨m, hm⟩ : ∃ m, n - 1 = m := ⟨_, rfl⟩
  rw [hm] at ho
  rw [hm]
  have HM := Lib.hid hm
  have hnm : n - m = 1 := by omega
  have hmm : m ≤ n := by omega
  have oc := own_cells ho (m * 5) (by omega)
  have hcl := fun ty => run_clear_key w' ty g (m * 5) (cap - m) oc.1 oc.2
  have q6 : (m : Int) ≤ (n : Int) := by omega
  have ot := own_tail (vs := zeroKey.toList) ho (Nat.le_refl (m * 5))
  have gt := grown_cells hg2 (m * 5) zeroKey.toList
  have HO := Lib.hid ot
  have HG := Lib.hid gt
  clear hnn ho hg hg2 hm oc ot gt
  refine hK.out _ _ trivial (fun hHeld => ?_)
  clear hK
  try simp only [Act.put, List.setIfInBounds_toArray]
  refine wpAnyH_ready (rs := [7]) (by kernel_rfl) (by simp) ?_
  refine AllReadyH.cons (o := _) rfl (fun K hK => ?_) AllReadyH.nil
  rw [if_pos (by rfl)]
  go_simp
  refine hK.out _ _ trivial (fun hHeld => ?_)
  clear hK
  refine wpAnyH_done (by kernel_rfl) ?_ _
  clear hHeld
  go_wp2_with fail
  go_ret
  rw [HM.out, HJ.out]
  exact ⟨rfl, HO.out, HG.out⟩

end Go.Proofs.Ytkdokipgakncjaa.Cac
