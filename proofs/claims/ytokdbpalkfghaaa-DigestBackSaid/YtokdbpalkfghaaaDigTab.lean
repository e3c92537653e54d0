/-
  Package digest: the table of the CRC.
-/
import Derived.Test.YtokdbpalkfghaaaWords
import Derived.Test.YtokdbpalkfghaaaDigPure
import Derived.WalkKit
import Derived.WalkSpells
import Derived.WalkLawsBesides
import Derived.Outline
import Derived.Laws.BitsAllLaws
import Derived.Laws.NewBlocks
import Derived.Lib.Hide
namespace Go.Proofs.Ytokdbpalkfghaaa.Dig
open Go.RowKit Go.Proofs.Ytokdbpalkfghaaa Go.Proofs.Ytokdbpalkfghaaa.DigPure

/-- The table's cells when k of them are filled. -/
def tabCells (k : Nat) : Array Value := ((List.range 256).map fun j => Value.int .u32 (if j < k then (tab j : Int) else 0)).toArray

theorem run_alloc256 (w : World) : (Instr.alloc 38 true (.tuple #[])).run Try.prog w = .ok (.pointer (some ⟨w.heap.size, 0, none⟩)) (w.alloc (.cells (tabCells 0) 38)) := by
  kernel_rfl

theorem wpList_alloc256 {ops : Array Oper} {rest : List Oper} {o : Oper} {a : Act} {w : World} {Q : Exit → Act → World → Prop} (hg : o.guard = none) (ho : o.op = .alloc 38)
    (h : wpList Try.prog ops Q rest (a.put o.dst (.pointer (some ⟨w.heap.size, 0, none⟩))) (w.alloc (.cells (tabCells 0) 38))) : wpList Try.prog ops Q (o :: rest) a w := by
  refine wpList_plain hg fun K hK => ?_
  have hr := run_alloc256 w
  unfold Oper.wp
  simp only [execOp, ho, Sem.run_bind, hr, Result.andThen_ok, Sem.run_pure]
  exact hK _ _ h

theorem tabCells_size (k : Nat) : (tabCells k).size = 256 := by simp [tabCells]
theorem tabCells_at (k j : Nat) (hj : j < 256) : (tabCells k)[j]? = some (.int .u32 (if j < k then (tab j : Int) else 0)) := by
  simp [tabCells, hj]
theorem tabCells_succ (k : Nat) (hk : k < 256) : (tabCells k).setIfInBounds k (.int .u32 (tab k : Int)) = tabCells (k + 1) := by
  apply Array.ext_getElem?
  intro j
  rw [Array.getElem?_setIfInBounds, tabCells_size]
  by_cases h : k = j
  · subst h
    rw [if_pos rfl, if_pos hk, tabCells_at _ _ hk, if_pos (by omega)]
  · rw [if_neg h]
    by_cases hj : j < 256
    · rw [tabCells_at _ _ hj, tabCells_at _ _ hj]
      by_cases h2 : j < k
      · rw [if_pos h2, if_pos (by omega)]
      · rw [if_neg h2, if_neg (by omega)]
    · rw [Array.getElem?_eq_none (by rw [tabCells_size]; omega), Array.getElem?_eq_none (by rw [tabCells_size]; omega)]

theorem tabCells_one (k : Nat) : (tabCells k).all (·.oneCell') = true := by
  simp [tabCells, Value.oneCell']
theorem tabCells_same {j k : Nat} : (tabCells j).size = (tabCells k).size := by rw [tabCells_size, tabCells_size]
theorem info256 {k : Nat} : (Try.prog.info? 38).map (·.size) = some (tabCells k).size := by
  rw [tabCells_size]
  kernel_rfl

theorem and_one (c : Nat) (h : c < 4294967296) : bits .and .u32 (c : Int) 1 = ((c % 2 : Nat) : Int) := by
  have := u32_and_nat c 1 h (by omega)
  rw [nat_mask1] at this
  exact this
theorem step_odd (c : Nat) (h : c < 4294967296) (ho : c % 2 = 1) : bits .xor .u32 ((c : Int) / 2) 3988292384 = (st c : Int) := by
  rw [st_odd ho]
  have := u32_xor_nat (c / 2) 3988292384 (by omega) (by omega)
  rw [← this]
  congr 1

set_option maxHeartbeats 1000000 in
set_option maxRecDepth 100000 in
theorem table_any (w : World) : Calls Try.prog 21 #[] w fun e w' => e = .returned (.agg (tabCells 256)) ∧ Below w.heap.size w w' := by
  go_enter Try.func21, Try.ntmps21
  go_wp2_with (refine wpList_alloc256 rfl rfl ?_)
  go_loopw [4] (fun v4 wr => ∃ k : Nat, k ≤ 256 ∧ v4 = .int .i64 k ∧ wr = (w.alloc (.cells (tabCells 0) 38)).alloc (.cells (tabCells k) 38)) (fun v4 _ => 256 - (intOf v4).toNat)
  case atStart => exact ⟨0, by omega, rfl, rfl⟩
  case round =>
    obtain ⟨k, hk, rfl, rfl⟩ := hrel
    by_cases hlt : k < 256
    · go_wp2_with fail
      go_loop [3, 9] (fun v3 v9 => ∃ m : Nat, m ≤ 8 ∧ v9 = .int .i64 m ∧ v3 = .int .u32 (it m k)) (fun _ v9 => 8 - (intOf v9).toNat)
      case atStart => exact ⟨0, by omega, rfl, by simp [it]⟩
      case round =>
        obtain ⟨m, hm, rfl, rfl⟩ := hrel
        have hc := it_lt m (c := k) (by omega)
        by_cases hm8 : m < 8
        · have ha := and_one _ hc
          have hs := it_snoc m k
          rcases Nat.mod_two_eq_zero_or_one (it m k) with ho | ho
          · have H1 := Lib.hid ho
            have HS := Lib.hid hs
            have ha2 : bits .and .u32 (it m k : Int) 1 = 0 := by rw [ha, ho]; rfl
            clear ho hs ha
            go_wp2_with fail
            go_round
            case rel => exact ⟨m + 1, by omega, by go_num, by rw [HS.out, st_even (by have := H1.out; omega)]; go_num⟩
            case measure => simp [intOf]; omega
          · have H1 := Lib.hid ho
            have HS := Lib.hid hs
            have ha2 : bits .and .u32 (it m k : Int) 1 = 1 := by rw [ha, ho]; rfl
            have hx := step_odd _ hc ho
            clear ho hs ha
            go_wp2_with fail
            go_round
            case rel => exact ⟨m + 1, by omega, by go_num, by rw [HS.out]⟩
            case measure => simp [intOf]; omega
        · obtain rfl : m = 8 := by omega
          have hcell : (tabCells k)[k]? = some (.int .u32 0) := by rw [tabCells_at k k hlt, if_neg (by omega)]
          have HT := Lib.hid (tabCells_succ k hlt)
          go_wp2_with fail
          go_roundw
          case rel => exact ⟨k + 1, by omega, by go_num, by rw [← HT.out]; rfl⟩
          case measure => simp [intOf]; omega
    · obtain rfl : k = 256 := by omega
      go_wp2_with (first
        | (refine wpList_load_row rfl _ _ rfl (w.heap.size + 1) rfl 38 (tabCells 256) (0, 0) _ (heap_alloc2_new _ _ _) Try.underlying38 rfl info256 ?_)
        | (refine wpList_store_row rfl _ _ _ rfl w.heap.size (tabCells 256) rfl rfl 38 (tabCells 0) (heap_alloc2_old _ _ _) info256 tabCells_same (tabCells_one 256) ?_))
      refine bodyPost_ret (v := .agg (tabCells 256)) (results_cell_row rfl _ _ w.heap.size 38 (tabCells 256) (0, 0) _ rfl (setRow_heap _ _ (tabCells 0) _ _ _ (heap_alloc2_old _ _ _)) Try.underlying38 rfl info256) rfl ⟨rfl, ?_⟩
      have hb : Below w.heap.size w ((w.alloc (.cells (tabCells 0) 38)).alloc (.cells (tabCells 256) 38)) := ((Below.refl _ _).alloc (Nat.le_refl _) _).alloc (by simp) _
      exact ⟨hb.os, hb.tape, hb.output, by rw [size_setRow]; exact hb.size, fun i hi => (setRow_other _ _ _ _ (by omega)).trans (hb.block i hi)⟩

end Go.Proofs.Ytokdbpalkfghaaa.Dig
