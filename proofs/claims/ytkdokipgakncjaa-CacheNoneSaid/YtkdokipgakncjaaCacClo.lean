/-
  Layer 36: slices.Clone at keys and at pixels.
-/
import Derived.Test.YtkdokipgakncjaaCacRow
import Derived.Lib.SliceRun
namespace Go.Proofs.Ytkdokipgakncjaa.Cac
open Go.RowKit Go.Proofs.Ytkdokipgakncjaa

def zeroKey : Array Value := #[.int .i64 0, .int .i64 0, .int .i64 0, .int .i64 0, .int .i64 0]
theorem infoKey : (Try.prog.info? 29).map (fun i => (i.zero, i.size, i.bytes)) = some (some (.agg zeroKey), 5, 40) := by kernel_rfl
theorem cloneKey_nil (w : World) : Calls Try.prog 35 #[.slice none 0 0] w fun e w' => e = .returned (.slice none 0 0) ∧ w' = w := by
  have he := Go.Lib.run_eql_slice_nil (P := Try.prog) w 36 29 none 0 0 0 0 Try.underlying36
  go_enter Try.func35, Try.ntmps35
  go_wp2_with fail
  go_ret
  exact ⟨rfl, rfl⟩
theorem cloneKey_any (ad : Addr) (n c : Nat) (xs : List Value) (w : World) (h : Reads w w.heap.size 5 (some ad) n xs) (hn : n ≤ 1048577) (h1 : ∀ u ∈ xs, u.oneCell' = true) : Calls Try.prog 35 #[.slice (some ad) n c] w fun e w' => ∃ v, e = .returned v ∧ w'.ownsRow w.heap.size 29 5 v n xs ∧ Below w.heap.size w w' ∧ v ≠ .slice none 0 0 := by
  obtain ⟨i0, hi0, hz0, hz1, hz2⟩ := info_parts infoKey
  have own := World.ownsRow_made (e := 29) (size := 5) w #[] 0 (Nat.le_refl _) (by decide) rfl
  have he := Go.Lib.run_eql_slice_nil (P := Try.prog) w 36 29 (some ad) n c 0 0 Try.underlying36
  go_enter Try.func35, Try.ntmps35
  go_wp2_with (at_builtin; refine wpList_append_own _ rfl _ _ 36 rfl w.heap.size 29 i0 (.agg zeroKey) 5 40 Try.underlying36 hi0 hz0 hz1 hz2 rfl (by decide) _ _ _ rfl own ad n c xs rfl h.1 ?c1 h1 ?c3 ?c4 ?c5 ?_)
  case c1 =>
    intro j u hj
    have h0 : 0 < n := by
      rcases Nat.eq_zero_or_pos n with rfl | h0
      · have := h.1; rw [Nat.zero_mul] at this; have := (List.getElem?_eq_some_iff.1 hj).1; omega
      · exact h0
    obtain ⟨ad', hA, hb, hc⟩ := h.2 h0
    obtain rfl : ad = ad' := by injection hA
    exact (((Below.refl w.heap.size w).alloc (Nat.le_refl _) _).cell (by rw [block_of_add]; exact hb)).trans (hc j u hj)
  case c3 => unfold maxLen; omega
  case c4 => omega
  case c5 => simp
  intro v' w' ho hg hnil
  go_wp2_with fail
  go_ret
  refine ⟨_, rfl, by simpa using ho, ((Below.refl w.heap.size w).alloc (Nat.le_refl _) _).grown hg (by simp) (fun k hk => by simp [Value.ownBlock] at hk; omega), fun e => hnil e⟩

def zeroPix : Array Value := #[.int .i64 0, .int .i64 0, .int .i64 0, .int .i64 0]
theorem infoPix : (Try.prog.info? 63).map (fun i => (i.zero, i.size, i.bytes)) = some (some (.agg zeroPix), 4, 32) := by kernel_rfl
theorem clonePix_nil (w : World) : Calls Try.prog 45 #[.slice none 0 0] w fun e w' => e = .returned (.slice none 0 0) ∧ w' = w := by
  have he := Go.Lib.run_eql_slice_nil (P := Try.prog) w 30 63 none 0 0 0 0 Try.underlying30
  go_enter Try.func45, Try.ntmps45
  go_wp2_with fail
  go_ret
  exact ⟨rfl, rfl⟩
theorem clonePix_any (ad : Addr) (n c : Nat) (xs : List Value) (w : World) (h : Reads w w.heap.size 4 (some ad) n xs) (hn : n ≤ 4398046511104) (h1 : ∀ u ∈ xs, u.oneCell' = true) : Calls Try.prog 45 #[.slice (some ad) n c] w fun e w' => ∃ v, e = .returned v ∧ w'.ownsRow w.heap.size 63 4 v n xs ∧ Below w.heap.size w w' ∧ v ≠ .slice none 0 0 := by
  obtain ⟨i0, hi0, hz0, hz1, hz2⟩ := info_parts infoPix
  have own := World.ownsRow_made (e := 63) (size := 4) w #[] 0 (Nat.le_refl _) (by decide) rfl
  have he := Go.Lib.run_eql_slice_nil (P := Try.prog) w 30 63 (some ad) n c 0 0 Try.underlying30
  go_enter Try.func45, Try.ntmps45
  go_wp2_with (at_builtin; refine wpList_append_own _ rfl _ _ 30 rfl w.heap.size 63 i0 (.agg zeroPix) 4 32 Try.underlying30 hi0 hz0 hz1 hz2 rfl (by decide) _ _ _ rfl own ad n c xs rfl h.1 ?c1 h1 ?c3 ?c4 ?c5 ?_)
  case c1 =>
    intro j u hj
    have h0 : 0 < n := by
      rcases Nat.eq_zero_or_pos n with rfl | h0
      · have := h.1; rw [Nat.zero_mul] at this; have := (List.getElem?_eq_some_iff.1 hj).1; omega
      · exact h0
    obtain ⟨ad', hA, hb, hc⟩ := h.2 h0
    obtain rfl : ad = ad' := by injection hA
    exact (((Below.refl w.heap.size w).alloc (Nat.le_refl _) _).cell (by rw [block_of_add]; exact hb)).trans (hc j u hj)
  case c3 => unfold maxLen; omega
  case c4 => omega
  case c5 => simp
  intro v' w' ho hg hnil
  go_wp2_with fail
  go_ret
  refine ⟨_, rfl, by simpa using ho, ((Below.refl w.heap.size w).alloc (Nat.le_refl _) _).grown hg (by simp) (fun k hk => by simp [Value.ownBlock] at hk; omega), fun e => hnil e⟩

end Go.Proofs.Ytkdokipgakncjaa.Cac
