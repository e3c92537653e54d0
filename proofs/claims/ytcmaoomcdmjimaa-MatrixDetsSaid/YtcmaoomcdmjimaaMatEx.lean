/-
  Layer 8's laws: whole.
-/
import Derived.Test.YtcmaoomcdmjimaaMatE
namespace Go.Proofs.Ytcmaoomcdmjimaa.Mat
open Go.RowKit Go.Proofs.Ytcmaoomcdmjimaa Go.Proofs.Ytcmaoomcdmjimaa.NumPure Go.Proofs.Ytcmaoomcdmjimaa.MatPure

def mixTo (f m : Nat → Int) (k : Nat) : Nat → Int := fun j => if j < k then f j else m j
theorem mixTo_set (n : Nat) (f m : Nat → Int) (k : Nat) : (ac n (mixTo f m k)).setIfInBounds k (.int .i64 (f k)) = ac n (mixTo f m (k + 1)) := by
  rw [ac_set]
  apply ac_ext
  intro j _
  unfold mixTo
  by_cases h : j = k
  · subst h
    rw [if_pos rfl, if_pos (by omega)]
  · rw [if_neg h]
    by_cases h2 : j < k
    · rw [if_pos h2, if_pos (by omega)]
    · rw [if_neg h2, if_neg (by omega)]
theorem mixTo_all (n : Nat) (f m : Nat → Int) : ac n (mixTo f m n) = ac n f := ac_ext fun _ hj => if_pos hj
theorem mixTo_none (n : Nat) (f m : Nat → Int) : ac n (mixTo f m 0) = ac n m := ac_ext fun _ _ => if_neg (by omega)

def Two (B g1 g2 : Nat) (w : World) (A1 A2 : Array Value) (wr : World) : Prop :=
  Blk wr g1 22 A1 ∧ Blk wr g2 22 A2 ∧ Below B w wr ∧ g1 < g2 ∧ B ≤ g1
theorem Two.set1 {B g1 g2 : Nat} {w wr : World} {A1 A2 : Array Value} (h : Two B g1 g2 w A1 A2 wr) (k : Nat) (u : Value) : Two B g1 g2 w (A1.setIfInBounds k u) A2 (wr.setCell ⟨g1, k, none⟩ u) := by
  obtain ⟨h1, h2, hb, d1, d2⟩ := h
  exact ⟨h1.set_ k u, h2.far (p := ⟨g1, k, none⟩) (by simp; omega) u, hb.setCell (by simp; omega) u, d1, d2⟩

def whM (m : Nat → Int) (n : Nat) : Int := m n * 65536

set_option maxHeartbeats 2000000 in
theorem whole_any (m : Nat → Int) (hm : ∀ n, n < 9 → -1073741824 ≤ m n ∧ m n ≤ 1073741824) (w : World) : Calls Try.prog 20 #[.agg (ac 9 m)] w fun e w' => e = .returned (.agg (ac 9 (whM m))) ∧ Below w.heap.size w w' := by
  obtain ⟨B, hB⟩ : ∃ B, B = w.heap.size := ⟨_, rfl⟩
  rw [← hB]
  have HM := Lib.hid hm
  clear hm
  obtain ⟨W1, hW1⟩ : ∃ W, W = (w.alloc (.cells (ac 9 m) 22)).alloc (.cells (ac 9 fun _ => 0) 22) := ⟨_, rfl⟩
  have T0 : Two B w.heap.size (w.heap.size + 1) w (ac 9 (mixTo (whM m) m 0)) (ac 9 fun _ => 0) W1 := by
    rw [hW1, mixTo_none]
    have a1 := (Blk.new w 22 (ac 9 m)).alloc (.cells (ac 9 fun _ => 0) 22)
    have a2 := Blk.new (w.alloc (.cells (ac 9 m) 22)) 22 (ac 9 fun _ => 0)
    have e2 : (w.alloc (.cells (ac 9 m) 22)).heap.size = w.heap.size + 1 := by simp
    rw [e2] at a2
    exact ⟨a1, a2, by rw [hB]; exact ((Below.refl _ _).alloc (Nat.le_refl _) _).alloc (by simp) _, by omega, by omega⟩
  go_enter Try.func20, Try.ntmps20
  go_wp2_with (refine wpList_alloc9 rfl rfl ?_)
  rw [← hW1]
  obtain ⟨g1, e1⟩ : ∃ g, g = w.heap.size := ⟨_, rfl⟩
  obtain ⟨g2, e2⟩ : ∃ g, g = w.heap.size + 1 := ⟨_, rfl⟩
  rw [← e2, ← e1]
  rw [← e2, ← e1] at T0
  clear hW1 hB e1 e2
  go_loopw [4] (fun v4 wr => ∃ k : Nat, k ≤ 9 ∧ v4 = .int .i64 k ∧ Two B g1 g2 w (ac 9 (mixTo (whM m) m k)) (ac 9 fun _ => 0) wr) (fun v4 _ => 9 - (intOf v4).toNat)
  case atStart => exact ⟨0, by omega, rfl, T0⟩
  case round =>
    clear T0
    obtain ⟨k, hk, rfl, H⟩ := hrel
    by_cases hlt : k < 9
    · have c1 := H.1.cell k
      rw [ac_at _ (by omega), show mixTo (whM m) m k k = m k from if_neg (by omega)] at c1
      have f1 := H.1.frozen k
      have hb := HM.out k hlt
      obtain ⟨z, hz⟩ : ∃ z, z = m k := ⟨_, rfl⟩
      rw [← hz] at c1 hb
      have HS := Lib.hid (mixTo_set 9 (whM m) m k)
      have HW : Hid (z * 65536 = whM m k) := Lib.hid (by rw [hz]; rfl)
      clear hz
      go_wp2_with fail
      go_roundw
      case rel =>
        refine ⟨k + 1, by omega, by go_num, ?_⟩
        have := H.set1 k (.int .i64 (whM m k))
        rw [HS.out] at this
        rw [HW.out]
        exact this
      case measure => simp [intOf]; omega
    · obtain rfl : k = 9 := by omega
      rw [mixTo_all] at H
      go_wp2_with (first
        | (refine wpList_load_row rfl _ _ rfl g1 rfl 22 (ac 9 (whM m)) (0, 0) _ H.1 Try.underlying22 rfl info9 ?_)
        | (refine wpList_store_row rfl _ _ _ rfl g2 (ac 9 (whM m)) rfl rfl 22 (ac 9 fun _ => 0) H.2.1 info9 ac_same (ac_one 9 _) ?_))
      refine bodyPost_ret (v := .agg (ac 9 (whM m))) (results_cell_row rfl _ _ g2 22 (ac 9 (whM m)) (0, 0) _ rfl (setRow_heap _ _ (ac 9 fun _ => 0) _ _ _ H.2.1) Try.underlying22 rfl info9) rfl ⟨rfl, ?_⟩
      exact below_setRow H.2.2.1 (by have := H.2.2.2; omega) _

def li (l : List Int) : Nat → Int := fun n => l.getD n 0
theorem wpList_buildL {n : Nat} {l : List Int} {T : TypeId} {ops : Array Oper} {rest : List Oper} {o : Oper} {a : Act} {w : World} {Q : Exit → Act → World → Prop} (hg : o.guard = none) (parts : Array (Nat × Operand)) (ho : o.op = .build T parts)
    (hb : Try.prog.built T (parts.map fun (i, x) => (i, a.eval x)).toList = some (ac n (li l)))
    (h : wpList Try.prog ops Q rest (a.put o.dst (.agg (ac n (li l)))) w) : wpList Try.prog ops Q (o :: rest) a w := by
  refine wpList_build hg T parts ho (by rw [hb]; rfl) ?_
  rw [hb]
  exact h

end Go.Proofs.Ytcmaoomcdmjimaa.Mat
