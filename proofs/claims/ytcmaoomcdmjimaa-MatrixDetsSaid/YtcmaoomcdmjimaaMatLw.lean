/-
  Layer 8's laws: what they share.
-/
import Derived.Test.YtcmaoomcdmjimaaMatAw
import Derived.Test.YtcmaoomcdmjimaaRMatG
import Derived.Test.YtcmaoomcdmjimaaFrame
import Derived.ChangeShapes
import Derived.ChangeMaps5
namespace Go.Proofs.Ytcmaoomcdmjimaa.Mat
open Go.RowKit Go.Proofs.Ytcmaoomcdmjimaa Go.Proofs.Ytcmaoomcdmjimaa.NumPure Go.Proofs.Ytcmaoomcdmjimaa.MatPure

theorem types9 : Try.prog.cellTypes Try.prog.depth 22 = some (List.replicate 9 3) := by kernel_rfl
theorem types3 : Try.prog.cellTypes Try.prog.depth 23 = some (List.replicate 3 3) := by kernel_rfl
theorem cells_ints {n : Nat} {cs : Array Value} (hs : cs.size = n) (h : ∀ i, i < n → ∃ z : Int, cs[i]? = some (.int .i64 z)) : ∃ m : Nat → Int, cs = ac n m := by
  refine ⟨fun i => match cs[i]? with | some (.int _ z) => z | _ => 0, ?_⟩
  apply Array.ext_getElem?
  intro i
  by_cases hi : i < n
  · obtain ⟨z, hz⟩ := h i hi
    rw [ac_at _ hi]
    simp [hz]
  · rw [Array.getElem?_eq_none (by omega), Array.getElem?_eq_none (by rw [ac_size]; omega)]
theorem open_row_ints {n : Nat} {W : World} {r : Reach} {base : Nat} {T : TypeId} {cs : Array Value} (hts : Try.prog.cellTypes Try.prog.depth T = some (List.replicate n 3)) (hs : cs.size = n) (h : Row.okWide Try.prog W r base T cs) :
    ∃ m : Nat → Int, cs = ac n m := by
  obtain ⟨ts, ht, _, hc⟩ := h
  rw [hts] at ht
  obtain rfl : List.replicate n 3 = ts := by simpa using ht
  refine cells_ints hs fun i hi => ?_
  obtain ⟨v, hv⟩ : ∃ v, cs[i]? = some v := ⟨_, Array.getElem?_eq_getElem (by omega)⟩
  obtain ⟨u, hu, ho⟩ := hc i v hv
  rw [List.length_replicate, Nat.mod_eq_of_lt hi, List.getElem?_replicate, if_pos hi] at hu
  obtain rfl : 3 = u := by simpa using hu
  have h2 : Value.okWide Try.prog W r base 3 v := by
    unfold Value.okWide
    rw [Try.underlying3]
    exact ho
  obtain ⟨z, rfl⟩ := Go.WideShapes.okWide_int Try.underlying3 h2
  exact ⟨z, hv⟩
theorem open9 {W : World} {r : Reach} {base : Nat} {v : Value} (h : Value.okWide Try.prog W r base 22 v) : ∃ m : Nat → Int, v = .agg (ac 9 m) := by
  unfold Value.okWide at h
  rw [Try.underlying22] at h
  obtain ⟨cs, rfl, hs, hr⟩ := h
  obtain ⟨m, rfl⟩ := open_row_ints types9 (hs.trans (by kernel_rfl)) hr
  exact ⟨m, rfl⟩
theorem open3 {W : World} {r : Reach} {base : Nat} {v : Value} (h : Value.okWide Try.prog W r base 23 v) : ∃ m : Nat → Int, v = .agg (ac 3 m) := by
  unfold Value.okWide at h
  rw [Try.underlying23] at h
  obtain ⟨cs, rfl, hs, hr⟩ := h
  obtain ⟨m, rfl⟩ := open_row_ints types3 (hs.trans (by kernel_rfl)) hr
  exact ⟨m, rfl⟩

theorem yLoad3 {S : World → Prop} {ops : Array Oper} {o : Oper} {a : Act} (hw : Region.wanted o (yielded ops a.tmps) = true) (x : Operand) (ho : o.op = .load 23 x) (g : Nat) (hx : a.eval x = .pointer (some ⟨g, 0, none⟩)) (m : Nat → Int)
    (hS : ∀ W, S W → Blk W g 23 (ac 3 m)) : YieldsIf Try.prog ops S o (.agg (ac 3 m)) a :=
  Or.inl ⟨hw, fun W h => by
    unfold execOp
    simp only [ho, hx, Instr.loadAt, Instr.sureAddr, Sem.run_bind, Sem.run_pure, Result.andThen_ok, run_loadVar_row W g 23 23 (ac 3 m) (0, 0) _ (hS W h) Try.underlying23 rfl info3]⟩
theorem eql3_self (m : Nat → Int) (w : World) : (binOp .eql 23 (.agg (ac 3 m)) (.agg (ac 3 m))).run Try.prog w = .ok (.bool true) w := by
  rw [eql3]; simp
theorem eql9_self (m : Nat → Int) (w : World) : (binOp .eql 22 (.agg (ac 9 m)) (.agg (ac 9 m))).run Try.prog w = .ok (.bool true) w := by
  rw [eql9]; simp
end Go.Proofs.Ytcmaoomcdmjimaa.Mat
