/-
  Layer 36: keys as cells (plain).
-/
import Derived.Test.YtkdokipgakncjaaWords
namespace Go.Proofs.Ytkdokipgakncjaa.Cac
open Go.RowKit Go.Proofs.Ytkdokipgakncjaa

/-- A key: five numbers. -/
abbrev K5 := Int × Int × Int × Int × Int
def kc (k : K5) : List Value := [.int .i64 k.1, .int .i64 k.2.1, .int .i64 k.2.2.1, .int .i64 k.2.2.2.1, .int .i64 k.2.2.2.2]
def kcs : List K5 → List Value
  | [] => []
  | k :: l => kc k ++ kcs l
theorem kc_len (k : K5) : (kc k).length = 5 := rfl
theorem kcs_len (l : List K5) : (kcs l).length = l.length * 5 := by
  induction l with
  | nil => rfl
  | cons k l ih => simp only [kcs, List.length_append, kc_len, ih, List.length_cons]; omega
theorem kcs_app (l m : List K5) : kcs (l ++ m) = kcs l ++ kcs m := by
  induction l with
  | nil => rfl
  | cons k l ih => simp only [List.cons_append, kcs, ih, List.append_assoc]
theorem kcs_take (l : List K5) (i : Nat) (h : i ≤ l.length) : (kcs l).take (i * 5) = kcs (l.take i) := by
  have e : kcs l = kcs (l.take i) ++ kcs (l.drop i) := by rw [← kcs_app, List.take_append_drop]
  rw [e, List.take_left' (by rw [kcs_len, List.length_take]; omega)]
theorem kcs_drop (l : List K5) (i : Nat) (h : i ≤ l.length) : (kcs l).drop (i * 5) = kcs (l.drop i) := by
  have e : kcs l = kcs (l.take i) ++ kcs (l.drop i) := by rw [← kcs_app, List.take_append_drop]
  rw [e, List.drop_left' (by rw [kcs_len, List.length_take]; omega)]
theorem kcs_cut (l : List K5) (i : Nat) (h : i < l.length) : (kcs l).take (i * 5) ++ (kcs l).drop ((i + 1) * 5) = kcs (l.eraseIdx i) := by
  rw [kcs_take l i (by omega), kcs_drop l (i + 1) (by omega), ← kcs_app, List.eraseIdx_eq_take_drop_succ]
theorem kcs_one (l : List K5) : ∀ u ∈ kcs l, u.oneCell' = true := by
  induction l with
  | nil => intro u hu; simp [kcs] at hu
  | cons k l ih =>
    intro u hu
    rcases List.mem_append.1 hu with h | h
    · simp only [kc, List.mem_cons, List.not_mem_nil, or_false] at h
      rcases h with rfl | rfl | rfl | rfl | rfl <;> rfl
    · exact ih u h
theorem kcs_at (l : List K5) (i : Nat) (h : i < l.length) (c : Nat) (hc : c < 5) : (kcs l)[i * 5 + c]? = (kc l[i])[c]? := by
  have e : kcs l = kcs (l.take i) ++ (kc l[i] ++ kcs (l.drop (i + 1))) := by
    rw [← kcs, ← kcs_app, ← List.drop_eq_getElem_cons h, List.take_append_drop]
  have hl : (kcs (l.take i)).length = i * 5 := by rw [kcs_len, List.length_take, Nat.min_eq_left (by omega)]
  rw [e, List.getElem?_append_right (by omega), hl, Nat.add_sub_cancel_left, List.getElem?_append_left (by rw [kc_len]; exact hc)]
theorem kc_inj (a b : K5) (h : kc a = kc b) : a = b := by
  obtain ⟨a0, a1, a2, a3, a4⟩ := a
  obtain ⟨b0, b1, b2, b3, b4⟩ := b
  simp only [kc, List.cons.injEq, Value.int.injEq, true_and, and_true] at h
  obtain ⟨rfl, rfl, rfl, rfl, rfl⟩ := h
  rfl

end Go.Proofs.Ytkdokipgakncjaa.Cac
