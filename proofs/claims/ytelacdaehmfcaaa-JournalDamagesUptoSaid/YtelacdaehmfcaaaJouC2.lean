/-
  Layer 44: records in memory, and results by cases.
-/
import Derived.Test.YtelacdaehmfcaaaJouC
import Derived.Test.YtelacdaehmfcaaaDigOpn
import Derived.Test.YtelacdaehmfcaaaRef05Opn
import Derived.Test.YtelacdaehmfcaaaWireEx
import Derived.Test.YtelacdaehmfcaaaRef04Rd3
import Derived.Deep.AppendLies
import Derived.Deep.WholeRow
namespace Go.Proofs.Ytelacdaehmfcaaa.JouC
open Go.RowKit Go.Proofs.Ytelacdaehmfcaaa Go.Proofs.Ytelacdaehmfcaaa.WirePure Go.Proofs.Ytelacdaehmfcaaa.DigPure Go.Proofs.Ytelacdaehmfcaaa.JouPure

/-- A header as results; a record as results. -/
def hdV (p : Nat × Nat × Int) : Value := .tuple #[.int .i64 (p.1 : Nat), .int .i64 (p.2.1 : Nat), .int .i64 p.2.2]
def rcA (q : Nat) (r : Nat × List UInt8) : Array Value := #[.int .i64 (r.1 : Nat), .int .i64 (q : Nat), .string ⟨r.2.toArray⟩]
def rc0 : Array Value := #[.int .i64 0, .int .i64 0, .string ⟨#[]⟩]
def rcC (q : Nat) (p : (Nat × List UInt8) × Nat × Int) : Array Value := if p.2.2 = 0 then rcA q p.1 else rc0
def rcV (q : Nat) (p : (Nat × List UInt8) × Nat × Int) : Value := .tuple #[.agg (rcC q p), .int .i64 (p.2.1 : Nat), .int .i64 p.2.2]
/-- The cells of a list of records, the first of the number q. -/
def rcs : Nat → List (Nat × List UInt8) → List Value
  | _, [] => []
  | q, r :: l => (rcA q r).toList ++ rcs (q + 1) l
theorem rcs_snoc (l : List (Nat × List UInt8)) (r : Nat × List UInt8) : ∀ q, rcs q (l ++ [r]) = rcs q l ++ (rcA (q + l.length) r).toList := by
  induction l with
  | nil => intro q; simp [rcs]
  | cons a l ih => intro q; simp only [List.cons_append, rcs, ih, List.append_assoc, List.length_cons]; rw [show q + 1 + l.length = q + (l.length + 1) by omega]
theorem rcs_app (l m : List (Nat × List UInt8)) : ∀ q, rcs q (l ++ m) = rcs q l ++ rcs (q + l.length) m := by
  induction l with
  | nil => intro q; simp [rcs]
  | cons a l ih => intro q; simp only [List.cons_append, rcs, ih, List.append_assoc, List.length_cons]; rw [show q + 1 + l.length = q + (l.length + 1) by omega]
theorem rcs_len (l : List (Nat × List UInt8)) : ∀ q, (rcs q l).length = l.length * 3 := by
  induction l with
  | nil => intro q; simp [rcs]
  | cons a l ih => intro q; simp only [rcs, List.length_append, ih, List.length_cons, rcA, List.length_nil]; omega
theorem rcs_at (l : List (Nat × List UInt8)) : ∀ (q i : Nat) (h : i < l.length), (rcs q l)[i * 3]? = some (.int .i64 (l[i].1 : Nat)) ∧ (rcs q l)[i * 3 + 1]? = some (.int .i64 ((q + i : Nat) : Int)) ∧ (rcs q l)[i * 3 + 2]? = some (.string ⟨l[i].2.toArray⟩) := by
  induction l with
  | nil => intro q i h; simp at h
  | cons a l ih =>
    intro q i h
    cases i with
    | zero => exact ⟨rfl, rfl, rfl⟩
    | succ i =>
      obtain ⟨h1, h2, h3⟩ := ih (q + 1) i (by simpa using h)
      have hl : ((rcA q a).toList).length = 3 := rfl
      refine ⟨?_, ?_, ?_⟩
      · rw [rcs, List.getElem?_append_right (by rw [hl]; omega), hl, show (i + 1) * 3 - 3 = i * 3 by omega, h1]; rfl
      · rw [rcs, List.getElem?_append_right (by rw [hl]; omega), hl, show (i + 1) * 3 + 1 - 3 = i * 3 + 1 by omega, h2, show q + 1 + i = q + (i + 1) by omega]
      · rw [rcs, List.getElem?_append_right (by rw [hl]; omega), hl, show (i + 1) * 3 + 2 - 3 = i * 3 + 2 by omega, h3]; rfl
theorem rcs_one (l : List (Nat × List UInt8)) : ∀ q, ∀ u ∈ rcs q l, u.oneCell' = true := by
  induction l with
  | nil => intro q u h; simp [rcs] at h
  | cons a l ih =>
    intro q u h
    rw [rcs, List.mem_append] at h
    rcases h with h | h
    · simp only [rcA, List.mem_cons, List.not_mem_nil, or_false] at h
      rcases h with rfl | rfl | rfl <;> rfl
    · exact ih _ u h

theorem rc0_one : rc0.all (·.oneCell') = true := by simp [rc0, Value.oneCell']
theorem rcA_one (q : Nat) (r : Nat × List UInt8) : (rcA q r).all (·.oneCell') = true := by simp [rcA, Value.oneCell']

theorem results_row3 {P : Program} {fn : Func} {p t u : Tmp} {ty : TypeId} (h : fn.results = #[.cell p ty, .tmp t, .tmp u]) (tmps : Array Value) (w : World) (g : Nat) (T : TypeId) (cs : Array Value) (fr : Nat × Nat) (d : TypeDesc)
    (hp : tmps.getD p undef = .pointer (some ⟨g, 0, none⟩)) (hg : w.heap[g]? = some (.cells cs T fr))
    (hu : P.underlying ty = some d) (hd : (match d with | .struct _ | .array _ _ => true | _ => false) = true) (hi : (P.info? ty).map (·.size) = some cs.size) :
    (results fn tmps).run P w = .ok (.tuple #[.agg cs, tmps.getD t undef, tmps.getD u undef]) w := by
  have hp' : tmps[p]?.getD undef = .pointer (some ⟨g, 0, none⟩) := by simpa using hp
  simp [results, h, hp', asAddr, run_loadVar_row w g T ty cs fr d hg hu hd hi]
theorem results_tmp4 {fn : Func} {t u v x : Tmp} (h : fn.results = #[.tmp t, .tmp u, .tmp v, .tmp x]) (tmps : Array Value) (P : Program) (w : World) :
    (results fn tmps).run P w = .ok (.tuple #[tmps.getD t undef, tmps.getD u undef, tmps.getD v undef, tmps.getD x undef]) w := by simp [results, h]
theorem infoR (cs : Array Value) (h : cs.size = 3) : (Try.prog.info? 23).map (·.size) = some cs.size := by rw [h]; kernel_rfl
theorem infoRec : (Try.prog.info? 23).map (fun i => (i.zero, i.size, i.bytes)) = some (some (.agg rc0), 3, 32) := by kernel_rfl
theorem below_setRow {B : Nat} {a w : World} (h : Below B a w) {g : Nat} (hg : B ≤ g) (cs : Array Value) : Below B a (w.setRow g cs) :=
  ⟨h.os, h.tape, h.output, by rw [size_setRow]; exact h.size, fun i hi => (setRow_other _ _ _ _ (by omega)).trans (h.block i hi)⟩
theorem own_form {w : World} {base e size n : Nat} {v : Value} {xs : List Value} (h : w.ownsRow base e size v n xs) : ∃ A c, v = .slice A n c := by
  rcases h.2 with ⟨rfl, rfl⟩ | ⟨g, cap, cur, rfl, _⟩
  · exact ⟨none, 0, rfl⟩
  · exact ⟨_, _, rfl⟩

theorem cond_len (s : ByteArray) : s.data.toList.length = s.size := by simp
theorem drop_eq (s : ByteArray) (n : Nat) (h : n ≤ s.size) : (s.extract n s.size).data.toList = s.data.toList.drop n := by
  have e := WireRd.extract_eq s n (s.size - n)
  rw [show n + (s.size - n) = s.size by omega] at e
  rw [e, List.take_of_length_le (by rw [List.length_drop, cond_len]; exact Nat.le_refl _)]
theorem take_eq (s : ByteArray) (n : Nat) : s.extract 0 n = ⟨(s.data.toList.take n).toArray⟩ := Dig.extract_front s n
theorem magic_iff (s : ByteArray) : s.extract 0 4 = ⟨#[73, 69, 74, 49]⟩ ↔ s.data.toList.take 4 = magic := by
  rw [take_eq]
  constructor
  · intro h; exact Dig.mk_inj (m := magic) h
  · intro h; rw [h]; rfl

theorem magic_ne {s : ByteArray} (h : s ≠ ⟨#[73, 69, 74, 49]⟩) : (s.toList == [73, 69, 74, 49]) = false := by
  have := (Lib.bytes_beq_false_iff _ _).2 h
  simpa using this

/-- The header's result, by what its payload holds. -/
theorem head_cases (p : List UInt8) (n g : Nat) (a : A) (x : Int) (hk : kindA p = (g, a)) (hx : a.fin = x) :
    (x ≠ 0 ∧ headP p n = (0, 0, 4)) ∨ (x = 0 ∧ g < 1 ∧ headP p n = (0, 0, 4)) ∨ (x = 0 ∧ 1073741824 < g ∧ headP p n = (0, 0, 4)) ∨ (x = 0 ∧ 1 ≤ g ∧ g ≤ 1073741824 ∧ headP p n = (g, 4 + n, 0)) := by
  unfold headP
  rw [hk]
  simp only
  rw [hx]
  by_cases h0 : x = 0
  · by_cases h1 : g < 1
    · exact .inr (.inl ⟨h0, h1, if_pos (.inr (.inl h1))⟩)
    · by_cases h2 : 1073741824 < g
      · exact .inr (.inr (.inl ⟨h0, h2, if_pos (.inr (.inr h2))⟩))
      · exact .inr (.inr (.inr ⟨h0, by omega, by omega, if_neg (by omega)⟩))
  · exact .inl ⟨h0, if_pos (.inl h0)⟩
/-- The record's result, by what its payload holds. -/
theorem rec_cases (p : List UInt8) (n q k m : Nat) (a1 a2 a : A) (d : List UInt8) (x : Int) (hk : kindA p = (k, a1)) (hm : a1.uint = (m, a2)) (hd : a2.text 1048576 = (d, a)) (hx : a.fin = x) :
    (x ≠ 0 ∧ recP p n q = ((0, []), 0, x)) ∨ (x = 0 ∧ k < 1 ∧ recP p n q = ((0, []), 0, 8)) ∨ (x = 0 ∧ 6 < k ∧ recP p n q = ((0, []), 0, 8)) ∨ (x = 0 ∧ 1 ≤ k ∧ k ≤ 6 ∧ m ≠ q ∧ recP p n q = ((0, []), 0, 24)) ∨ (x = 0 ∧ 1 ≤ k ∧ k ≤ 6 ∧ m = q ∧ recP p n q = ((k, d), n, 0)) := by
  have e2 : numA p = (m, a2) := by unfold numA; rw [hk]; exact hm
  have e3 : dataA p = (d, a) := by unfold dataA; rw [e2]; exact hd
  unfold recP
  rw [hk, e2, e3]
  simp only
  rw [hx]
  by_cases h0 : x = 0
  · rw [if_neg (by simpa using h0)]
    by_cases h1 : k < 1
    · exact .inr (.inl ⟨h0, h1, if_pos (.inl h1)⟩)
    · by_cases h2 : 6 < k
      · exact .inr (.inr (.inl ⟨h0, h2, if_pos (.inr h2)⟩))
      · rw [if_neg (by omega)]
        by_cases h3 : m = q
        · exact .inr (.inr (.inr (.inr ⟨h0, by omega, by omega, h3, if_neg (by simpa using h3)⟩)))
        · exact .inr (.inr (.inr (.inl ⟨h0, by omega, by omega, h3, if_pos h3⟩)))
  · exact .inl ⟨h0, if_pos h0⟩

end Go.Proofs.Ytelacdaehmfcaaa.JouC
