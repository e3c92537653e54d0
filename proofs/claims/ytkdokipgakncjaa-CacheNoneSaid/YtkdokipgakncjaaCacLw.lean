/-
  Layer 36's laws: words for their walks.
-/
import Derived.Test.YtkdokipgakncjaaCacOpen
import Derived.Test.YtkdokipgakncjaaCacEx
import Derived.Test.YtkdokipgakncjaaFrame
import Derived.Deep.MidRow
namespace Go.Proofs.Ytkdokipgakncjaa.Cac
open Go.RowKit Go.Proofs.Ytkdokipgakncjaa

theorem Calls_.below {w W : World} {B n : Nat} {A : Option Addr} {f : Nat → CallV × Value} (h : Calls_ w B A n f) (hb : Below B w W) : Calls_ W B A n f := fun h0 => by
  obtain ⟨ad, rfl, hl, hc⟩ := h h0
  refine ⟨ad, rfl, hl, fun i hi => ?_⟩
  obtain ⟨h1, ⟨h2, h3⟩, h4⟩ := hc i hi
  exact ⟨fun j u hu => (hb.cell (by rw [block_of_add, block_of_add]; exact hl)).trans (h1 j u hu), ⟨h2.below hb, h3⟩, h4⟩
theorem Calls_.at_ {w : World} {B n : Nat} {A : Option Addr} {f : Nat → CallV × Value} (h : Calls_ w B A n f) (j : Nat) (hj : j < n) : ∃ ad, A = some ad ∧ ad.block < B ∧ (∀ c u, (xcs (f j).1 (f j).2)[c]? = some u → w.cell? ((ad.add (j * 10)).add c) = some u) ∧ CallR w B (f j).2 (f j).1 := by
  obtain ⟨ad, rfl, hl, hc⟩ := h (by omega)
  obtain ⟨h1, h2, _⟩ := hc j hj
  exact ⟨ad, rfl, hl, h1, h2⟩
theorem Calls_.cells {w : World} {B n : Nat} {ad : Addr} {f : Nat → CallV × Value} (h : Calls_ w B (some ad) n f) (j : Nat) (hj : j < n) : (∀ c u, (xcs (f j).1 (f j).2)[c]? = some u → w.cell? ((ad.add (j * 10)).add c) = some u) ∧ CallR w B (f j).2 (f j).1 := by
  obtain ⟨ad', he, _, h1, h2⟩ := h.at_ j hj
  injection he with he
  subst he
  exact ⟨h1, h2⟩
theorem CallR.more {w : World} {B B' : Nat} {r : Value} {x : CallV} (h : CallR w B r x) (hb : B ≤ B') : CallR w B' r x := ⟨h.1.more hb, h.2⟩
theorem add_zero (a : Addr) : a.add 0 = a := by unfold Addr.add; simp
/-- The cells of the parts of a call. -/
theorem call_cells {w : World} {a : Addr} {x : CallV} {r : Value} (h : ∀ c u, (xcs x r)[c]? = some u → w.cell? (a.add c) = some u) : w.cell? a = some (.int .i64 x.kind) ∧ w.cell? ⟨a.block, a.off + 1, none⟩ = some (.int .i64 x.n) := by
  have h0 := h 0 _ rfl
  rw [add_zero] at h0
  exact ⟨h0, by have := h 1 _ rfl; simpa [Addr.add] using this⟩
/-- A variable of a struct's type, at whatever address. -/
theorem run_loadVar_at {P : Program} (w : World) (ad : Addr) (ty : TypeId) (cs : List Value) (d : TypeDesc) (hc : ∀ j v, cs[j]? = some v → w.cell? (ad.add j) = some v)
    (hu : P.underlying ty = some d) (hd : d.isRow = true) (hi : (P.info? ty).map (·.size) = some cs.length) : (loadVar ty ad).run P w = .ok (.agg cs.toArray) w := by
  have hl : (loadCells ad cs.length).run P w = .ok cs.toArray w := run_loadCells_list (P := P) w ad cs hc
  cases hq : P.info? ty with
  | none => simp [hq] at hi
  | some i =>
    have hs : i.size = cs.length := by simpa [hq] using hi
    have hagg : (isAgg ty).run P w = .ok true w := by
      unfold isAgg
      rw [Sem.run_bind, run_underlying hu w]
      cases d <;> simp_all
    simp [loadVar, Sem.run_bind, hagg, sizeOf, typeInfo, hq, hs, hl]
theorem wpList_load_call {ops : Array Oper} {rest : List Oper} {o : Oper} {a : Act} {w : World} {Q : Exit → Act → World → Prop} (hg : o.guard = none) (x : Operand) (ho : o.op = .load 34 x) (ad : Addr) (hx : a.eval x = .pointer (some ad)) (xc : CallV) (r : Value)
    (h : ∀ c u, (xcs xc r)[c]? = some u → w.cell? (ad.add c) = some u) (hK : wpList Try.prog ops Q rest (a.put o.dst (cagg xc r)) w) : wpList Try.prog ops Q (o :: rest) a w := by
  refine wpList_plain hg fun K hK' => ?_
  have hr := run_loadVar_at (P := Try.prog) w ad 34 (xcs xc r) _ h Try.underlying34 rfl (by kernel_rfl)
  unfold Oper.wp execOp
  simp only [ho, hx, Instr.loadAt, Instr.sureAddr, Sem.run_bind, Sem.run_pure, Result.andThen_ok, hr]
  exact hK' _ _ hK

/-- The state behind j calls. -/
def runS (b : Int) (f : Nat → CallV × Value) : Nat → St
  | 0 => St.new b
  | j + 1 => (runS b f j).step (f j).1
theorem step_b (s : St) (x : CallV) : (s.step x).b = if x.kind = 4 then clampN x.n else s.b := by
  unfold St.step
  by_cases h0 : x.kind = 0
  · rw [if_pos h0, if_neg (by omega)]; unfold St.get; split <;> rfl
  · rw [if_neg h0]
    by_cases h1 : x.kind = 1
    · rw [if_pos h1, if_neg (by omega)]; unfold St.put; split <;> rfl
    · rw [if_neg h1]
      by_cases h2 : x.kind = 2
      · rw [if_pos h2, if_neg (by omega)]; rfl
      · rw [if_neg h2]
        by_cases h3 : x.kind = 3
        · rw [if_pos h3, if_neg (by omega)]; rfl
        · rw [if_neg h3]
          by_cases h4 : x.kind = 4
          · rw [if_pos h4, if_pos h4]; rfl
          · rw [if_neg h4, if_neg h4]

end Go.Proofs.Ytkdokipgakncjaa.Cac
