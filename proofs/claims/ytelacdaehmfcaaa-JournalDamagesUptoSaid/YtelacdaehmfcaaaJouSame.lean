/-
  Layer 44's laws: lists of records that are equal.
-/
import Derived.Test.YtelacdaehmfcaaaJouOp
import Derived.Deep.QuietTactic
import Derived.BigQuiet
import Derived.Deep.MidRow
namespace Go.Proofs.Ytelacdaehmfcaaa.JouL
open Go.RowKit Go.Proofs.Ytelacdaehmfcaaa Go.Proofs.Ytelacdaehmfcaaa.WirePure Go.Proofs.Ytelacdaehmfcaaa.DigPure Go.Proofs.Ytelacdaehmfcaaa.JouPure Go.Proofs.Ytelacdaehmfcaaa.JouC

theorem add_of_add (a : Addr) (i j : Nat) : (a.add i).add j = a.add (i + j) := by
  unfold Addr.add
  by_cases hi : i = 0 <;> by_cases hj : j = 0 <;> simp [hi, hj, Nat.add_assoc]
/-- A variable of a struct's type, at whatever address. -/
theorem run_loadVar_at {P : Program} (w : World) (ad : Addr) (ty : TypeId) (cs : List Value) (d : TypeDesc) (hc : ∀ j v, cs[j]? = some v → w.cell? (ad.add j) = some v)
    (hu : P.underlying ty = some d) (hd : d.isRow = true) (hi : (P.info? ty).map (·.size) = some cs.length) : (loadVar ty ad).run P w = .ok (.agg cs.toArray) w := by
  have hl : (loadCells ad cs.length).run P w = .ok cs.toArray w := run_loadCells_list (P := P) w ad cs hc
  cases hq : P.info? ty with
  | none => simp [hq] at hi
  | some i =>
    have hs : i.size = cs.length := by simpa [hq] using hi
    have hagg : (isAgg ty).run P w = .ok true w := by
      unfold isAgg
      rw [Sem.run_bind, run_underlying hu w]
      cases d <;> simp_all
    simp [loadVar, Sem.run_bind, hagg, sizeOf, typeInfo, hq, hs, hl]
theorem yLoadAt {ops : Array Oper} {S : World → Prop} {op : Oper} {a : Act} (hw : Region.wanted op (yielded ops a.tmps) = true) (x : Operand) (ho : op.op = .load 23 x)
    (ad : Addr) (hx : a.eval x = .pointer (some ad)) (v0 v1 v2 : Value) (hS : ∀ w, S w → w.cell? ad = some v0 ∧ w.cell? (ad.add 1) = some v1 ∧ w.cell? (ad.add 2) = some v2) : YieldsIf Try.prog ops S op (.agg #[v0, v1, v2]) a :=
  .inl ⟨hw, fun w hw' => by
    obtain ⟨h0, h1, h2⟩ := hS w hw'
    have hr := run_loadVar_at (P := Try.prog) w ad 23 [v0, v1, v2] _ (fun j v hv => by
      match j, hv with
      | 0, hv => simp at hv; subst hv; simpa [Addr.add] using h0
      | 1, hv => simp at hv; subst hv; exact h1
      | 2, hv => simp at hv; subst hv; exact h2) Try.underlying23 rfl (by kernel_rfl)
    unfold execOp
    simp only [ho, hx, Instr.loadAt, Instr.sureAddr, Sem.run_bind, Sem.run_pure, Result.andThen_ok, hr]⟩
/-- A record's three cells in a list of records. -/
theorem reads_rec {w : World} {B q n i : Nat} {A : Option Addr} {l : List (Nat × List UInt8)} (h : Reads w B 3 A n (rcs q l)) (hn : l.length = n) (hi : i < n) :
    ∃ ad r, A = some ad ∧ l[i]? = some r ∧ ad.block < B ∧ w.cell? (ad.add (i * 3)) = some (.int .i64 (r.1 : Nat)) ∧ w.cell? (ad.add (i * 3 + 1)) = some (.int .i64 ((q + i : Nat) : Int)) ∧ w.cell? (ad.add (i * 3 + 2)) = some (.string ⟨r.2.toArray⟩) := by
  obtain ⟨ad, rfl, hb, hc⟩ := h.2 (by omega)
  have hl : i < l.length := by omega
  obtain ⟨h1, h2, h3⟩ := rcs_at l q i hl
  exact ⟨ad, l[i], rfl, List.getElem?_eq_getElem hl, hb, hc _ _ h1, hc _ _ h2, hc _ _ h3⟩

set_option maxHeartbeats 2000000 in
theorem same_yes (A1 A2 : Option Addr) (c1 c2 n q : Nat) (l : List (Nat × List UInt8)) (w : World) (hn : l.length = n) (hm : n ≤ 9223372036854775806) (h1 : Reads w w.heap.size 3 A1 n (rcs q l)) (h2 : Reads w w.heap.size 3 A2 n (rcs q l)) :
    Calls Try.prog 19 #[.slice A1 n c1, .slice A2 n c2] w fun e w' => e = .returned (.bool true) ∧ ∃ k, w' = w.drewN k := by
  have HN := Lib.hid hn
  have HR1 := Lib.hid h1
  have HR2 := Lib.hid h2
  clear hn h1 h2
  go_enter Try.func19, Try.ntmps19
  go_wp2_with fail
  go_loopw [5] (fun v5 wr => ∃ i k : Nat, i ≤ n ∧ v5 = .int .i64 i ∧ wr = w.drewN k) (fun v5 _ => n - (intOf v5).toNat)
  case atStart => exact ⟨0, 0, by omega, rfl, rfl⟩
  case round =>
    obtain ⟨i, k, hi, rfl, rfl⟩ := hrel
    by_cases hlt : i < n
    · obtain ⟨a1, r1, rfl, e1, _, x0, x1, x2⟩ := reads_rec HR1.out HN.out hlt
      obtain ⟨a2, r2, rfl, e2, _, y0, y1, y2⟩ := reads_rec HR2.out HN.out hlt
      obtain rfl : r1 = r2 := by rw [e1] at e2; exact Option.some.inj e2
      obtain ⟨S, hS⟩ : ∃ S : ByteArray, (⟨r1.2.toArray⟩ : ByteArray) = S := ⟨_, rfl⟩
      rw [hS] at x2 y2
      have x1' : w.cell? ((a1.add (i * 3)).add 1) = some (.int .i64 ((q + i : Nat) : Int)) := by rw [add_of_add]; exact x1
      have x2' : w.cell? ((a1.add (i * 3)).add 2) = some (.string S) := by rw [add_of_add]; exact x2
      have y1' : w.cell? ((a2.add (i * 3)).add 1) = some (.int .i64 ((q + i : Nat) : Int)) := by rw [add_of_add]; exact y1
      have y2' : w.cell? ((a2.add (i * 3)).add 2) = some (.string S) := by rw [add_of_add]; exact y2
      obtain ⟨Q, hQ⟩ : ∃ Q : Int, ((q + i : Nat) : Int) = Q := ⟨_, rfl⟩
      rw [hQ] at x1' y1'
      clear e1 e2 hS hQ x1 x2 y1 y2
      have i0 : (0 : Int) ≤ (i : Int) := by omega
      have i1 : (i : Int) < (n : Int) := by omega
      go_wp2_with fail
      refine wp_region_held_drew (S := fun W => (W.cell? (a1.add (i * 3)) = some (.int .i64 (r1.1 : Nat)) ∧ W.cell? ((a1.add (i * 3)).add 1) = some (.int .i64 Q) ∧ W.cell? ((a1.add (i * 3)).add 2) = some (.string S)) ∧ (W.cell? (a2.add (i * 3)) = some (.int .i64 (r1.1 : Nat)) ∧ W.cell? ((a2.add (i * 3)).add 1) = some (.int .i64 Q) ∧ W.cell? ((a2.add (i * 3)).add 2) = some (.string S))) (by kernel_rfl) ⟨⟨x0, x1', x2'⟩, y0, y1', y2'⟩ (fun hHeld => ?_)
      clear x0 x1' x2' y0 y1' y2'
      refine wpAnyH_take (i := 0) (oi := _) (v := .slice (some a1) n c1) rfl (by kernel_rfl) (by kernel_rfl) (by kernel_rfl) (fun _ _ _ h => h) (Or.inl ⟨by rfl, fun W1 _ => by go_simp⟩) (by assumption) ?_
      go_simp
      refine wpAnyH_take (i := 1) (oi := _) (v := .int .i64 i) rfl (by kernel_rfl) (by kernel_rfl) (by kernel_rfl) (fun _ _ _ h => h) (Or.inl ⟨by rfl, fun W1 _ => by go_simp⟩) (by assumption) ?_
      go_simp
      refine wpAnyH_take (i := 2) (oi := _) (v := .pointer (some (a1.add (i * 3)))) rfl (by kernel_rfl) (by kernel_rfl) (by kernel_rfl) (fun _ _ _ h => h) (Or.inl ⟨by rfl, fun W1 _ => by go_simp⟩) (by assumption) ?_
      go_simp
      refine wpAnyH_take (i := 3) (oi := _) (v := _) rfl (by kernel_rfl) (by kernel_rfl) (by kernel_rfl) (fun _ _ _ h => h) (yLoadAt rfl _ rfl (a1.add (i * 3)) rfl (.int .i64 (r1.1 : Nat)) (.int .i64 Q) (.string S) (fun _ h => h.1)) (by assumption) ?_
      go_simp
      refine wpAnyH_take (i := 4) (oi := _) (v := .slice (some a2) n c2) rfl (by kernel_rfl) (by kernel_rfl) (by kernel_rfl) (fun _ _ _ h => h) (Or.inl ⟨by rfl, fun W1 _ => by go_simp⟩) (by assumption) ?_
      go_simp
      refine wpAnyH_take (i := 5) (oi := _) (v := .int .i64 i) rfl (by kernel_rfl) (by kernel_rfl) (by kernel_rfl) (fun _ _ _ h => h) (Or.inl ⟨by rfl, fun W1 _ => by go_simp⟩) (by assumption) ?_
      go_simp
      refine wpAnyH_take (i := 6) (oi := _) (v := .pointer (some (a2.add (i * 3)))) rfl (by kernel_rfl) (by kernel_rfl) (by kernel_rfl) (fun _ _ _ h => h) (Or.inl ⟨by rfl, fun W1 _ => by go_simp⟩) (by assumption) ?_
      go_simp
      refine wpAnyH_take (i := 7) (oi := _) (v := _) rfl (by kernel_rfl) (by kernel_rfl) (by kernel_rfl) (fun _ _ _ h => h) (yLoadAt rfl _ rfl (a2.add (i * 3)) rfl (.int .i64 (r1.1 : Nat)) (.int .i64 Q) (.string S) (fun _ h => h.2)) (by assumption) ?_
      go_simp
      refine wpAnyH_take (i := 8) (oi := _) (v := .bool false) rfl (by kernel_rfl) (by kernel_rfl) (by kernel_rfl) (fun _ _ _ h => h) (Or.inl ⟨by rfl, fun W1 _ => by go_simp⟩) (by assumption) ?_
      go_simp
      refine wpAnyH_done (by kernel_rfl) ?_ _
      go_wp2_with fail
      go_roundw
      case rel => exact ⟨i + 1, k + 1, by omega, by go_num, rfl⟩
      case measure => simp [intOf]; omega
    · obtain rfl : i = n := by omega
      go_wp2_with fail
      go_ret
      exact ⟨rfl, k, rfl⟩

end Go.Proofs.Ytelacdaehmfcaaa.JouL
