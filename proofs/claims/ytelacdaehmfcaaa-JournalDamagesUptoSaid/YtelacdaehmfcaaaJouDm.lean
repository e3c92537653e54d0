/-
  Layer 44's laws: a byte of the last record that was changed (plain).
-/
import Derived.Test.YtelacdaehmfcaaaJouCu
namespace Go.Proofs.Ytelacdaehmfcaaa.JouL
open Go.RowKit Go.Proofs.Ytelacdaehmfcaaa Go.Proofs.Ytelacdaehmfcaaa.WirePure Go.Proofs.Ytelacdaehmfcaaa.DigPure Go.Proofs.Ytelacdaehmfcaaa.JouPure Go.Proofs.Ytelacdaehmfcaaa.JouC

/-- The bytes of a number: each but the last is 128 or more. -/
theorem uv_bytes : ∀ (f x : Nat), x ≤ f → ∀ i, i < (Lib.uvarint x).length → ∃ c : UInt8, (Lib.uvarint x)[i]? = some c ∧ (i + 1 < (Lib.uvarint x).length → 128 ≤ c.toNat) ∧ (i + 1 = (Lib.uvarint x).length → c.toNat < 128) := fun f => by
  induction f with
  | zero =>
    intro x hx i hi
    obtain rfl : x = 0 := by omega
    rw [Lib.uvarint_small (by decide)] at hi ⊢
    simp only [List.length_cons, List.length_nil] at hi ⊢
    obtain rfl : i = 0 := by omega
    exact ⟨_, rfl, fun h => absurd h (by decide), fun _ => by decide⟩
  | succ f ih =>
    intro x hx i hi
    by_cases h : x < 128
    · rw [Lib.uvarint_small h] at hi ⊢
      simp only [List.length_cons, List.length_nil] at hi ⊢
      obtain rfl : i = 0 := by omega
      exact ⟨_, rfl, fun h => absurd h (by decide), fun _ => by rw [Lib.toUInt8_toNat (by omega)]; exact h⟩
    · rw [Lib.uvarint_big (by omega)] at hi ⊢
      simp only [List.length_cons] at hi ⊢
      have hp := Lib.uvarint_pos (x / 128)
      cases i with
      | zero => exact ⟨_, rfl, fun _ => by rw [Lib.toUInt8_toNat (by omega)]; omega, fun h => by omega⟩
      | succ i =>
        obtain ⟨c, h1, h2, h3⟩ := ih (x / 128) (by omega) i (by omega)
        exact ⟨c, by rw [List.getElem?_cons_succ]; exact h1, fun h => h2 (by omega), fun h => h3 (by omega)⟩
/-- The last record of a journal: the bytes of its length, what follows them, and what a changed byte there does. -/
theorem dam_parts (g k : Nat) (rs : List (Nat × List UInt8)) (h1 : 1 ≤ g) (h2 : g ≤ 1073741824) (hok : okL 1 rs) (hk : rs.length = k + 1) (hl : k ≤ 1048576) :
    ∃ s n : Nat, 1 ≤ s ∧ s ≤ 4 ∧ 1 ≤ n ∧ (jou g rs).length = (jou g (rs.take k)).length + s + n ∧
      (∀ i, i < s → ∃ c : UInt8, (jou g rs)[(jou g (rs.take k)).length + i]? = some c ∧ (i + 1 < s → 128 ≤ c.toNat) ∧ (i + 1 = s → c.toNat < 128)) ∧
      ∀ (q : Nat) (c : UInt8), (jou g (rs.take k)).length + s ≤ q → q < (jou g rs).length → (jou g rs)[q]? ≠ some c →
        scanJ ((jou g rs).take q ++ [c] ++ (jou g rs).drop (q + 1)) = (g, rs.take k, (jou g (rs.take k)).length, 7) := by
  have hlt : k < rs.length := by omega
  have hs := jou_step g k rs hlt
  rw [List.take_of_length_le (by omega)] at hs
  have hr := okR_at k rs hlt hok
  have hlk : (rs.take k).length = k := by rw [List.length_take]; omega
  obtain ⟨p, hp⟩ : ∃ p, pay rs[k].1 (k + 1) rs[k].2 = p := ⟨_, rfl⟩
  have hpl : p.length ≤ 1048576 := by rw [← hp]; exact hr.2.2
  have hfl := frame_len p
  have hul : (Lib.uvarint p.length).length ≤ 4 := Lib.uvarint_length 3 p.length (by omega)
  have hup := Lib.uvarint_pos p.length
  rw [hp] at hs
  have hjl : (jou g rs).length = (jou g (rs.take k)).length + (frame p).length := by rw [hs, List.length_append]
  refine ⟨(Lib.uvarint p.length).length, p.length + 4, hup, hul, by omega, by omega, fun i hi => ?_, fun q c hq hq2 hc => ?_⟩
  · obtain ⟨c, a, b, d⟩ := uv_bytes p.length p.length (Nat.le_refl _) i hi
    refine ⟨c, ?_, b, d⟩
    rw [hs, List.getElem?_append_right (by omega), Nat.add_sub_cancel_left]
    unfold frame enc
    rw [List.append_assoc, List.getElem?_append_left hi]
    exact a
  · obtain ⟨i, rfl⟩ : ∃ i, q = (jou g (rs.take k)).length + i := ⟨q - (jou g (rs.take k)).length, by omega⟩
    have ht := scan_told g (rs.take k) rs[k] i c h1 h2 (okL_take k rs hok) (by rw [hlk]; exact hr) (by rw [hlk]; omega) (by rw [hlk, hp]; omega) (by rw [hlk, hp]; omega) (by
      rw [hlk, hp]
      rw [hs, List.getElem?_append_right (by omega), Nat.add_sub_cancel_left] at hc
      exact hc)
    rw [hlk, hp] at ht
    rw [← ht]
    congr 1
    rw [hs, List.take_append, List.take_of_length_le (by omega), Nat.add_sub_cancel_left, List.drop_append, List.drop_eq_nil_of_le (by omega), List.nil_append, List.append_assoc, List.append_assoc]
    congr 1
    rw [List.set_eq_take_append_cons_drop, if_pos (by omega)]
    rw [show (jou g (rs.take k)).length + i + 1 - (jou g (rs.take k)).length = i + 1 by omega]
    rfl

open Go.ChangeShapes Go.WideShapes Go.ChangeAt Go.Joins Go.Deep
theorem cellsHit : Try.prog.cellsOf 46 = 2 := by kernel_rfl
/-- A hit by value, opened. -/
theorem openHit {H : Type} {enc : TypeId × Value → H} {W : World} {r : Reach} {b0 : Nat} {v : Value} {d : DataW H} {p : List MemPlace} (hv : Value.okWide Try.prog W r b0 46 v) (h : DataW.Trod enc Try.prog W 0 (fun _ => true) true 46 v d p) :
    ∃ (bn : Nat) (bz : Int) (x0 x1 : DataW H), v = .agg #[.int .u64 (bn : Nat), .int .u8 bz] ∧ d = .agg [x0, x1] ∧ bn ≤ 18446744073709551615 ∧ 0 ≤ bz ∧ bz ≤ 255 := by
  obtain ⟨c0, c1, y0, y1, m, rfl, rfl, rfl, hy0, hy1⟩ := open_agg2 Try.underlying46 (by kernel_rfl) cellsHit hv h
  obtain ⟨g, e0, rfl, w0⟩ := DataW.trod_int Try.underlying43 hy0
  obtain ⟨q, e1, rfl, w1⟩ := DataW.trod_int Try.underlying5 hy1
  simp only [List.cons.injEq, and_true] at e0 e1
  subst e0 e1
  have b0 := bounds_u64 w0
  have b1 := bounds_u8 w1
  obtain ⟨gn, rfl⟩ : ∃ gn : Nat, g = gn := ⟨g.toNat, by omega⟩
  exact ⟨gn, q, _, _, rfl, rfl, by omega, b1.1, b1.2⟩

end Go.Proofs.Ytelacdaehmfcaaa.JouL
