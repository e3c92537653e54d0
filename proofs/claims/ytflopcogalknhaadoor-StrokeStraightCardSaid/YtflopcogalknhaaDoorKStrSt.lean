/-
  Layer 21, plain: the outline of a straight edge.
-/
import Derived.Test.YtflopcogalknhaaDoorKStrUp
set_option linter.unusedVariables false
set_option linter.unusedSimpArgs false
namespace Go.Proofs.YtflopcogalknhaaDoor.Str
open Go.RowKit Go.Proofs.YtflopcogalknhaaDoor Go.Proofs.YtflopcogalknhaaDoor.NumPure

/-! a straight edge -/
theorem outF_two {w : Int} {a b : P2} (h : a ≠ b) (w1 : 1 ≤ w) (w2 : w ≤ 4096) (ha : Inb 16777216 a) (hb : Inb 16777216 b) : outF w 0 0 [[a, b]] [true] = (0, put [] (quad a b (nrm w a b))) := by
  have hk : chkE w 0 0 = 0 := by unfold chkE; rw [if_neg (by omega), if_neg (by omega)]
  have hc : covE [[a, b]] = 0 := by
    rw [covE_ok (fun l hl => by simp only [List.mem_singleton] at hl; rw [hl]; exact .cons ha (.cons hb (.nil _)))]
    rfl
  have h1 : one w 0 0 true [] [a, b] = put [] (quad a b (nrm w a b)) := rfl
  have hn : ptsN (put [] (quad a b (nrm w a b))) ≤ 4096 := by
    have := ((GL.nil.put (l := quad a b (nrm w a b)) (show 3 ≤ 4 by omega) (show 4 ≤ 16 by omega)).pts).1
    have h2 := put_len [] (quad a b (nrm w a b))
    simp only [List.length_nil] at h2
    omega
  have hr : runL w 0 0 [[a, b]] [true] 1 = some (put [] (quad a b (nrm w a b))) := by
    have e : runL w 0 0 [[a, b]] [true] 1 = if 4096 < ptsN (one w 0 0 true [] (red [a, b] true)) then none else some (one w 0 0 true [] (red [a, b] true)) := rfl
    rw [e, red_two h, h1, if_neg (by omega)]
  unfold outF
  rw [hk, hc, if_neg (fun h => h rfl), if_neg (fun h => h rfl), if_neg (fun h => h rfl)]
  show (match runL w 0 0 [[a, b]] [true] 1 with | none => ((3 : Int), []) | some L => (0, L)) = _
  rw [hr]
theorem area4 (a b c d : P2) : area [a, b, c, d] = cr a b + cr b c + cr c d + cr d a := by
  have n0 : nx [a, b, c, d] 0 = a := rfl
  have n1 : nx [a, b, c, d] (0 + 1) = b := rfl
  have n2 : nx [a, b, c, d] (0 + 1 + 1) = c := rfl
  have n3 : nx [a, b, c, d] (0 + 1 + 1 + 1) = d := rfl
  have n4 : nx [a, b, c, d] (0 + 1 + 1 + 1 + 1) = a := nx_rot [a, b, c, d] 0
  have e : area [a, b, c, d] = areaN [a, b, c, d] (0 + 1 + 1 + 1 + 1) := rfl
  rw [e]
  unfold areaN
  rw [sumN, sumN, sumN, sumN, sumN, n0, n1, n2, n3, n4, Int.zero_add]
/-- What the outline of a straight edge is: its rectangle. -/
def StrE (w : Int) (a b lo hi : P2) (A : Int) : Prop := ∃ P : List P2, outF w 0 0 [[a, b]] [true] = (0, [P]) ∧ P.length = 4 ∧ (∀ p ∈ P, (p.1 = lo.1 ∨ p.1 = hi.1) ∧ (p.2 = lo.2 ∨ p.2 = hi.2)) ∧ area P = A
theorem straight_h {x y n h : Int} (hn : 1 ≤ n) (h1 : 1 ≤ h) (h2 : h ≤ 2048) (hx : -16777216 ≤ x) (hy : -16777216 ≤ y ∧ y ≤ 16777216) (hxn : x + n ≤ 16777216) :
    StrE (2 * h) (x, y) (x + n, y) (x, y - h) (x + n, y + h) (4 * (n * h)) := by
  have hH : hyp16 (x, y) (x + n, y) = 16 * n := by
    unfold hyp16
    dsimp only
    rw [show x + n - x = n by omega, Int.sub_self, Int.mul_zero, hyp_x (by omega) (by omega)]
  have hN : nrm (2 * h) (x, y) (x + n, y) = (0, h) := by
    unfold nrm
    rw [hH]
    dsimp only
    rw [show x + n - x = n by omega, Int.sub_self, Int.mul_zero, dvr_of_zero (by omega), show 8 * (2 * h) * n = h * (16 * n) by rw [show 8 * (2 * h) = h * 16 by omega, Int.mul_assoc], dvr_mul (by omega)]
  have hne : ((x, y) : P2) ≠ (x + n, y) := fun e => by injection e with e _; omega
  have hp : 1 ≤ n * h := by
    have := Int.mul_le_mul hn h1 (by omega) (by omega)
    omega
  have hA : area (quad (x, y) (x + n, y) (0, h)) = -(4 * (n * h)) := by
    unfold quad pl mi
    rw [area4]
    unfold cr
    dsimp only
    simp only [Int.add_zero, Int.sub_zero, Int.mul_add, Int.add_mul, Int.mul_sub]
    omega
  refine ⟨(quad (x, y) (x + n, y) (0, h)).reverse, ?_, rfl, ?_, by rw [area_rev, hA]; omega⟩
  · rw [outF_two hne (by omega) (by omega) ⟨⟨by dsimp only; omega, by dsimp only; omega⟩, by dsimp only; omega, by dsimp only; omega⟩ ⟨⟨by dsimp only; omega, by dsimp only; omega⟩, by dsimp only; omega, by dsimp only; omega⟩, hN]
    unfold put
    rw [hA, if_neg (by omega), if_pos (by omega)]
    rfl
  · intro p hq
    have hq := List.mem_reverse.1 hq
    unfold quad pl mi at hq
    simp only [List.mem_cons, List.not_mem_nil, or_false] at hq
    rcases hq with rfl | rfl | rfl | rfl <;> dsimp only <;> constructor <;> omega
theorem straight_v {x y n h : Int} (hn : 1 ≤ n) (h1 : 1 ≤ h) (h2 : h ≤ 2048) (hx : -16777216 ≤ x ∧ x ≤ 16777216) (hy : -16777216 ≤ y) (hyn : y + n ≤ 16777216) :
    StrE (2 * h) (x, y) (x, y + n) (x - h, y) (x + h, y + n) (4 * (h * n)) := by
  have hH : hyp16 (x, y) (x, y + n) = 16 * n := by
    unfold hyp16
    dsimp only
    rw [show y + n - y = n by omega, Int.sub_self, Int.mul_zero, hyp_y (by omega) (by omega)]
  have hN : nrm (2 * h) (x, y) (x, y + n) = (-h, 0) := by
    unfold nrm
    rw [hH]
    dsimp only
    rw [show y + n - y = n by omega, Int.sub_self, Int.mul_zero, dvr_of_zero (by omega), show -8 * (2 * h) * n = -h * (16 * n) by rw [show -8 * (2 * h) = -h * 16 by omega, Int.mul_assoc], dvr_mul (by omega)]
  have hne : ((x, y) : P2) ≠ (x, y + n) := fun e => by injection e with _ e; omega
  have hp : 1 ≤ h * n := by
    have := Int.mul_le_mul h1 hn (by omega) (by omega)
    omega
  have hA : area (quad (x, y) (x, y + n) (-h, 0)) = -(4 * (h * n)) := by
    unfold quad pl mi
    rw [area4]
    unfold cr
    dsimp only
    simp only [Int.add_zero, Int.sub_zero, Int.mul_add, Int.add_mul, Int.sub_mul, Int.neg_mul, Int.sub_neg]
    omega
  refine ⟨(quad (x, y) (x, y + n) (-h, 0)).reverse, ?_, rfl, ?_, by rw [area_rev, hA]; omega⟩
  · rw [outF_two hne (by omega) (by omega) ⟨⟨by dsimp only; omega, by dsimp only; omega⟩, by dsimp only; omega, by dsimp only; omega⟩ ⟨⟨by dsimp only; omega, by dsimp only; omega⟩, by dsimp only; omega, by dsimp only; omega⟩, hN]
    unfold put
    rw [hA, if_neg (by omega), if_pos (by omega)]
    rfl
  · intro p hq
    have hq := List.mem_reverse.1 hq
    unfold quad pl mi at hq
    simp only [List.mem_cons, List.not_mem_nil, or_false] at hq
    rcases hq with rfl | rfl | rfl | rfl <;> dsimp only <;> constructor <;> omega
end Go.Proofs.YtflopcogalknhaaDoor.Str
