/-
  Texts of this claim, joined (1 of 8): Words, NumPure, NumInv, MatArith, NumFl, NumUn, NumBits, ArrEq, Frame, MatBase, MatA, MatB, MatC, MatD, NumFx, NumLen, NumDv.
-/
import Derived.Test.YtcighjeiimjbiaaRows
import Derived.WalkKit
import Derived.WalkSpells
import Derived.Below
import Derived.Laws.OwnMore
import Derived.Deep.AppendLies
import Derived.Deep.Draws
import Derived.Laws.Rows
import Derived.WalkLawsBesides
import Derived.Outline
import Derived.Lib.Hide
import Derived.Deep.QuietTactic
import Derived.BigQuiet
import Derived.Shelf.Bits.Mul64
import Derived.Laws.Externs
import Derived.Laws.Bits64b
import Derived.Laws.StructEq
import Derived.ProofKit
import Derived.OpenShut
import Derived.ShutString
import Derived.ChangeOld
import Derived.JoinedCond
import Derived.Carry
import Derived.ChangeSlices
import Derived.Lib.SmallJoins
import Derived.Laws.NewBlocks
import Derived.Deep.WholeRow
import Derived.Deep.RegionHeld3
import Derived.Deep.MidRow
import Derived.Laws.BitsAllLaws
import Derived.Laws.Bits64
import Derived.Lib.BitFns
import Derived.LoopTactic

/- Words: Words for memory: a slice that reads as a list (nil let in), a block that is known whole. Turned from the guide's page of words to copy. -/
namespace Go.Proofs.Ytcighjeiimjbiaa
open Go.RowKit

theorem block_of_add (a : Addr) (n : Nat) : (a.add n).block = a.block := by unfold Addr.add; split <;> rfl

def Reads (w : World) (B size : Nat) (A : Option Addr) (n : Nat) (xs : List Value) : Prop :=
  xs.length = n * size ∧ (0 < n → ∃ ad, A = some ad ∧ ad.block < B ∧ ∀ j u, xs[j]? = some u → w.cell? (ad.add j) = some u)

section
variable {w w' : World} {B B' size n : Nat} {A : Option Addr} {xs : List Value}
theorem Reads.none_ : Reads w B size A 0 [] := ⟨by simp, fun h => absurd h (by omega)⟩
theorem Reads.at_ {k : Nat} (h : Reads w B 1 A n xs) (hk : k < n) : ∃ ad u, A = some ad ∧ ad.block < B ∧ xs[k]? = some u ∧ w.cell? (ad.add k) = some u := by
  obtain ⟨ad, e, hb, hc⟩ := h.2 (by omega)
  have hl : k < xs.length := by have := h.1; omega
  exact ⟨ad, xs[k], e, hb, List.getElem?_eq_getElem hl, hc k _ (List.getElem?_eq_getElem hl)⟩
theorem Reads.keep (h : Reads w B size A n xs) (hk : ∀ p : Addr, p.block < B → w'.cell? p = w.cell? p) : Reads w' B size A n xs :=
  ⟨h.1, fun hn => by
    obtain ⟨ad, e, hb, hc⟩ := h.2 hn
    exact ⟨ad, e, hb, fun j u hu => (hk _ (by rw [block_of_add]; exact hb)).trans (hc j u hu)⟩⟩
theorem Reads.more (h : Reads w B size A n xs) (hB : B ≤ B') : Reads w B' size A n xs :=
  ⟨h.1, fun hn => by
    obtain ⟨ad, e, hb, hc⟩ := h.2 hn
    exact ⟨ad, e, by omega, hc⟩⟩
theorem Reads.below (h : Reads w B size A n xs) (hb : Below B w w') : Reads w' B size A n xs := h.keep fun _ hp => hb.cell hp
theorem Reads.drewN (h : Reads w B size A n xs) (k : Nat) : Reads (w.drewN k) B size A n xs := h
theorem Reads.alloc (h : Reads w B size A n xs) (hB : B ≤ w.heap.size) (o : Obj) : Reads (w.alloc o) B size A n xs := h.keep fun p hp => World.cell?_alloc_lt w o p (by omega)
theorem Reads.grown (h : Reads w B size A n xs) {row : Option Nat} (hg : w.grownBy w' row) (hB : B ≤ w.heap.size) (hr : ∀ g, row = some g → B ≤ g) : Reads w' B size A n xs :=
  h.keep fun p hp => World.cell?_of_block (hg.block p.block (by omega) (fun e => by have := hr _ e.symm; omega))
theorem Reads.of_own {base : Nat} {e : TypeId} {c : Nat} (h : w.ownsRow base e size (.slice A n c) n xs) : Reads w w.heap.size size A n xs := by
  refine ⟨h.1, fun hn => ?_⟩
  obtain ⟨g, cap, hv, _, hlt⟩ := h.form hn
  have hA : A = some ⟨g, 0, none⟩ := by injection hv
  subst hA
  exact ⟨_, rfl, hlt, h.cells (g := g) rfl⟩
end

def Blk (w : World) (g : Nat) (t : TypeId) (cs : Array Value) : Prop := w.heap[g]? = some (.cells cs t (0, 0))

section
variable {w w' : World} {g : Nat} {t : TypeId} {cs : Array Value}
theorem Blk.lt (h : Blk w g t cs) : g < w.heap.size := by
  rcases Nat.lt_or_ge g w.heap.size with hlt | hge
  · exact hlt
  · unfold Blk at h; rw [Array.getElem?_eq_none hge] at h; cases h
theorem Blk.cell (h : Blk w g t cs) (i : Nat) : w.cell? ⟨g, i, none⟩ = cs[i]? := cell_of_row w g i cs t (0, 0) h
theorem Blk.frozen (h : Blk w g t cs) (i : Nat) : w.frozen? ⟨g, i, none⟩ = false := by
  unfold Blk at h
  simp [World.frozen?, h]
theorem Blk.new (w : World) (t : TypeId) (cs : Array Value) : Blk (w.alloc (.cells cs t)) w.heap.size t cs := heap_alloc_new w _
theorem Blk.drew (h : Blk w g t cs) : Blk w.drew g t cs := h
theorem Blk.drewN (h : Blk w g t cs) (n : Nat) : Blk (w.drewN n) g t cs := h
theorem Blk.alloc (h : Blk w g t cs) (o : Obj) : Blk (w.alloc o) g t cs := (Below.heap_alloc w o g h.lt).trans h
theorem Blk.set_ (h : Blk w g t cs) (i : Nat) (u : Value) : Blk (w.setCell ⟨g, i, none⟩ u) g t (cs.setIfInBounds i u) := by
  unfold Blk at h ⊢
  simp [World.setCell, Array.getElem?_modify, h]
theorem Blk.far (h : Blk w g t cs) {p : Addr} (hp : g ≠ p.block) (u : Value) : Blk (w.setCell p u) g t cs := (Below.heap_setCell w p u g hp).trans h
theorem Blk.below {B : Nat} (h : Blk w g t cs) (hb : Below B w w') (hg : g < B) : Blk w' g t cs := (hb.block g hg).trans h
theorem Blk.grown {row : Option Nat} (h : Blk w g t cs) (hb : w.grownBy w' row) (hg : some g ≠ row) : Blk w' g t cs := (hb.block g h.lt hg).trans h
end

end Go.Proofs.Ytcighjeiimjbiaa

/- NumPure: The plain side of package num: quotients rounded down and to the nearest, limits, fixed-point products and quotients, roots. No program in sight. -/
namespace Go.Proofs.Ytcighjeiimjbiaa.NumPure

theorem fdiv_pos {a b : Int} (hb : 0 < b) : b * a.fdiv b ≤ a ∧ a < b * a.fdiv b + b := by
  rw [Int.fdiv_eq_ediv_of_nonneg _ (Int.le_of_lt hb)]
  have h1 := Int.mul_ediv_add_emod a b
  have h2 := Int.emod_nonneg a (Int.ne_of_gt hb)
  have h3 := Int.emod_lt_of_pos a hb
  constructor <;> omega
theorem fdiv_neg {a b : Int} (hb : b < 0) : a ≤ b * a.fdiv b ∧ b * a.fdiv b + b < a := by
  have h := fdiv_pos (a := -a) (b := -b) (by omega)
  rw [Int.neg_fdiv_neg, Int.neg_mul] at h
  constructor <;> omega
theorem fdiv_pos_unique {a b q : Int} (hb : 0 < b) (h1 : b * q ≤ a) (h2 : a < b * q + b) : a.fdiv b = q := by
  rw [Int.fdiv_eq_ediv_of_nonneg _ (Int.le_of_lt hb)]
  exact ((Int.ediv_emod_unique hb (r := a - b * q)).2 ⟨by omega, by omega, by omega⟩).1
theorem fdiv_neg_unique {a b q : Int} (hb : b < 0) (h1 : a ≤ b * q) (h2 : b * q + b < a) : a.fdiv b = q := by
  rw [← Int.neg_fdiv_neg]
  apply fdiv_pos_unique (by omega) <;> rw [Int.neg_mul] <;> omega

/-- What Go's quotient and remainder are. -/
theorem t_parts (a b : Int) : b * a.tdiv b + a.tmod b = a := Int.mul_tdiv_add_tmod a b
theorem tmod_pos {a b : Int} (ha : 0 ≤ a) (hb : b ≠ 0) : 0 ≤ a.tmod b ∧ (a.tmod b < b ∨ a.tmod b < -b) := by
  refine ⟨Int.tmod_nonneg b ha, ?_⟩
  rcases Int.lt_or_gt_of_ne hb with h | h
  · right
    have := Int.tmod_lt_of_pos a (b := -b) (by omega)
    rwa [Int.tmod_neg] at this
  · left
    exact Int.tmod_lt_of_pos a h
theorem tmod_neg {a b : Int} (ha : a ≤ 0) (hb : b ≠ 0) : a.tmod b ≤ 0 ∧ (-b < a.tmod b ∨ b < a.tmod b) := by
  have h := tmod_pos (a := -a) (b := b) (by omega) hb
  rw [Int.neg_tmod] at h
  omega

/-- The quotient rounded down, out of Go's quotient and remainder. -/
theorem floor_of (a b : Int) (hb : b ≠ 0) : a.fdiv b = if a.tmod b ≠ 0 ∧ (decide (a < 0) ≠ decide (b < 0)) then a.tdiv b - 1 else a.tdiv b := by
  have h := t_parts a b
  have e : b * (a.tdiv b - 1) = b * a.tdiv b - b := by rw [Int.mul_sub, Int.mul_one]
  rcases Int.lt_or_gt_of_ne hb with hb' | hb'
  · apply fdiv_neg_unique hb'
    · split
      · rename_i hc
        rw [e]
        by_cases ha : a < 0
        · simp [ha, hb'] at hc
        · have := tmod_pos (a := a) (b := b) (by omega) hb
          omega
      · rename_i hc
        by_cases ha : a < 0
        · have := tmod_neg (a := a) (b := b) (by omega) hb
          omega
        · simp [ha, hb'] at hc
          omega
    · split
      · rename_i hc
        rw [e]
        by_cases ha : a < 0
        · simp [ha, hb'] at hc
        · have := tmod_pos (a := a) (b := b) (by omega) hb
          omega
      · rename_i hc
        by_cases ha : a < 0
        · have := tmod_neg (a := a) (b := b) (by omega) hb
          omega
        · simp [ha, hb'] at hc
          omega
  · have hb2 : ¬ b < 0 := by omega
    apply fdiv_pos_unique hb'
    · split
      · rename_i hc
        rw [e]
        by_cases ha : a < 0
        · have := tmod_neg (a := a) (b := b) (by omega) hb
          omega
        · simp [ha, hb2] at hc
      · rename_i hc
        by_cases ha : a < 0
        · simp [ha, hb2] at hc
          omega
        · have := tmod_pos (a := a) (b := b) (by omega) hb
          omega
    · split
      · rename_i hc
        rw [e]
        by_cases ha : a < 0
        · have := tmod_neg (a := a) (b := b) (by omega) hb
          omega
        · simp [ha, hb2] at hc
      · rename_i hc
        by_cases ha : a < 0
        · simp [ha, hb2] at hc
          omega
        · have := tmod_pos (a := a) (b := b) (by omega) hb
          omega

/-- A quotient of two numbers of 64 bits is one, but for the least one by -1. -/
theorem tdiv_in {a b : Int} (h0 : -9223372036854775808 ≤ a) (h1 : a ≤ 9223372036854775807) (hx : ¬ (a = -9223372036854775808 ∧ b = -1)) : -9223372036854775808 ≤ a.tdiv b ∧ a.tdiv b ≤ 9223372036854775807 := by
  have h := Int.natAbs_tdiv_le_natAbs a b
  by_cases e : a = -9223372036854775808
  · subst e
    by_cases hb : b.natAbs ≤ 1
    · have : b = 0 ∨ b = 1 := by omega
      rcases this with rfl | rfl
      · simp
      · simp
    · have h2 : (Int.tdiv (-9223372036854775808) b).natAbs = 9223372036854775808 / b.natAbs := Int.natAbs_tdiv _ _
      have h3 : 9223372036854775808 / b.natAbs ≤ 9223372036854775808 / 2 := Nat.div_le_div_left (by omega) (by omega)
      omega
  · omega

def flr (a b : Int) : Int := if b = 0 then 0 else if a = -9223372036854775808 ∧ b = -1 then 9223372036854775807 else a.fdiv b

/-- Half up. -/
def up (a b : Int) : Bool := decide (0 < b ∧ b - (a - b * a.fdiv b) ≤ a - b * a.fdiv b ∨ b < 0 ∧ a - b * a.fdiv b ≤ b - (a - b * a.fdiv b))
def dvr (a b : Int) : Int := if b = 0 then 0 else if a = -9223372036854775808 ∧ b = -1 then 9223372036854775807 else if up a b then a.fdiv b + 1 else a.fdiv b

theorem tdiv_half {a b : Int} (h0 : -9223372036854775808 ≤ a) (h1 : a ≤ 9223372036854775807) (hb : 2 ≤ b.natAbs) : -4611686018427387904 ≤ a.tdiv b ∧ a.tdiv b ≤ 4611686018427387904 := by
  have h2 : (Int.tdiv a b).natAbs = a.natAbs / b.natAbs := Int.natAbs_tdiv _ _
  have h3 : a.natAbs / b.natAbs ≤ a.natAbs / 2 := Nat.div_le_div_left hb (by omega)
  omega
theorem tmod_one {a b : Int} (hb : b.natAbs = 1) : a.tmod b = 0 := by
  have : b = 1 ∨ b = -1 := by omega
  rcases this with rfl | rfl
  · exact Int.tmod_one a
  · rw [Int.tmod_neg]; exact Int.tmod_one a

theorem fdiv_in {a b : Int} (h0 : -9223372036854775808 ≤ a) (h1 : a ≤ 9223372036854775807) (hb : b ≠ 0) (hx : ¬ (a = -9223372036854775808 ∧ b = -1)) : -9223372036854775808 ≤ a.fdiv b ∧ a.fdiv b ≤ 9223372036854775807 := by
  rw [floor_of a b hb]
  have hq := tdiv_in h0 h1 hx
  split
  · rename_i hc
    by_cases h2 : 2 ≤ b.natAbs
    · have := tdiv_half h0 h1 h2
      omega
    · exact absurd (tmod_one (a := a) (b := b) (by omega)) hc.1
  · exact hq

theorem up_in {a b : Int} (h0 : -9223372036854775808 ≤ a) (h1 : a ≤ 9223372036854775807) (hb : b ≠ 0) (hu : up a b = true) : -9223372036854775808 ≤ a.fdiv b ∧ a.fdiv b + 1 ≤ 9223372036854775807 := by
  by_cases h2 : 2 ≤ b.natAbs
  · have := tdiv_half h0 h1 h2
    rw [floor_of a b hb]
    split <;> omega
  · exfalso
    have e : a.tmod b = 0 := tmod_one (by omega)
    have h3 := t_parts a b
    have h4 : a.fdiv b = a.tdiv b := by rw [floor_of a b hb, if_neg (by simp [e])]
    simp only [up, h4, decide_eq_true_eq] at hu
    omega

theorem flr_zero (a : Int) : flr a 0 = 0 := by simp [flr]
theorem flr_over : flr (-9223372036854775808) (-1) = 9223372036854775807 := by simp [flr]
theorem flr_of {a b : Int} (hb : b ≠ 0) (hx : ¬ (a = -9223372036854775808 ∧ b = -1)) : flr a b = a.fdiv b := by rw [flr, if_neg hb, if_neg hx]
theorem flr_in {a b : Int} (h0 : -9223372036854775808 ≤ a) (h1 : a ≤ 9223372036854775807) : -9223372036854775808 ≤ flr a b ∧ flr a b ≤ 9223372036854775807 := by
  unfold flr
  split
  · omega
  · split
    · omega
    · exact fdiv_in h0 h1 ‹_› ‹_›
theorem flr_down {a b : Int} (hb : b ≠ 0) (hx : ¬ (a = -9223372036854775808 ∧ b = -1)) (hm : a.tmod b ≠ 0) (hs : decide (a < 0) ≠ decide (b < 0)) : flr a b = a.tdiv b - 1 := by
  rw [flr_of hb hx, floor_of a b hb, if_pos ⟨hm, hs⟩]
theorem flr_keep {a b : Int} (hb : b ≠ 0) (hx : ¬ (a = -9223372036854775808 ∧ b = -1)) (h : ¬ (a.tmod b ≠ 0 ∧ decide (a < 0) ≠ decide (b < 0))) : flr a b = a.tdiv b := by
  rw [flr_of hb hx, floor_of a b hb, if_neg h]

theorem dvr_zero (a : Int) : dvr a 0 = 0 := by simp [dvr]
theorem dvr_over : dvr (-9223372036854775808) (-1) = 9223372036854775807 := by simp [dvr]
theorem dvr_up {a b : Int} (hb : b ≠ 0) (hx : ¬ (a = -9223372036854775808 ∧ b = -1)) (h : up a b = true) : dvr a b = flr a b + 1 := by
  rw [flr_of hb hx, dvr, if_neg hb, if_neg hx, if_pos h]
theorem dvr_down {a b : Int} (hb : b ≠ 0) (hx : ¬ (a = -9223372036854775808 ∧ b = -1)) (h : up a b = false) : dvr a b = flr a b := by
  rw [flr_of hb hx, dvr, if_neg hb, if_neg hx, h]; rfl
theorem dvr_in {a b : Int} (h0 : -9223372036854775808 ≤ a) (h1 : a ≤ 9223372036854775807) : -9223372036854775808 ≤ dvr a b ∧ dvr a b ≤ 9223372036854775807 := by
  unfold dvr
  split
  · omega
  · split
    · omega
    · split
      · have := up_in h0 h1 ‹_› ‹_›
        omega
      · exact fdiv_in h0 h1 ‹_› ‹_›

def clp (x lo hi : Int) : Int := min hi (max x lo)
def unt (x : Int) : Int := clp x 0 65535

theorem unt_in (x : Int) : 0 ≤ unt x ∧ unt x ≤ 65535 := by unfold unt clp; omega
theorem mul_bd {x y : Int} (x0 : 0 ≤ x) (x1 : x ≤ 65535) (y0 : 0 ≤ y) (y1 : y ≤ 65535) : 0 ≤ x * y ∧ x * y ≤ 4294836225 := by
  refine ⟨Int.mul_nonneg x0 y0, ?_⟩
  have := Int.mul_le_mul x1 y1 y0 (by omega)
  omega
theorem mul_bd2 {x u : Int} (x0 : -1099511627776 ≤ x) (x1 : x ≤ 1099511627776) (u0 : 0 ≤ u) (u1 : u ≤ 65535) : -72056494526300160 ≤ x * u ∧ x * u ≤ 72056494526300160 := by
  have h1 := Int.mul_le_mul_of_nonneg_right x1 u0
  have h2 := Int.mul_le_mul_of_nonneg_right x0 u0
  omega
def mulU (a b : Int) : Int := dvr (unt a * unt b) 65535
def quoU (a b : Int) : Int := min 65535 (dvr (unt a * 65535) (unt b))
def lerpU (a b t : Int) : Int := dvr (clp a (-1099511627776) 1099511627776 * (65535 - unt t) + clp b (-1099511627776) 1099511627776 * unt t) 65535

def sat (x : Int) : Int := max (-9223372036854775808) (min 9223372036854775807 x)
/-- The product of two fixed-point numbers: rounded to the nearest (halves up), saturated. -/
def fixU (a b : Int) : Int := sat ((a * b + 32768).fdiv 65536)

/-- A magnitude with a sign, saturated. -/
def sgn (neg : Bool) (q : Nat) : Int := bif neg then max (-9223372036854775808) (-(q : Int)) else min 9223372036854775807 (q : Int)

/-- A quotient of magnitudes, rounded to the nearest integer (halves up, as numbers with their sign). -/
def rnd (neg : Bool) (n d : Nat) : Nat := if (bif neg then decide (d - n % d < n % d) else decide (d - n % d ≤ n % d)) then n / d + 1 else n / d
/-- The quotient of two fixed-point numbers. -/
def ratU (a b : Int) : Int := if b = 0 then 0 else sgn (decide (a < 0) != decide (b < 0)) (rnd (decide (a < 0) != decide (b < 0)) (a.natAbs * 65536) b.natAbs)

/-- The root by bits, from the highest one. -/
def sqGo (n : Nat) : Nat → Nat → Nat
  | 0, r => r
  | m + 1, r => sqGo n m (if (r + 2 ^ m) * (r + 2 ^ m) ≤ n then r + 2 ^ m else r)

theorem sqGo_spec (n : Nat) : ∀ m r, r * r ≤ n → n < (r + 2 ^ m) * (r + 2 ^ m) → sqGo n m r * sqGo n m r ≤ n ∧ n < (sqGo n m r + 1) * (sqGo n m r + 1)
  | 0, r, h1, h2 => ⟨h1, h2⟩
  | m + 1, r, h1, h2 => by
    rw [sqGo]
    split
    · rename_i h
      refine sqGo_spec n m _ h ?_
      rw [Nat.pow_succ] at h2
      rwa [show r + 2 ^ m + 2 ^ m = r + 2 ^ m * 2 by omega]
    · rename_i h
      exact sqGo_spec n m _ h1 (by omega)

theorem sq_unique {n r s : Nat} (h1 : r * r ≤ n) (h2 : n < (r + 1) * (r + 1)) (h3 : s * s ≤ n) (h4 : n < (s + 1) * (s + 1)) : r = s := by
  rcases Nat.lt_trichotomy r s with h | h | h
  · have := Nat.mul_le_mul (show r + 1 ≤ s by omega) (show r + 1 ≤ s by omega)
    omega
  · exact h
  · have := Nat.mul_le_mul (show s + 1 ≤ r by omega) (show s + 1 ≤ r by omega)
    omega

end Go.Proofs.Ytcighjeiimjbiaa.NumPure

/- NumInv: Plain facts on quotients rounded to the nearest: a quotient undoes a product; a mixture lies between its ends. No program in sight. -/
namespace Go.Proofs.Ytcighjeiimjbiaa.NumPure

theorem dvr_spec {v d : Int} (hd : 0 < d) : 2 * (d * dvr v d) ≤ 2 * v + d ∧ 2 * v + d < 2 * (d * dvr v d) + 2 * d := by
  have hf := fdiv_pos (a := v) hd
  by_cases hu : up v d = true
  · rw [dvr_up (by omega) (by omega) hu, flr_of (by omega) (by omega), Int.mul_add]
    simp only [up, decide_eq_true_eq] at hu
    constructor <;> omega
  · rw [dvr_down (by omega) (by omega) (by simpa using hu), flr_of (by omega) (by omega)]
    simp only [up, decide_eq_true_eq] at hu
    constructor <;> omega
theorem dvr_le {v d q : Int} (hd : 0 < d) (h : 2 * v + d < 2 * (d * q) + 2 * d) : dvr v d ≤ q := by
  have hs := dvr_spec (v := v) hd
  by_cases hq : dvr v d ≤ q
  · exact hq
  · have h1 : d * (q + 1) ≤ d * dvr v d := Int.mul_le_mul_of_nonneg_left (by omega) (by omega)
    rw [Int.mul_add] at h1
    omega
theorem dvr_ge {v d q : Int} (hd : 0 < d) (h : 2 * (d * q) ≤ 2 * v + d) : q ≤ dvr v d := by
  have hs := dvr_spec (v := v) hd
  by_cases hq : q ≤ dvr v d
  · exact hq
  · have h1 : d * (dvr v d + 1) ≤ d * q := Int.mul_le_mul_of_nonneg_left (by omega) (by omega)
    rw [Int.mul_add] at h1
    omega
theorem dvr_mul {q d : Int} (hd : 0 < d) : dvr (q * d) d = q := by
  have e : q * d = d * q := Int.mul_comm _ _
  have h1 := dvr_le (v := q * d) (q := q) hd (by omega)
  have h2 := dvr_ge (v := q * d) (q := q) hd (by omega)
  omega

theorem mulU_comm (a b : Int) : mulU a b = mulU b a := by unfold mulU; rw [Int.mul_comm]
theorem mulU_in (a b : Int) : 0 ≤ mulU a b ∧ mulU a b ≤ unt a ∧ mulU a b ≤ unt b := by
  have ha := unt_in a
  have hb := unt_in b
  have h1 := Int.mul_nonneg ha.1 hb.1
  have h2 : unt a * unt b ≤ unt a * 65535 := Int.mul_le_mul_of_nonneg_left hb.2 ha.1
  have h3 : unt a * unt b ≤ 65535 * unt b := Int.mul_le_mul_of_nonneg_right ha.2 hb.1
  unfold mulU
  refine ⟨dvr_ge (by omega) (by omega), dvr_le (by omega) (by omega), dvr_le (by omega) (by omega)⟩
theorem mulU_one (a : Int) : mulU a 65535 = unt a := by
  unfold mulU
  rw [show unt 65535 = 65535 by decide]
  exact dvr_mul (by omega)
theorem unt_of {x : Int} (h0 : 0 ≤ x) (h1 : x ≤ 65535) : unt x = x := by unfold unt clp; omega
theorem quo_near (a b : Int) (hb : 0 < unt b) : 2 * (unt b * (quoU (mulU a b) b - unt a)) ≤ 65535 + unt b ∧ 2 * (unt b * (unt a - quoU (mulU a b) b)) ≤ 65535 + unt b := by
  have hx := unt_in a
  have hy := unt_in b
  have hm := mulU_in a b
  have h1 := dvr_spec (v := unt a * unt b) (d := 65535) (by omega)
  have h2 := dvr_spec (v := mulU a b * 65535) (d := unt b) hb
  have e1 : quoU (mulU a b) b = min 65535 (dvr (mulU a b * 65535) (unt b)) := by
    unfold quoU
    rw [unt_of hm.1 (by omega)]
  have e2 : dvr (unt a * unt b) 65535 = mulU a b := rfl
  rw [e2] at h1
  rw [e1]
  obtain ⟨q, hq⟩ : ∃ q, dvr (mulU a b * 65535) (unt b) = q := ⟨_, rfl⟩
  rw [hq] at h2 ⊢
  clear e1 e2 hq
  generalize unt a = x at *
  generalize unt b = y at *
  generalize mulU a b = m at *
  have e3 : x * y = y * x := Int.mul_comm _ _
  rw [e3] at h1
  by_cases hc : q ≤ 65535
  · rw [show min 65535 q = q by omega, Int.mul_sub y q x, Int.mul_sub y x q]
    omega
  · have h4 : y * 65535 ≤ y * q := Int.mul_le_mul_of_nonneg_left (by omega) (by omega)
    rw [show min 65535 q = 65535 by omega, Int.mul_sub y 65535 x, Int.mul_sub y x 65535]
    have h5 : y * x ≤ y * 65535 := Int.mul_le_mul_of_nonneg_left hx.2 (by omega)
    omega
/-- What the law asks: the distance is at most 65535 / (2 y) + 1. -/
theorem quo_close (a b : Int) (hb : 0 < unt b) : quoU (mulU a b) b - unt a ≤ 65535 / (2 * unt b) + 1 ∧ unt a - quoU (mulU a b) b ≤ 65535 / (2 * unt b) + 1 := by
  have h := quo_near a b hb
  generalize quoU (mulU a b) b - unt a = d at *
  generalize unt a - quoU (mulU a b) b = f at *
  generalize unt b = y at *
  have hd : 65535 < (2 * y) * (65535 / (2 * y)) + 2 * y := by
    have h1 := Int.mul_ediv_add_emod 65535 (2 * y)
    have h2 := Int.emod_lt_of_pos 65535 (b := 2 * y) (by omega)
    omega
  generalize 65535 / (2 * y) = k at *
  have key : ∀ z : Int, 2 * (y * z) ≤ 65535 + y → z ≤ k + 1 := by
    intro z hz
    by_cases hc : z ≤ k + 1
    · exact hc
    · have h4 : y * (k + 2) ≤ y * z := Int.mul_le_mul_of_nonneg_left (by omega) (by omega)
      rw [Int.mul_add] at h4
      rw [Int.mul_assoc] at hd
      omega
  exact ⟨key d h.1, key f h.2⟩

theorem clp_of {x : Int} (h0 : -1099511627776 ≤ x) (h1 : x ≤ 1099511627776) : clp x (-1099511627776) 1099511627776 = x := by unfold clp; omega
theorem lerp_zero (a b : Int) (a0 : -1099511627776 ≤ a) (a1 : a ≤ 1099511627776) : lerpU a b 0 = a := by
  unfold lerpU
  rw [clp_of a0 a1, show unt 0 = 0 by decide, Int.mul_zero, Int.add_zero]
  exact dvr_mul (by omega)
theorem lerp_one (a b : Int) (b0 : -1099511627776 ≤ b) (b1 : b ≤ 1099511627776) : lerpU a b 65535 = b := by
  unfold lerpU
  rw [clp_of b0 b1, show unt 65535 = 65535 by decide, Int.sub_self, Int.mul_zero, Int.zero_add]
  exact dvr_mul (by omega)
theorem lerp_between (a b t : Int) (a0 : -1099511627776 ≤ a) (a1 : a ≤ 1099511627776) (b0 : -1099511627776 ≤ b) (b1 : b ≤ 1099511627776) : min a b ≤ lerpU a b t ∧ lerpU a b t ≤ max a b := by
  have hu := unt_in t
  unfold lerpU
  rw [clp_of a0 a1, clp_of b0 b1]
  generalize unt t = u at *
  have e : a * (65535 - u) = a * 65535 - a * u := Int.mul_sub _ _ _
  rw [e]
  have h1 : 0 ≤ u := hu.1
  by_cases hab : a ≤ b
  · have h2 : a * u ≤ b * u := Int.mul_le_mul_of_nonneg_right hab h1
    have h3 : a * (65535 - u) ≤ b * (65535 - u) := Int.mul_le_mul_of_nonneg_right hab (by omega)
    have e2 : b * (65535 - u) = b * 65535 - b * u := Int.mul_sub _ _ _
    rw [show min a b = a by omega, show max a b = b by omega]
    exact ⟨dvr_ge (by omega) (by omega), dvr_le (by omega) (by omega)⟩
  · have h2 : b * u ≤ a * u := Int.mul_le_mul_of_nonneg_right (by omega) h1
    have h3 : b * (65535 - u) ≤ a * (65535 - u) := Int.mul_le_mul_of_nonneg_right (by omega) (by omega)
    have e2 : b * (65535 - u) = b * 65535 - b * u := Int.mul_sub _ _ _
    rw [show min a b = b by omega, show max a b = a by omega]
    exact ⟨dvr_ge (by omega) (by omega), dvr_le (by omega) (by omega)⟩

end Go.Proofs.Ytcighjeiimjbiaa.NumPure

/- MatArith: Arithmetic behind package matrix: determinants, cofactors, and an inverse that was rounded. No program in sight. -/
namespace Go.Proofs.Ytcighjeiimjbiaa.MatPure
open Go.Proofs.Ytcighjeiimjbiaa.NumPure

theorem ring_det (a b c d e f g h i : Int) : a * (e * i - f * h) + b * (f * g - d * i) + c * (d * h - e * g) = a * (e * i - h * f) + d * (h * c - b * i) + g * (b * f - e * c) := by grind

/-- |x y| = |x| |y|, with bounds. -/
theorem abs_mul_le {x y m : Int} (h0 : -m ≤ x) (h1 : x ≤ m) (hm : 0 ≤ m) (a : Int) (ha : -a ≤ y) (ha1 : y ≤ a) (ha0 : 0 ≤ a) : -(m * a) ≤ x * y ∧ x * y ≤ m * a := by
  have h2 : x.natAbs ≤ m.natAbs := by omega
  have h3 : y.natAbs ≤ a.natAbs := by omega
  have h4 := Nat.mul_le_mul h2 h3
  rw [← Int.natAbs_mul, ← Int.natAbs_mul] at h4
  have h5 : 0 ≤ m * a := Int.mul_nonneg hm ha0
  omega

/-- Three rounded quotients t over the same divisor d, of the numbers c times 2^32: what their products with three numbers sum to. -/
theorem back_sum (d t0 t1 t2 c0 c1 c2 m0 m1 m2 D K : Int) (hd : d ≠ 0)
    (h0 : 2 * (t0 * d - c0 * K) ≤ (d.natAbs : Int)) (h0' : -(d.natAbs : Int) ≤ 2 * (t0 * d - c0 * K))
    (h1 : 2 * (t1 * d - c1 * K) ≤ (d.natAbs : Int)) (h1' : -(d.natAbs : Int) ≤ 2 * (t1 * d - c1 * K))
    (h2 : 2 * (t2 * d - c2 * K) ≤ (d.natAbs : Int)) (h2' : -(d.natAbs : Int) ≤ 2 * (t2 * d - c2 * K))
    (hs : c0 * m0 + c1 * m1 + c2 * m2 = d * D) :
    2 * (t0 * m0 + t1 * m1 + t2 * m2 - D * K) ≤ (m0.natAbs + m1.natAbs + m2.natAbs : Nat) ∧ -((m0.natAbs + m1.natAbs + m2.natAbs : Nat) : Int) ≤ 2 * (t0 * m0 + t1 * m1 + t2 * m2 - D * K) := by
  obtain ⟨e0, he0⟩ : ∃ e, e = t0 * d - c0 * K := ⟨_, rfl⟩
  obtain ⟨e1, he1⟩ : ∃ e, e = t1 * d - c1 * K := ⟨_, rfl⟩
  obtain ⟨e2, he2⟩ : ∃ e, e = t2 * d - c2 * K := ⟨_, rfl⟩
  rw [← he0] at h0 h0'
  rw [← he1] at h1 h1'
  rw [← he2] at h2 h2'
  obtain ⟨S, hS⟩ : ∃ S, S = t0 * m0 + t1 * m1 + t2 * m2 - D * K := ⟨_, rfl⟩
  rw [← hS]
  have key : d * S = e0 * m0 + e1 * m1 + e2 * m2 := by
    have e : d * (D * K) = (c0 * m0 + c1 * m1 + c2 * m2) * K := by rw [hs, Int.mul_assoc]
    grind
  have hn : ∀ e m : Int, 2 * e ≤ (d.natAbs : Int) → -(d.natAbs : Int) ≤ 2 * e → 2 * (e * m).natAbs ≤ d.natAbs * m.natAbs := by
    intro e m u v
    rw [Int.natAbs_mul, ← Nat.mul_assoc]
    exact Nat.mul_le_mul_right _ (by omega)
  have n0 := hn e0 m0 h0 h0'
  have n1 := hn e1 m1 h1 h1'
  have n2 := hn e2 m2 h2 h2'
  have hS2 : d.natAbs * (2 * S.natAbs) ≤ d.natAbs * (m0.natAbs + m1.natAbs + m2.natAbs) := by
    have ek : d.natAbs * S.natAbs = (d * S).natAbs := (Int.natAbs_mul d S).symm
    rw [Nat.mul_left_comm, ek, key, Nat.mul_add, Nat.mul_add]
    omega
  have hpos : 0 < d.natAbs := by omega
  have := Nat.le_of_mul_le_mul_left hS2 hpos
  omega

theorem rnd_spec (neg : Bool) (n d : Nat) (hd : 0 < d) : 2 * (rnd neg n d * d) ≤ 2 * n + d ∧ 2 * n ≤ 2 * (rnd neg n d * d) + d := by
  have h1 := Nat.div_add_mod n d
  have h2 := Nat.mod_lt n hd
  rw [Nat.mul_comm] at h1
  unfold rnd
  cases neg
  · simp only [cond_false, decide_eq_true_eq]
    split
    · rw [Nat.add_mul, Nat.one_mul]; omega
    · omega
  · simp only [cond_true, decide_eq_true_eq]
    split
    · rw [Nat.add_mul, Nat.one_mul]; omega
    · omega

/-- A quotient that was not saturated lies within half of the divisor. -/
theorem rat_near (a b : Int) (hb : b ≠ 0) (h0 : -9223372036854775808 < ratU a b) (h1 : ratU a b < 9223372036854775807) :
    2 * (ratU a b * b - a * 65536) ≤ (b.natAbs : Int) ∧ -(b.natAbs : Int) ≤ 2 * (ratU a b * b - a * 65536) := by
  have hs := rnd_spec (decide (a < 0) != decide (b < 0)) (a.natAbs * 65536) b.natAbs (by omega)
  unfold ratU at h0 h1 ⊢
  rw [if_neg hb] at h0 h1 ⊢
  generalize hq : rnd (decide (a < 0) != decide (b < 0)) (a.natAbs * 65536) b.natAbs = q at *
  cases hneg : (decide (a < 0) != decide (b < 0))
  · rw [hneg] at h0 h1
    simp only [sgn, cond_false] at h0 h1 ⊢
    rw [show min 9223372036854775807 (q : Int) = q by omega]
    by_cases hb0 : b < 0
    · have ha : a < 0 := by
        by_cases ha : a < 0
        · exact ha
        · simp [ha, hb0] at hneg
      have e : (q : Int) * b = -((q * b.natAbs : Nat) : Int) := by
        rw [Int.natCast_mul, ← Int.mul_neg]
        congr 1
        omega
      rw [e]
      omega
    · have ha : ¬ a < 0 := by
        intro ha
        simp [ha, hb0] at hneg
      have e : (q : Int) * b = ((q * b.natAbs : Nat) : Int) := by
        rw [Int.natCast_mul]
        congr 1
        omega
      rw [e]
      omega
  · rw [hneg] at h0 h1
    simp only [sgn, cond_true] at h0 h1 ⊢
    rw [show max (-9223372036854775808) (-(q : Int)) = -q by omega]
    by_cases hb0 : b < 0
    · have ha : ¬ a < 0 := by
        intro ha
        simp [ha, hb0] at hneg
      have e : -(q : Int) * b = ((q * b.natAbs : Nat) : Int) := by
        rw [Int.natCast_mul, Int.neg_mul, ← Int.mul_neg]
        congr 1
        omega
      rw [e]
      omega
    · have ha : a < 0 := by
        by_cases ha : a < 0
        · exact ha
        · simp [ha, hb0] at hneg
      have e : -(q : Int) * b = -((q * b.natAbs : Nat) : Int) := by
        rw [Int.natCast_mul, Int.neg_mul]
        congr 2
        omega
      rw [e]
      omega

end Go.Proofs.Ytcighjeiimjbiaa.MatPure

/- NumFl: Package num: quotients rounded down and to the nearest integer, limits. What each function answers, for every input. -/
namespace Go.Proofs.Ytcighjeiimjbiaa.Num
open Go.RowKit Go.Proofs.Ytcighjeiimjbiaa Go.Proofs.Ytcighjeiimjbiaa.NumPure

theorem ret_int {k : IntKind} {a b : Int} (h : a = b) : Ending.returned (.int k a) = .returned (.int k b) := by rw [h]

/-- The least number by -1 is shut out: in the walk's own tests. -/
theorem notOver {a b : Int} (hx : ¬ (a = -9223372036854775808 ∧ b = -1)) : ((a == -9223372036854775808) = true ∧ (b == -1) = false) ∨ (a == -9223372036854775808) = false := by
  by_cases e : a = -9223372036854775808
  · exact .inl ⟨by simp [e], by simp; intro e2; exact hx ⟨e, e2⟩⟩
  · exact .inr (by simpa using e)

set_option maxHeartbeats 1000000 in
theorem floor_any (a b : Int) (h0 : -9223372036854775808 ≤ a) (h1 : a ≤ 9223372036854775807) (w : World) :
    Calls Try.prog 104 #[.int .i64 a, .int .i64 b] w fun e w' => e = .returned (.int .i64 (flr a b)) ∧ w = w' := by
  by_cases hb : b = 0
  · subst hb
    go_enter Try.func104, Try.ntmps104
    go_wp2
    go_ret
    exact ⟨ret_int (flr_zero a).symm, rfl⟩
  have tb : (b == 0) = false := by simpa using hb
  by_cases hx : a = -9223372036854775808 ∧ b = -1
  · obtain ⟨rfl, rfl⟩ := hx
    go_enter Try.func104, Try.ntmps104
    go_wp2
    go_ret
    exact ⟨ret_int flr_over.symm, rfl⟩
  have hq := tdiv_in h0 h1 hx
  obtain ⟨q0, q1⟩ := hq
  have hmin := notOver hx
  by_cases hm : a.tmod b = 0
  · have HF := Lib.hid (flr_keep hb hx (by simp [hm]))
    have tm : (a.tmod b != 0) = false := by simp [hm]
    clear hm hx
    rcases hmin with ⟨t1, t2⟩ | t1
    all_goals
      go_enter Try.func104, Try.ntmps104
      go_wp2
      go_ret
      exact ⟨ret_int HF.out.symm, rfl⟩
  · have tm : (a.tmod b != 0) = true := by simp [hm]
    by_cases hs : decide (a < 0) = decide (b < 0)
    · have HF := Lib.hid (flr_keep hb hx (by simp [hs]))
      have ts : (!(decide (a < 0) == decide (b < 0))) = false := by rw [hs]; simp
      clear hm hx hs
      rcases hmin with ⟨t1, t2⟩ | t1
      all_goals
        go_enter Try.func104, Try.ntmps104
        go_wp2
        go_ret
        exact ⟨ret_int HF.out.symm, rfl⟩
    · have HF := Lib.hid (flr_down hb hx hm hs)
      have hi := flr_in (b := b) h0 h1
      rw [HF.out] at hi
      have ts : (!(decide (a < 0) == decide (b < 0))) = true := by simpa using hs
      obtain ⟨q2, q3⟩ := hi
      clear hm hx hs
      rcases hmin with ⟨t1, t2⟩ | t1
      all_goals
        go_enter Try.func104, Try.ntmps104
        go_wp2
        go_ret
        exact ⟨ret_int HF.out.symm, rfl⟩

theorem wrap_sub {a x : Int} (h0 : -9223372036854775808 ≤ a - x) (h1 : a - x ≤ 9223372036854775807) : wrap64 (a - wrap64 x) = a - x := by
  unfold wrap64
  omega

/-- What is left by the quotient that was rounded down. -/
theorem rest_pos {a b : Int} (hb : 0 < b) : 0 ≤ a - b * a.fdiv b ∧ a - b * a.fdiv b < b := by
  have := fdiv_pos (a := a) hb
  omega
theorem rest_neg {a b : Int} (hb : b < 0) : a - b * a.fdiv b ≤ 0 ∧ b < a - b * a.fdiv b := by
  have := fdiv_neg (a := a) hb
  omega

/-- What the walk of Div needs: the quotient q, the rest r, and whether it is rounded up. -/
theorem div_parts (a b : Int) (h0 : -9223372036854775808 ≤ a) (h1 : a ≤ 9223372036854775807) (g0 : -9223372036854775808 ≤ b) (g1 : b ≤ 9223372036854775807) (hb : b ≠ 0) (hx : ¬ (a = -9223372036854775808 ∧ b = -1)) :
    ∃ q r : Int, q = flr a b ∧ wrap64 (a - wrap64 (b * q)) = r ∧ -9223372036854775808 ≤ q ∧ q ≤ 9223372036854775807 ∧ ((0 < b ∧ 0 ≤ r ∧ r < b) ∨ (b < 0 ∧ r ≤ 0 ∧ b < r)) ∧
      ((dvr a b = q + 1 ∧ q + 1 ≤ 9223372036854775807 ∧ (0 < b → b - r ≤ r) ∧ (b < 0 → r ≤ b - r)) ∨ (dvr a b = q ∧ (0 < b → r < b - r) ∧ (b < 0 → b - r < r))) := by
  refine ⟨flr a b, a - b * flr a b, rfl, ?_, (flr_in h0 h1).1, (flr_in h0 h1).2, ?_, ?_⟩
  · apply wrap_sub
    all_goals
      rw [flr_of hb hx]
      rcases Int.lt_or_gt_of_ne hb with h | h
      · have := rest_neg (a := a) h
        omega
      · have := rest_pos (a := a) h
        omega
  · rw [flr_of hb hx]
    rcases Int.lt_or_gt_of_ne hb with h | h
    · exact .inr ⟨h, rest_neg h⟩
    · exact .inl ⟨h, rest_pos h⟩
  · cases hu : up a b with
    | true =>
      have hi := up_in h0 h1 hb hu
      refine .inl ⟨dvr_up hb hx hu, by rw [flr_of hb hx]; exact hi.2, ?_, ?_⟩
      all_goals
        rw [flr_of hb hx]
        intro h
        simp only [up, decide_eq_true_eq] at hu
        omega
    | false =>
      refine .inr ⟨dvr_down hb hx hu, ?_, ?_⟩
      all_goals
        rw [flr_of hb hx]
        intro h
        simp only [up, decide_eq_false_iff_not] at hu
        omega

theorem floor_is (a b q : Int) (h0 : -9223372036854775808 ≤ a) (h1 : a ≤ 9223372036854775807) (hq : q = flr a b) (w : World) :
    Calls Try.prog 104 #[.int .i64 a, .int .i64 b] w fun e w' => e = .returned (.int .i64 q) ∧ w = w' := by
  subst hq
  exact floor_any a b h0 h1 w

set_option maxHeartbeats 2000000 in
theorem div_any (a b : Int) (h0 : -9223372036854775808 ≤ a) (h1 : a ≤ 9223372036854775807) (g0 : -9223372036854775808 ≤ b) (g1 : b ≤ 9223372036854775807) (w : World) :
    Calls Try.prog 92 #[.int .i64 a, .int .i64 b] w fun e w' => e = .returned (.int .i64 (dvr a b)) ∧ w = w' := by
  by_cases hb : b = 0
  · subst hb
    go_enter Try.func92, Try.ntmps92
    go_wp2
    go_ret
    exact ⟨ret_int (dvr_zero a).symm, rfl⟩
  have tb : (b == 0) = false := by simpa using hb
  by_cases hx : a = -9223372036854775808 ∧ b = -1
  · obtain ⟨rfl, rfl⟩ := hx
    go_enter Try.func92, Try.ntmps92
    go_wp2
    go_ret
    exact ⟨ret_int dvr_over.symm, rfl⟩
  have hmin := notOver hx
  obtain ⟨q, r, hq, hr, q0, q1, hs, hc⟩ := div_parts a b h0 h1 g0 g1 hb hx
  have HQ := Lib.hid hq
  clear hq hx
  rcases hs with ⟨hp, r0, r1⟩ | ⟨hp, r0, r1⟩
  all_goals
    rcases hc with ⟨hd, hi, hu, hv⟩ | ⟨hd, hu, hv⟩
    all_goals
      have HD := Lib.hid hd
      clear hd
      first | (have hl := hu hp; clear hu hv) | (have hl := hv hp; clear hu hv)
      rcases hmin with ⟨t1, t2⟩ | t1
      all_goals
        go_enter Try.func92, Try.ntmps92
        go_wp2_with (go_at_call 104; refine (floor_is a b q h0 h1 HQ.out _).mono ?_; rintro e w' ⟨rfl, rfl⟩)
        go_ret
        exact ⟨ret_int HD.out.symm, rfl⟩

theorem clamp_any (x lo hi : Int) (w : World) : Calls Try.prog 65 #[.int .i64 x, .int .i64 lo, .int .i64 hi] w fun e w' => e = .returned (.int .i64 (clp x lo hi)) ∧ w = w' := by
  go_enter Try.func65, Try.ntmps65
  go_wp2
  all_goals
    go_ret
    exact ⟨ret_int (by unfold clp; omega), rfl⟩

end Go.Proofs.Ytcighjeiimjbiaa.Num

/- NumUn: Package num: unit values: products, quotients and values between two. -/
namespace Go.Proofs.Ytcighjeiimjbiaa.Num
open Go.RowKit Go.Proofs.Ytcighjeiimjbiaa Go.Proofs.Ytcighjeiimjbiaa.NumPure

theorem div_is (a b d : Int) (h : d = dvr a b) (h0 : -9223372036854775808 ≤ a) (h1 : a ≤ 9223372036854775807) (g0 : -9223372036854775808 ≤ b) (g1 : b ≤ 9223372036854775807) (w : World) :
    Calls Try.prog 92 #[.int .i64 a, .int .i64 b] w fun e w' => e = .returned (.int .i64 d) ∧ w = w' := by
  subst h
  exact div_any a b h0 h1 g0 g1 w
theorem clamp_is (x lo hi c : Int) (h : c = clp x lo hi) (w : World) : Calls Try.prog 65 #[.int .i64 x, .int .i64 lo, .int .i64 hi] w fun e w' => e = .returned (.int .i64 c) ∧ w = w' := by
  subst h
  exact clamp_any x lo hi w

end Go.Proofs.Ytcighjeiimjbiaa.Num

/- NumBits: Products of two words and sums with carry: math/bits, and the reference's own product; magnitudes. -/
namespace Go.Proofs.Ytcighjeiimjbiaa.Num
open Go.RowKit Go.Proofs.Ytcighjeiimjbiaa Go.Proofs.Ytcighjeiimjbiaa.NumPure

set_option maxHeartbeats 1000000 in
theorem mul64_any (x y : Nat) (hx : x < 18446744073709551616) (hy : y < 18446744073709551616) (w : World) :
    Calls Try.prog 97 #[.int .u64 x, .int .u64 y] w fun e w' => e = .returned (.tuple #[.int .u64 ((x * y / 18446744073709551616 : Nat) : Int), .int .u64 ((x * y % 18446744073709551616 : Nat) : Int)]) ∧ w = w' := by
  obtain ⟨bd, bt, bw, hhi⟩ := Lib.mul64_hi x y hx hy
  have ba := Lib.half_mul_le (a := x / 4294967296) (b := y / 4294967296) (by omega) (by omega)
  have bb := Lib.half_mul_le (a := x / 4294967296) (b := y % 4294967296) (by omega) (by omega)
  have bc := Lib.half_mul_le (a := x % 4294967296) (b := y / 4294967296) (by omega) (by omega)
  have ba' : x / 4294967296 * (y / 4294967296) < 18446744073709551616 := by omega
  have bb' : x / 4294967296 * (y % 4294967296) < 18446744073709551616 := by omega
  have bc' : x % 4294967296 * (y / 4294967296) < 18446744073709551616 := by omega
  have bh1 : x / 4294967296 * (y / 4294967296) + (x / 4294967296 * (y % 4294967296) + x % 4294967296 * (y % 4294967296) / 4294967296) / 4294967296 < 18446744073709551616 := by omega
  have bh : x / 4294967296 * (y / 4294967296) + (x / 4294967296 * (y % 4294967296) + x % 4294967296 * (y % 4294967296) / 4294967296) / 4294967296 + ((x / 4294967296 * (y % 4294967296) + x % 4294967296 * (y % 4294967296) / 4294967296) % 4294967296 + x % 4294967296 * (y / 4294967296)) / 4294967296 < 18446744073709551616 := by omega
  go_enter Try.func97, Try.ntmps97
  go_wp2
  simp only [Mul64.maskN x hx, Mul64.maskN y hy, Mul64.divN, Mul64.mulN, Mul64.addN, Mul64.wrapN _ bd, Mul64.wrapN _ bb', Mul64.wrapN _ bt, Mul64.maskN _ bt, Mul64.wrapN _ bc', Mul64.wrapN _ bw, Mul64.wrapN _ ba', Mul64.wrapN _ bh1, Mul64.wrapN _ bh, Mul64.wrapM (x * y)]
  rw [hhi]
  go_ret2
  exact ⟨rfl, rfl⟩

theorem mul64_is (x y hi lo : Nat) (hx : x < 18446744073709551616) (hy : y < 18446744073709551616) (hh : x * y / 18446744073709551616 = hi) (hl : x * y % 18446744073709551616 = lo) (w : World) :
    Calls Try.prog 97 #[.int .u64 x, .int .u64 y] w fun e w' => e = .returned (.tuple #[.int .u64 (hi : Int), .int .u64 (lo : Int)]) ∧ w = w' := by
  subst hh hl
  exact mul64_any x y hx hy w

theorem mag_nat (a : Int) (h0 : -9223372036854775808 ≤ a) (h : a < 0) : IntKind.u64.wrap (-IntKind.u64.wrap a) = (a.natAbs : Int) := by
  simp only [IntKind.wrap_u64]
  omega
theorem mag_pos (a : Int) (h1 : a ≤ 9223372036854775807) (h : 0 ≤ a) : IntKind.u64.wrap a = (a.natAbs : Int) := by
  simp only [IntKind.wrap_u64]
  omega
theorem mag_any (a : Int) (h0 : -9223372036854775808 ≤ a) (h1 : a ≤ 9223372036854775807) (w : World) :
    Calls Try.prog 96 #[.int .i64 a] w fun e w' => e = .returned (.int .u64 (a.natAbs : Int)) ∧ w = w' := by
  rcases Int.lt_or_le a 0 with h | h
  · have HA := Lib.hid (mag_nat a h0 h)
    go_enter Try.func96, Try.ntmps96
    go_wp2
    go_ret
    exact ⟨ret_int HA.out, rfl⟩
  · have HA := Lib.hid (mag_pos a h1 h)
    go_enter Try.func96, Try.ntmps96
    go_wp2
    go_ret
    exact ⟨ret_int (by first | exact HA.out | omega), rfl⟩
theorem mag_is (a : Int) (n : Nat) (h : a.natAbs = n) (h0 : -9223372036854775808 ≤ a) (h1 : a ≤ 9223372036854775807) (w : World) :
    Calls Try.prog 96 #[.int .i64 a] w fun e w' => e = .returned (.int .u64 (n : Int)) ∧ w = w' := by
  subst h
  exact mag_any a h0 h1 w

theorem sat_yes (w : World) : Calls Try.prog 98 #[.bool true] w fun e w' => e = .returned (.int .i64 (-9223372036854775808)) ∧ w = w' := by
  go_enter Try.func98, Try.ntmps98
  go_wp2
  go_ret
  exact ⟨rfl, rfl⟩
theorem sat_no (w : World) : Calls Try.prog 98 #[.bool false] w fun e w' => e = .returned (.int .i64 9223372036854775807) ∧ w = w' := by
  go_enter Try.func98, Try.ntmps98
  go_wp2
  go_ret
  exact ⟨rfl, rfl⟩

end Go.Proofs.Ytcighjeiimjbiaa.Num

/- ArrEq: Two arrays of integers compared: '==' and '!=' of arrays answer as the lists of their numbers do. -/
namespace Go.Proofs.Ytcighjeiimjbiaa.ArrEq
open Go.RowKit

theorem all_range_eq : ∀ (xs ys : List Int), xs.length = ys.length → ((List.range xs.length).all fun i => xs.getD i 0 == ys.getD i 0) = (xs == ys)
  | [], [], _ => rfl
  | x :: xs, y :: ys, h => by
    have ih := all_range_eq xs ys (by simpa using h)
    rw [List.length_cons, List.range_succ_eq_map, List.all_cons, List.all_map]
    simp only [List.getD_cons_zero, Function.comp_def, List.getD_cons_succ, ih]
    simp [List.cons_beq_cons]
  | [], _ :: _, h => by simp at h
  | _ :: _, [], h => by simp at h

section
variable {P : Program} (w : World)

theorem run_equalIn_ints (d : Nat) (t e : TypeId) (n : Nat) (k : IntKind) (ht : P.underlying t = some (.array n e)) (he : P.underlying e = some (.int k)) (hsz : ∀ w, (sizeOf e).run P w = .ok 1 w)
    (xs ys : List Int) (hx : xs.length = n) (hy : ys.length = n) :
    (Op.equalIn (d + 2) t (.agg (xs.map (Value.int k)).toArray) (.agg (ys.map (Value.int k)).toArray)).run P w = .ok (xs == ys) w := by
  rw [← all_range_eq xs ys (hx.trans hy.symm), hx, List.range_eq_range', Op.equalIn]
  simp only [Sem.run_bind, run_underlying ht, Result.andThen_ok, hsz, Std.Legacy.Range.forIn_eq_forIn_range', Std.Legacy.Range.size, Nat.sub_zero, Nat.add_sub_cancel, Nat.div_one]
  have hl : ∀ i ∈ List.range' 0 n 1, i < n := fun i hi => by simpa using (List.mem_range'_1.1 hi).2
  generalize List.range' 0 n 1 = l at hl ⊢
  induction l with
  | nil => simp
  | cons i l ih =>
    have hi : i < n := hl i (by simp)
    have px : (part e (xs.map (Value.int k)).toArray (i * 1)).run P w = .ok (.int k (xs.getD i 0)) w := by
      simp [part, isAgg, run_underlying he, List.getD, List.getElem?_eq_getElem (show i < xs.length by omega)]
    have py : (part e (ys.map (Value.int k)).toArray (i * 1)).run P w = .ok (.int k (ys.getD i 0)) w := by
      simp [part, isAgg, run_underlying he, List.getD, List.getElem?_eq_getElem (show i < ys.length by omega)]
    have pe : (Op.equalIn (d + 1) e (.int k (xs.getD i 0)) (.int k (ys.getD i 0))).run P w = .ok (xs.getD i 0 == ys.getD i 0) w := by
      rw [run_equalIn_int w d e k k _ _ he]
    simp only [List.forIn_cons, Sem.run_bind, px, py, pe, Result.andThen_ok, List.all_cons]
    cases hb : (xs.getD i 0 == ys.getD i 0)
    · simp
    · simp only [Bool.not_true, Bool.false_eq_true, if_false, Sem.run_pure, Result.andThen_ok, Bool.true_and]
      exact ih fun j hj => hl j (by simp [hj])

theorem run_eql_ints (t e : TypeId) (n : Nat) (k : IntKind) (ht : P.underlying t = some (.array n e)) (he : P.underlying e = some (.int k)) (hsz : ∀ w, (sizeOf e).run P w = .ok 1 w)
    (xs ys : List Int) (hx : xs.length = n) (hy : ys.length = n) :
    (binOp .eql t (.agg (xs.map (Value.int k)).toArray) (.agg (ys.map (Value.int k)).toArray)).run P w = .ok (.bool (xs == ys)) w := by
  rw [run_eql_struct, run_equalIn_ints w 9998 t e n k ht he hsz xs ys hx hy]
  rfl
end

end Go.Proofs.Ytcighjeiimjbiaa.ArrEq

/- Frame: The frame of a law's proof, for parameters of whatever types: nothing that was there has turned, so every argument reads as it did. -/
namespace Go.Proofs.Ytcighjeiimjbiaa.Frame
open Go.ChangeShapes Go.WideShapes Go.ChangeAt Go.RowKit

theorem own : ownKnob Try.prog.godebug = none := by kernel_rfl
theorem laidOut : laidOutB Try.prog = true := by kernel_rfl

section
variable {H : Type} {enc : TypeId × Value → H} {P : Program}

theorem trodAll_below (hl : laidOutB P = true) {W W' : World} (hb : Below W.heap.size W W') : ∀ {ts : List TypeId} {vs : List Value} {ds : List (DataW H)} {ps : List MemPlace},
    (∀ t ∈ ts, P.readableRec t = true ∧ t < P.types.size) → DataW.TrodAll enc P W 0 (fun _ => true) true ts vs ds ps → DataW.TrodAll enc P W' 0 (fun b => decide (b < W.heap.size)) true ts vs ds ps
  | [], vs, ds, ps, _, h => by
    obtain ⟨rfl, rfl, rfl⟩ := trodAll_nil h
    exact trodAll_mk0
  | t :: ts, vs, ds, ps, ht, h => by
    obtain ⟨v, vs', d, ds', p, q, rfl, rfl, rfl, h1, h2⟩ := trodAll_cons h
    refine trodAll_cons_mk ?_ (trodAll_below hl hb (fun t' h' => ht t' (List.mem_cons_of_mem _ h')) h2)
    exact Below.trod hl (ht t (List.mem_cons_self)).1 (ht t (List.mem_cons_self)).2 h1 hb (by obtain ⟨m, hm⟩ := h1; exact DataW.trod_lt m _ _ _ hm)

theorem law_post {f : Func} {s : ChangeSpec} {tb : TypeId} {W W' : World} {args : Array Value} {ds : List (DataW H)} {before : List MemPlace} (hl : laidOutB P = true) (hr : f.params.toList.all (fun t => P.readableRec t && decide (t < P.types.size)) = true)
    (hbt : P.underlying tb = some .bool) (hres : f.resultTypes = #[tb]) (hvars : s.vars = []) (hfn : s.fn H (ds ++ []) = { results := [.lit (.bool true)], args := ds })
    (hW : DataW.Whole enc P f.params.toList s.vars false W args.toList ds [] before) (hb : Below W.heap.size W W') : s.post enc P f false true false false W args (.bool true) W' := by
  have hW' := hW
  obtain ⟨p, q, hA, hV, rfl, _, _⟩ := hW
  refine ⟨ds, [], p ++ q, [], p, [], hW', ?_, ?_, ?_, hb.frame _, fun h => by cases h⟩
  · rw [hfn, hres]
    exact trodAll_mk1 (shut_bool hbt true)
  · rw [hfn]
    exact trodAll_below hl hb (fun t ht => by simpa using List.all_eq_true.1 hr t ht) hA
  · rw [hfn, hvars]
    exact rfl
end

/-- A slice of ints that came in reads as a list. -/
theorem reads_ints {H : Type} {enc : TypeId × Value → H} {P : Program} {w : World} {t e : TypeId} {k : IntKind} {fuel : Nat} {v : Value} {x : DataW H × List MemPlace} (ht : P.underlying t = some (.slice e)) (he : P.underlying e = some (.int k)) (hc : P.cellsOf e = 1)
    (h : DataW.trod enc P w 0 (fun _ => true) true fuel t [v] = some x) :
    ∃ (A : Option Addr) (cap : Nat) (zs : List Int) (rest : List (DataW H)), v = .slice A zs.length cap ∧ Reads w w.heap.size 1 A zs.length (zs.map (Value.int k)) ∧ (∀ z ∈ zs, (Lit.int k z).wf = true) ∧ (x.1 = .slice (zs.map fun z => .lit (.int k z)) rest ∨ x.1 = .nil ∧ zs = []) := by
  have hlt := DataW.trod_lt _ _ _ _ h
  rcases open_ints ht he hc h with ⟨hcs, hx⟩ | ⟨a, len, cap, zs, hcs, _, hl, hm, hz, hx, hcell, hwz⟩
  · cases hcs
    exact ⟨none, 0, [], [], rfl, Reads.none_, by simp, .inr ⟨by rw [hx], rfl⟩⟩
  · cases hcs
    simp only [if_true] at hz
    have hlen : (zs.take len).length = len := by rw [List.length_take]; omega
    refine ⟨some a, cap, zs.take len, (lits k (zs.drop len)), by rw [hlen], ⟨by simp, fun hn => ⟨a, rfl, ?_, fun j u hu => ?_⟩⟩, fun z hz' => hwz z (List.mem_of_mem_take hz'), .inl (by rw [hx]; rfl)⟩
    · rw [hlen] at hn
      have h0 := hcell 0 (by omega)
      have := World.block_lt_of_cell? w _ h0
      rwa [block_of_add] at this
    · rw [List.getElem?_map, Option.map_eq_some_iff] at hu
      obtain ⟨z, hz1, rfl⟩ := hu
      have hj : j < (zs.take len).length := (List.getElem?_eq_some_iff.1 hz1).1
      have hj2 : j < zs.length := by rw [hlen] at hj; omega
      rw [hcell j hj2]
      rw [List.getElem?_take] at hz1
      split at hz1
      · rw [List.getD_eq_getElem?_getD, hz1]; rfl
      · cases hz1

theorem bulk_lits {H : Type} (k : IntKind) (zs : List Int) : Rows.uptoBulkAll (zs.map fun z => DataW.lit (H := H) (.int k z)) = zs.length := by
  induction zs with
  | nil => rfl
  | cons z l ih => simp only [List.map_cons, Rows.uptoBulkAll, ih, List.length_cons]; simp only [Rows.uptoBulk]; omega

end Go.Proofs.Ytcighjeiimjbiaa.Frame

/- MatBase: Arrays of integers in memory, as functions of the index: what package matrix and its reference read and write. -/
namespace Go.Proofs.Ytcighjeiimjbiaa.Mat
open Go.RowKit Go.Proofs.Ytcighjeiimjbiaa Go.Proofs.Ytcighjeiimjbiaa.NumPure Go.Proofs.Ytcighjeiimjbiaa.MatPure

/-- An array of n integers. -/
def al (n : Nat) (m : Nat → Int) : List Value := (List.range n).map fun j => Value.int .i64 (m j)
def ac (n : Nat) (m : Nat → Int) : Array Value := (al n m).toArray
theorem al_len (n : Nat) (m : Nat → Int) : (al n m).length = n := by simp [al]
theorem ac_size (n : Nat) (m : Nat → Int) : (ac n m).size = n := by simp [ac, al]
theorem ac_same {n : Nat} {m f : Nat → Int} : (ac n m).size = (ac n f).size := by rw [ac_size, ac_size]
theorem ac_at {n : Nat} (m : Nat → Int) {j : Nat} (hj : j < n) : (ac n m)[j]? = some (.int .i64 (m j)) := by simp [ac, al, hj]
theorem ac_one (n : Nat) (m : Nat → Int) : (ac n m).all (·.oneCell') = true := by simp [ac, al, Value.oneCell']
theorem ac_ext {n : Nat} {m f : Nat → Int} (h : ∀ j, j < n → m j = f j) : ac n m = ac n f := by
  unfold ac al
  congr 1
  apply List.map_congr_left
  intro j hj
  rw [h j (by simpa using hj)]
theorem ac_set (n : Nat) (m : Nat → Int) (k : Nat) (x : Int) : (ac n m).setIfInBounds k (.int .i64 x) = ac n (fun j => if j = k then x else m j) := by
  apply Array.ext_getElem?
  intro j
  rw [Array.getElem?_setIfInBounds, ac_size]
  by_cases hj : j < n
  · by_cases h : k = j
    · subst h
      rw [if_pos rfl, if_pos hj, ac_at _ hj, if_pos rfl]
    · rw [if_neg h, ac_at _ hj, ac_at _ hj, if_neg (fun e => h e.symm)]
  · rw [Array.getElem?_eq_none (by rw [ac_size]; omega), Array.getElem?_eq_none (by rw [ac_size]; omega)]
    split
    · split
      · omega
      · rfl
    · rfl
theorem ac_map (n : Nat) (m : Nat → Int) : (((List.range n).map m).map (Value.int .i64)).toArray = ac n m := by simp [ac, al, Function.comp_def]
theorem info9 {m : Nat → Int} : (Try.prog.info? 25).map (·.size) = some (ac 9 m).size := by rw [ac_size]; kernel_rfl
theorem info3 {m : Nat → Int} : (Try.prog.info? 34).map (·.size) = some (ac 3 m).size := by rw [ac_size]; kernel_rfl

/-- What is filled so far: f below k, zero from there on. -/
def upTo (f : Nat → Int) (k : Nat) : Nat → Int := fun j => if j < k then f j else 0
theorem upTo_set (n : Nat) (f : Nat → Int) (k : Nat) : (ac n (upTo f k)).setIfInBounds k (.int .i64 (f k)) = ac n (upTo f (k + 1)) := by
  rw [ac_set]
  apply ac_ext
  intro j _
  unfold upTo
  by_cases h : j = k
  · subst h
    rw [if_pos rfl, if_pos (by omega)]
  · rw [if_neg h]
    by_cases h2 : j < k
    · rw [if_pos h2, if_pos (by omega)]
    · rw [if_neg h2, if_neg (by omega)]
theorem upTo_all (n : Nat) (f : Nat → Int) : ac n (upTo f n) = ac n f := ac_ext fun _ hj => if_pos hj
theorem upTo_none (n : Nat) (f : Nat → Int) : ac n (upTo f 0) = ac n (fun _ => 0) := ac_ext fun _ _ => if_neg (by omega)

theorem run_index9 (m : Nat → Int) (k : Nat) (hk : k < 9) (w : World) : (Instr.index 25 (.agg (ac 9 m)) (.int .i64 (k : Int))).run Try.prog w = .ok (.int .i64 (m k)) w := by
  have hz : ∀ w, (sizeOf 3).run Try.prog w = .ok 1 w := fun w => by kernel_rfl
  have hcell := ac_at m hk
  simp [Instr.index, asIntOf, run_underlying Try.underlying25, hz, part, isAgg, run_underlying Try.underlying3, hcell]
  intro h
  omega

theorem eql9 (m f : Nat → Int) (w : World) : (binOp .eql 25 (.agg (ac 9 m)) (.agg (ac 9 f))).run Try.prog w = .ok (.bool ((List.range 9).map m == (List.range 9).map f)) w := by
  have h := ArrEq.run_eql_ints (P := Try.prog) w 25 3 9 .i64 Try.underlying25 Try.underlying3 (fun w => by kernel_rfl) ((List.range 9).map m) ((List.range 9).map f) (by simp) (by simp)
  rw [ac_map, ac_map] at h
  exact h

theorem run_alloc9 (w : World) : (Instr.alloc 25 true (.tuple #[])).run Try.prog w = .ok (.pointer (some ⟨w.heap.size, 0, none⟩)) (w.alloc (.cells (ac 9 fun _ => 0) 25)) := by
  kernel_rfl
theorem run_alloc3 (w : World) : (Instr.alloc 34 true (.tuple #[])).run Try.prog w = .ok (.pointer (some ⟨w.heap.size, 0, none⟩)) (w.alloc (.cells (ac 3 fun _ => 0) 34)) := by
  kernel_rfl
theorem wpList_alloc9 {ops : Array Oper} {rest : List Oper} {o : Oper} {a : Act} {w : World} {Q : Exit → Act → World → Prop} (hg : o.guard = none) (ho : o.op = .alloc 25)
    (h : wpList Try.prog ops Q rest (a.put o.dst (.pointer (some ⟨w.heap.size, 0, none⟩))) (w.alloc (.cells (ac 9 fun _ => 0) 25))) : wpList Try.prog ops Q (o :: rest) a w := by
  refine wpList_plain hg fun K hK => ?_
  have hr := run_alloc9 w
  unfold Oper.wp
  simp only [execOp, ho, Sem.run_bind, hr, Result.andThen_ok, Sem.run_pure]
  exact hK _ _ h
theorem wpList_alloc3 {ops : Array Oper} {rest : List Oper} {o : Oper} {a : Act} {w : World} {Q : Exit → Act → World → Prop} (hg : o.guard = none) (ho : o.op = .alloc 34)
    (h : wpList Try.prog ops Q rest (a.put o.dst (.pointer (some ⟨w.heap.size, 0, none⟩))) (w.alloc (.cells (ac 3 fun _ => 0) 34))) : wpList Try.prog ops Q (o :: rest) a w := by
  refine wpList_plain hg fun K hK => ?_
  have hr := run_alloc3 w
  unfold Oper.wp
  simp only [execOp, ho, Sem.run_bind, hr, Result.andThen_ok, Sem.run_pure]
  exact hK _ _ h

theorem below_setRow {B : Nat} {a w : World} (h : Below B a w) {g : Nat} (hg : B ≤ g) (cs : Array Value) : Below B a (w.setRow g cs) :=
  ⟨h.os, h.tape, h.output, by rw [size_setRow]; exact h.size, fun i hi => (setRow_other _ _ _ _ (by omega)).trans (h.block i hi)⟩
theorem below_drewN {B : Nat} {a w : World} (h : Below B a w) (n : Nat) : Below B a (w.drewN n) := ⟨h.os, h.tape, h.output, h.size, h.block⟩

theorem size_alloc (w : World) (A : Obj) : (w.alloc A).heap.size = w.heap.size + 1 := by simp
theorem heap3_new (w : World) (A B C : Obj) : (((w.alloc A).alloc B).alloc C).heap[w.heap.size + 1 + 1]? = some C := by
  have h := heap_alloc_new ((w.alloc A).alloc B) C
  rwa [size_alloc, size_alloc] at h
theorem heap3_mid (w : World) (A B C : Obj) : (((w.alloc A).alloc B).alloc C).heap[w.heap.size + 1]? = some B :=
  (Below.heap_alloc _ C _ (by rw [size_alloc, size_alloc]; omega)).trans (heap_alloc2_new w A B)
theorem heap3_old (w : World) (A B C : Obj) : (((w.alloc A).alloc B).alloc C).heap[w.heap.size]? = some A :=
  (Below.heap_alloc _ C _ (by rw [size_alloc, size_alloc]; omega)).trans (heap_alloc2_old w A B)
theorem heap4_new (w : World) (A B C D : Obj) : ((((w.alloc A).alloc B).alloc C).alloc D).heap[w.heap.size + 1 + 1 + 1]? = some D := by
  have h := heap_alloc_new (((w.alloc A).alloc B).alloc C) D
  rwa [size_alloc, size_alloc, size_alloc] at h
theorem heap4_3 (w : World) (A B C D : Obj) : ((((w.alloc A).alloc B).alloc C).alloc D).heap[w.heap.size + 1 + 1]? = some C :=
  (Below.heap_alloc _ D _ (by rw [size_alloc, size_alloc, size_alloc]; omega)).trans (heap3_new w A B C)
theorem heap4_2 (w : World) (A B C D : Obj) : ((((w.alloc A).alloc B).alloc C).alloc D).heap[w.heap.size + 1]? = some B :=
  (Below.heap_alloc _ D _ (by rw [size_alloc, size_alloc, size_alloc]; omega)).trans (heap3_mid w A B C)
theorem heap4_1 (w : World) (A B C D : Obj) : ((((w.alloc A).alloc B).alloc C).alloc D).heap[w.heap.size]? = some A :=
  (Below.heap_alloc _ D _ (by rw [size_alloc, size_alloc, size_alloc]; omega)).trans (heap3_old w A B C)

theorem range9 {w : World} {g : Nat} {T : TypeId} {m : Nat → Int} (h : Blk w g T (ac 9 m)) : w.rangeAt g 0 (al 9 m) := fun j v hv => by
  rw [Nat.zero_add, h.cell j]
  simpa [ac] using hv
theorem size9 (m : Nat → Int) : (Try.prog.info? 25).map (·.size) = some (al 9 m).length := by rw [al_len]; kernel_rfl
theorem cells9 {w : World} {g : Nat} {T : TypeId} {m : Nat → Int} (h : Blk w g T (ac 9 m)) :
    w.cell? ⟨g, 0, none⟩ = some (.int .i64 (m 0)) ∧ w.cell? ⟨g, 1, none⟩ = some (.int .i64 (m 1)) ∧ w.cell? ⟨g, 2, none⟩ = some (.int .i64 (m 2)) ∧ w.cell? ⟨g, 3, none⟩ = some (.int .i64 (m 3)) ∧ w.cell? ⟨g, 4, none⟩ = some (.int .i64 (m 4)) ∧
    w.cell? ⟨g, 5, none⟩ = some (.int .i64 (m 5)) ∧ w.cell? ⟨g, 6, none⟩ = some (.int .i64 (m 6)) ∧ w.cell? ⟨g, 7, none⟩ = some (.int .i64 (m 7)) ∧ w.cell? ⟨g, 8, none⟩ = some (.int .i64 (m 8)) :=
  ⟨h.cell 0, h.cell 1, h.cell 2, h.cell 3, h.cell 4, h.cell 5, h.cell 6, h.cell 7, h.cell 8⟩

/-- Within the limits of an element. -/
def okM (m : Nat → Int) : Bool := (List.range 9).all fun j => decide (-1048576 ≤ m j ∧ m j ≤ 1048576)
theorem okM_iff {m : Nat → Int} : okM m = true ↔ ∀ j, j < 9 → -1048576 ≤ m j ∧ m j ≤ 1048576 := by simp [okM]
theorem okM_not {m : Nat → Int} : okM m = false ↔ ¬ ∀ j, j < 9 → -1048576 ≤ m j ∧ m j ≤ 1048576 := by rw [← okM_iff]; simp

theorem quiet_left {P : Program} {f : FuncId} {args : Array Value} {w : World} {n : Nat} {v : Value} (h : Calls P f args (w.drewN n) fun e w' => e = .returned v ∧ w.drewN n = w') : Calls P f args (w.drewN n) fun e w'' => e = .returned v ∧ ∃ m, w'' = w.drewN m :=
  h.mono fun _ _ ⟨he, hm⟩ => ⟨he, n, hm.symm⟩

end Go.Proofs.Ytcighjeiimjbiaa.Mat

/- MatA: Package matrix: Check, Same and Turned. -/
namespace Go.Proofs.Ytcighjeiimjbiaa.Mat
open Go.RowKit Go.Proofs.Ytcighjeiimjbiaa Go.Proofs.Ytcighjeiimjbiaa.NumPure Go.Proofs.Ytcighjeiimjbiaa.MatPure

def turnM (m : Nat → Int) (n : Nat) : Int := m (3 * (n % 3) + n / 3)

set_option maxHeartbeats 1000000 in
theorem check_ok (m : Nat → Int) (hm : okM m = true) (w : World) : Calls Try.prog 76 #[.agg (ac 9 m)] w fun e w' => e = .returned (.int .i64 0) ∧ Below w.heap.size w w' := by
  have HM := Lib.hid (okM_iff.1 hm)
  clear hm
  go_enter Try.func76, Try.ntmps76
  go_wp2_with (refine wpList_load_row rfl _ _ rfl w.heap.size rfl 25 (ac 9 m) (0, 0) _ (heap_alloc_new _ _) Try.underlying25 rfl info9 ?_)
  go_loop [6] (fun v6 => ∃ k : Nat, k ≤ 9 ∧ v6 = .int .i64 k) (fun v6 => 9 - (intOf v6).toNat)
  case atStart => exact ⟨0, by omega, rfl⟩
  case round =>
    obtain ⟨k, hk, rfl⟩ := hrel
    by_cases hlt : k < 9
    · have hidx := fun W => run_index9 m k hlt W
      obtain ⟨h1, h2⟩ := HM.out k hlt
      go_wp2_with fail
      go_round
      case rel => exact ⟨k + 1, by omega, by go_num⟩
      case measure => simp [intOf]; omega
    · go_wp2_with fail
      go_ret
      exact ⟨rfl, (Below.refl _ _).alloc (Nat.le_refl _) _⟩

set_option maxHeartbeats 1000000 in
theorem check_bad (m : Nat → Int) (hm : okM m = false) (w : World) : Calls Try.prog 76 #[.agg (ac 9 m)] w fun e w' => e = .returned (.int .i64 2) ∧ Below w.heap.size w w' := by
  have HM := Lib.hid (okM_not.1 hm)
  clear hm
  go_enter Try.func76, Try.ntmps76
  go_wp2_with (refine wpList_load_row rfl _ _ rfl w.heap.size rfl 25 (ac 9 m) (0, 0) _ (heap_alloc_new _ _) Try.underlying25 rfl info9 ?_)
  go_loop [6] (fun v6 => ∃ k : Nat, k ≤ 9 ∧ v6 = .int .i64 k ∧ ∀ j, j < k → -1048576 ≤ m j ∧ m j ≤ 1048576) (fun v6 => 9 - (intOf v6).toNat)
  case atStart => exact ⟨0, by omega, rfl, fun j hj => by omega⟩
  case round =>
    obtain ⟨k, hk, rfl, hj⟩ := hrel
    have HJ := Lib.hid hj
    clear hj
    by_cases hlt : k < 9
    · have hidx := fun W => run_index9 m k hlt W
      by_cases h1 : m k < -1048576
      · go_wp2_with fail
        go_ret
        exact ⟨rfl, (Below.refl _ _).alloc (Nat.le_refl _) _⟩
      · by_cases h2 : 1048576 < m k
        · go_wp2_with fail
          go_ret
          exact ⟨rfl, (Below.refl _ _).alloc (Nat.le_refl _) _⟩
        · go_wp2_with fail
          go_round
          case rel => exact ⟨k + 1, by omega, by go_num, fun j hj => by
            by_cases e : j = k
            · subst e; omega
            · exact HJ.out j (by omega)⟩
          case measure => simp [intOf]; omega
    · obtain rfl : k = 9 := by omega
      exact absurd HJ.out HM.out

def sameM : Nat → Int := fun j => if j % 4 = 0 then 65536 else 0
theorem same_lit : (#[.int .i64 65536, .int .i64 0, .int .i64 0, .int .i64 0, .int .i64 65536, .int .i64 0, .int .i64 0, .int .i64 0, .int .i64 65536] : Array Value) = ac 9 sameM := by rfl

set_option maxHeartbeats 1000000 in
theorem same_any (w : World) : Calls Try.prog 32 #[] w fun e w' => e = .returned (.agg (ac 9 sameM)) ∧ Below w.heap.size w w' := by
  go_enter Try.func32, Try.ntmps32
  go_wp2_with (first
    | (refine wpList_alloc9 rfl rfl ?_)
    | (refine wpList_store_row rfl _ _ _ rfl w.heap.size (ac 9 sameM) rfl rfl 25 (ac 9 fun _ => 0) (heap_alloc_new _ _) info9 ac_same (ac_one 9 _) ?_; rw [World.setRow_alloc_new]))
  refine bodyPost_ret (v := .agg (ac 9 sameM)) (results_cell_row rfl _ _ w.heap.size 25 (ac 9 sameM) (0, 0) _ rfl (heap_alloc_new _ _) Try.underlying25 rfl info9) rfl ⟨rfl, ?_⟩
  exact (Below.refl _ _).alloc (Nat.le_refl _) _

end Go.Proofs.Ytcighjeiimjbiaa.Mat

/- MatB: Package matrix: Mul. -/
namespace Go.Proofs.Ytcighjeiimjbiaa.Mat
open Go.RowKit Go.Proofs.Ytcighjeiimjbiaa Go.Proofs.Ytcighjeiimjbiaa.NumPure Go.Proofs.Ytcighjeiimjbiaa.MatPure

def mul9 (a b : Nat → Int) (n : Nat) : Int := dvr (a (3 * (n / 3)) * b (n % 3) + a (3 * (n / 3) + 1) * b (3 + n % 3) + a (3 * (n / 3) + 2) * b (6 + n % 3)) 65536
def mulM (a b : Nat → Int) : Nat → Int := if okM a && okM b then mul9 a b else fun _ => 0
def psum (a b : Nat → Int) (i j : Nat) : Nat → Int
  | 0 => 0
  | k + 1 => psum a b i j k + a (3 * i + k) * b (3 * k + j)
theorem psum_three (a b : Nat → Int) (i j : Nat) (hj : j < 3) : dvr (psum a b i j 3) 65536 = mul9 a b (3 * i + j) := by
  unfold mul9
  rw [show (3 * i + j) / 3 = i by omega, show (3 * i + j) % 3 = j by omega]
  simp only [psum, Nat.add_zero, Nat.mul_zero, Nat.zero_add, Int.zero_add]
theorem prod_in {x y : Int} (x0 : -1048576 ≤ x) (x1 : x ≤ 1048576) (y0 : -1048576 ≤ y) (y1 : y ≤ 1048576) : -1099511627776 ≤ x * y ∧ x * y ≤ 1099511627776 := by
  have := abs_mul_le x0 x1 (by omega) 1048576 y0 y1 (by omega)
  omega
theorem psum_in (a b : Nat → Int) (ha : okM a = true) (hb : okM b = true) (i j : Nat) (hi : i < 3) (hj : j < 3) : ∀ k : Nat, k ≤ 3 → -(1099511627776 * (k : Int)) ≤ psum a b i j k ∧ psum a b i j k ≤ 1099511627776 * (k : Int)
  | 0, _ => by simp [psum]
  | k + 1, hk => by
    have h := psum_in a b ha hb i j hi hj k (by omega)
    have h1 := okM_iff.1 ha (3 * i + k) (by omega)
    have h2 := okM_iff.1 hb (3 * k + j) (by omega)
    have h3 := prod_in h1.1 h1.2 h2.1 h2.2
    simp only [psum]
    omega

/-- Four blocks that the call has made: two arguments, the result's, the array that is filled. -/
def Four (T : TypeId) (B g1 g2 g3 g4 : Nat) (w : World) (A1 A2 A3 A4 : Array Value) (wr : World) : Prop :=
  Blk wr g1 25 A1 ∧ Blk wr g2 T A2 ∧ Blk wr g3 T A3 ∧ Blk wr g4 T A4 ∧ Below B w wr ∧ g1 < g2 ∧ g2 < g3 ∧ g3 < g4 ∧ B ≤ g1
section
variable {T : TypeId} {B g1 g2 g3 g4 : Nat} {w wr w' : World} {A1 A2 A3 A4 : Array Value}
theorem Four.below (h : Four T B g1 g2 g3 g4 w A1 A2 A3 A4 wr) (hb : Below wr.heap.size wr w') : Four T B g1 g2 g3 g4 w A1 A2 A3 A4 w' :=
  ⟨h.1.below hb h.1.lt, h.2.1.below hb h.2.1.lt, h.2.2.1.below hb h.2.2.1.lt, h.2.2.2.1.below hb h.2.2.2.1.lt, h.2.2.2.2.1.trans (hb.mono (by have := h.1.lt; have := h.2.2.2.2.2.2.2.2; omega)), h.2.2.2.2.2⟩
theorem Four.drewN (h : Four T B g1 g2 g3 g4 w A1 A2 A3 A4 wr) (n : Nat) : Four T B g1 g2 g3 g4 w A1 A2 A3 A4 (wr.drewN n) :=
  ⟨h.1, h.2.1, h.2.2.1, h.2.2.2.1, below_drewN h.2.2.2.2.1 n, h.2.2.2.2.2⟩
theorem Four.set4 (h : Four T B g1 g2 g3 g4 w A1 A2 A3 A4 wr) (k : Nat) (u : Value) : Four T B g1 g2 g3 g4 w A1 A2 A3 (A4.setIfInBounds k u) (wr.setCell ⟨g4, k, none⟩ u) := by
  obtain ⟨h1, h2, h3, h4, hb, d1, d2, d3, d4⟩ := h
  exact ⟨h1.far (p := ⟨g4, k, none⟩) (by simp; omega) u, h2.far (p := ⟨g4, k, none⟩) (by simp; omega) u, h3.far (p := ⟨g4, k, none⟩) (by simp; omega) u, h4.set_ k u, hb.setCell (by simp; omega) u, d1, d2, d3, d4⟩
theorem Four.new (T : TypeId) (w : World) (A1 A2 A3 A4 : Array Value) : Four T w.heap.size w.heap.size (w.heap.size + 1) (w.heap.size + 1 + 1) (w.heap.size + 1 + 1 + 1) w A1 A2 A3 A4 ((((w.alloc (.cells A1 25)).alloc (.cells A2 T)).alloc (.cells A3 T)).alloc (.cells A4 T)) :=
  ⟨heap4_1 _ _ _ _ _, heap4_2 _ _ _ _ _, heap4_3 _ _ _ _ _, heap4_new _ _ _ _ _, ((((Below.refl _ _).alloc (Nat.le_refl _) _).alloc (by simp) _).alloc (by simp; omega) _).alloc (by simp; omega) _, by omega, by omega, by omega, by omega⟩
end

end Go.Proofs.Ytcighjeiimjbiaa.Mat

/- MatC: Package matrix: Apply. -/
namespace Go.Proofs.Ytcighjeiimjbiaa.Mat
open Go.RowKit Go.Proofs.Ytcighjeiimjbiaa Go.Proofs.Ytcighjeiimjbiaa.NumPure Go.Proofs.Ytcighjeiimjbiaa.MatPure

def lim (x : Int) : Int := clp x (-1073741824) 1073741824
def app9 (m v : Nat → Int) (i : Nat) : Int := dvr (m (3 * i) * lim (v 0) + m (3 * i + 1) * lim (v 1) + m (3 * i + 2) * lim (v 2)) 65536
def appM (m v : Nat → Int) : Nat → Int := if okM m then app9 m v else fun _ => 0
def asum (m v : Nat → Int) (i : Nat) : Nat → Int
  | 0 => 0
  | k + 1 => asum m v i k + m (3 * i + k) * lim (v k)
theorem asum_three (m v : Nat → Int) (i : Nat) : dvr (asum m v i 3) 65536 = app9 m v i := by
  unfold app9
  simp only [asum, Nat.add_zero, Int.zero_add]
theorem lim_in (x : Int) : -1073741824 ≤ lim x ∧ lim x ≤ 1073741824 := by unfold lim clp; omega
theorem aprod_in {x y : Int} (x0 : -1048576 ≤ x) (x1 : x ≤ 1048576) (y0 : -1073741824 ≤ y) (y1 : y ≤ 1073741824) : -1125899906842624 ≤ x * y ∧ x * y ≤ 1125899906842624 := by
  have := abs_mul_le x0 x1 (by omega) 1073741824 y0 y1 (by omega)
  omega
theorem asum_in (m v : Nat → Int) (hm : okM m = true) (i : Nat) (hi : i < 3) : ∀ k : Nat, k ≤ 3 → -(1125899906842624 * (k : Int)) ≤ asum m v i k ∧ asum m v i k ≤ 1125899906842624 * (k : Int)
  | 0, _ => by simp [asum]
  | k + 1, hk => by
    have h := asum_in m v hm i hi k (by omega)
    have h1 := okM_iff.1 hm (3 * i + k) (by omega)
    have h2 := lim_in (v k)
    have h3 := aprod_in h1.1 h1.2 h2.1 h2.2
    simp only [asum]
    omega

set_option maxHeartbeats 4000000 in
set_option maxRecDepth 100000 in
theorem apply_any (m v : Nat → Int) (w : World) : Calls Try.prog 66 #[.agg (ac 9 m), .agg (ac 3 v)] w fun e w' => e = .returned (.agg (ac 3 (appM m v))) ∧ Below w.heap.size w w' := by
  obtain ⟨B, hB⟩ : ∃ B, B = w.heap.size := ⟨_, rfl⟩
  rw [← hB]
  go_enter Try.func66, Try.ntmps66
  go_wp2_with (first | (refine wpList_alloc3 rfl rfl ?_) | (refine wpList_load_row rfl _ _ rfl w.heap.size rfl 25 (ac 9 m) (0, 0) _ (heap4_1 _ _ _ _ _) Try.underlying25 rfl info9 ?_))
  rw [← upTo_none 3 (app9 m v)]
  have H0 := Four.new 34 w (ac 9 m) (ac 3 v) (ac 3 (upTo (app9 m v) 0)) (ac 3 (upTo (app9 m v) 0))
  obtain ⟨W, hW⟩ : ∃ W, W = (((w.alloc (.cells (ac 9 m) 25)).alloc (.cells (ac 3 v) 34)).alloc (.cells (ac 3 (upTo (app9 m v) 0)) 34)).alloc (.cells (ac 3 (upTo (app9 m v) 0)) 34) := ⟨_, rfl⟩
  obtain ⟨g4, e4⟩ : ∃ g, g = w.heap.size + 1 + 1 + 1 := ⟨_, rfl⟩
  obtain ⟨g3, e3⟩ : ∃ g, g = w.heap.size + 1 + 1 := ⟨_, rfl⟩
  obtain ⟨g2, e2⟩ : ∃ g, g = w.heap.size + 1 := ⟨_, rfl⟩
  obtain ⟨g1, e1⟩ : ∃ g, g = w.heap.size := ⟨_, rfl⟩
  rw [← hW, ← e4, ← e3, ← e2, ← hB] at H0
  rw [← hW, ← e4, ← e3, ← e2, ← e1]
  have hg1 : B = g1 := hB.trans e1.symm
  rw [show Four 34 B B g2 g3 g4 w (ac 9 m) (ac 3 v) (ac 3 (upTo (app9 m v) 0)) (ac 3 (upTo (app9 m v) 0)) W = Four 34 B g1 g2 g3 g4 w (ac 9 m) (ac 3 v) (ac 3 (upTo (app9 m v) 0)) (ac 3 (upTo (app9 m v) 0)) W by rw [← hg1]] at H0
  clear hW e4 e3 e2 e1 hB hg1
  cases hm : okM m with
  | false =>
    have hM : appM m v = fun _ => 0 := by unfold appM; rw [hm]; rfl
    refine (check_bad m hm _).mono ?_
    rintro e w1 ⟨rfl, hb1⟩
    have H1 := H0.below hb1
    have HM : Hid (ac 3 (upTo (app9 m v) 0) = ac 3 (appM m v)) := Lib.hid (by rw [hM, upTo_none])
    clear H0 hb1 hM
    go_wp2_with (first
      | (refine wpList_load_row rfl _ _ rfl g4 rfl 34 (ac 3 (upTo (app9 m v) 0)) (0, 0) _ H1.2.2.2.1 Try.underlying34 rfl info3 ?_)
      | (refine wpList_store_row rfl _ _ _ rfl g3 (ac 3 (upTo (app9 m v) 0)) rfl rfl 34 (ac 3 (upTo (app9 m v) 0)) H1.2.2.1 info3 ac_same (ac_one 3 _) ?_))
    refine bodyPost_ret (v := .agg (ac 3 (upTo (app9 m v) 0))) (results_cell_row rfl _ _ g3 34 (ac 3 (upTo (app9 m v) 0)) (0, 0) _ rfl (setRow_heap _ _ (ac 3 (upTo (app9 m v) 0)) _ _ _ H1.2.2.1) Try.underlying34 rfl info3) rfl ⟨by rw [HM.out], ?_⟩
    exact below_setRow H1.2.2.2.2.1 (by have := H1.2.2.2.2.2; omega) _
  | true =>
    have hM : appM m v = app9 m v := by unfold appM; rw [hm]; rfl
    refine (check_ok m hm _).mono ?_
    rintro e w1 ⟨rfl, hb1⟩
    have H1 := H0.below hb1
    have HM := Lib.hid hM
    have HA := Lib.hid hm
    clear H0 hb1 hM hm
    go_wp2_with fail
    go_loopw [13] (fun v19 wr => ∃ i : Nat, i ≤ 3 ∧ v19 = .int .i64 i ∧ Four 34 B g1 g2 g3 g4 w (ac 9 m) (ac 3 v) (ac 3 (upTo (app9 m v) 0)) (ac 3 (upTo (app9 m v) i)) wr) (fun v19 _ => 3 - (intOf v19).toNat)
    case atStart => exact ⟨0, by omega, rfl, H1⟩
    case round =>
      clear H1
      obtain ⟨i, hi, rfl, H4⟩ := hrel
      by_cases hlt : i < 3
      · have ti : decide ((i : Int) < 3) = true := by simp; omega
        go_wp2_with fail
        go_loopw [7, 16] (fun v8 v25 wr => ∃ k : Nat, k ≤ 3 ∧ v25 = .int .i64 k ∧ v8 = .int .i64 (asum m v i k) ∧ Four 34 B g1 g2 g3 g4 w (ac 9 m) (ac 3 v) (ac 3 (upTo (app9 m v) 0)) (ac 3 (upTo (app9 m v) i)) wr) (fun _ v25 _ => 3 - (intOf v25).toNat)
        case atStart => exact ⟨0, by omega, rfl, rfl, H4⟩
        case round =>
          clear H4
          obtain ⟨k, hk, rfl, rfl, H5⟩ := hrel
          by_cases hlt3 : k < 3
          · have c1 := H5.1.cell (3 * i + k)
            rw [ac_at _ (by omega)] at c1
            have c2 := H5.2.1.cell k
            rw [ac_at _ (by omega)] at c2
            have b1 := okM_iff.1 HA.out (3 * i + k) (by omega)
            have b2 := lim_in (v k)
            have b3 := aprod_in b1.1 b1.2 b2.1 b2.2
            have b4 := asum_in m v HA.out i hlt k (by omega)
            have HP : Hid (asum m v i (k + 1) = asum m v i k + m (3 * i + k) * lim (v k)) := Lib.hid rfl
            have i1 : (0 : Int) ≤ 3 * (i : Int) + (k : Int) := by omega
            have i2 : 3 * (i : Int) + (k : Int) < 9 := by omega
            have i3 : (0 : Int) ≤ (k : Int) := by omega
            have i4 : (k : Int) < 3 := by omega
            have i5 : (3 * (i : Int) + (k : Int)).toNat = 3 * i + k := by omega
            have i7 : IntKind.i64.wrap (3 * (i : Int)) = 3 * (i : Int) := IntWalk.i64_in _ (by omega)
            have i9 : IntKind.i64.wrap (3 * (i : Int) + (k : Int)) = 3 * (i : Int) + (k : Int) := IntWalk.i64_in _ (by omega)
            have i11 : IntKind.i64.wrap (m (3 * i + k) * lim (v k)) = m (3 * i + k) * lim (v k) := IntWalk.i64_in _ (by omega)
            have i12 : IntKind.i64.wrap (asum m v i k + m (3 * i + k) * lim (v k)) = asum m v i k + m (3 * i + k) * lim (v k) := IntWalk.i64_in _ (by omega)
            go_wp2_with fail
            go_quiet ((go_at_call 65; exact quiet_left (Num.clamp_is (v k) _ _ (lim (v k)) rfl _)))
            go_wp2_with fail
            go_roundw
            case rel => exact ⟨k + 1, by omega, by go_num, by rw [HP.out], H5.drewN _⟩
            case measure => simp [intOf]; omega
          · obtain rfl : k = 3 := by omega
            have b4 := asum_in m v HA.out i hlt 3 (by omega)
            have hd := Num.div_is (asum m v i 3) 65536 _ (asum_three m v i).symm (by omega) (by omega) (by omega) (by omega)
            have c4 := H5.2.2.2.1.cell i
            rw [ac_at _ (by omega)] at c4
            have f4 := H5.2.2.2.1.frozen i
            have HS := Lib.hid (upTo_set 3 (app9 m v) i)
            clear b4
            go_wp2_with fail
            refine (hd _).mono ?_
            rintro e w5 ⟨rfl, rfl⟩
            go_wp2_with fail
            go_roundw
            case rel =>
              refine ⟨i + 1, by omega, by go_num, ?_⟩
              have := H5.set4 i (.int .i64 (app9 m v i))
              rw [HS.out] at this
              exact this
            case measure => simp [intOf]; omega
      · obtain rfl : i = 3 := by omega
        rw [upTo_all] at H4
        go_wp2_with (first
          | (refine wpList_load_row rfl _ _ rfl g4 rfl 34 (ac 3 (app9 m v)) (0, 0) _ H4.2.2.2.1 Try.underlying34 rfl info3 ?_)
          | (refine wpList_store_row rfl _ _ _ rfl g3 (ac 3 (app9 m v)) rfl rfl 34 (ac 3 (upTo (app9 m v) 0)) H4.2.2.1 info3 ac_same (ac_one 3 _) ?_))
        refine bodyPost_ret (v := .agg (ac 3 (app9 m v))) (results_cell_row rfl _ _ g3 34 (ac 3 (app9 m v)) (0, 0) _ rfl (setRow_heap _ _ (ac 3 (upTo (app9 m v) 0)) _ _ _ H4.2.2.1) Try.underlying34 rfl info3) rfl ⟨by rw [HM.out], ?_⟩
        exact below_setRow H4.2.2.2.2.1 (by have := H4.2.2.2.2.2; omega) _

end Go.Proofs.Ytcighjeiimjbiaa.Mat

/- MatD: Package matrix: cofactors and determinants. -/
namespace Go.Proofs.Ytcighjeiimjbiaa.Mat
open Go.RowKit Go.Proofs.Ytcighjeiimjbiaa Go.Proofs.Ytcighjeiimjbiaa.NumPure Go.Proofs.Ytcighjeiimjbiaa.MatPure

def cof (m : Nat → Int) (i j : Nat) : Int := m (3 * ((i + 1) % 3) + (j + 1) % 3) * m (3 * ((i + 2) % 3) + (j + 2) % 3) - m (3 * ((i + 1) % 3) + (j + 2) % 3) * m (3 * ((i + 2) % 3) + (j + 1) % 3)
theorem cof_in (m : Nat → Int) (hm : okM m = true) (i j : Nat) : -2199023255552 ≤ cof m i j ∧ cof m i j ≤ 2199023255552 := by
  have h := okM_iff.1 hm
  have a1 := h (3 * ((i + 1) % 3) + (j + 1) % 3) (by omega)
  have a2 := h (3 * ((i + 2) % 3) + (j + 2) % 3) (by omega)
  have a3 := h (3 * ((i + 1) % 3) + (j + 2) % 3) (by omega)
  have a4 := h (3 * ((i + 2) % 3) + (j + 1) % 3) (by omega)
  have p1 := prod_in a1.1 a1.2 a2.1 a2.2
  have p2 := prod_in a3.1 a3.2 a4.1 a4.2
  unfold cof
  omega

set_option maxHeartbeats 2000000 in
set_option maxRecDepth 100000 in
theorem cof_any (m : Nat → Int) (hm : okM m = true) (i j : Nat) (hi : i < 3) (hj : j < 3) (w : World) :
    Calls Try.prog 79 #[.agg (ac 9 m), .int .i64 (i : Int), .int .i64 (j : Int)] w fun e w' => e = .returned (.int .i64 (cof m i j)) ∧ Below w.heap.size w w' := by
  obtain ⟨r, hr⟩ : ∃ r, 3 * ((i + 1) % 3) = r := ⟨_, rfl⟩
  obtain ⟨s, hs⟩ : ∃ r, 3 * ((i + 2) % 3) = r := ⟨_, rfl⟩
  obtain ⟨c, hc⟩ : ∃ r, (j + 1) % 3 = r := ⟨_, rfl⟩
  obtain ⟨d, hd⟩ : ∃ r, (j + 2) % 3 = r := ⟨_, rfl⟩
  have HR : Hid (m (r + c) * m (s + d) - m (r + d) * m (s + c) = cof m i j) := Lib.hid (by unfold cof; rw [hr, hs, hc, hd])
  have br : r ≤ 6 := by omega
  have bs : s ≤ 6 := by omega
  have bc : c ≤ 2 := by omega
  have bd : d ≤ 2 := by omega
  have er : 3 * (((i : Int) + 1) % 3) = (r : Int) := by omega
  have es : 3 * (((i : Int) + 2) % 3) = (s : Int) := by omega
  have ec : ((j : Int) + 1) % 3 = (c : Int) := by omega
  have ed : ((j : Int) + 2) % 3 = (d : Int) := by omega
  have h := okM_iff.1 hm
  have a1 := h (r + c) (by omega)
  have a2 := h (s + d) (by omega)
  have a3 := h (r + d) (by omega)
  have a4 := h (s + c) (by omega)
  have p1 := prod_in a1.1 a1.2 a2.1 a2.2
  have p2 := prod_in a3.1 a3.2 a4.1 a4.2
  have k1 := ac_at (n := 9) m (show r + c < 9 by omega)
  have k2 := ac_at (n := 9) m (show s + d < 9 by omega)
  have k3 := ac_at (n := 9) m (show r + d < 9 by omega)
  have k4 := ac_at (n := 9) m (show s + c < 9 by omega)
  have w1 : IntKind.i64.wrap ((r : Int) + c) = (r : Int) + c := IntWalk.i64_in _ (by omega)
  have w2 : IntKind.i64.wrap ((s : Int) + d) = (s : Int) + d := IntWalk.i64_in _ (by omega)
  have w3 : IntKind.i64.wrap ((r : Int) + d) = (r : Int) + d := IntWalk.i64_in _ (by omega)
  have w4 : IntKind.i64.wrap ((s : Int) + c) = (s : Int) + c := IntWalk.i64_in _ (by omega)
  have w5 : IntKind.i64.wrap (m (r + c) * m (s + d)) = m (r + c) * m (s + d) := IntWalk.i64_in _ (by omega)
  have w6 : IntKind.i64.wrap (m (r + d) * m (s + c)) = m (r + d) * m (s + c) := IntWalk.i64_in _ (by omega)
  have w7 : IntKind.i64.wrap (m (r + c) * m (s + d) - m (r + d) * m (s + c)) = m (r + c) * m (s + d) - m (r + d) * m (s + c) := IntWalk.i64_in _ (by omega)
  have q1 : (0 : Int) ≤ (r : Int) + c := by omega
  have q2 : (0 : Int) ≤ (s : Int) + d := by omega
  have q3 : (0 : Int) ≤ (r : Int) + d := by omega
  have q4 : (0 : Int) ≤ (s : Int) + c := by omega
  have o1 : (r : Int) + c < 9 := by omega
  have o2 : (s : Int) + d < 9 := by omega
  have o3 : (r : Int) + d < 9 := by omega
  have o4 : (s : Int) + c < 9 := by omega
  have n1 : ((r : Int) + c).toNat = r + c := by omega
  have n2 : ((s : Int) + d).toNat = s + d := by omega
  have n3 : ((r : Int) + d).toNat = r + d := by omega
  have n4 : ((s : Int) + c).toNat = s + c := by omega
  clear hr hs hc hd h hm
  go_enter Try.func79, Try.ntmps79
  go_wp2_with fail
  go_quiet (fail)
  go_wp2_with fail
  go_ret
  exact ⟨Num.ret_int HR.out, below_drewN ((Below.refl _ _).alloc (Nat.le_refl _) _) _⟩

def esum (m : Nat → Int) : Nat → Int
  | 0 => 0
  | k + 1 => esum m k + m k * cof m 0 k
def det9 (m : Nat → Int) : Int := esum m 3
theorem cprod_in {x y : Int} (x0 : -1048576 ≤ x) (x1 : x ≤ 1048576) (y0 : -2199023255552 ≤ y) (y1 : y ≤ 2199023255552) : -2305843009213693952 ≤ x * y ∧ x * y ≤ 2305843009213693952 := by
  have := abs_mul_le x0 x1 (by omega) 2199023255552 y0 y1 (by omega)
  omega
theorem esum_in (m : Nat → Int) (hm : okM m = true) : ∀ k : Nat, k ≤ 3 → -(2305843009213693952 * (k : Int)) ≤ esum m k ∧ esum m k ≤ 2305843009213693952 * (k : Int)
  | 0, _ => by simp [esum]
  | k + 1, hk => by
    have h := esum_in m hm k (by omega)
    have h1 := okM_iff.1 hm k (by omega)
    have h2 := cof_in m hm 0 k
    have h3 := cprod_in h1.1 h1.2 h2.1 h2.2
    simp only [esum]
    omega
theorem det9_in (m : Nat → Int) (hm : okM m = true) : -6917529027641081856 ≤ det9 m ∧ det9 m ≤ 6917529027641081856 := by
  have := esum_in m hm 3 (by omega)
  unfold det9
  omega
def detM (m : Nat → Int) : Int := if okM m then dvr (det9 m) 4294967296 else 0

/-- A boxed matrix, and all that was there before the call. -/
def Box (B g : Nat) (w : World) (m : Nat → Int) (j : Nat) (wr : World) : Prop :=
  wr.cell? ⟨g, j, none⟩ = some (.int .i64 (m j)) ∧
  wr.rangeAt g 0 (al 9 m) ∧
  Blk wr g 25 (ac 9 m) ∧ Below B w wr ∧ B ≤ g
theorem Box.of {B g : Nat} {w : World} {m : Nat → Int} {wr : World} (h : Blk wr g 25 (ac 9 m)) (hb : Below B w wr) (hg : B ≤ g) (j : Nat) (hj : j < 9) : Box B g w m j wr :=
  ⟨by rw [h.cell j, ac_at _ hj], range9 h, h, hb, hg⟩
theorem Box.blk {B g : Nat} {w : World} {m : Nat → Int} {j : Nat} {wr : World} (h : Box B g w m j wr) : Blk wr g 25 (ac 9 m) := h.2.2.1
theorem Box.bel {B g : Nat} {w : World} {m : Nat → Int} {j : Nat} {wr : World} (h : Box B g w m j wr) : Below B w wr := h.2.2.2.1
theorem Box.below {B g : Nat} {w : World} {m : Nat → Int} {j : Nat} {wr w' : World} (h : Box B g w m j wr) (hj : j < 9) (hb : Below wr.heap.size wr w') : Box B g w m j w' :=
  Box.of (h.2.2.1.below hb h.2.2.1.lt) (h.2.2.2.1.trans (hb.mono (by have := h.2.2.1.lt; have := h.2.2.2.2; omega))) h.2.2.2.2 j hj

set_option maxHeartbeats 2000000 in
set_option maxRecDepth 100000 in
theorem exact_any (m : Nat → Int) (hm : okM m = true) (w : World) : Calls Try.prog 77 #[.agg (ac 9 m)] w fun e w' => e = .returned (.int .i64 (det9 m)) ∧ Below w.heap.size w w' := by
  obtain ⟨B, hB⟩ : ∃ B, B = w.heap.size := ⟨_, rfl⟩
  rw [← hB]
  have HA := Lib.hid hm
  clear hm
  go_enter Try.func77, Try.ntmps77
  go_wp2_with fail
  have H0 := Blk.new w 25 (ac 9 m)
  have hb0 : Below B w (w.alloc (.cells (ac 9 m) 25)) := by rw [hB]; exact (Below.refl _ _).alloc (Nat.le_refl _) _
  obtain ⟨W, hW⟩ : ∃ W, W = w.alloc (.cells (ac 9 m) 25) := ⟨_, rfl⟩
  obtain ⟨g, eg⟩ : ∃ g, g = w.heap.size := ⟨_, rfl⟩
  rw [← hW, ← eg] at H0 ⊢
  rw [← hW] at hb0
  have hg : B ≤ g := by omega
  clear hW hB eg
  go_loopw [3, 5] (fun v3 v5 wr => ∃ k : Nat, k ≤ 3 ∧ v5 = .int .i64 k ∧ v3 = .int .i64 (esum m k) ∧ Blk wr g 25 (ac 9 m) ∧ Below B w wr) (fun _ v5 _ => 3 - (intOf v5).toNat)
  case atStart => exact ⟨0, by omega, rfl, rfl, H0, hb0⟩
  case round =>
    clear H0 hb0
    obtain ⟨k, hk, rfl, rfl, H1, hb1⟩ := hrel
    by_cases hlt : k < 3
    · have hbox := Lib.hid (Box.of H1 hb1 hg k (by omega))
      have hbox' := Lib.hid (Box.of (wr := wr.drew) H1 hb1.drew hg k (by omega))
      have KK : Hid (∀ W W' : World, Box B g w m k W → Below W.heap.size W W' → Box B g w m k W') := Lib.hid (fun W W' h hq => h.below (by omega) hq)
      have b1 := okM_iff.1 HA.out k (by omega)
      have b2 := cof_in m HA.out 0 k
      have b3 := cprod_in b1.1 b1.2 b2.1 b2.2
      have b4 := esum_in m HA.out k (by omega)
      have hc := fun W => cof_any m HA.out 0 k (by omega) hlt W
      have HP : Hid (esum m (k + 1) = esum m k + m k * cof m 0 k) := Lib.hid rfl
      have i1 : (0 : Int) ≤ (k : Int) := by omega
      have i2 : (k : Int) < 9 := by omega
      have i3 : IntKind.i64.wrap (m k * cof m 0 k) = m k * cof m 0 k := IntWalk.i64_in _ (by omega)
      have i4 : IntKind.i64.wrap (esum m k + m k * cof m 0 k) = esum m k + m k * cof m 0 k := IntWalk.i64_in _ (by omega)
      have hu := Try.underlying25
      have hsz := size9 m
      clear H1 hb1
      go_wp2_with fail
      go_region_held3 (fun wr => wr.cell? ⟨g, k, none⟩ = some (.int .i64 (m k)) ∧
  wr.rangeAt g 0 (al 9 m) ∧
  Blk wr g 25 (ac 9 m) ∧ Below B w wr ∧ B ≤ g)
        (first | exact hbox'.out | exact KK.out _ _ (by assumption) hbq | exact KK.out _ _ hbox'.out hbq | go_keep)
        (first | (go_at_call 79; refine (hc _).mono ?_; rintro e w' ⟨rfl, hbq⟩))
      go_wp2_with fail
      go_roundw
      case rel => exact ⟨k + 1, by omega, by go_num, by rw [HP.out], Box.blk (B := B) (w := w) (j := k) (by assumption), Box.bel (g := g) (m := m) (j := k) (by assumption)⟩
      case measure => simp [intOf]; omega
    · obtain rfl : k = 3 := by omega
      go_wp2_with fail
      go_ret
      exact ⟨rfl, hb1⟩

end Go.Proofs.Ytcighjeiimjbiaa.Mat

/- NumFx: Package num: products of fixed-point numbers. -/
namespace Go.Proofs.Ytcighjeiimjbiaa.Num
open Go.RowKit Go.Proofs.Ytcighjeiimjbiaa Go.Proofs.Ytcighjeiimjbiaa.NumPure

theorem or48 (A B : Nat) (hA : A < 65536) (hB : B < 281474976710656) : bits .or .u64 ((A * 281474976710656 : Nat) : Int) (B : Int) = ((A * 281474976710656 + B : Nat) : Int) := by
  rw [u64_or_nat _ _ (by omega) (by omega)]
  have h := Nat.two_pow_add_eq_or_of_lt (i := 48) (b := B) (by simpa using hB) A
  rw [Nat.mul_comm A, show (281474976710656 : Nat) = 2 ^ 48 from rfl, ← h]

theorem low_of (H L : Nat) (hL : L < 18446744073709551616) : wrap64 (bits .or .u64 (IntKind.u64.wrap ((H : Int) * 281474976710656)) ((L : Int) / 65536)) = wrap64 ((H : Int) * 281474976710656 + (L : Int) / 65536) := by
  have e1 : IntKind.u64.wrap ((H : Int) * 281474976710656) = ((H % 65536 * 281474976710656 : Nat) : Int) := by
    rw [IntKind.wrap_u64]
    omega
  have e2 : (L : Int) / 65536 = ((L / 65536 : Nat) : Int) := by omega
  rw [e1, e2, or48 _ _ (by omega) (by omega)]
  unfold wrap64
  omega

/-- The last part: the upper part s and the lower part L of the sum, shifted by 16 and saturated. -/
theorem fix_end (s L low V : Int) (h0 : -9223372036854775808 ≤ s) (h1 : s ≤ 9223372036854775807) (hL : 0 ≤ L) (hL2 : L < 18446744073709551616) (hlow : low = wrap64 (s * 281474976710656 + L / 65536)) (hV : V = s * 18446744073709551616 + L) :
    (s / 65536 = low / 9223372036854775808 ∧ sat (V.fdiv 65536) = low) ∨ (s / 65536 ≠ low / 9223372036854775808 ∧ s / 65536 < 0 ∧ sat (V.fdiv 65536) = -9223372036854775808) ∨ (s / 65536 ≠ low / 9223372036854775808 ∧ 0 ≤ s / 65536 ∧ sat (V.fdiv 65536) = 9223372036854775807) := by
  subst hV
  rw [Int.fdiv_eq_ediv_of_nonneg _ (by omega)]
  have e : (s * 18446744073709551616 + L) / 65536 = s / 65536 * 18446744073709551616 + (s % 65536 * 281474976710656 + L / 65536) := by omega
  have e2 : s * 281474976710656 + L / 65536 = s / 65536 * 18446744073709551616 + (s % 65536 * 281474976710656 + L / 65536) := by omega
  rw [e]
  rw [e2] at hlow
  have b0 : 0 ≤ s % 65536 * 281474976710656 + L / 65536 := by omega
  have b1 : s % 65536 * 281474976710656 + L / 65536 < 18446744073709551616 := by omega
  generalize s % 65536 * 281474976710656 + L / 65536 = v at *
  generalize s / 65536 = t at *
  unfold sat
  unfold wrap64 at hlow
  rcases Int.lt_or_le v 9223372036854775808 with hv | hv
  · have hl : low = v := by omega
    subst hl
    rcases Int.lt_trichotomy t 0 with ht | ht | ht
    · exact .inr (.inl ⟨by omega, ht, by omega⟩)
    · exact .inl ⟨by omega, by omega⟩
    · exact .inr (.inr ⟨by omega, by omega, by omega⟩)
  · have hl : low = v - 18446744073709551616 := by omega
    subst hl
    rcases Int.lt_trichotomy t (-1) with ht | ht | ht
    · exact .inr (.inl ⟨by omega, by omega, by omega⟩)
    · exact .inl ⟨by omega, by omega⟩
    · exact .inr (.inr ⟨by omega, by omega, by omega⟩)

theorem sat_any (c : Bool) (w : World) : Calls Try.prog 98 #[.bool c] w fun e w' => e = .returned (.int .i64 (bif c then -9223372036854775808 else 9223372036854775807)) ∧ w = w' := by
  cases c
  · exact sat_no w
  · exact sat_yes w

/-- The signs of two numbers are equal, or not: their product. -/
theorem prod_same {a b : Int} (h : decide (a < 0) = decide (b < 0)) : a * b = ((a.natAbs * b.natAbs : Nat) : Int) := by
  rw [Int.natCast_mul]
  by_cases ha : a < 0
  · have hb : b < 0 := by simpa [ha] using h
    rw [show (a.natAbs : Int) = -a by omega, show (b.natAbs : Int) = -b by omega, Int.neg_mul_neg]
  · have hb : ¬ b < 0 := by simpa [ha] using h
    rw [show (a.natAbs : Int) = a by omega, show (b.natAbs : Int) = b by omega]
theorem prod_other {a b : Int} (h : decide (a < 0) ≠ decide (b < 0)) : a * b = -((a.natAbs * b.natAbs : Nat) : Int) := by
  rw [Int.natCast_mul]
  by_cases ha : a < 0
  · have hb : ¬ b < 0 := by simpa [ha] using h
    rw [show (a.natAbs : Int) = -a by omega, show (b.natAbs : Int) = b by omega, Int.neg_mul, Int.neg_neg]
  · have hb : b < 0 := by simpa [ha] using h
    rw [show (a.natAbs : Int) = a by omega, show (b.natAbs : Int) = -b by omega, Int.mul_neg, Int.neg_neg]

theorem fin_sat {t L low F : Int} (hl : L = low) (h : (t != L / 9223372036854775808) = true) (he : (t = low / 9223372036854775808 ∧ F = low) ∨ (t ≠ low / 9223372036854775808 ∧ F = bif decide (t < 0) then -9223372036854775808 else 9223372036854775807)) :
    (bif decide (t < 0) then -9223372036854775808 else 9223372036854775807) = F := by
  subst hl
  rcases he with ⟨h1, _⟩ | ⟨_, h2⟩
  · rw [h1] at h
    simp at h
  · exact h2.symm
theorem fin_low {t L low F : Int} (hl : L = low) (h : (t != L / 9223372036854775808) = false) (he : (t = low / 9223372036854775808 ∧ F = low) ∨ (t ≠ low / 9223372036854775808 ∧ F = bif decide (t < 0) then -9223372036854775808 else 9223372036854775807)) :
    L = F := by
  subst hl
  rcases he with ⟨_, h2⟩ | ⟨h1, _⟩
  · exact h2.symm
  · simp at h
    exact absurd h h1

/-- The two words of the opposite number. -/
theorem xor_max (h : Nat) (hh : h < 18446744073709551616) : bits BinOp.xor IntKind.u64 IntKind.u64.max (h : Int) = ((18446744073709551615 - h : Nat) : Int) := by
  show IntKind.u64.wrap ((BitVec.ofInt 64 18446744073709551615 ^^^ BitVec.ofInt 64 (h : Int)).toNat : Int) = _
  have e : BitVec.ofInt 64 18446744073709551615 = BitVec.allOnes 64 := by decide
  rw [e, BitVec.allOnes_xor, BitVec.toNat_not, BitVec.ofInt_natCast, BitVec.toNat_ofNat, Nat.mod_eq_of_lt (by omega), IntKind.wrap_u64]
  omega

theorem end_of (s L low : Int) (a b : Int) (h0 : -9223372036854775808 ≤ s) (h1 : s ≤ 9223372036854775807) (hL : 0 ≤ L) (hL2 : L < 18446744073709551616) (hlow : low = wrap64 (s * 281474976710656 + L / 65536)) (hV : a * b + 32768 = s * 18446744073709551616 + L) :
    (s / 65536 = low / 9223372036854775808 ∧ fixU a b = low) ∨ (s / 65536 ≠ low / 9223372036854775808 ∧ fixU a b = bif decide (s / 65536 < 0) then -9223372036854775808 else 9223372036854775807) := by
  rcases fix_end s L low _ h0 h1 hL hL2 hlow hV with h | ⟨h, h2, h3⟩ | ⟨h, h2, h3⟩
  · exact .inl h
  · exact .inr ⟨h, by rw [decide_eq_true h2]; exact h3⟩
  · exact .inr ⟨h, by rw [decide_eq_false (by omega)]; exact h3⟩

end Go.Proofs.Ytcighjeiimjbiaa.Num

/- NumLen: math/bits: the length of a number in bits, and its leading zeros. -/
namespace Go.Proofs.Ytcighjeiimjbiaa.Num
open Go.RowKit Go.Proofs.Ytcighjeiimjbiaa Go.Proofs.Ytcighjeiimjbiaa.NumPure

theorem tab_size : Lib.len8tab.size = 256 := by decide +kernel
theorem tab_all : ∀ n : Fin 256, (Lib.len8tab[n.val]'(by rw [tab_size]; exact n.isLt)).toNat = Lib.bitLen n.val := by decide +kernel
theorem tab_of (n : Nat) (hn : n < 256) (h : n < Lib.len8tab.size) : (Lib.len8tab[n]'h).toNat = Lib.bitLen n := tab_all ⟨n, hn⟩

theorem len_end (k x : Int) (c : Nat) (n : Nat) (hn : n < 256) (h : n < Lib.len8tab.size) (k0 : 0 ≤ k) (k1 : k ≤ 64) (hx : n = x.toNat / c) (hb : (Lib.bitLen x.toNat : Int) = k + Lib.bitLen (x.toNat / c)) : wrap64 (k + wrap64 ((Lib.len8tab[n]'h).toNat : Int)) = (Lib.bitLen x.toNat : Int) := by
  have l := Lib.bitLen_le n 8 (by omega) (by omega)
  rw [tab_of n hn h, hb, ← hx, IntWalk.wrap64_in (Lib.bitLen n : Int) (by omega), IntWalk.wrap64_in _ (by omega)]
theorem len_end0 (x : Int) (n : Nat) (hn : n < 256) (h : n < Lib.len8tab.size) (hx : n = x.toNat) : wrap64 (wrap64 ((Lib.len8tab[n]'h).toNat : Int)) = (Lib.bitLen x.toNat : Int) := by
  have l := Lib.bitLen_le n 8 (by omega) (by omega)
  rw [tab_of n hn h, ← hx, IntWalk.wrap64_in (Lib.bitLen n : Int) (by omega), IntWalk.wrap64_in _ (by omega)]

set_option maxHeartbeats 4000000 in
set_option maxRecDepth 100000 in
theorem len64_any (x : Int) (w : World) (h0 : 0 ≤ x) (h1 : x ≤ 18446744073709551615) :
    Calls Try.prog 106 #[.int .u64 x] w fun e w' => e = .returned (.int .i64 (Lib.bitLen x.toNat)) ∧ w = w' := by
  have hsz : Lib.len8tab.size = 256 := tab_size
  go_enter Try.func106, Try.ntmps106
  go_wp2
  · go_ret
    have hb := Lib.bitLen_shift56 x.toNat (by omega) (by omega)
    exact ⟨ret_int (len_end 56 x 72057594037927936 _ (by omega) _ (by omega) (by omega) (by omega) (by omega)), rfl⟩
  · go_ret
    have hb := Lib.bitLen_shift48 x.toNat (by omega) (by omega)
    exact ⟨ret_int (len_end 48 x 281474976710656 _ (by omega) _ (by omega) (by omega) (by omega) (by omega)), rfl⟩
  · go_ret
    have hb := Lib.bitLen_shift40 x.toNat (by omega) (by omega)
    exact ⟨ret_int (len_end 40 x 1099511627776 _ (by omega) _ (by omega) (by omega) (by omega) (by omega)), rfl⟩
  · go_ret
    have hb := Lib.bitLen_shift32 x.toNat (by omega) (by omega)
    exact ⟨ret_int (len_end 32 x 4294967296 _ (by omega) _ (by omega) (by omega) (by omega) (by omega)), rfl⟩
  · go_ret
    have hb := Lib.bitLen_shift24 x.toNat (by omega) (by omega)
    exact ⟨ret_int (len_end 24 x 16777216 _ (by omega) _ (by omega) (by omega) (by omega) (by omega)), rfl⟩
  · go_ret
    have hb := Lib.bitLen_shift16 x.toNat (by omega) (by omega)
    exact ⟨ret_int (len_end 16 x 65536 _ (by omega) _ (by omega) (by omega) (by omega) (by omega)), rfl⟩
  · go_ret
    have hb := Lib.bitLen_shift8 x.toNat (by omega) (by omega)
    exact ⟨ret_int (len_end 8 x 256 _ (by omega) _ (by omega) (by omega) (by omega) (by omega)), rfl⟩
  · go_ret
    exact ⟨ret_int (len_end0 x _ (by omega) _ rfl), rfl⟩

theorem zeros_any (x : Nat) (s : Int) (hs : s = 64 - (Lib.bitLen x : Int)) (h1 : x < 18446744073709551616) (w : World) :
    Calls Try.prog 105 #[.int .u64 (x : Int)] w fun e w' => e = .returned (.int .i64 s) ∧ w = w' := by
  have l := Lib.bitLen_le x 64 (by omega) (by omega)
  obtain ⟨n, hn⟩ : ∃ n, Lib.bitLen x = n := ⟨_, rfl⟩
  rw [hn] at l hs
  have HN := Lib.hid hn
  have HS := Lib.hid hs
  clear hn hs
  go_enter Try.func105, Try.ntmps105
  go_wp2_with fail
  refine (len64_any (x : Int) _ (by omega) (by omega)).mono ?_
  rintro e w' ⟨rfl, rfl⟩
  rw [Int.toNat_natCast, HN.out]
  go_wp2
  go_ret
  exact ⟨ret_int HS.out.symm, rfl⟩

end Go.Proofs.Ytcighjeiimjbiaa.Num

/- NumDv: math/bits.Div64: two words by one. -/
namespace Go.Proofs.Ytcighjeiimjbiaa.Num
open Go.RowKit Go.Proofs.Ytcighjeiimjbiaa Go.Proofs.Ytcighjeiimjbiaa.NumPure

/-- One digit of the quotient, by the upper half of the divisor and a few steps down (base 2^32). -/
theorem digit_lt {v1 v0 U u : Nat} (hU : U < v1 * 4294967296 + v0) (hu : u < 4294967296) : (U * 4294967296 + u) / (v1 * 4294967296 + v0) < 4294967296 := by
  rw [Nat.div_lt_iff_lt_mul (by omega)]
  have := Nat.mul_le_mul_left 4294967296 (show U + 1 ≤ v1 * 4294967296 + v0 by omega)
  omega
theorem digit_first {v1 v0 U u : Nat} (h1 : 2147483648 ≤ v1) (h2 : v1 < 4294967296) (h3 : v0 < 4294967296) (hU : U < v1 * 4294967296 + v0) (hu : u < 4294967296) : (U * 4294967296 + u) / (v1 * 4294967296 + v0) ≤ U / v1 ∧ U / v1 ≤ 4294967297 := by
  constructor
  · have hm := Nat.div_add_mod U v1
    have hlt := Nat.mod_lt U (show v1 > 0 by omega)
    rw [Nat.div_le_iff_le_mul_add_pred (by omega)]
    generalize U / v1 = q at *
    have e : (v1 * 4294967296 + v0) * q = v1 * q * 4294967296 + v0 * q := by rw [Nat.add_mul, Nat.mul_right_comm]
    rw [e]
    omega
  · have : U / v1 < 4294967298 := by
      rw [Nat.div_lt_iff_lt_mul (by omega)]
      omega
    omega
/-- The digit q is not too great. -/
theorem digit_le {v1 v0 U u q rh : Nat} (h1 : 2147483648 ≤ v1) (hq : q * v1 + rh = U) (ht : q * v0 ≤ 4294967296 * rh + u) : q ≤ (U * 4294967296 + u) / (v1 * 4294967296 + v0) := by
  rw [Nat.le_div_iff_mul_le (by omega), Nat.mul_add, ← Nat.mul_assoc]
  omega
/-- The digit q is too great. -/
theorem digit_gt {v1 v0 U u q rh : Nat} (h1 : 2147483648 ≤ v1) (hq : q * v1 + rh = U) (ht : 4294967296 * rh + u < q * v0) : (U * 4294967296 + u) / (v1 * 4294967296 + v0) < q := by
  rw [Nat.div_lt_iff_lt_mul (by omega), Nat.mul_add, ← Nat.mul_assoc]
  omega

theorem bitLen_pos {y : Nat} (h : y ≠ 0) (hy : y < 18446744073709551616) : 0 < Lib.bitLen y := by
  rw [Lib.bitLen_half y h (by omega)]
  omega
theorem bitLen_up {y : Nat} (hy : y < 18446744073709551616) : y < 2 ^ Lib.bitLen y := by
  rcases Nat.lt_or_ge y (2 ^ Lib.bitLen y) with h | h
  · exact h
  · have e := Lib.bitLen_shift _ y h (by omega)
    have e0 : Lib.bitLen (y / 2 ^ Lib.bitLen y) = 0 := by omega
    have hlt : y / 2 ^ Lib.bitLen y < 18446744073709551616 := Nat.lt_of_le_of_lt (Nat.div_le_self _ _) hy
    by_cases hz : y / 2 ^ Lib.bitLen y = 0
    · have := Nat.div_pos h (Nat.pow_pos (by omega))
      omega
    · have := bitLen_pos hz hlt
      omega
theorem bitLen_dn {y : Nat} (h0 : y ≠ 0) (hy : y < 18446744073709551616) : 2 ^ (Lib.bitLen y - 1) ≤ y := by
  rcases Nat.lt_or_ge y (2 ^ (Lib.bitLen y - 1)) with h | h
  · have h1 := bitLen_pos h0 hy
    have h2 := Lib.bitLen_le y 64 (by omega) (by omega)
    have := Lib.bitLen_le y (Lib.bitLen y - 1) (by omega) h
    omega
  · exact h

/-- The divisor, brought to 64 bits. -/
theorem norm {y s : Nat} (h0 : y ≠ 0) (hy : y < 18446744073709551616) (hs : s + Lib.bitLen y = 64) : 9223372036854775808 ≤ y * 2 ^ s ∧ y * 2 ^ s < 18446744073709551616 ∧ s ≤ 63 := by
  have h1 := bitLen_up hy
  have h2 := bitLen_dn h0 hy
  have h3 := bitLen_pos h0 hy
  refine ⟨?_, ?_, by omega⟩
  · have := Nat.mul_le_mul_right (2 ^ s) h2
    rw [← Nat.pow_add, show Lib.bitLen y - 1 + s = 63 by omega] at this
    exact this
  · have := Nat.mul_lt_mul_of_pos_right h1 (show 0 < 2 ^ s from Nat.pow_pos (by omega))
    rw [← Nat.pow_add, show Lib.bitLen y + s = 64 by omega] at this
    exact this

/-- The dividend, brought to the left by s bits: its upper word. -/
theorem upper {hi lo s : Nat} (hs : s ≤ 63) (hh : hi * 2 ^ s < 18446744073709551616) (hl : lo < 18446744073709551616) :
    bits .or .u64 (IntKind.u64.wrap ((hi : Int) * 2 ^ s)) ((lo : Int) / 2 ^ (64 - s)) = ((hi * 2 ^ s + lo / 2 ^ (64 - s) : Nat) : Int) ∧ hi * 2 ^ s + lo / 2 ^ (64 - s) < 18446744073709551616 := by
  have e1 : IntKind.u64.wrap ((hi : Int) * 2 ^ s) = ((hi * 2 ^ s : Nat) : Int) := by
    have : ((hi : Int) * 2 ^ s) = ((hi * 2 ^ s : Nat) : Int) := by rw [Int.natCast_mul, Int.natCast_pow]; rfl
    rw [this, IntKind.wrap_u64]
    generalize hi * 2 ^ s = z at *
    omega
  have e2 : (lo : Int) / 2 ^ (64 - s) = ((lo / 2 ^ (64 - s) : Nat) : Int) := by rw [Int.natCast_ediv, Int.natCast_pow]; rfl
  have h3 : lo / 2 ^ (64 - s) < 2 ^ s := by
    rw [Nat.div_lt_iff_lt_mul (Nat.pow_pos (by omega)), ← Nat.pow_add, show s + (64 - s) = 64 by omega]
    exact hl
  have h4 : lo / 2 ^ (64 - s) < 18446744073709551616 := Nat.lt_of_le_of_lt (Nat.div_le_self _ _) hl
  have e3 := Nat.two_pow_add_eq_or_of_lt (i := s) h3 hi
  rw [e1, e2, u64_or_nat _ _ hh h4, Nat.mul_comm hi, ← e3]
  refine ⟨rfl, ?_⟩
  have e5 : 2 ^ s * hi + lo / 2 ^ (64 - s) < 2 ^ 64 := by
    have h6 : 2 ^ s * hi < 2 ^ s * 2 ^ (64 - s) := by rw [← Nat.pow_add, show s + (64 - s) = 64 by omega, Nat.mul_comm]; exact hh
    have h7 : hi + 1 ≤ 2 ^ (64 - s) := Nat.lt_of_mul_lt_mul_left h6
    have h8 := Nat.mul_le_mul_left (2 ^ s) h7
    rw [← Nat.pow_add, show s + (64 - s) = 64 by omega, Nat.mul_add, Nat.mul_one] at h8
    omega
  exact e5

theorem lower {lo s : Nat} (hs : s ≤ 63) : lo * 2 ^ s = lo / 2 ^ (64 - s) * 18446744073709551616 + lo * 2 ^ s % 18446744073709551616 := by
  have h := Nat.div_add_mod (lo * 2 ^ s) 18446744073709551616
  have e : lo * 2 ^ s / 18446744073709551616 = lo / 2 ^ (64 - s) := by
    have hz : 2 ^ (64 - s) * 2 ^ s = 18446744073709551616 := (Nat.pow_add 2 (64 - s) s).symm.trans (by rw [show 64 - s + s = 64 by omega])
    exact (congrArg (fun z => lo * 2 ^ s / z) hz.symm).trans (Nat.mul_div_mul_right _ _ (Nat.pow_pos (by omega)))
  rw [e] at h
  omega

/-- What the two digits and the last rest are. -/
theorem div_end {N y s Y U u1 u0 Q1 U2 Q0 R : Nat} (hy : 0 < y) (hN : N * 2 ^ s = U * 18446744073709551616 + (u1 * 4294967296 + u0)) (hY : Y = y * 2 ^ s) (h1 : U * 4294967296 + u1 = Q1 * Y + U2) (h2 : U2 * 4294967296 + u0 = Q0 * Y + R) (hR : R < Y) :
    N / y = Q1 * 4294967296 + Q0 ∧ N % y = R / 2 ^ s := by
  have hp : 0 < 2 ^ s := Nat.pow_pos (by omega)
  have e1 : (U * 4294967296 + u1) * 4294967296 = Q1 * Y * 4294967296 + U2 * 4294967296 := by rw [h1, Nat.add_mul]
  have e2 : N * 2 ^ s = (Q1 * 4294967296 + Q0) * Y + R := by
    have e1' : U * 4294967296 * 4294967296 + u1 * 4294967296 = Q1 * Y * 4294967296 + U2 * 4294967296 := by rw [← Nat.add_mul]; exact e1
    rw [Nat.mul_assoc] at e1'
    rw [hN, Nat.add_mul, Nat.mul_right_comm, Nat.add_assoc, ← h2, ← Nat.add_assoc, ← Nat.add_assoc]
    exact congrArg (· + u0) e1'
  have e3 : R = (N - (Q1 * 4294967296 + Q0) * y) * 2 ^ s := by
    rw [Nat.sub_mul, e2, hY, Nat.mul_assoc]
    omega
  have e4 : (Q1 * 4294967296 + Q0) * y ≤ N := by
    apply Nat.le_of_mul_le_mul_right _ hp
    rw [Nat.mul_assoc, ← hY, e2]
    omega
  have e5 : N - (Q1 * 4294967296 + Q0) * y < y := by
    apply Nat.lt_of_mul_lt_mul_right (a := 2 ^ s)
    rw [← e3, ← hY]
    exact hR
  have e6 := (Nat.div_mod_unique hy (a := N) (c := N - (Q1 * 4294967296 + Q0) * y) (d := Q1 * 4294967296 + Q0)).2 ⟨by rw [Nat.mul_comm y]; omega, e5⟩
  refine ⟨e6.1, ?_⟩
  rw [e6.2, e3, Nat.mul_div_cancel _ hp]

/-- The ways through the head of a loop over a digit, in the walk's own tests (z: 2^32 times the rest). -/
theorem digit_ways {v1 v0 U u q rh Q : Nat} (h1 : 2147483648 ≤ v1) (h3 : v0 < 4294967296) (hQ : (U * 4294967296 + u) / (v1 * 4294967296 + v0) = Q) (hQ2 : Q < 4294967296) (hq : q * v1 + rh = U) (hrh : rh < 4294967296) (hle : Q ≤ q) (hq1 : q ≤ 4294967297) :
    ∃ z : Nat, 4294967296 * (rh : Int) = z ∧ z ≤ 18446744069414584320 ∧
    ((decide (4294967296 ≤ (q : Int)) = false ∧ decide ((z : Int) + u < (q : Int) * v0) = false ∧ 0 ≤ (q : Int) * v0 ∧ (q : Int) * v0 ≤ 18446744065119617025 ∧ q = Q) ∨
    ((decide (4294967296 ≤ (q : Int)) = true ∨ decide (4294967296 ≤ (q : Int)) = false ∧ decide ((z : Int) + u < (q : Int) * v0) = true ∧ 0 ≤ (q : Int) * v0 ∧ (q : Int) * v0 ≤ 18446744065119617025) ∧ decide (4294967296 ≤ (rh : Int) + v1) = true ∧ q = Q + 1) ∨
    ((decide (4294967296 ≤ (q : Int)) = true ∨ decide (4294967296 ≤ (q : Int)) = false ∧ decide ((z : Int) + u < (q : Int) * v0) = true ∧ 0 ≤ (q : Int) * v0 ∧ (q : Int) * v0 ≤ 18446744065119617025) ∧ decide (4294967296 ≤ (rh : Int) + v1) = false ∧ ∃ q', q = q' + 1 ∧ q' * v1 + (rh + v1) = U ∧ Q ≤ q')) := by
  have key : 4294967296 ≤ q ∨ q < 4294967296 ∧ 4294967296 * rh + u < q * v0 → ∃ q', q = q' + 1 ∧ q' * v1 + (rh + v1) = U ∧ Q ≤ q' := by
    intro h
    have hlt : Q < q := by
      rcases h with h | ⟨_, h⟩
      · omega
      · rw [← hQ]
        exact digit_gt h1 hq h
    refine ⟨q - 1, by omega, ?_, by omega⟩
    rw [← hq, Nat.sub_mul, Nat.one_mul]
    have := Nat.mul_le_mul_right v1 (show 1 ≤ q by omega)
    omega
  have hc : ((q : Int) * v0) = ((q * v0 : Nat) : Int) := (Int.natCast_mul q v0).symm
  have hpb : q < 4294967296 → q * v0 ≤ 18446744065119617025 := fun h => Nat.mul_le_mul (show q ≤ 4294967295 by omega) (show v0 ≤ 4294967295 by omega)
  refine ⟨4294967296 * rh, by omega, by omega, ?_⟩
  rw [hc]
  simp only [decide_eq_true_eq, decide_eq_false_iff_not]
  by_cases ht : 4294967296 ≤ q ∨ q < 4294967296 ∧ 4294967296 * rh + u < q * v0
  · obtain ⟨q', e1, e2, e3⟩ := key ht
    have ht' : (4294967296 : Int) ≤ (q : Int) ∨ ¬ (4294967296 : Int) ≤ (q : Int) ∧ ((4294967296 * rh : Nat) : Int) + u < ((q * v0 : Nat) : Int) ∧ 0 ≤ ((q * v0 : Nat) : Int) ∧ ((q * v0 : Nat) : Int) ≤ 18446744065119617025 := by
      rcases ht with h | ⟨h, h'⟩
      · exact .inl (by omega)
      · have := hpb h
        exact .inr ⟨by omega, by omega, by omega, by omega⟩
    by_cases hb : 4294967296 ≤ rh + v1
    · refine .inr (.inl ⟨ht', by omega, ?_⟩)
      have hx : q' * v0 ≤ 4294967296 * (rh + v1) + u := by
        have := Nat.mul_le_mul (show q' ≤ 4294967296 by omega) (show v0 ≤ 4294967295 by omega)
        omega
      have := digit_le h1 e2 hx
      rw [hQ] at this
      omega
    · exact .inr (.inr ⟨ht', by omega, q', e1, e2, e3⟩)
  · have hql : q < 4294967296 := by omega
    have := hpb hql
    refine .inl ⟨by omega, by omega, by omega, by omega, ?_⟩
    have hx : q * v0 ≤ 4294967296 * rh + u := by omega
    have := digit_le h1 hq hx
    rw [hQ] at this
    omega

theorem tail64 (x U u Q Y U2 : Nat) (_hx : x = 0) (h : U * 4294967296 + u = Q * Y + U2) (h2 : U2 < 18446744073709551616) :
    IntKind.u64.wrap (IntKind.u64.wrap (IntKind.u64.wrap ((U : Int) * 4294967296) + u) - IntKind.u64.wrap ((Q : Int) * Y)) = (U2 : Int) := by
  have e : ((Q : Int) * Y) = ((Q * Y : Nat) : Int) := (Int.natCast_mul Q Y).symm
  rw [e]
  simp only [IntKind.wrap_u64]
  omega

theorem rest_facts {U v q r : Nat} (h : v * q + r = U) : (q : Int) * (v : Int) ≤ (U : Int) ∧ 0 ≤ (q : Int) * (v : Int) ∧ (U : Int) - (q : Int) * (v : Int) = (r : Int) := by
  have e : ((q : Int) * (v : Int)) = ((v * q : Nat) : Int) := by rw [Int.natCast_mul, Int.mul_comm]
  rw [e]
  omega

theorem ret_pair {a b c d : Int} (h1 : a = c) (h2 : b = d) : Ending.returned (.tuple #[.int .u64 a, .int .u64 b]) = .returned (.tuple #[.int .u64 c, .int .u64 d]) := by rw [h1, h2]

def DR (v1 U Q q rh : Nat) : Prop := q * v1 + rh = U ∧ rh < 4294967296 ∧ Q ≤ q ∧ q ≤ 4294967297

set_option maxHeartbeats 4000000 in
set_option maxRecDepth 100000 in
theorem div64_big (hi lo y s : Nat) (h0 : 0 < hi) (hlt : hi < y) (hy : y < 18446744073709551616) (hl : lo < 18446744073709551616) (hs : s + Lib.bitLen y = 64) (w : World) :
    Calls Try.prog 99 #[.int .u64 (hi : Int), .int .u64 (lo : Int), .int .u64 (y : Int)] w fun e w' => e = .returned (.tuple #[.int .u64 (((hi * 18446744073709551616 + lo) / y : Nat) : Int), .int .u64 (((hi * 18446744073709551616 + lo) % y : Nat) : Int)]) ∧ w = w' := by
  obtain ⟨hY1, hY2, hs63⟩ := norm (by omega) hy hs
  have hhi : hi * 2 ^ s < 18446744073709551616 := Nat.lt_of_le_of_lt (Nat.mul_le_mul_right _ (Nat.le_of_lt hlt)) hY2
  obtain ⟨rU', bU⟩ := upper hs63 hhi hl
  have hlow := lower (lo := lo) hs63
  obtain ⟨Y, hY⟩ : ∃ Y, y * 2 ^ s = Y := ⟨_, rfl⟩
  obtain ⟨U, hU⟩ : ∃ U, hi * 2 ^ s + lo / 2 ^ (64 - s) = U := ⟨_, rfl⟩
  obtain ⟨L, hL⟩ : ∃ L, lo * 2 ^ s % 18446744073709551616 = L := ⟨_, rfl⟩
  have bL : L < 18446744073709551616 := by rw [← hL]; exact Nat.mod_lt _ (by omega)
  have hUY : U < Y := by
    have h1 := Nat.mul_le_mul_right (2 ^ s) (show hi + 1 ≤ y by omega)
    rw [Nat.add_mul, Nat.one_mul, hY] at h1
    have h3 : lo / 2 ^ (64 - s) < 2 ^ s := by
      rw [Nat.div_lt_iff_lt_mul (Nat.pow_pos (by omega)), ← Nat.pow_add, show s + (64 - s) = 64 by omega]
      exact hl
    omega
  have rY : IntKind.u64.wrap ((y : Int) * 2 ^ s) = (Y : Int) := by
    have : ((y : Int) * 2 ^ s) = ((y * 2 ^ s : Nat) : Int) := by rw [Int.natCast_mul, Int.natCast_pow]; rfl
    rw [this, hY, IntKind.wrap_u64]
    omega
  have rL : IntKind.u64.wrap ((lo : Int) * 2 ^ s) = (L : Int) := by
    have : ((lo : Int) * 2 ^ s) = ((lo * 2 ^ s : Nat) : Int) := by rw [Int.natCast_mul, Int.natCast_pow]; rfl
    rw [this, ← hL, IntKind.wrap_u64]
    omega
  rw [hU] at rU' bU
  have hN : (hi * 18446744073709551616 + lo) * 2 ^ s = U * 18446744073709551616 + L := by
    rw [Nat.add_mul, Nat.mul_right_comm, hlow, hL, ← hU, Nat.add_mul]
    omega
  rw [hY] at hY1 hY2
  obtain ⟨N, hNN⟩ : ∃ N, hi * 18446744073709551616 + lo = N := ⟨_, rfl⟩
  rw [hNN] at hN ⊢
  obtain ⟨v1, hv1⟩ : ∃ v, Y / 4294967296 = v := ⟨_, rfl⟩
  obtain ⟨v0, hv0⟩ : ∃ v, Y % 4294967296 = v := ⟨_, rfl⟩
  obtain ⟨u1, hu1⟩ : ∃ v, L / 4294967296 = v := ⟨_, rfl⟩
  obtain ⟨u0, hu0⟩ : ∃ v, L % 4294967296 = v := ⟨_, rfl⟩
  have rV1 : (Y : Int) / 4294967296 = (v1 : Int) := by omega
  have rV0 : bits .and .u64 (Y : Int) 4294967295 = (v0 : Int) := by rw [Mul64.maskN Y hY2, hv0]
  have rU1 : (L : Int) / 4294967296 = (u1 : Int) := by omega
  have rU0 : bits .and .u64 (L : Int) 4294967295 = (u0 : Int) := by rw [Mul64.maskN L bL, hu0]
  have bv1 : 2147483648 ≤ v1 := by omega
  have bv1' : v1 < 4294967296 := by omega
  have bv0 : v0 < 4294967296 := by omega
  have bu1 : u1 < 4294967296 := by omega
  have bu0 : u0 < 4294967296 := by omega
  have eY : v1 * 4294967296 + v0 = Y := by rw [← hv1, ← hv0]; exact Nat.div_add_mod' Y 4294967296
  have eL : u1 * 4294967296 + u0 = L := by rw [← hu1, ← hu0]; exact Nat.div_add_mod' L 4294967296
  obtain ⟨Q1, hQ1⟩ : ∃ Q, (U * 4294967296 + u1) / (v1 * 4294967296 + v0) = Q := ⟨_, rfl⟩
  have bQ1 : Q1 < 4294967296 := by rw [← hQ1]; exact digit_lt (by omega) bu1
  obtain ⟨d1, d2⟩ := digit_first (u := u1) bv1 bv1' bv0 (U := U) (by omega) bu1
  rw [hQ1] at d1
  have hm := Nat.div_add_mod U v1
  have hmlt := Nat.mod_lt U (show v1 > 0 by omega)
  obtain ⟨q1, hq1⟩ : ∃ q, U / v1 = q := ⟨_, rfl⟩
  obtain ⟨r1, hr1⟩ : ∃ r, U % v1 = r := ⟨_, rfl⟩
  rw [hq1, hr1] at hm
  rw [hq1] at d1 d2
  rw [hr1] at hmlt
  have rq1 : (U : Int) / (v1 : Int) = (q1 : Int) := by rw [← Int.natCast_ediv, hq1]
  have emul : ((q1 : Int) * (v1 : Int)) = ((v1 * q1 : Nat) : Int) := by rw [Int.natCast_mul, Int.mul_comm]
  have rr0 : (q1 : Int) * (v1 : Int) ≤ (U : Int) := by rw [emul]; omega
  have rr00 : 0 ≤ (q1 : Int) * (v1 : Int) := by rw [emul]; omega
  have rr1 : (U : Int) - (q1 : Int) * (v1 : Int) = (r1 : Int) := by rw [emul]; omega
  have HS := Lib.hid hs
  have HQ1 := Lib.hid hQ1
  have HN := Lib.hid hN
  have HY := Lib.hid hY
  have HEY := Lib.hid eY
  have HEL := Lib.hid eL
  have hq1r : q1 * v1 + r1 = U := by rw [Nat.mul_comm]; exact hm
  have HM := Lib.hid hq1r
  obtain ⟨U2, hU2⟩ : ∃ v, (U * 4294967296 + u1) % (v1 * 4294967296 + v0) = v := ⟨_, rfl⟩
  have bU2 : U2 < v1 * 4294967296 + v0 := by rw [← hU2]; exact Nat.mod_lt _ (by omega)
  have eU2 : U * 4294967296 + u1 = Q1 * Y + U2 := by
    have := Nat.div_add_mod (U * 4294967296 + u1) (v1 * 4294967296 + v0)
    rw [HQ1.out, hU2, HEY.out, Nat.mul_comm] at this
    exact this.symm
  have rT := tail64 0 U u1 Q1 Y U2 rfl eU2 (by rw [HEY.out] at bU2; exact Nat.lt_trans bU2 hY2)
  obtain ⟨Q0, hQ0⟩ : ∃ Q, (U2 * 4294967296 + u0) / (v1 * 4294967296 + v0) = Q := ⟨_, rfl⟩
  have bQ0 : Q0 < 4294967296 := by rw [← hQ0]; exact digit_lt bU2 bu0
  obtain ⟨f1, f2⟩ := digit_first (u := u0) bv1 bv1' bv0 (U := U2) bU2 bu0
  rw [hQ0] at f1
  obtain ⟨q0, hq0⟩ : ∃ q, U2 / v1 = q := ⟨_, rfl⟩
  obtain ⟨r2, hr2⟩ : ∃ r, U2 % v1 = r := ⟨_, rfl⟩
  have hm2 := Nat.div_add_mod U2 v1
  have hm2lt := Nat.mod_lt U2 (show v1 > 0 by omega)
  rw [hq0, hr2] at hm2
  rw [hq0] at f1 f2
  rw [hr2] at hm2lt
  have rq0 : (U2 : Int) / (v1 : Int) = (q0 : Int) := by rw [← Int.natCast_ediv, hq0]
  obtain ⟨g0, g00, g1⟩ := rest_facts hm2
  have HM2 : Hid (q0 * v1 + r2 = U2) := Lib.hid (by rw [Nat.mul_comm]; exact hm2)
  obtain ⟨R, hR⟩ : ∃ v, (U2 * 4294967296 + u0) % (v1 * 4294967296 + v0) = v := ⟨_, rfl⟩
  have bR : R < v1 * 4294967296 + v0 := by rw [← hR]; exact Nat.mod_lt _ (by omega)
  have eR : U2 * 4294967296 + u0 = Q0 * Y + R := by
    have := Nat.div_add_mod (U2 * 4294967296 + u0) (v1 * 4294967296 + v0)
    rw [hQ0, hR, HEY.out, Nat.mul_comm] at this
    exact this.symm
  have rT2 := tail64 0 U2 u0 Q0 Y R rfl eR (by rw [HEY.out] at bR; exact Nat.lt_trans bR hY2)
  obtain ⟨fin1, fin2⟩ := div_end (y := y) (by omega) (by rw [HN.out, HEL.out]) HY.out.symm eU2 eR (by rw [HEY.out] at bR; exact bR)
  have HQ0 := Lib.hid hQ0
  have HF1 : Hid ((Q1 : Int) * 4294967296 + (Q0 : Int) = ((N / y : Nat) : Int)) := Lib.hid (by rw [fin1]; omega)
  have HF2 : Hid (((N % y : Nat) : Int) = (R : Int) / 2 ^ s) := Lib.hid (by rw [fin2, Int.natCast_ediv, Int.natCast_pow]; rfl)
  have bU2' : U2 < 18446744073709551616 := by rw [HEY.out] at bU2; exact Nat.lt_trans bU2 hY2
  have bR' : R < 18446744073709551616 := by rw [HEY.out] at bR; exact Nat.lt_trans bR hY2
  clear hU2 eU2 hQ0 hq0 hr2 hm2 hR eR fin1 fin2 bU2 bR
  have tb1 : ((y : Int) == 0) = false := by simp; omega
  have tb2 : ((hi : Int) == 0) = false := by simp; omega
  clear hs hQ1 hN hY eY eL hq1 hr1 hm emul hv1 hv0 hu1 hu0 hU hL hlow hhi hNN hq1r
  go_enter Try.func99, Try.ntmps99
  go_wp2_with fail
  refine (zeros_any y (s : Int) (by have := HS.out; omega) hy _).mono ?_
  rintro e w' ⟨rfl, rfl⟩
  go_wp2_with fail
  go_loop [15, 16] (fun a b => ∃ q rh : Nat, a = .int .u64 (q : Int) ∧ b = .int .u64 (rh : Int) ∧ DR v1 U Q1 q rh) (fun a _ => (intOf a).toNat)
  case atStart => exact ⟨q1, r1, rfl, rfl, HM.out, by omega, d1, d2⟩
  case round =>
    obtain ⟨q, rh, rfl, rfl, hqr, hrh, hle, hq97⟩ := hrel
    clear rq1 rr0 rr00 rr1 HM d1 d2 rU' rY rL rV1 rV0 rU1 rU0
    obtain ⟨z, hz, bz, hways⟩ := digit_ways bv1 bv0 HQ1.out bQ1 hqr hrh hle hq97
    clear hqr hle hrh
    rcases hways with ⟨t1, t2, p1, p2, hQ⟩ | ⟨ht, t3, hQ⟩ | ⟨ht, t3, q', hQ, hqr', hle'⟩
    · subst hQ
      clear hq97
      go_wp2_with fail
      go_loop [18, 16] (fun a b => ∃ q rh : Nat, a = .int .u64 (q : Int) ∧ b = .int .u64 (rh : Int) ∧ DR v1 U2 Q0 q rh) (fun a _ => (intOf a).toNat)
      case atStart => exact ⟨q0, r2, rfl, rfl, HM2.out, by omega, f1, f2⟩
      case round =>
        obtain ⟨q, rh, rfl, rfl, hqr, hrh, hle, hq97⟩ := hrel
        obtain ⟨z, hz, bz, hways⟩ := digit_ways bv1 bv0 HQ0.out bQ0 hqr hrh hle hq97
        clear hqr hle hrh
        rcases hways with ⟨t1, t2, p1, p2, hQ⟩ | ⟨ht, t3, hQ⟩ | ⟨ht, t3, q', hQ, hqr', hle'⟩
        · subst hQ
          clear hq97
          go_wp2_with fail
          go_ret2
          exact ⟨ret_pair HF1.out HF2.out.symm, rfl⟩
        · have hd : (q : Int) - 1 = (Q0 : Int) := by omega
          clear hQ hq97
          rcases ht with  t1 | ⟨t1, t2, p1, p2⟩
          · skip
            go_wp2_with fail
            go_ret2
            exact ⟨ret_pair HF1.out HF2.out.symm, rfl⟩
          · skip
            go_wp2_with fail
            go_ret2
            exact ⟨ret_pair HF1.out HF2.out.symm, rfl⟩
        · have HQR := Lib.hid hqr'
          have hd : (q : Int) - 1 = (q' : Int) := by omega
          have hq97' : q' ≤ 4294967297 := by omega
          clear hqr' hQ hq97
          rcases ht with t1 | ⟨t1, t2, p1, p2⟩
          · skip
            go_wp2_with fail
            go_round
            case rel => exact ⟨q', rh + v1, by go_num, by go_num, HQR.out, by simp at t3; omega, hle', hq97'⟩
            case measure => simp [intOf]; omega
          · go_wp2_with fail
            go_round
            case rel => exact ⟨q', rh + v1, by go_num, by go_num, HQR.out, by simp at t3; omega, hle', hq97'⟩
            case measure => simp [intOf]; omega
    · have hd : (q : Int) - 1 = (Q1 : Int) := by omega
      clear hQ hq97
      rcases ht with  t1 | ⟨t1, t2, p1, p2⟩
      · skip
        go_wp2_with fail
        go_loop [18, 16] (fun a b => ∃ q rh : Nat, a = .int .u64 (q : Int) ∧ b = .int .u64 (rh : Int) ∧ DR v1 U2 Q0 q rh) (fun a _ => (intOf a).toNat)
        case atStart => exact ⟨q0, r2, rfl, rfl, HM2.out, by omega, f1, f2⟩
        case round =>
          obtain ⟨q, rh, rfl, rfl, hqr, hrh, hle, hq97⟩ := hrel
          obtain ⟨z, hz, bz, hways⟩ := digit_ways bv1 bv0 HQ0.out bQ0 hqr hrh hle hq97
          clear hqr hle hrh
          rcases hways with ⟨t1, t2, p1, p2, hQ⟩ | ⟨ht, t3, hQ⟩ | ⟨ht, t3, q', hQ, hqr', hle'⟩
          · subst hQ
            clear hq97
            go_wp2_with fail
            go_ret2
            exact ⟨ret_pair HF1.out HF2.out.symm, rfl⟩
          · have hd : (q : Int) - 1 = (Q0 : Int) := by omega
            clear hQ hq97
            rcases ht with  t1 | ⟨t1, t2, p1, p2⟩
            · skip
              go_wp2_with fail
              go_ret2
              exact ⟨ret_pair HF1.out HF2.out.symm, rfl⟩
            · skip
              go_wp2_with fail
              go_ret2
              exact ⟨ret_pair HF1.out HF2.out.symm, rfl⟩
          · have HQR := Lib.hid hqr'
            have hd : (q : Int) - 1 = (q' : Int) := by omega
            have hq97' : q' ≤ 4294967297 := by omega
            clear hqr' hQ hq97
            rcases ht with t1 | ⟨t1, t2, p1, p2⟩
            · skip
              go_wp2_with fail
              go_round
              case rel => exact ⟨q', rh + v1, by go_num, by go_num, HQR.out, by simp at t3; omega, hle', hq97'⟩
              case measure => simp [intOf]; omega
            · go_wp2_with fail
              go_round
              case rel => exact ⟨q', rh + v1, by go_num, by go_num, HQR.out, by simp at t3; omega, hle', hq97'⟩
              case measure => simp [intOf]; omega
      · skip
        go_wp2_with fail
        go_loop [18, 16] (fun a b => ∃ q rh : Nat, a = .int .u64 (q : Int) ∧ b = .int .u64 (rh : Int) ∧ DR v1 U2 Q0 q rh) (fun a _ => (intOf a).toNat)
        case atStart => exact ⟨q0, r2, rfl, rfl, HM2.out, by omega, f1, f2⟩
        case round =>
          obtain ⟨q, rh, rfl, rfl, hqr, hrh, hle, hq97⟩ := hrel
          obtain ⟨z, hz, bz, hways⟩ := digit_ways bv1 bv0 HQ0.out bQ0 hqr hrh hle hq97
          clear hqr hle hrh
          rcases hways with ⟨t1, t2, p1, p2, hQ⟩ | ⟨ht, t3, hQ⟩ | ⟨ht, t3, q', hQ, hqr', hle'⟩
          · subst hQ
            clear hq97
            go_wp2_with fail
            go_ret2
            exact ⟨ret_pair HF1.out HF2.out.symm, rfl⟩
          · have hd : (q : Int) - 1 = (Q0 : Int) := by omega
            clear hQ hq97
            rcases ht with  t1 | ⟨t1, t2, p1, p2⟩
            · skip
              go_wp2_with fail
              go_ret2
              exact ⟨ret_pair HF1.out HF2.out.symm, rfl⟩
            · skip
              go_wp2_with fail
              go_ret2
              exact ⟨ret_pair HF1.out HF2.out.symm, rfl⟩
          · have HQR := Lib.hid hqr'
            have hd : (q : Int) - 1 = (q' : Int) := by omega
            have hq97' : q' ≤ 4294967297 := by omega
            clear hqr' hQ hq97
            rcases ht with t1 | ⟨t1, t2, p1, p2⟩
            · skip
              go_wp2_with fail
              go_round
              case rel => exact ⟨q', rh + v1, by go_num, by go_num, HQR.out, by simp at t3; omega, hle', hq97'⟩
              case measure => simp [intOf]; omega
            · go_wp2_with fail
              go_round
              case rel => exact ⟨q', rh + v1, by go_num, by go_num, HQR.out, by simp at t3; omega, hle', hq97'⟩
              case measure => simp [intOf]; omega
    · have HQR := Lib.hid hqr'
      have hd : (q : Int) - 1 = (q' : Int) := by omega
      have hq97' : q' ≤ 4294967297 := by omega
      clear hqr' hQ hq97
      rcases ht with t1 | ⟨t1, t2, p1, p2⟩
      · skip
        go_wp2_with fail
        go_round
        case rel => exact ⟨q', rh + v1, by go_num, by go_num, HQR.out, by simp at t3; omega, hle', hq97'⟩
        case measure => simp [intOf]; omega
      · go_wp2_with fail
        go_round
        case rel => exact ⟨q', rh + v1, by go_num, by go_num, HQR.out, by simp at t3; omega, hle', hq97'⟩
        case measure => simp [intOf]; omega

end Go.Proofs.Ytcighjeiimjbiaa.Num
