/-
  Texts of this claim, joined: Words, Frame, NumPure, NumSin, NumFl, NumUn, NumBits, NumFx, Ref01Fl, Ref01Un, Ref01Fx, NumSq, Ref01Sq, NumLen, NumDv, NumRt, NumTn, NumEx, Ref01Tn, NumFrame, RegG.
-/
import Derived.Test.YtflopcogalknhaaDoorRows
import Derived.WalkKit
import Derived.WalkSpells
import Derived.Below
import Derived.Laws.OwnMore
import Derived.Deep.AppendLies
import Derived.Deep.Draws
import Derived.Laws.Rows
import Derived.ProofKit
import Derived.OpenShut
import Derived.ShutString
import Derived.ChangeOld
import Derived.JoinedCond
import Derived.Carry
import Derived.ChangeSlices
import Derived.Lib.SmallJoins
import Derived.WalkLawsBesides
import Derived.Outline
import Derived.Lib.Hide
import Derived.Deep.QuietTactic
import Derived.BigQuiet
import Derived.Shelf.Bits.Mul64
import Derived.Laws.Externs
import Derived.Laws.Bits64b
import Derived.Laws.BitsAllLaws
import Derived.Laws.Bits64
import Derived.LoopTactic
import Derived.Lib.BitFns
import Derived.Laws.NewBlocks
import Derived.Deep.WholeRow
import Derived.Test.YtflopcogalknhaaDoorCards
import Derived.Test.YtflopcogalknhaaDoorTie
import Derived.Deep.DeepHandedRow
import Derived.Lib.LaidTab
import Derived.OrdersHeld
import Derived.Deep.RegionHeld
set_option linter.unusedVariables false
set_option linter.unusedSimpArgs false

/- Words: Words for memory: a slice that reads as a list (nil let in), a block that is known whole. Turned from the guide's page of words to copy. -/
namespace Go.Proofs.YtflopcogalknhaaDoor
open Go.RowKit

theorem block_of_add (a : Addr) (n : Nat) : (a.add n).block = a.block := by unfold Addr.add; split <;> rfl

def Reads (w : World) (B size : Nat) (A : Option Addr) (n : Nat) (xs : List Value) : Prop :=
  xs.length = n * size ∧ (0 < n → ∃ ad, A = some ad ∧ ad.block < B ∧ ∀ j u, xs[j]? = some u → w.cell? (ad.add j) = some u)

section
variable {w w' : World} {B B' size n : Nat} {A : Option Addr} {xs : List Value}
theorem Reads.none_ : Reads w B size A 0 [] := ⟨by simp, fun h => absurd h (by omega)⟩
theorem Reads.at_ {k : Nat} (h : Reads w B 1 A n xs) (hk : k < n) : ∃ ad u, A = some ad ∧ ad.block < B ∧ xs[k]? = some u ∧ w.cell? (ad.add k) = some u := by
  obtain ⟨ad, e, hb, hc⟩ := h.2 (by omega)
  have hl : k < xs.length := by have := h.1; omega
  exact ⟨ad, xs[k], e, hb, List.getElem?_eq_getElem hl, hc k _ (List.getElem?_eq_getElem hl)⟩
theorem Reads.keep (h : Reads w B size A n xs) (hk : ∀ p : Addr, p.block < B → w'.cell? p = w.cell? p) : Reads w' B size A n xs :=
  ⟨h.1, fun hn => by
    obtain ⟨ad, e, hb, hc⟩ := h.2 hn
    exact ⟨ad, e, hb, fun j u hu => (hk _ (by rw [block_of_add]; exact hb)).trans (hc j u hu)⟩⟩
theorem Reads.more (h : Reads w B size A n xs) (hB : B ≤ B') : Reads w B' size A n xs :=
  ⟨h.1, fun hn => by
    obtain ⟨ad, e, hb, hc⟩ := h.2 hn
    exact ⟨ad, e, by omega, hc⟩⟩
theorem Reads.below (h : Reads w B size A n xs) (hb : Below B w w') : Reads w' B size A n xs := h.keep fun _ hp => hb.cell hp
theorem Reads.drewN (h : Reads w B size A n xs) (k : Nat) : Reads (w.drewN k) B size A n xs := h
theorem Reads.alloc (h : Reads w B size A n xs) (hB : B ≤ w.heap.size) (o : Obj) : Reads (w.alloc o) B size A n xs := h.keep fun p hp => World.cell?_alloc_lt w o p (by omega)
theorem Reads.grown (h : Reads w B size A n xs) {row : Option Nat} (hg : w.grownBy w' row) (hB : B ≤ w.heap.size) (hr : ∀ g, row = some g → B ≤ g) : Reads w' B size A n xs :=
  h.keep fun p hp => World.cell?_of_block (hg.block p.block (by omega) (fun e => by have := hr _ e.symm; omega))
theorem Reads.of_own {base : Nat} {e : TypeId} {c : Nat} (h : w.ownsRow base e size (.slice A n c) n xs) : Reads w w.heap.size size A n xs := by
  refine ⟨h.1, fun hn => ?_⟩
  obtain ⟨g, cap, hv, _, hlt⟩ := h.form hn
  have hA : A = some ⟨g, 0, none⟩ := by injection hv
  subst hA
  exact ⟨_, rfl, hlt, h.cells (g := g) rfl⟩
end

def Blk (w : World) (g : Nat) (t : TypeId) (cs : Array Value) : Prop := w.heap[g]? = some (.cells cs t (0, 0))

section
variable {w w' : World} {g : Nat} {t : TypeId} {cs : Array Value}
theorem Blk.lt (h : Blk w g t cs) : g < w.heap.size := by
  rcases Nat.lt_or_ge g w.heap.size with hlt | hge
  · exact hlt
  · unfold Blk at h; rw [Array.getElem?_eq_none hge] at h; cases h
theorem Blk.cell (h : Blk w g t cs) (i : Nat) : w.cell? ⟨g, i, none⟩ = cs[i]? := cell_of_row w g i cs t (0, 0) h
theorem Blk.frozen (h : Blk w g t cs) (i : Nat) : w.frozen? ⟨g, i, none⟩ = false := by
  unfold Blk at h
  simp [World.frozen?, h]
theorem Blk.new (w : World) (t : TypeId) (cs : Array Value) : Blk (w.alloc (.cells cs t)) w.heap.size t cs := heap_alloc_new w _
theorem Blk.drew (h : Blk w g t cs) : Blk w.drew g t cs := h
theorem Blk.drewN (h : Blk w g t cs) (n : Nat) : Blk (w.drewN n) g t cs := h
theorem Blk.alloc (h : Blk w g t cs) (o : Obj) : Blk (w.alloc o) g t cs := (Below.heap_alloc w o g h.lt).trans h
theorem Blk.set_ (h : Blk w g t cs) (i : Nat) (u : Value) : Blk (w.setCell ⟨g, i, none⟩ u) g t (cs.setIfInBounds i u) := by
  unfold Blk at h ⊢
  simp [World.setCell, Array.getElem?_modify, h]
theorem Blk.far (h : Blk w g t cs) {p : Addr} (hp : g ≠ p.block) (u : Value) : Blk (w.setCell p u) g t cs := (Below.heap_setCell w p u g hp).trans h
theorem Blk.below {B : Nat} (h : Blk w g t cs) (hb : Below B w w') (hg : g < B) : Blk w' g t cs := (hb.block g hg).trans h
theorem Blk.grown {row : Option Nat} (h : Blk w g t cs) (hb : w.grownBy w' row) (hg : some g ≠ row) : Blk w' g t cs := (hb.block g h.lt hg).trans h
end

end Go.Proofs.YtflopcogalknhaaDoor

/- Frame: The frame of a law's proof, for parameters of whatever types: nothing that was there has turned, so every argument reads as it did. -/
namespace Go.Proofs.YtflopcogalknhaaDoor.Frame
open Go.ChangeShapes Go.WideShapes Go.ChangeAt Go.RowKit

theorem own : ownKnob Tryd.prog.godebug = none := by kernel_rfl
theorem laidOut : laidOutB Tryd.prog = true := by kernel_rfl

section
variable {H : Type} {enc : TypeId × Value → H} {P : Program}

theorem trodAll_below (hl : laidOutB P = true) {W W' : World} (hb : Below W.heap.size W W') : ∀ {ts : List TypeId} {vs : List Value} {ds : List (DataW H)} {ps : List MemPlace},
    (∀ t ∈ ts, P.readableRec t = true ∧ t < P.types.size) → DataW.TrodAll enc P W 0 (fun _ => true) true ts vs ds ps → DataW.TrodAll enc P W' 0 (fun b => decide (b < W.heap.size)) true ts vs ds ps
  | [], vs, ds, ps, _, h => by
    obtain ⟨rfl, rfl, rfl⟩ := trodAll_nil h
    exact trodAll_mk0
  | t :: ts, vs, ds, ps, ht, h => by
    obtain ⟨v, vs', d, ds', p, q, rfl, rfl, rfl, h1, h2⟩ := trodAll_cons h
    refine trodAll_cons_mk ?_ (trodAll_below hl hb (fun t' h' => ht t' (List.mem_cons_of_mem _ h')) h2)
    exact Below.trod hl (ht t (List.mem_cons_self)).1 (ht t (List.mem_cons_self)).2 h1 hb (by obtain ⟨m, hm⟩ := h1; exact DataW.trod_lt m _ _ _ hm)

theorem law_post {f : Func} {s : ChangeSpec} {tb : TypeId} {W W' : World} {args : Array Value} {ds : List (DataW H)} {before : List MemPlace} (hl : laidOutB P = true) (hr : f.params.toList.all (fun t => P.readableRec t && decide (t < P.types.size)) = true)
    (hbt : P.underlying tb = some .bool) (hres : f.resultTypes = #[tb]) (hvars : s.vars = []) (hfn : s.fn H (ds ++ []) = { results := [.lit (.bool true)], args := ds })
    (hW : DataW.Whole enc P f.params.toList s.vars false W args.toList ds [] before) (hb : Below W.heap.size W W') : s.post enc P f false true false false W args (.bool true) W' := by
  have hW' := hW
  obtain ⟨p, q, hA, hV, rfl, _, _⟩ := hW
  refine ⟨ds, [], p ++ q, [], p, [], hW', ?_, ?_, ?_, hb.frame _, fun h => by cases h⟩
  · rw [hfn, hres]
    exact trodAll_mk1 (shut_bool hbt true)
  · rw [hfn]
    exact trodAll_below hl hb (fun t ht => by simpa using List.all_eq_true.1 hr t ht) hA
  · rw [hfn, hvars]
    exact rfl
end

/-- A slice of ints that came in reads as a list. -/
theorem reads_ints {H : Type} {enc : TypeId × Value → H} {P : Program} {w : World} {t e : TypeId} {k : IntKind} {fuel : Nat} {v : Value} {x : DataW H × List MemPlace} (ht : P.underlying t = some (.slice e)) (he : P.underlying e = some (.int k)) (hc : P.cellsOf e = 1)
    (h : DataW.trod enc P w 0 (fun _ => true) true fuel t [v] = some x) :
    ∃ (A : Option Addr) (cap : Nat) (zs : List Int) (rest : List (DataW H)), v = .slice A zs.length cap ∧ Reads w w.heap.size 1 A zs.length (zs.map (Value.int k)) ∧ (∀ z ∈ zs, (Lit.int k z).wf = true) ∧ (x.1 = .slice (zs.map fun z => .lit (.int k z)) rest ∨ x.1 = .nil ∧ zs = []) := by
  have hlt := DataW.trod_lt _ _ _ _ h
  rcases open_ints ht he hc h with ⟨hcs, hx⟩ | ⟨a, len, cap, zs, hcs, _, hl, hm, hz, hx, hcell, hwz⟩
  · cases hcs
    exact ⟨none, 0, [], [], rfl, Reads.none_, by simp, .inr ⟨by rw [hx], rfl⟩⟩
  · cases hcs
    simp only [if_true] at hz
    have hlen : (zs.take len).length = len := by rw [List.length_take]; omega
    refine ⟨some a, cap, zs.take len, (lits k (zs.drop len)), by rw [hlen], ⟨by simp, fun hn => ⟨a, rfl, ?_, fun j u hu => ?_⟩⟩, fun z hz' => hwz z (List.mem_of_mem_take hz'), .inl (by rw [hx]; rfl)⟩
    · rw [hlen] at hn
      have h0 := hcell 0 (by omega)
      have := World.block_lt_of_cell? w _ h0
      rwa [block_of_add] at this
    · rw [List.getElem?_map, Option.map_eq_some_iff] at hu
      obtain ⟨z, hz1, rfl⟩ := hu
      have hj : j < (zs.take len).length := (List.getElem?_eq_some_iff.1 hz1).1
      have hj2 : j < zs.length := by rw [hlen] at hj; omega
      rw [hcell j hj2]
      rw [List.getElem?_take] at hz1
      split at hz1
      · rw [List.getD_eq_getElem?_getD, hz1]; rfl
      · cases hz1

theorem bulk_lits {H : Type} (k : IntKind) (zs : List Int) : Rows.uptoBulkAll (zs.map fun z => DataW.lit (H := H) (.int k z)) = zs.length := by
  induction zs with
  | nil => rfl
  | cons z l ih => simp only [List.map_cons, Rows.uptoBulkAll, ih, List.length_cons]; simp only [Rows.uptoBulk]; omega

end Go.Proofs.YtflopcogalknhaaDoor.Frame

/- NumPure: The plain side of package num: quotients rounded down and to the nearest, limits, fixed-point products and quotients, roots. No program in sight. -/
namespace Go.Proofs.YtflopcogalknhaaDoor.NumPure

theorem fdiv_pos {a b : Int} (hb : 0 < b) : b * a.fdiv b ≤ a ∧ a < b * a.fdiv b + b := by
  rw [Int.fdiv_eq_ediv_of_nonneg _ (Int.le_of_lt hb)]
  have h1 := Int.mul_ediv_add_emod a b
  have h2 := Int.emod_nonneg a (Int.ne_of_gt hb)
  have h3 := Int.emod_lt_of_pos a hb
  constructor <;> omega
theorem fdiv_neg {a b : Int} (hb : b < 0) : a ≤ b * a.fdiv b ∧ b * a.fdiv b + b < a := by
  have h := fdiv_pos (a := -a) (b := -b) (by omega)
  rw [Int.neg_fdiv_neg, Int.neg_mul] at h
  constructor <;> omega
theorem fdiv_pos_unique {a b q : Int} (hb : 0 < b) (h1 : b * q ≤ a) (h2 : a < b * q + b) : a.fdiv b = q := by
  rw [Int.fdiv_eq_ediv_of_nonneg _ (Int.le_of_lt hb)]
  exact ((Int.ediv_emod_unique hb (r := a - b * q)).2 ⟨by omega, by omega, by omega⟩).1
theorem fdiv_neg_unique {a b q : Int} (hb : b < 0) (h1 : a ≤ b * q) (h2 : b * q + b < a) : a.fdiv b = q := by
  rw [← Int.neg_fdiv_neg]
  apply fdiv_pos_unique (by omega) <;> rw [Int.neg_mul] <;> omega

/-- What Go's quotient and remainder are. -/
theorem t_parts (a b : Int) : b * a.tdiv b + a.tmod b = a := Int.mul_tdiv_add_tmod a b
theorem tmod_pos {a b : Int} (ha : 0 ≤ a) (hb : b ≠ 0) : 0 ≤ a.tmod b ∧ (a.tmod b < b ∨ a.tmod b < -b) := by
  refine ⟨Int.tmod_nonneg b ha, ?_⟩
  rcases Int.lt_or_gt_of_ne hb with h | h
  · right
    have := Int.tmod_lt_of_pos a (b := -b) (by omega)
    rwa [Int.tmod_neg] at this
  · left
    exact Int.tmod_lt_of_pos a h
theorem tmod_neg {a b : Int} (ha : a ≤ 0) (hb : b ≠ 0) : a.tmod b ≤ 0 ∧ (-b < a.tmod b ∨ b < a.tmod b) := by
  have h := tmod_pos (a := -a) (b := b) (by omega) hb
  rw [Int.neg_tmod] at h
  omega

/-- The quotient rounded down, out of Go's quotient and remainder. -/
theorem floor_of (a b : Int) (hb : b ≠ 0) : a.fdiv b = if a.tmod b ≠ 0 ∧ (decide (a < 0) ≠ decide (b < 0)) then a.tdiv b - 1 else a.tdiv b := by
  have h := t_parts a b
  have e : b * (a.tdiv b - 1) = b * a.tdiv b - b := by rw [Int.mul_sub, Int.mul_one]
  rcases Int.lt_or_gt_of_ne hb with hb' | hb'
  · apply fdiv_neg_unique hb'
    · split
      · rename_i hc
        rw [e]
        by_cases ha : a < 0
        · simp [ha, hb'] at hc
        · have := tmod_pos (a := a) (b := b) (by omega) hb
          omega
      · rename_i hc
        by_cases ha : a < 0
        · have := tmod_neg (a := a) (b := b) (by omega) hb
          omega
        · simp [ha, hb'] at hc
          omega
    · split
      · rename_i hc
        rw [e]
        by_cases ha : a < 0
        · simp [ha, hb'] at hc
        · have := tmod_pos (a := a) (b := b) (by omega) hb
          omega
      · rename_i hc
        by_cases ha : a < 0
        · have := tmod_neg (a := a) (b := b) (by omega) hb
          omega
        · simp [ha, hb'] at hc
          omega
  · have hb2 : ¬ b < 0 := by omega
    apply fdiv_pos_unique hb'
    · split
      · rename_i hc
        rw [e]
        by_cases ha : a < 0
        · have := tmod_neg (a := a) (b := b) (by omega) hb
          omega
        · simp [ha, hb2] at hc
      · rename_i hc
        by_cases ha : a < 0
        · simp [ha, hb2] at hc
          omega
        · have := tmod_pos (a := a) (b := b) (by omega) hb
          omega
    · split
      · rename_i hc
        rw [e]
        by_cases ha : a < 0
        · have := tmod_neg (a := a) (b := b) (by omega) hb
          omega
        · simp [ha, hb2] at hc
      · rename_i hc
        by_cases ha : a < 0
        · simp [ha, hb2] at hc
          omega
        · have := tmod_pos (a := a) (b := b) (by omega) hb
          omega

/-- A quotient of two numbers of 64 bits is one, but for the least one by -1. -/
theorem tdiv_in {a b : Int} (h0 : -9223372036854775808 ≤ a) (h1 : a ≤ 9223372036854775807) (hx : ¬ (a = -9223372036854775808 ∧ b = -1)) : -9223372036854775808 ≤ a.tdiv b ∧ a.tdiv b ≤ 9223372036854775807 := by
  have h := Int.natAbs_tdiv_le_natAbs a b
  by_cases e : a = -9223372036854775808
  · subst e
    by_cases hb : b.natAbs ≤ 1
    · have : b = 0 ∨ b = 1 := by omega
      rcases this with rfl | rfl
      · simp
      · simp
    · have h2 : (Int.tdiv (-9223372036854775808) b).natAbs = 9223372036854775808 / b.natAbs := Int.natAbs_tdiv _ _
      have h3 : 9223372036854775808 / b.natAbs ≤ 9223372036854775808 / 2 := Nat.div_le_div_left (by omega) (by omega)
      omega
  · omega

def flr (a b : Int) : Int := if b = 0 then 0 else if a = -9223372036854775808 ∧ b = -1 then 9223372036854775807 else a.fdiv b

/-- Half up. -/
def up (a b : Int) : Bool := decide (0 < b ∧ b - (a - b * a.fdiv b) ≤ a - b * a.fdiv b ∨ b < 0 ∧ a - b * a.fdiv b ≤ b - (a - b * a.fdiv b))
def dvr (a b : Int) : Int := if b = 0 then 0 else if a = -9223372036854775808 ∧ b = -1 then 9223372036854775807 else if up a b then a.fdiv b + 1 else a.fdiv b

theorem tdiv_half {a b : Int} (h0 : -9223372036854775808 ≤ a) (h1 : a ≤ 9223372036854775807) (hb : 2 ≤ b.natAbs) : -4611686018427387904 ≤ a.tdiv b ∧ a.tdiv b ≤ 4611686018427387904 := by
  have h2 : (Int.tdiv a b).natAbs = a.natAbs / b.natAbs := Int.natAbs_tdiv _ _
  have h3 : a.natAbs / b.natAbs ≤ a.natAbs / 2 := Nat.div_le_div_left hb (by omega)
  omega
theorem tmod_one {a b : Int} (hb : b.natAbs = 1) : a.tmod b = 0 := by
  have : b = 1 ∨ b = -1 := by omega
  rcases this with rfl | rfl
  · exact Int.tmod_one a
  · rw [Int.tmod_neg]; exact Int.tmod_one a

theorem fdiv_in {a b : Int} (h0 : -9223372036854775808 ≤ a) (h1 : a ≤ 9223372036854775807) (hb : b ≠ 0) (hx : ¬ (a = -9223372036854775808 ∧ b = -1)) : -9223372036854775808 ≤ a.fdiv b ∧ a.fdiv b ≤ 9223372036854775807 := by
  rw [floor_of a b hb]
  have hq := tdiv_in h0 h1 hx
  split
  · rename_i hc
    by_cases h2 : 2 ≤ b.natAbs
    · have := tdiv_half h0 h1 h2
      omega
    · exact absurd (tmod_one (a := a) (b := b) (by omega)) hc.1
  · exact hq

theorem up_in {a b : Int} (h0 : -9223372036854775808 ≤ a) (h1 : a ≤ 9223372036854775807) (hb : b ≠ 0) (hu : up a b = true) : -9223372036854775808 ≤ a.fdiv b ∧ a.fdiv b + 1 ≤ 9223372036854775807 := by
  by_cases h2 : 2 ≤ b.natAbs
  · have := tdiv_half h0 h1 h2
    rw [floor_of a b hb]
    split <;> omega
  · exfalso
    have e : a.tmod b = 0 := tmod_one (by omega)
    have h3 := t_parts a b
    have h4 : a.fdiv b = a.tdiv b := by rw [floor_of a b hb, if_neg (by simp [e])]
    simp only [up, h4, decide_eq_true_eq] at hu
    omega

theorem flr_zero (a : Int) : flr a 0 = 0 := by simp [flr]
theorem flr_over : flr (-9223372036854775808) (-1) = 9223372036854775807 := by simp [flr]
theorem flr_of {a b : Int} (hb : b ≠ 0) (hx : ¬ (a = -9223372036854775808 ∧ b = -1)) : flr a b = a.fdiv b := by rw [flr, if_neg hb, if_neg hx]
theorem flr_in {a b : Int} (h0 : -9223372036854775808 ≤ a) (h1 : a ≤ 9223372036854775807) : -9223372036854775808 ≤ flr a b ∧ flr a b ≤ 9223372036854775807 := by
  unfold flr
  split
  · omega
  · split
    · omega
    · exact fdiv_in h0 h1 ‹_› ‹_›
theorem flr_down {a b : Int} (hb : b ≠ 0) (hx : ¬ (a = -9223372036854775808 ∧ b = -1)) (hm : a.tmod b ≠ 0) (hs : decide (a < 0) ≠ decide (b < 0)) : flr a b = a.tdiv b - 1 := by
  rw [flr_of hb hx, floor_of a b hb, if_pos ⟨hm, hs⟩]
theorem flr_keep {a b : Int} (hb : b ≠ 0) (hx : ¬ (a = -9223372036854775808 ∧ b = -1)) (h : ¬ (a.tmod b ≠ 0 ∧ decide (a < 0) ≠ decide (b < 0))) : flr a b = a.tdiv b := by
  rw [flr_of hb hx, floor_of a b hb, if_neg h]

theorem dvr_zero (a : Int) : dvr a 0 = 0 := by simp [dvr]
theorem dvr_over : dvr (-9223372036854775808) (-1) = 9223372036854775807 := by simp [dvr]
theorem dvr_up {a b : Int} (hb : b ≠ 0) (hx : ¬ (a = -9223372036854775808 ∧ b = -1)) (h : up a b = true) : dvr a b = flr a b + 1 := by
  rw [flr_of hb hx, dvr, if_neg hb, if_neg hx, if_pos h]
theorem dvr_down {a b : Int} (hb : b ≠ 0) (hx : ¬ (a = -9223372036854775808 ∧ b = -1)) (h : up a b = false) : dvr a b = flr a b := by
  rw [flr_of hb hx, dvr, if_neg hb, if_neg hx, h]; rfl
theorem dvr_in {a b : Int} (h0 : -9223372036854775808 ≤ a) (h1 : a ≤ 9223372036854775807) : -9223372036854775808 ≤ dvr a b ∧ dvr a b ≤ 9223372036854775807 := by
  unfold dvr
  split
  · omega
  · split
    · omega
    · split
      · have := up_in h0 h1 ‹_› ‹_›
        omega
      · exact fdiv_in h0 h1 ‹_› ‹_›

def clp (x lo hi : Int) : Int := min hi (max x lo)
def unt (x : Int) : Int := clp x 0 65535

theorem unt_in (x : Int) : 0 ≤ unt x ∧ unt x ≤ 65535 := by unfold unt clp; omega
theorem mul_bd {x y : Int} (x0 : 0 ≤ x) (x1 : x ≤ 65535) (y0 : 0 ≤ y) (y1 : y ≤ 65535) : 0 ≤ x * y ∧ x * y ≤ 4294836225 := by
  refine ⟨Int.mul_nonneg x0 y0, ?_⟩
  have := Int.mul_le_mul x1 y1 y0 (by omega)
  omega
theorem mul_bd2 {x u : Int} (x0 : -1099511627776 ≤ x) (x1 : x ≤ 1099511627776) (u0 : 0 ≤ u) (u1 : u ≤ 65535) : -72056494526300160 ≤ x * u ∧ x * u ≤ 72056494526300160 := by
  have h1 := Int.mul_le_mul_of_nonneg_right x1 u0
  have h2 := Int.mul_le_mul_of_nonneg_right x0 u0
  omega
def mulU (a b : Int) : Int := dvr (unt a * unt b) 65535
def quoU (a b : Int) : Int := min 65535 (dvr (unt a * 65535) (unt b))
def lerpU (a b t : Int) : Int := dvr (clp a (-1099511627776) 1099511627776 * (65535 - unt t) + clp b (-1099511627776) 1099511627776 * unt t) 65535

def sat (x : Int) : Int := max (-9223372036854775808) (min 9223372036854775807 x)
/-- The product of two fixed-point numbers: rounded to the nearest (halves up), saturated. -/
def fixU (a b : Int) : Int := sat ((a * b + 32768).fdiv 65536)

/-- A magnitude with a sign, saturated. -/
def sgn (neg : Bool) (q : Nat) : Int := bif neg then max (-9223372036854775808) (-(q : Int)) else min 9223372036854775807 (q : Int)

/-- A quotient of magnitudes, rounded to the nearest integer (halves up, as numbers with their sign). -/
def rnd (neg : Bool) (n d : Nat) : Nat := if (bif neg then decide (d - n % d < n % d) else decide (d - n % d ≤ n % d)) then n / d + 1 else n / d
/-- The quotient of two fixed-point numbers. -/
def ratU (a b : Int) : Int := if b = 0 then 0 else sgn (decide (a < 0) != decide (b < 0)) (rnd (decide (a < 0) != decide (b < 0)) (a.natAbs * 65536) b.natAbs)

/-- The root by bits, from the highest one. -/
def sqGo (n : Nat) : Nat → Nat → Nat
  | 0, r => r
  | m + 1, r => sqGo n m (if (r + 2 ^ m) * (r + 2 ^ m) ≤ n then r + 2 ^ m else r)

theorem sqGo_spec (n : Nat) : ∀ m r, r * r ≤ n → n < (r + 2 ^ m) * (r + 2 ^ m) → sqGo n m r * sqGo n m r ≤ n ∧ n < (sqGo n m r + 1) * (sqGo n m r + 1)
  | 0, r, h1, h2 => ⟨h1, h2⟩
  | m + 1, r, h1, h2 => by
    rw [sqGo]
    split
    · rename_i h
      refine sqGo_spec n m _ h ?_
      rw [Nat.pow_succ] at h2
      rwa [show r + 2 ^ m + 2 ^ m = r + 2 ^ m * 2 by omega]
    · rename_i h
      exact sqGo_spec n m _ h1 (by omega)

theorem sq_unique {n r s : Nat} (h1 : r * r ≤ n) (h2 : n < (r + 1) * (r + 1)) (h3 : s * s ≤ n) (h4 : n < (s + 1) * (s + 1)) : r = s := by
  rcases Nat.lt_trichotomy r s with h | h | h
  · have := Nat.mul_le_mul (show r + 1 ≤ s by omega) (show r + 1 ≤ s by omega)
    omega
  · exact h
  · have := Nat.mul_le_mul (show s + 1 ≤ r by omega) (show s + 1 ≤ r by omega)
    omega

end Go.Proofs.YtflopcogalknhaaDoor.NumPure

/- NumSin: The plain side of package num: the sine of a part of a quarter turn. -/
namespace Go.Proofs.YtflopcogalknhaaDoor.NumPure

/-- The table of sines, and the sine of a part of a quarter turn. -/
def sinL : List Int := [0, 1608, 3216, 4821, 6424, 8022, 9616, 11204, 12785, 14359, 15924, 17479, 19024, 20557, 22078, 23586, 25080, 26558, 28020, 29466, 30893, 32303, 33692, 35062, 36410, 37736, 39040, 40320, 41576, 42806, 44011, 45190, 46341, 47464, 48559, 49624, 50660, 51665, 52639, 53581, 54491, 55368, 56212, 57022, 57798, 58538, 59244, 59914, 60547, 61145, 61705, 62228, 62714, 63162, 63572, 63944, 64277, 64571, 64827, 65043, 65220, 65358, 65457, 65516, 65536]
def sinT (i : Nat) : Int := sinL.getD i 0
def qrt (u : Nat) : Int := if u < 16384 then sinT (u / 256) + dvr ((sinT (u / 256 + 1) - sinT (u / 256)) * (u % 256 : Nat)) 256 else sinT 64
theorem qrt_of (u : Nat) (h : u < 16384) : qrt u = sinT (u / 256) + dvr ((sinT (u / 256 + 1) - sinT (u / 256)) * (u % 256 : Nat)) 256 := if_pos h
theorem sinT_all : ∀ i : Fin 65, 0 ≤ sinT i.val ∧ sinT i.val ≤ 65536 := by decide +kernel
theorem sinT_bd (i : Nat) : 0 ≤ sinT i ∧ sinT i ≤ 65536 := by
  by_cases h : i < 65
  · exact sinT_all ⟨i, h⟩
  · have : sinT i = 0 := by
      unfold sinT
      rw [List.getD_eq_getElem?_getD, List.getElem?_eq_none (by simp only [sinL, List.length_cons, List.length_nil]; omega)]
      rfl
    omega
def allB (p : Nat → Bool) : Nat → Bool
  | 0 => true
  | n + 1 => p n && allB p n
theorem allB_of {p : Nat → Bool} {n : Nat} (h : allB p n = true) : ∀ k, k < n → p k = true := by
  induction n with
  | zero => intro k hk; omega
  | succ n ih =>
    intro k hk
    simp only [allB, Bool.and_eq_true] at h
    by_cases e : k = n
    · rw [e]; exact h.1
    · exact ih h.2 k (by omega)
theorem qrt_all : allB (fun i => allB (fun f => decide (0 ≤ qrt (i * 256 + f) ∧ qrt (i * 256 + f) ≤ 65536)) 256) 65 = true := by decide +kernel
theorem qrt_bd (u : Nat) (h : u ≤ 16384) : 0 ≤ qrt u ∧ qrt u ≤ 65536 := by
  have h1 := allB_of (allB_of qrt_all (u / 256) (by omega)) (u % 256) (by omega)
  rw [Nat.div_add_mod' u 256] at h1
  exact of_decide_eq_true h1

/-- The sine of an angle (65536: a full turn), in units of 65536. -/
def sinA (a : Nat) : Int := if a / 16384 = 0 then qrt (a % 16384) else if a / 16384 = 1 then qrt (16384 - a % 16384) else if a / 16384 = 2 then -qrt (a % 16384) else -qrt (16384 - a % 16384)
def sinZ (z : Int) : Int := sinA (z % 65536).toNat
def cosZ (z : Int) : Int := sinA (((z % 65536).toNat + 16384) % 65536)

end Go.Proofs.YtflopcogalknhaaDoor.NumPure

/- NumFl: Package num: quotients rounded down and to the nearest integer, limits. What each function answers, for every input. -/
namespace Go.Proofs.YtflopcogalknhaaDoor.Num
open Go.RowKit Go.Proofs.YtflopcogalknhaaDoor Go.Proofs.YtflopcogalknhaaDoor.NumPure

theorem ret_int {k : IntKind} {a b : Int} (h : a = b) : Ending.returned (.int k a) = .returned (.int k b) := by rw [h]

/-- The least number by -1 is shut out: in the walk's own tests. -/
theorem notOver {a b : Int} (hx : ¬ (a = -9223372036854775808 ∧ b = -1)) : ((a == -9223372036854775808) = true ∧ (b == -1) = false) ∨ (a == -9223372036854775808) = false := by
  by_cases e : a = -9223372036854775808
  · exact .inl ⟨by simp [e], by simp; intro e2; exact hx ⟨e, e2⟩⟩
  · exact .inr (by simpa using e)

set_option maxHeartbeats 1000000 in
theorem floor_any (a b : Int) (h0 : -9223372036854775808 ≤ a) (h1 : a ≤ 9223372036854775807) (w : World) :
    Calls Tryd.prog 66 #[.int .i64 a, .int .i64 b] w fun e w' => e = .returned (.int .i64 (flr a b)) ∧ w = w' := by
  by_cases hb : b = 0
  · subst hb
    go_enter Tryd.func66, Tryd.ntmps66
    go_wp2
    go_ret
    exact ⟨ret_int (flr_zero a).symm, rfl⟩
  have tb : (b == 0) = false := by simpa using hb
  by_cases hx : a = -9223372036854775808 ∧ b = -1
  · obtain ⟨rfl, rfl⟩ := hx
    go_enter Tryd.func66, Tryd.ntmps66
    go_wp2
    go_ret
    exact ⟨ret_int flr_over.symm, rfl⟩
  have hq := tdiv_in h0 h1 hx
  obtain ⟨q0, q1⟩ := hq
  have hmin := notOver hx
  by_cases hm : a.tmod b = 0
  · have HF := Lib.hid (flr_keep hb hx (by simp [hm]))
    have tm : (a.tmod b != 0) = false := by simp [hm]
    clear hm hx
    rcases hmin with ⟨t1, t2⟩ | t1
    all_goals
      go_enter Tryd.func66, Tryd.ntmps66
      go_wp2
      go_ret
      exact ⟨ret_int HF.out.symm, rfl⟩
  · have tm : (a.tmod b != 0) = true := by simp [hm]
    by_cases hs : decide (a < 0) = decide (b < 0)
    · have HF := Lib.hid (flr_keep hb hx (by simp [hs]))
      have ts : (!(decide (a < 0) == decide (b < 0))) = false := by rw [hs]; simp
      clear hm hx hs
      rcases hmin with ⟨t1, t2⟩ | t1
      all_goals
        go_enter Tryd.func66, Tryd.ntmps66
        go_wp2
        go_ret
        exact ⟨ret_int HF.out.symm, rfl⟩
    · have HF := Lib.hid (flr_down hb hx hm hs)
      have hi := flr_in (b := b) h0 h1
      rw [HF.out] at hi
      have ts : (!(decide (a < 0) == decide (b < 0))) = true := by simpa using hs
      obtain ⟨q2, q3⟩ := hi
      clear hm hx hs
      rcases hmin with ⟨t1, t2⟩ | t1
      all_goals
        go_enter Tryd.func66, Tryd.ntmps66
        go_wp2
        go_ret
        exact ⟨ret_int HF.out.symm, rfl⟩

theorem wrap_sub {a x : Int} (h0 : -9223372036854775808 ≤ a - x) (h1 : a - x ≤ 9223372036854775807) : wrap64 (a - wrap64 x) = a - x := by
  unfold wrap64
  omega

/-- What is left by the quotient that was rounded down. -/
theorem rest_pos {a b : Int} (hb : 0 < b) : 0 ≤ a - b * a.fdiv b ∧ a - b * a.fdiv b < b := by
  have := fdiv_pos (a := a) hb
  omega
theorem rest_neg {a b : Int} (hb : b < 0) : a - b * a.fdiv b ≤ 0 ∧ b < a - b * a.fdiv b := by
  have := fdiv_neg (a := a) hb
  omega

/-- What the walk of Div needs: the quotient q, the rest r, and whether it is rounded up. -/
theorem div_parts (a b : Int) (h0 : -9223372036854775808 ≤ a) (h1 : a ≤ 9223372036854775807) (g0 : -9223372036854775808 ≤ b) (g1 : b ≤ 9223372036854775807) (hb : b ≠ 0) (hx : ¬ (a = -9223372036854775808 ∧ b = -1)) :
    ∃ q r : Int, q = flr a b ∧ wrap64 (a - wrap64 (b * q)) = r ∧ -9223372036854775808 ≤ q ∧ q ≤ 9223372036854775807 ∧ ((0 < b ∧ 0 ≤ r ∧ r < b) ∨ (b < 0 ∧ r ≤ 0 ∧ b < r)) ∧
      ((dvr a b = q + 1 ∧ q + 1 ≤ 9223372036854775807 ∧ (0 < b → b - r ≤ r) ∧ (b < 0 → r ≤ b - r)) ∨ (dvr a b = q ∧ (0 < b → r < b - r) ∧ (b < 0 → b - r < r))) := by
  refine ⟨flr a b, a - b * flr a b, rfl, ?_, (flr_in h0 h1).1, (flr_in h0 h1).2, ?_, ?_⟩
  · apply wrap_sub
    all_goals
      rw [flr_of hb hx]
      rcases Int.lt_or_gt_of_ne hb with h | h
      · have := rest_neg (a := a) h
        omega
      · have := rest_pos (a := a) h
        omega
  · rw [flr_of hb hx]
    rcases Int.lt_or_gt_of_ne hb with h | h
    · exact .inr ⟨h, rest_neg h⟩
    · exact .inl ⟨h, rest_pos h⟩
  · cases hu : up a b with
    | true =>
      have hi := up_in h0 h1 hb hu
      refine .inl ⟨dvr_up hb hx hu, by rw [flr_of hb hx]; exact hi.2, ?_, ?_⟩
      all_goals
        rw [flr_of hb hx]
        intro h
        simp only [up, decide_eq_true_eq] at hu
        omega
    | false =>
      refine .inr ⟨dvr_down hb hx hu, ?_, ?_⟩
      all_goals
        rw [flr_of hb hx]
        intro h
        simp only [up, decide_eq_false_iff_not] at hu
        omega

theorem floor_is (a b q : Int) (h0 : -9223372036854775808 ≤ a) (h1 : a ≤ 9223372036854775807) (hq : q = flr a b) (w : World) :
    Calls Tryd.prog 66 #[.int .i64 a, .int .i64 b] w fun e w' => e = .returned (.int .i64 q) ∧ w = w' := by
  subst hq
  exact floor_any a b h0 h1 w

set_option maxHeartbeats 2000000 in
theorem div_any (a b : Int) (h0 : -9223372036854775808 ≤ a) (h1 : a ≤ 9223372036854775807) (g0 : -9223372036854775808 ≤ b) (g1 : b ≤ 9223372036854775807) (w : World) :
    Calls Tryd.prog 52 #[.int .i64 a, .int .i64 b] w fun e w' => e = .returned (.int .i64 (dvr a b)) ∧ w = w' := by
  by_cases hb : b = 0
  · subst hb
    go_enter Tryd.func52, Tryd.ntmps52
    go_wp2
    go_ret
    exact ⟨ret_int (dvr_zero a).symm, rfl⟩
  have tb : (b == 0) = false := by simpa using hb
  by_cases hx : a = -9223372036854775808 ∧ b = -1
  · obtain ⟨rfl, rfl⟩ := hx
    go_enter Tryd.func52, Tryd.ntmps52
    go_wp2
    go_ret
    exact ⟨ret_int dvr_over.symm, rfl⟩
  have hmin := notOver hx
  obtain ⟨q, r, hq, hr, q0, q1, hs, hc⟩ := div_parts a b h0 h1 g0 g1 hb hx
  have HQ := Lib.hid hq
  clear hq hx
  rcases hs with ⟨hp, r0, r1⟩ | ⟨hp, r0, r1⟩
  all_goals
    rcases hc with ⟨hd, hi, hu, hv⟩ | ⟨hd, hu, hv⟩
    all_goals
      have HD := Lib.hid hd
      clear hd
      first | (have hl := hu hp; clear hu hv) | (have hl := hv hp; clear hu hv)
      rcases hmin with ⟨t1, t2⟩ | t1
      all_goals
        go_enter Tryd.func52, Tryd.ntmps52
        go_wp2_with (go_at_call 66; refine (floor_is a b q h0 h1 HQ.out _).mono ?_; rintro e w' ⟨rfl, rfl⟩)
        go_ret
        exact ⟨ret_int HD.out.symm, rfl⟩

end Go.Proofs.YtflopcogalknhaaDoor.Num

/- NumUn: Package num: unit values: products, quotients and values between two. -/
namespace Go.Proofs.YtflopcogalknhaaDoor.Num
open Go.RowKit Go.Proofs.YtflopcogalknhaaDoor Go.Proofs.YtflopcogalknhaaDoor.NumPure

theorem div_is (a b d : Int) (h : d = dvr a b) (h0 : -9223372036854775808 ≤ a) (h1 : a ≤ 9223372036854775807) (g0 : -9223372036854775808 ≤ b) (g1 : b ≤ 9223372036854775807) (w : World) :
    Calls Tryd.prog 52 #[.int .i64 a, .int .i64 b] w fun e w' => e = .returned (.int .i64 d) ∧ w = w' := by
  subst h
  exact div_any a b h0 h1 g0 g1 w
end Go.Proofs.YtflopcogalknhaaDoor.Num

/- NumBits: Products of two words and sums with carry: math/bits, and the reference's own product; magnitudes. -/
namespace Go.Proofs.YtflopcogalknhaaDoor.Num
open Go.RowKit Go.Proofs.YtflopcogalknhaaDoor Go.Proofs.YtflopcogalknhaaDoor.NumPure

set_option maxHeartbeats 1000000 in
theorem mul64_any (x y : Nat) (hx : x < 18446744073709551616) (hy : y < 18446744073709551616) (w : World) :
    Calls Tryd.prog 59 #[.int .u64 x, .int .u64 y] w fun e w' => e = .returned (.tuple #[.int .u64 ((x * y / 18446744073709551616 : Nat) : Int), .int .u64 ((x * y % 18446744073709551616 : Nat) : Int)]) ∧ w = w' := by
  obtain ⟨bd, bt, bw, hhi⟩ := Lib.mul64_hi x y hx hy
  have ba := Lib.half_mul_le (a := x / 4294967296) (b := y / 4294967296) (by omega) (by omega)
  have bb := Lib.half_mul_le (a := x / 4294967296) (b := y % 4294967296) (by omega) (by omega)
  have bc := Lib.half_mul_le (a := x % 4294967296) (b := y / 4294967296) (by omega) (by omega)
  have ba' : x / 4294967296 * (y / 4294967296) < 18446744073709551616 := by omega
  have bb' : x / 4294967296 * (y % 4294967296) < 18446744073709551616 := by omega
  have bc' : x % 4294967296 * (y / 4294967296) < 18446744073709551616 := by omega
  have bh1 : x / 4294967296 * (y / 4294967296) + (x / 4294967296 * (y % 4294967296) + x % 4294967296 * (y % 4294967296) / 4294967296) / 4294967296 < 18446744073709551616 := by omega
  have bh : x / 4294967296 * (y / 4294967296) + (x / 4294967296 * (y % 4294967296) + x % 4294967296 * (y % 4294967296) / 4294967296) / 4294967296 + ((x / 4294967296 * (y % 4294967296) + x % 4294967296 * (y % 4294967296) / 4294967296) % 4294967296 + x % 4294967296 * (y / 4294967296)) / 4294967296 < 18446744073709551616 := by omega
  go_enter Tryd.func59, Tryd.ntmps59
  go_wp2
  simp only [Mul64.maskN x hx, Mul64.maskN y hy, Mul64.divN, Mul64.mulN, Mul64.addN, Mul64.wrapN _ bd, Mul64.wrapN _ bb', Mul64.wrapN _ bt, Mul64.maskN _ bt, Mul64.wrapN _ bc', Mul64.wrapN _ bw, Mul64.wrapN _ ba', Mul64.wrapN _ bh1, Mul64.wrapN _ bh, Mul64.wrapM (x * y)]
  rw [hhi]
  go_ret2
  exact ⟨rfl, rfl⟩

theorem mul64_is (x y hi lo : Nat) (hx : x < 18446744073709551616) (hy : y < 18446744073709551616) (hh : x * y / 18446744073709551616 = hi) (hl : x * y % 18446744073709551616 = lo) (w : World) :
    Calls Tryd.prog 59 #[.int .u64 x, .int .u64 y] w fun e w' => e = .returned (.tuple #[.int .u64 (hi : Int), .int .u64 (lo : Int)]) ∧ w = w' := by
  subst hh hl
  exact mul64_any x y hx hy w

theorem add64 (x y c : Int) (hx : 0 ≤ x) (hy : 0 ≤ y) (h0 : 0 ≤ c) (h1 : c ≤ 1) (w : World) :
    (callFunc 61 #[.int .u64 x, .int .u64 y, .int .u64 c]).run Tryd.prog w = .ok (.value (.tuple #[.int .u64 ((x + y + c) % 18446744073709551616), .int .u64 ((x + y + c) / 18446744073709551616)])) w := by
  rw [run_callFunc_extern Tryd.func61 (by kernel_rfl) (by kernel_rfl) (by kernel_rfl) (e := add64Entry) (by kernel_rfl), run_add64 x y c hx hy h0 h1]
  rfl

theorem mag_nat (a : Int) (h0 : -9223372036854775808 ≤ a) (h : a < 0) : IntKind.u64.wrap (-IntKind.u64.wrap a) = (a.natAbs : Int) := by
  simp only [IntKind.wrap_u64]
  omega
theorem mag_pos (a : Int) (h1 : a ≤ 9223372036854775807) (h : 0 ≤ a) : IntKind.u64.wrap a = (a.natAbs : Int) := by
  simp only [IntKind.wrap_u64]
  omega
theorem mag_any (a : Int) (h0 : -9223372036854775808 ≤ a) (h1 : a ≤ 9223372036854775807) (w : World) :
    Calls Tryd.prog 60 #[.int .i64 a] w fun e w' => e = .returned (.int .u64 (a.natAbs : Int)) ∧ w = w' := by
  rcases Int.lt_or_le a 0 with h | h
  · have HA := Lib.hid (mag_nat a h0 h)
    go_enter Tryd.func60, Tryd.ntmps60
    go_wp2
    go_ret
    exact ⟨ret_int HA.out, rfl⟩
  · have HA := Lib.hid (mag_pos a h1 h)
    go_enter Tryd.func60, Tryd.ntmps60
    go_wp2
    go_ret
    exact ⟨ret_int (by first | exact HA.out | omega), rfl⟩
theorem mag_is (a : Int) (n : Nat) (h : a.natAbs = n) (h0 : -9223372036854775808 ≤ a) (h1 : a ≤ 9223372036854775807) (w : World) :
    Calls Tryd.prog 60 #[.int .i64 a] w fun e w' => e = .returned (.int .u64 (n : Int)) ∧ w = w' := by
  subst h
  exact mag_any a h0 h1 w

end Go.Proofs.YtflopcogalknhaaDoor.Num

/- NumFx: Package num: products of fixed-point numbers. -/
namespace Go.Proofs.YtflopcogalknhaaDoor.Num
open Go.RowKit Go.Proofs.YtflopcogalknhaaDoor Go.Proofs.YtflopcogalknhaaDoor.NumPure

theorem add64_is (x y : Int) (L c : Nat) (hx : 0 ≤ x) (hy : 0 ≤ y) (h : x + y = c * 18446744073709551616 + L) (hL : L < 18446744073709551616) (w : World) :
    (callFunc 61 #[.int .u64 x, .int .u64 y, .int .u64 0]).run Tryd.prog w = .ok (.value (.tuple #[.int .u64 (L : Int), .int .u64 (c : Int)])) w := by
  rw [add64 x y 0 hx hy (by omega) (by omega)]
  rw [show (x + y + 0) % 18446744073709551616 = (L : Int) by omega, show (x + y + 0) / 18446744073709551616 = (c : Int) by omega]

theorem or48 (A B : Nat) (hA : A < 65536) (hB : B < 281474976710656) : bits .or .u64 ((A * 281474976710656 : Nat) : Int) (B : Int) = ((A * 281474976710656 + B : Nat) : Int) := by
  rw [u64_or_nat _ _ (by omega) (by omega)]
  have h := Nat.two_pow_add_eq_or_of_lt (i := 48) (b := B) (by simpa using hB) A
  rw [Nat.mul_comm A, show (281474976710656 : Nat) = 2 ^ 48 from rfl, ← h]

theorem low_of (H L : Nat) (hL : L < 18446744073709551616) : wrap64 (bits .or .u64 (IntKind.u64.wrap ((H : Int) * 281474976710656)) ((L : Int) / 65536)) = wrap64 ((H : Int) * 281474976710656 + (L : Int) / 65536) := by
  have e1 : IntKind.u64.wrap ((H : Int) * 281474976710656) = ((H % 65536 * 281474976710656 : Nat) : Int) := by
    rw [IntKind.wrap_u64]
    omega
  have e2 : (L : Int) / 65536 = ((L / 65536 : Nat) : Int) := by omega
  rw [e1, e2, or48 _ _ (by omega) (by omega)]
  unfold wrap64
  omega

/-- The last part: the upper part s and the lower part L of the sum, shifted by 16 and saturated. -/
theorem fix_end (s L low V : Int) (h0 : -9223372036854775808 ≤ s) (h1 : s ≤ 9223372036854775807) (hL : 0 ≤ L) (hL2 : L < 18446744073709551616) (hlow : low = wrap64 (s * 281474976710656 + L / 65536)) (hV : V = s * 18446744073709551616 + L) :
    (s / 65536 = low / 9223372036854775808 ∧ sat (V.fdiv 65536) = low) ∨ (s / 65536 ≠ low / 9223372036854775808 ∧ s / 65536 < 0 ∧ sat (V.fdiv 65536) = -9223372036854775808) ∨ (s / 65536 ≠ low / 9223372036854775808 ∧ 0 ≤ s / 65536 ∧ sat (V.fdiv 65536) = 9223372036854775807) := by
  subst hV
  rw [Int.fdiv_eq_ediv_of_nonneg _ (by omega)]
  have e : (s * 18446744073709551616 + L) / 65536 = s / 65536 * 18446744073709551616 + (s % 65536 * 281474976710656 + L / 65536) := by omega
  have e2 : s * 281474976710656 + L / 65536 = s / 65536 * 18446744073709551616 + (s % 65536 * 281474976710656 + L / 65536) := by omega
  rw [e]
  rw [e2] at hlow
  have b0 : 0 ≤ s % 65536 * 281474976710656 + L / 65536 := by omega
  have b1 : s % 65536 * 281474976710656 + L / 65536 < 18446744073709551616 := by omega
  generalize s % 65536 * 281474976710656 + L / 65536 = v at *
  generalize s / 65536 = t at *
  unfold sat
  unfold wrap64 at hlow
  rcases Int.lt_or_le v 9223372036854775808 with hv | hv
  · have hl : low = v := by omega
    subst hl
    rcases Int.lt_trichotomy t 0 with ht | ht | ht
    · exact .inr (.inl ⟨by omega, ht, by omega⟩)
    · exact .inl ⟨by omega, by omega⟩
    · exact .inr (.inr ⟨by omega, by omega, by omega⟩)
  · have hl : low = v - 18446744073709551616 := by omega
    subst hl
    rcases Int.lt_trichotomy t (-1) with ht | ht | ht
    · exact .inr (.inl ⟨by omega, by omega, by omega⟩)
    · exact .inl ⟨by omega, by omega⟩
    · exact .inr (.inr ⟨by omega, by omega, by omega⟩)

/-- The signs of two numbers are equal, or not: their product. -/
theorem prod_same {a b : Int} (h : decide (a < 0) = decide (b < 0)) : a * b = ((a.natAbs * b.natAbs : Nat) : Int) := by
  rw [Int.natCast_mul]
  by_cases ha : a < 0
  · have hb : b < 0 := by simpa [ha] using h
    rw [show (a.natAbs : Int) = -a by omega, show (b.natAbs : Int) = -b by omega, Int.neg_mul_neg]
  · have hb : ¬ b < 0 := by simpa [ha] using h
    rw [show (a.natAbs : Int) = a by omega, show (b.natAbs : Int) = b by omega]
theorem prod_other {a b : Int} (h : decide (a < 0) ≠ decide (b < 0)) : a * b = -((a.natAbs * b.natAbs : Nat) : Int) := by
  rw [Int.natCast_mul]
  by_cases ha : a < 0
  · have hb : ¬ b < 0 := by simpa [ha] using h
    rw [show (a.natAbs : Int) = -a by omega, show (b.natAbs : Int) = b by omega, Int.neg_mul, Int.neg_neg]
  · have hb : b < 0 := by simpa [ha] using h
    rw [show (a.natAbs : Int) = a by omega, show (b.natAbs : Int) = -b by omega, Int.mul_neg, Int.neg_neg]

theorem fin_sat {t L low F : Int} (hl : L = low) (h : (t != L / 9223372036854775808) = true) (he : (t = low / 9223372036854775808 ∧ F = low) ∨ (t ≠ low / 9223372036854775808 ∧ F = bif decide (t < 0) then -9223372036854775808 else 9223372036854775807)) :
    (bif decide (t < 0) then -9223372036854775808 else 9223372036854775807) = F := by
  subst hl
  rcases he with ⟨h1, _⟩ | ⟨_, h2⟩
  · rw [h1] at h
    simp at h
  · exact h2.symm
theorem fin_low {t L low F : Int} (hl : L = low) (h : (t != L / 9223372036854775808) = false) (he : (t = low / 9223372036854775808 ∧ F = low) ∨ (t ≠ low / 9223372036854775808 ∧ F = bif decide (t < 0) then -9223372036854775808 else 9223372036854775807)) :
    L = F := by
  subst hl
  rcases he with ⟨_, h2⟩ | ⟨h1, _⟩
  · exact h2.symm
  · simp at h
    exact absurd h h1

/-- The two words of the opposite number. -/
theorem xor_max (h : Nat) (hh : h < 18446744073709551616) : bits BinOp.xor IntKind.u64 IntKind.u64.max (h : Int) = ((18446744073709551615 - h : Nat) : Int) := by
  show IntKind.u64.wrap ((BitVec.ofInt 64 18446744073709551615 ^^^ BitVec.ofInt 64 (h : Int)).toNat : Int) = _
  have e : BitVec.ofInt 64 18446744073709551615 = BitVec.allOnes 64 := by decide
  rw [e, BitVec.allOnes_xor, BitVec.toNat_not, BitVec.ofInt_natCast, BitVec.toNat_ofNat, Nat.mod_eq_of_lt (by omega), IntKind.wrap_u64]
  omega

theorem end_of (s L low : Int) (a b : Int) (h0 : -9223372036854775808 ≤ s) (h1 : s ≤ 9223372036854775807) (hL : 0 ≤ L) (hL2 : L < 18446744073709551616) (hlow : low = wrap64 (s * 281474976710656 + L / 65536)) (hV : a * b + 32768 = s * 18446744073709551616 + L) :
    (s / 65536 = low / 9223372036854775808 ∧ fixU a b = low) ∨ (s / 65536 ≠ low / 9223372036854775808 ∧ fixU a b = bif decide (s / 65536 < 0) then -9223372036854775808 else 9223372036854775807) := by
  rcases fix_end s L low _ h0 h1 hL hL2 hlow hV with h | ⟨h, h2, h3⟩ | ⟨h, h2, h3⟩
  · exact .inl h
  · exact .inr ⟨h, by rw [decide_eq_true h2]; exact h3⟩
  · exact .inr ⟨h, by rw [decide_eq_false (by omega)]; exact h3⟩

end Go.Proofs.YtflopcogalknhaaDoor.Num

/- Ref01Fl: The reference of layer 1: quotients rounded down and to the nearest integer, limits, unit values. What each function answers, for every input. -/
namespace Go.Proofs.YtflopcogalknhaaDoor.Ref01
open Go.RowKit Go.Proofs.YtflopcogalknhaaDoor Go.Proofs.YtflopcogalknhaaDoor.NumPure Go.Proofs.YtflopcogalknhaaDoor.Num

theorem abs_nat (a : Int) (h0 : -9223372036854775808 ≤ a) (h : a < 0) : IntKind.u64.wrap (-IntKind.u64.wrap a) = (a.natAbs : Int) := by
  simp only [IntKind.wrap_u64]
  omega
theorem abs_pos (a : Int) (h1 : a ≤ 9223372036854775807) (h : 0 ≤ a) : IntKind.u64.wrap a = (a.natAbs : Int) := by
  simp only [IntKind.wrap_u64]
  omega

theorem abs_any (a : Int) (h0 : -9223372036854775808 ≤ a) (h1 : a ≤ 9223372036854775807) (w : World) :
    Calls Tryd.prog 63 #[.int .i64 a] w fun e w' => e = .returned (.int .u64 (a.natAbs : Int)) ∧ w = w' := by
  rcases Int.lt_or_le a 0 with h | h
  · have HA := Lib.hid (abs_nat a h0 h)
    go_enter Tryd.func63, Tryd.ntmps63
    go_wp2
    go_ret
    exact ⟨ret_int HA.out, rfl⟩
  · have HA := Lib.hid (abs_pos a h1 h)
    go_enter Tryd.func63, Tryd.ntmps63
    go_wp2
    go_ret
    exact ⟨ret_int (by first | exact HA.out | omega), rfl⟩

theorem tmod_sign {a b : Int} (hb : b ≠ 0) (hm : a.tmod b ≠ 0) : decide (a.tmod b < 0) = decide (a < 0) := by
  by_cases h : a < 0
  · have := tmod_neg (a := a) (b := b) (by omega) hb
    simp [h]
    omega
  · have := tmod_pos (a := a) (b := b) (by omega) hb
    simp [h]
    omega

set_option maxHeartbeats 1000000 in
theorem floor_any (a b : Int) (h0 : -9223372036854775808 ≤ a) (h1 : a ≤ 9223372036854775807) (w : World) :
    Calls Tryd.prog 67 #[.int .i64 a, .int .i64 b] w fun e w' => e = .returned (.int .i64 (flr a b)) ∧ ∃ n, w' = w.drewN n := by
  by_cases hb : b = 0
  · subst hb
    go_enter Tryd.func67, Tryd.ntmps67
    go_wp2
    go_ret
    exact ⟨ret_int (flr_zero a).symm, 0, rfl⟩
  have tb : (b == 0) = false := by simpa using hb
  by_cases hx : a = -9223372036854775808 ∧ b = -1
  · obtain ⟨rfl, rfl⟩ := hx
    go_enter Tryd.func67, Tryd.ntmps67
    go_wp2
    go_ret
    exact ⟨ret_int flr_over.symm, 0, rfl⟩
  have hq := tdiv_in h0 h1 hx
  obtain ⟨q0, q1⟩ := hq
  have hmin := notOver hx
  by_cases hm : a.tmod b = 0
  · have HF := Lib.hid (flr_keep hb hx (by simp [hm]))
    have tm : (a.tmod b != 0) = false := by simp [hm]
    clear hm hx
    rcases hmin with ⟨t1, t2⟩ | t1
    all_goals
      go_enter Tryd.func67, Tryd.ntmps67
      go_wp2
      go_quiet (fail)
      go_wp2
      go_ret
      exact ⟨ret_int HF.out.symm, _, rfl⟩
  · have tm : (a.tmod b != 0) = true := by simp [hm]
    by_cases hs : decide (a < 0) = decide (b < 0)
    · have HF := Lib.hid (flr_keep hb hx (by simp [hs]))
      have ts : (!(decide (a.tmod b < 0) == decide (b < 0))) = false := by rw [tmod_sign hb hm, hs]; simp
      clear hm hx hs
      rcases hmin with ⟨t1, t2⟩ | t1
      all_goals
        go_enter Tryd.func67, Tryd.ntmps67
        go_wp2
        go_quiet (fail)
        go_wp2
        go_ret
        exact ⟨ret_int HF.out.symm, _, rfl⟩
    · have HF := Lib.hid (flr_down hb hx hm hs)
      have hi := flr_in (b := b) h0 h1
      rw [HF.out] at hi
      have ts : (!(decide (a.tmod b < 0) == decide (b < 0))) = true := by rw [tmod_sign hb hm]; simpa using hs
      obtain ⟨q2, q3⟩ := hi
      clear hm hx hs
      rcases hmin with ⟨t1, t2⟩ | t1
      all_goals
        go_enter Tryd.func67, Tryd.ntmps67
        go_wp2
        go_quiet (fail)
        go_wp2
        go_ret
        exact ⟨ret_int HF.out.symm, _, rfl⟩

theorem floor_is (a b q : Int) (h0 : -9223372036854775808 ≤ a) (h1 : a ≤ 9223372036854775807) (hq : q = flr a b) (w : World) :
    Calls Tryd.prog 67 #[.int .i64 a, .int .i64 b] w fun e w' => e = .returned (.int .i64 q) ∧ ∃ n, w' = w.drewN n := by
  subst hq
  exact floor_any a b h0 h1 w
theorem abs_is (a : Int) (n : Nat) (h : a.natAbs = n) (h0 : -9223372036854775808 ≤ a) (h1 : a ≤ 9223372036854775807) (w : World) :
    Calls Tryd.prog 63 #[.int .i64 a] w fun e w' => e = .returned (.int .u64 (n : Int)) ∧ w = w' := by
  subst h
  exact abs_any a h0 h1 w

set_option maxHeartbeats 2000000 in
theorem div_any (a b : Int) (h0 : -9223372036854775808 ≤ a) (h1 : a ≤ 9223372036854775807) (g0 : -9223372036854775808 ≤ b) (g1 : b ≤ 9223372036854775807) (w : World) :
    Calls Tryd.prog 55 #[.int .i64 a, .int .i64 b] w fun e w' => e = .returned (.int .i64 (dvr a b)) ∧ ∃ n, w' = w.drewN n := by
  by_cases hb : b = 0
  · subst hb
    go_enter Tryd.func55, Tryd.ntmps55
    go_wp2
    go_ret
    exact ⟨ret_int (dvr_zero a).symm, 0, rfl⟩
  have tb : (b == 0) = false := by simpa using hb
  by_cases hx : a = -9223372036854775808 ∧ b = -1
  · obtain ⟨rfl, rfl⟩ := hx
    go_enter Tryd.func55, Tryd.ntmps55
    go_wp2_with (go_at_call 67; refine (floor_is (-9223372036854775808) (-1) 9223372036854775807 (by omega) (by omega) flr_over.symm _).mono ?_; rintro e w' ⟨rfl, n, rfl⟩)
    go_ret
    exact ⟨ret_int dvr_over.symm, _, rfl⟩
  have hmin := notOver hx
  obtain ⟨q, r, hq, hr, q0, q1, hs, hc⟩ := div_parts a b h0 h1 g0 g1 hb hx
  have HQ := Lib.hid hq
  clear hq hx
  have hr0 : -9223372036854775808 ≤ r ∧ r ≤ 9223372036854775807 := by omega
  obtain ⟨m, hm⟩ : ∃ m, r.natAbs = m := ⟨_, rfl⟩
  obtain ⟨d, hd⟩ : ∃ d, b.natAbs = d := ⟨_, rfl⟩
  have hmd : m < d := by omega
  have hd2 : d ≤ 9223372036854775808 := by omega
  rcases hc with ⟨hd1, hi, hu, hv⟩ | ⟨hd1, hu, hv⟩
  · have hl : (d : Int) - m ≤ m := by omega
    have HD := Lib.hid hd1
    have HM := Lib.hid hm
    have HB := Lib.hid hd
    obtain ⟨r0, r1⟩ := hr0
    clear hd1 hu hv hs hm hd
    rcases hmin with ⟨t1, t2⟩ | t1
    all_goals
      go_enter Tryd.func55, Tryd.ntmps55
      go_wp2_with fail
      refine (floor_is a b q h0 h1 HQ.out _).mono ?_
      rintro e w' ⟨rfl, n, rfl⟩
      go_wp2_with fail
      refine (abs_is r m HM.out r0 r1 _).mono ?_
      rintro e w' ⟨rfl, rfl⟩
      go_wp2_with fail
      refine (abs_is b d HB.out g0 g1 _).mono ?_
      rintro e w' ⟨rfl, rfl⟩
      go_wp2
      go_ret
      exact ⟨ret_int HD.out.symm, _, rfl⟩
  · have hl : (m : Int) < (d : Int) - m := by omega
    have HD := Lib.hid hd1
    have HM := Lib.hid hm
    have HB := Lib.hid hd
    obtain ⟨r0, r1⟩ := hr0
    clear hd1 hu hv hs hm hd
    rcases hmin with ⟨t1, t2⟩ | t1
    all_goals
      go_enter Tryd.func55, Tryd.ntmps55
      go_wp2_with fail
      refine (floor_is a b q h0 h1 HQ.out _).mono ?_
      rintro e w' ⟨rfl, n, rfl⟩
      go_wp2_with fail
      refine (abs_is r m HM.out r0 r1 _).mono ?_
      rintro e w' ⟨rfl, rfl⟩
      go_wp2_with fail
      refine (abs_is b d HB.out g0 g1 _).mono ?_
      rintro e w' ⟨rfl, rfl⟩
      go_wp2
      go_ret
      exact ⟨ret_int HD.out.symm, _, rfl⟩

end Go.Proofs.YtflopcogalknhaaDoor.Ref01

/- Ref01Un: The reference of layer 1: unit values: products, quotients and values between two. -/
namespace Go.Proofs.YtflopcogalknhaaDoor.Ref01
open Go.RowKit Go.Proofs.YtflopcogalknhaaDoor Go.Proofs.YtflopcogalknhaaDoor.NumPure
open Go.Proofs.YtflopcogalknhaaDoor.Num (ret_int)

theorem div_is (a b d : Int) (h : d = dvr a b) (h0 : -9223372036854775808 ≤ a) (h1 : a ≤ 9223372036854775807) (g0 : -9223372036854775808 ≤ b) (g1 : b ≤ 9223372036854775807) (w : World) :
    Calls Tryd.prog 55 #[.int .i64 a, .int .i64 b] w fun e w' => e = .returned (.int .i64 d) ∧ ∃ n, w' = w.drewN n := by
  subst h
  exact div_any a b h0 h1 g0 g1 w
end Go.Proofs.YtflopcogalknhaaDoor.Ref01

/- Ref01Fx: The reference of layer 1: products of two words, magnitudes with a sign, products of fixed-point numbers. -/
namespace Go.Proofs.YtflopcogalknhaaDoor.Ref01
open Go.RowKit Go.Proofs.YtflopcogalknhaaDoor Go.Proofs.YtflopcogalknhaaDoor.NumPure Go.Proofs.YtflopcogalknhaaDoor.Num

set_option maxHeartbeats 1000000 in
theorem product_any (x y : Nat) (hx : x < 18446744073709551616) (hy : y < 18446744073709551616) (w : World) :
    Calls Tryd.prog 62 #[.int .u64 x, .int .u64 y] w fun e w' => e = .returned (.tuple #[.int .u64 ((x * y / 18446744073709551616 : Nat) : Int), .int .u64 ((x * y % 18446744073709551616 : Nat) : Int)]) ∧ w = w' := by
  obtain ⟨bd, bt, bw, hhi⟩ := Lib.mul64_hi x y hx hy
  have ba := Lib.half_mul_le (a := x / 4294967296) (b := y / 4294967296) (by omega) (by omega)
  have bb := Lib.half_mul_le (a := x / 4294967296) (b := y % 4294967296) (by omega) (by omega)
  have bc := Lib.half_mul_le (a := x % 4294967296) (b := y / 4294967296) (by omega) (by omega)
  have ba' : x / 4294967296 * (y / 4294967296) < 18446744073709551616 := by omega
  have bb' : x / 4294967296 * (y % 4294967296) < 18446744073709551616 := by omega
  have bc' : x % 4294967296 * (y / 4294967296) < 18446744073709551616 := by omega
  rw [Nat.add_comm (_ % 4294967296) (x % 4294967296 * (y / 4294967296))] at bw hhi
  have bh1 : x / 4294967296 * (y / 4294967296) + (x / 4294967296 * (y % 4294967296) + x % 4294967296 * (y % 4294967296) / 4294967296) / 4294967296 < 18446744073709551616 := by omega
  have bh : x / 4294967296 * (y / 4294967296) + (x / 4294967296 * (y % 4294967296) + x % 4294967296 * (y % 4294967296) / 4294967296) / 4294967296 + (x % 4294967296 * (y / 4294967296) + (x / 4294967296 * (y % 4294967296) + x % 4294967296 * (y % 4294967296) / 4294967296) % 4294967296) / 4294967296 < 18446744073709551616 := by omega
  go_enter Tryd.func62, Tryd.ntmps62
  go_wp2
  simp only [Mul64.maskN x hx, Mul64.maskN y hy, Mul64.divN, Mul64.mulN, Mul64.addN, Mul64.wrapN _ bd, Mul64.wrapN _ bb', Mul64.wrapN _ bt, Mul64.maskN _ bt, Mul64.wrapN _ bc', Mul64.wrapN _ bw, Mul64.wrapN _ ba', Mul64.wrapN _ bh1, Mul64.wrapN _ bh, Mul64.wrapM (x * y)]
  rw [hhi]
  go_ret2
  exact ⟨rfl, rfl⟩

theorem product_is (x y hi lo : Nat) (hx : x < 18446744073709551616) (hy : y < 18446744073709551616) (hh : x * y / 18446744073709551616 = hi) (hl : x * y % 18446744073709551616 = lo) (w : World) :
    Calls Tryd.prog 62 #[.int .u64 x, .int .u64 y] w fun e w' => e = .returned (.tuple #[.int .u64 (hi : Int), .int .u64 (lo : Int)]) ∧ w = w' := by
  subst hh hl
  exact product_any x y hx hy w

theorem neg_word (lo : Nat) (h : lo ≤ 9223372036854775808) : wrap64 (IntKind.u64.wrap (-(lo : Int))) = -(lo : Int) := by
  rw [IntKind.wrap_u64]
  unfold wrap64
  omega

theorem sgn_t (q : Nat) : sgn true q = max (-9223372036854775808) (-(q : Int)) := rfl
theorem sgn_f (q : Nat) : sgn false q = min 9223372036854775807 (q : Int) := rfl

set_option maxHeartbeats 1000000 in
theorem signed_any (hi lo q : Nat) (neg : Bool) (bl : lo < 18446744073709551616) (hq : q = hi * 18446744073709551616 + lo) (w : World) :
    Calls Tryd.prog 64 #[.int .u64 (hi : Int), .int .u64 (lo : Int), .bool neg] w fun e w' => e = .returned (.int .i64 (sgn neg q)) ∧ w = w' := by
  cases neg with
  | true =>
    by_cases h1 : 0 < hi
    · have HF : Hid (sgn true q = -9223372036854775808) := by
        refine Lib.hid ?_
        rw [sgn_t]
        omega
      clear hq
      go_enter Tryd.func64, Tryd.ntmps64
      go_wp2
      go_ret
      exact ⟨ret_int HF.out.symm, rfl⟩
    · by_cases h2 : 9223372036854775808 < lo
      · have HF : Hid (sgn true q = -9223372036854775808) := by
          refine Lib.hid ?_
          rw [sgn_t]
          omega
        clear hq
        go_enter Tryd.func64, Tryd.ntmps64
        go_wp2
        go_ret
        exact ⟨ret_int HF.out.symm, rfl⟩
      · have HF : Hid (sgn true q = -(lo : Int)) := by
          refine Lib.hid ?_
          rw [sgn_t]
          omega
        have HN := Lib.hid (neg_word lo (by omega))
        clear hq
        go_enter Tryd.func64, Tryd.ntmps64
        go_wp2
        go_ret
        exact ⟨ret_int (by rw [HF.out]; exact HN.out), rfl⟩
  | false =>
    by_cases h1 : 0 < hi
    · have HF : Hid (sgn false q = 9223372036854775807) := by
        refine Lib.hid ?_
        rw [sgn_f]
        omega
      clear hq
      go_enter Tryd.func64, Tryd.ntmps64
      go_wp2
      go_ret
      exact ⟨ret_int HF.out.symm, rfl⟩
    · by_cases h2 : 9223372036854775807 < lo
      · have HF : Hid (sgn false q = 9223372036854775807) := by
          refine Lib.hid ?_
          rw [sgn_f]
          omega
        clear hq
        go_enter Tryd.func64, Tryd.ntmps64
        go_wp2
        go_ret
        exact ⟨ret_int HF.out.symm, rfl⟩
      · have HF : Hid (sgn false q = (lo : Int)) := by
          refine Lib.hid ?_
          rw [sgn_f]
          omega
        clear hq
        go_enter Tryd.func64, Tryd.ntmps64
        go_wp2
        go_ret
        exact ⟨ret_int HF.out.symm, rfl⟩

theorem signed_is (h l : Int) (hi lo q : Nat) (neg : Bool) (eh : h = hi) (el : l = lo) (bl : lo < 18446744073709551616) (hq : q = hi * 18446744073709551616 + lo) (w : World) :
    Calls Tryd.prog 64 #[.int .u64 h, .int .u64 l, .bool neg] w fun e w' => e = .returned (.int .i64 (sgn neg q)) ∧ w = w' := by
  subst eh el
  exact signed_any hi lo q neg bl hq w

theorem word_of (H L : Nat) (hL : L < 18446744073709551616) : bits .or .u64 (IntKind.u64.wrap ((H : Int) * 281474976710656)) ((L : Int) / 65536) = (((H * 281474976710656 + L / 65536) % 18446744073709551616 : Nat) : Int) := by
  have e1 : IntKind.u64.wrap ((H : Int) * 281474976710656) = ((H % 65536 * 281474976710656 : Nat) : Int) := by
    rw [IntKind.wrap_u64]
    omega
  have e2 : (L : Int) / 65536 = ((L / 65536 : Nat) : Int) := by omega
  rw [e1, e2, or48 _ _ (by omega) (by omega)]
  omega

theorem fixU_neg (m : Nat) (a b : Int) (h : a * b = -(m : Int)) : fixU a b = sgn true ((m + 32767) / 65536) := by
  unfold fixU
  rw [h, Int.fdiv_eq_ediv_of_nonneg _ (by omega)]
  rw [sgn_t, sat]
  omega
theorem fixU_pos (m : Nat) (a b : Int) (h : a * b = (m : Int)) : fixU a b = sgn false ((m + 32768) / 65536) := by
  unfold fixU
  rw [h, Int.fdiv_eq_ediv_of_nonneg _ (by omega)]
  rw [sgn_f, sat]
  omega

end Go.Proofs.YtflopcogalknhaaDoor.Ref01

/- NumSq: Package num and the reference of layer 1: integer roots. -/
namespace Go.Proofs.YtflopcogalknhaaDoor.Num
open Go.RowKit Go.Proofs.YtflopcogalknhaaDoor Go.Proofs.YtflopcogalknhaaDoor.NumPure

theorem or_pow (r k : Nat) (h : r % 2 ^ (k + 1) = 0) : r ||| 2 ^ k = r + 2 ^ k := by
  have e := Nat.two_pow_add_eq_or_of_lt (i := k + 1) (b := 2 ^ k) (Nat.pow_lt_pow_right (by omega) (by omega)) (r / 2 ^ (k + 1))
  have e2 : 2 ^ (k + 1) * (r / 2 ^ (k + 1)) = r := by
    have := Nat.div_add_mod r (2 ^ (k + 1))
    omega
  rw [e2] at e
  exact e.symm

/-- One more bit: what the walk of a round needs. -/
theorem bit_parts (n N m r : Nat) (hm : 0 < m) (hmN : m ≤ N) (h0 : r % 2 ^ m = 0) (hr : r + 2 ^ m ≤ 2 ^ N) :
    ∃ p c : Nat, 2 ^ m / 2 = p ∧ r ||| p = c ∧ c = r + p ∧ 0 < p ∧ r + 2 * p ≤ 2 ^ N ∧ p / 2 = 2 ^ (m - 1) / 2 ∧ c % 2 ^ (m - 1) = 0 ∧ r % 2 ^ (m - 1) = 0 ∧ c + 2 ^ (m - 1) ≤ 2 ^ N ∧ r + 2 ^ (m - 1) ≤ 2 ^ N ∧
      (c * c ≤ n → sqGo n m r = sqGo n (m - 1) c) ∧ (¬ c * c ≤ n → sqGo n m r = sqGo n (m - 1) r) := by
  obtain ⟨k, rfl⟩ : ∃ k, m = k + 1 := ⟨m - 1, by omega⟩
  have e2 : 2 ^ (k + 1) = 2 * 2 ^ k := by rw [Nat.pow_succ, Nat.mul_comm]
  have hpos : 0 < 2 ^ k := Nat.pow_pos (by omega)
  have hp : 2 ^ (k + 1) / 2 = 2 ^ k := by rw [e2]; omega
  have hd : r % 2 ^ k = 0 := by
    rw [e2] at h0
    exact Nat.mod_eq_zero_of_dvd (Nat.dvd_trans ⟨2, by rw [Nat.mul_comm]⟩ (Nat.dvd_of_mod_eq_zero h0))
  refine ⟨2 ^ k, r + 2 ^ k, hp, or_pow r k h0, rfl, hpos, by omega, by simp, by simp [hd], by simpa using hd, by simp; omega, by simp; omega, ?_, ?_⟩
  · intro h
    rw [sqGo, if_pos h]
    simp
  · intro h
    rw [sqGo, if_neg h]
    simp

def sqrtU (n : Int) : Int := if n < 0 then 0 else sqGo n.toNat 32 0

theorem add64_c (x y z : Int) (L c : Nat) (hx : 0 ≤ x) (hy : 0 ≤ y) (hz : 0 ≤ z) (hz1 : z ≤ 1) (h : x + y + z = c * 18446744073709551616 + L) (hL : L < 18446744073709551616) (w : World) :
    (callFunc 61 #[.int .u64 x, .int .u64 y, .int .u64 z]).run Tryd.prog w = .ok (.value (.tuple #[.int .u64 (L : Int), .int .u64 (c : Int)])) w := by
  rw [add64 x y z hx hy hz hz1]
  rw [show (x + y + z) % 18446744073709551616 = (L : Int) by omega, show (x + y + z) / 18446744073709551616 = (c : Int) by omega]

/-- The length of a vector: rounded down, saturated. -/
def hypU (x y : Int) : Int := min 9223372036854775807 ((sqGo (x.natAbs * x.natAbs + y.natAbs * y.natAbs) 64 0 : Nat) : Int)

/-- Two numbers of two words, compared. -/
theorem two_le {c s hi lo h l : Nat} (hs : s = hi * 18446744073709551616 + lo) (bl : lo < 18446744073709551616) (hh : c * c / 18446744073709551616 = h) (hl : c * c % 18446744073709551616 = l) :
    (c * c ≤ s ∧ (h < hi ∨ ((h : Int) == (hi : Int)) = true ∧ hi ≤ h ∧ l ≤ lo)) ∨ (¬ c * c ≤ s ∧ hi ≤ h ∧ (((h : Int) == (hi : Int)) = false ∨ ((h : Int) == (hi : Int)) = true ∧ lo < l)) := by
  by_cases hc : c * c ≤ s
  · left
    refine ⟨hc, ?_⟩
    by_cases h1 : h < hi
    · exact .inl h1
    · exact .inr ⟨by simp; omega, by omega, by omega⟩
  · right
    refine ⟨hc, by omega, ?_⟩
    by_cases h1 : h = hi
    · exact .inr ⟨by simp; omega, by omega⟩
    · exact .inl (by simp; omega)

set_option maxHeartbeats 2000000 in
theorem hypot_any (a b : Int) (h0 : -9223372036854775808 ≤ a) (h1 : a ≤ 9223372036854775807) (g0 : -9223372036854775808 ≤ b) (g1 : b ≤ 9223372036854775807) (w : World) :
    Calls Tryd.prog 47 #[.int .i64 a, .int .i64 b] w fun e w' => e = .returned (.int .i64 (hypU a b)) ∧ w = w' := by
  obtain ⟨x, ha⟩ : ∃ x, a.natAbs = x := ⟨_, rfl⟩
  obtain ⟨y, hb⟩ : ∃ y, b.natAbs = y := ⟨_, rfl⟩
  have hx' : x ≤ 9223372036854775808 := by omega
  have hy' : y ≤ 9223372036854775808 := by omega
  have hx : x < 18446744073709551616 := by omega
  have hy : y < 18446744073709551616 := by omega
  have hxx := Nat.mul_le_mul hx' hx'
  have hyy := Nat.mul_le_mul hy' hy'
  obtain ⟨hi1, hh1⟩ : ∃ n, x * x / 18446744073709551616 = n := ⟨_, rfl⟩
  obtain ⟨lo1, hl1⟩ : ∃ n, x * x % 18446744073709551616 = n := ⟨_, rfl⟩
  obtain ⟨hi2, hh2⟩ : ∃ n, y * y / 18446744073709551616 = n := ⟨_, rfl⟩
  obtain ⟨lo2, hl2⟩ : ∃ n, y * y % 18446744073709551616 = n := ⟨_, rfl⟩
  obtain ⟨c, lo, hsum, bl, hc⟩ : ∃ c L : Nat, (lo1 : Int) + lo2 = c * 18446744073709551616 + L ∧ L < 18446744073709551616 ∧ c ≤ 1 := ⟨(lo1 + lo2) / 18446744073709551616, (lo1 + lo2) % 18446744073709551616, by omega, by omega, by omega⟩
  obtain ⟨hi, hhi⟩ : ∃ n, hi1 + hi2 + c = n := ⟨_, rfl⟩
  obtain ⟨s, hs⟩ : ∃ s, x * x + y * y = s := ⟨_, rfl⟩
  have hs2 : s = hi * 18446744073709551616 + lo := by omega
  have hadd1 := add64_is lo1 lo2 lo c (by omega) (by omega) hsum bl
  have hadd2 := add64_c hi1 hi2 c hi 0 (by omega) (by omega) (by omega) (by omega) (by omega) (by omega)
  have HF : Hid (hypU a b = min 9223372036854775807 ((sqGo s 64 0 : Nat) : Int)) := Lib.hid (by rw [hypU, ha, hb, hs])
  have HA := Lib.hid ha
  have HB := Lib.hid hb
  have HH1 := Lib.hid hh1
  have HL1 := Lib.hid hl1
  have HH2 := Lib.hid hh2
  have HL2 := Lib.hid hl2
  have HS := Lib.hid hs2
  clear ha hb hx' hy' hxx hyy hh1 hl1 hh2 hl2 hsum hhi hs hs2
  go_enter Tryd.func47, Tryd.ntmps47
  go_wp2_with fail
  refine (mag_is a x HA.out h0 h1 _).mono ?_
  rintro e w' ⟨rfl, rfl⟩
  go_wp2_with fail
  refine (mag_is a x HA.out h0 h1 _).mono ?_
  rintro e w' ⟨rfl, rfl⟩
  go_wp2_with fail
  refine (mul64_is x x hi1 lo1 hx hx HH1.out HL1.out _).mono ?_
  rintro e w' ⟨rfl, rfl⟩
  go_wp2_with fail
  refine (mag_is b y HB.out g0 g1 _).mono ?_
  rintro e w' ⟨rfl, rfl⟩
  go_wp2_with fail
  refine (mag_is b y HB.out g0 g1 _).mono ?_
  rintro e w' ⟨rfl, rfl⟩
  go_wp2_with fail
  refine (mul64_is y y hi2 lo2 hy hy HH2.out HL2.out _).mono ?_
  rintro e w' ⟨rfl, rfl⟩
  go_wp2_with fail
  go_loop [10, 11] (fun vr vb => ∃ m r : Nat, vr = .int .u64 (r : Int) ∧ vb = .int .u64 ((2 ^ m / 2 : Nat) : Int) ∧ m ≤ 64 ∧ r % 2 ^ m = 0 ∧ r + 2 ^ m ≤ 2 ^ 64 ∧ sqGo s 64 0 = sqGo s m r) (fun _ vb => (intOf vb).toNat)
  case atStart => exact ⟨64, 0, rfl, rfl, by omega, by simp, by simp, rfl⟩
  case round =>
    obtain ⟨m, r, rfl, rfl, hm, hr0, hr1, hgo⟩ := hrel
    clear hadd1 hadd2
    by_cases hz : m = 0
    · subst hz
      have HG := Lib.hid hgo
      have hr2 : r < 18446744073709551616 := by simp at hr1; omega
      clear hgo hr0 hr1
      have e0 : ((2 ^ 0 / 2 : Nat) : Int) = 0 := rfl
      rw [e0]
      clear e0
      have HR : Hid (hypU a b = min 9223372036854775807 (r : Int)) := Lib.hid (by rw [HF.out, HG.out]; rfl)
      by_cases hbig : 9223372036854775807 < r
      · go_wp2
        go_ret
        exact ⟨ret_int (by rw [HR.out]; omega), rfl⟩
      · go_wp2
        go_ret
        exact ⟨ret_int (by rw [HR.out]; omega), rfl⟩
    · obtain ⟨p, c', hp, hc', hcs, p0, p1, hp2, hc0, hr0', hc1, hr1', hyes, hno⟩ := bit_parts s 64 m r (by omega) hm hr0 hr1
      have hpow : (2 : Nat) ^ 64 = 18446744073709551616 := by decide
      rw [hpow] at p1 hc1 hr1'
      have hor : bits .or .u64 (r : Int) (p : Int) = (c' : Int) := by rw [u64_or_nat _ _ (by omega) (by omega), hc']
      rw [hp]
      have hpp : ((p : Int) != 0) = true := by simp; omega
      have hbound : c' < 18446744073709551616 := by omega
      obtain ⟨h, hh⟩ : ∃ n, c' * c' / 18446744073709551616 = n := ⟨_, rfl⟩
      obtain ⟨l, hl⟩ : ∃ n, c' * c' % 18446744073709551616 = n := ⟨_, rfl⟩
      have hcmp := two_le HS.out bl hh hl
      have HH := Lib.hid hh
      have HL := Lib.hid hl
      have HG := Lib.hid hgo
      have HP2 := Lib.hid hp2
      have HY := Lib.hid hyes
      have HN := Lib.hid hno
      have HC0 := Lib.hid hc0
      have HR0 := Lib.hid hr0'
      have HC1 := Lib.hid hc1
      have HR1 := Lib.hid hr1'
      clear hgo hp2 hyes hno hc0 hr0' hc1 hr1' hr0 hr1 hp hc' hcs hpow hh hl
      rcases hcmp with ⟨hle, hq | ⟨t1, hq0, hq⟩⟩ | ⟨hle, hq0, t1 | ⟨t1, hq⟩⟩
      · have HLE := Lib.hid hle
        clear hle
        go_wp2_with fail
        refine (mul64_is c' c' h l hbound hbound HH.out HL.out _).mono ?_
        rintro e w' ⟨rfl, rfl⟩
        go_wp2
        go_round
        case rel => exact ⟨m - 1, c', rfl, by rw [← HP2.out]; go_num, by omega, HC0.out, HC1.out, by rw [HG.out, HY.out HLE.out]⟩
        case measure => simp [intOf]; omega
      · have HLE := Lib.hid hle
        clear hle
        go_wp2_with fail
        refine (mul64_is c' c' h l hbound hbound HH.out HL.out _).mono ?_
        rintro e w' ⟨rfl, rfl⟩
        go_wp2
        go_round
        case rel => exact ⟨m - 1, c', rfl, by rw [← HP2.out]; go_num, by omega, HC0.out, HC1.out, by rw [HG.out, HY.out HLE.out]⟩
        case measure => simp [intOf]; omega
      · have HLE := Lib.hid hle
        clear hle
        go_wp2_with fail
        refine (mul64_is c' c' h l hbound hbound HH.out HL.out _).mono ?_
        rintro e w' ⟨rfl, rfl⟩
        go_wp2
        go_round
        case rel => exact ⟨m - 1, r, rfl, by rw [← HP2.out]; go_num, by omega, HR0.out, HR1.out, by rw [HG.out, HN.out HLE.out]⟩
        case measure => simp [intOf]; omega
      · have HLE := Lib.hid hle
        clear hle
        go_wp2_with fail
        refine (mul64_is c' c' h l hbound hbound HH.out HL.out _).mono ?_
        rintro e w' ⟨rfl, rfl⟩
        go_wp2
        go_round
        case rel => exact ⟨m - 1, r, rfl, by rw [← HP2.out]; go_num, by omega, HR0.out, HR1.out, by rw [HG.out, HN.out HLE.out]⟩
        case measure => simp [intOf]; omega

end Go.Proofs.YtflopcogalknhaaDoor.Num

/- Ref01Sq: The reference of layer 1: integer roots and lengths. -/
namespace Go.Proofs.YtflopcogalknhaaDoor.Ref01
open Go.RowKit Go.Proofs.YtflopcogalknhaaDoor Go.Proofs.YtflopcogalknhaaDoor.NumPure Go.Proofs.YtflopcogalknhaaDoor.Num

theorem root_small {c n : Int} (h : c * c ≤ n) (hn : n ≤ 9223372036854775807) : c ≤ 3037000499 := by
  rcases Int.lt_or_le 3037000499 c with hc | hc
  · have := Int.mul_le_mul (show (3037000500 : Int) ≤ c by omega) (show (3037000500 : Int) ≤ c by omega) (by omega) (by omega)
    omega
  · exact hc

theorem sq_small {c : Int} (h : c ≤ 3037000499) (h0 : 0 ≤ c) : c * c ≤ 9223372030926249001 := by
  have := Int.mul_le_mul h h h0 (by omega)
  omega

set_option maxHeartbeats 2000000 in
theorem hypot_any (a b : Int) (h0 : -9223372036854775808 ≤ a) (h1 : a ≤ 9223372036854775807) (g0 : -9223372036854775808 ≤ b) (g1 : b ≤ 9223372036854775807) (w : World) :
    Calls Tryd.prog 48 #[.int .i64 a, .int .i64 b] w fun e w' => e = .returned (.int .i64 (hypU a b)) ∧ w = w' := by
  obtain ⟨x, ha⟩ : ∃ x, a.natAbs = x := ⟨_, rfl⟩
  obtain ⟨y, hb⟩ : ∃ y, b.natAbs = y := ⟨_, rfl⟩
  have hx' : x ≤ 9223372036854775808 := by omega
  have hy' : y ≤ 9223372036854775808 := by omega
  have hx : x < 18446744073709551616 := by omega
  have hy : y < 18446744073709551616 := by omega
  have hxx := Nat.mul_le_mul hx' hx'
  have hyy := Nat.mul_le_mul hy' hy'
  obtain ⟨hi1, hh1⟩ : ∃ n, x * x / 18446744073709551616 = n := ⟨_, rfl⟩
  obtain ⟨lo1, hl1⟩ : ∃ n, x * x % 18446744073709551616 = n := ⟨_, rfl⟩
  obtain ⟨hi2, hh2⟩ : ∃ n, y * y / 18446744073709551616 = n := ⟨_, rfl⟩
  obtain ⟨lo2, hl2⟩ : ∃ n, y * y % 18446744073709551616 = n := ⟨_, rfl⟩
  obtain ⟨c, lo, hsum, bl, hc⟩ : ∃ c L : Nat, (lo1 : Int) + lo2 = c * 18446744073709551616 + L ∧ L < 18446744073709551616 ∧ c ≤ 1 := ⟨(lo1 + lo2) / 18446744073709551616, (lo1 + lo2) % 18446744073709551616, by omega, by omega, by omega⟩
  obtain ⟨hi, hhi⟩ : ∃ n, hi1 + hi2 + c = n := ⟨_, rfl⟩
  obtain ⟨s, hs⟩ : ∃ s, x * x + y * y = s := ⟨_, rfl⟩
  have hs2 : s = hi * 18446744073709551616 + lo := by omega
  have hadd1 : IntKind.u64.wrap ((lo1 : Int) + lo2) = lo := by rw [IntKind.wrap_u64]; omega
  have bh1 : hi1 ≤ 4611686018427387904 := by omega
  have bh2 : hi2 ≤ 4611686018427387904 := by omega
  have hcar : (decide (lo < lo1) = true ∧ (hi1 : Int) + hi2 + 1 = hi) ∨ (decide (lo < lo1) = false ∧ (hi1 : Int) + hi2 = hi) := by simp only [decide_eq_true_eq, decide_eq_false_iff_not]; omega
  have HF : Hid (hypU a b = min 9223372036854775807 ((sqGo s 64 0 : Nat) : Int)) := Lib.hid (by rw [hypU, ha, hb, hs])
  have HA := Lib.hid ha
  have HB := Lib.hid hb
  have HH1 := Lib.hid hh1
  have HL1 := Lib.hid hl1
  have HH2 := Lib.hid hh2
  have HL2 := Lib.hid hl2
  have HS := Lib.hid hs2
  clear ha hb hx' hy' hxx hyy hh1 hl1 hh2 hl2 hsum hhi hs hs2
  rcases hcar with ⟨hcar, hcz⟩ | ⟨hcar, hcz⟩
  all_goals
    go_enter Tryd.func48, Tryd.ntmps48
    go_wp2_with fail
    refine (abs_is a x HA.out h0 h1 _).mono ?_
    rintro e w' ⟨rfl, rfl⟩
    go_wp2_with fail
    refine (abs_is a x HA.out h0 h1 _).mono ?_
    rintro e w' ⟨rfl, rfl⟩
    go_wp2_with fail
    refine (product_is x x hi1 lo1 hx hx HH1.out HL1.out _).mono ?_
    rintro e w' ⟨rfl, rfl⟩
    go_wp2_with fail
    refine (abs_is b y HB.out g0 g1 _).mono ?_
    rintro e w' ⟨rfl, rfl⟩
    go_wp2_with fail
    refine (abs_is b y HB.out g0 g1 _).mono ?_
    rintro e w' ⟨rfl, rfl⟩
    go_wp2_with fail
    refine (product_is y y hi2 lo2 hy hy HH2.out HL2.out _).mono ?_
    rintro e w' ⟨rfl, rfl⟩
    go_wp2_with fail
    go_loop [11, 12] (fun vr vb => ∃ m r : Nat, vr = .int .u64 (r : Int) ∧ vb = .int .u64 ((2 ^ m / 2 : Nat) : Int) ∧ m ≤ 64 ∧ r % 2 ^ m = 0 ∧ r + 2 ^ m ≤ 2 ^ 64 ∧ sqGo s 64 0 = sqGo s m r) (fun _ vb => (intOf vb).toNat)
    case atStart => exact ⟨64, 0, rfl, rfl, by omega, by simp, by simp, rfl⟩
    case round =>
      obtain ⟨m, r, rfl, rfl, hm, hr0, hr1, hgo⟩ := hrel
      clear hadd1
      by_cases hz : m = 0
      · subst hz
        have HG := Lib.hid hgo
        have hr2 : r < 18446744073709551616 := by simp at hr1; omega
        clear hgo hr0 hr1
        have e0 : ((2 ^ 0 / 2 : Nat) : Int) = 0 := rfl
        rw [e0]
        clear e0
        have HR : Hid (hypU a b = min 9223372036854775807 (r : Int)) := Lib.hid (by rw [HF.out, HG.out]; rfl)
        go_wp2_with fail
        refine (signed_is 0 r 0 r r false rfl rfl hr2 (by omega) _).mono ?_
        rintro e w' ⟨rfl, rfl⟩
        go_wp2
        go_ret
        exact ⟨ret_int HR.out.symm, rfl⟩
      · obtain ⟨p, c', hp, hc', hcs, p0, p1, hp2, hc0, hr0', hc1, hr1', hyes, hno⟩ := bit_parts s 64 m r (by omega) hm hr0 hr1
        have hpow : (2 : Nat) ^ 64 = 18446744073709551616 := by decide
        rw [hpow] at p1 hc1 hr1'
        have hor : bits .or .u64 (r : Int) (p : Int) = (c' : Int) := by rw [u64_or_nat _ _ (by omega) (by omega), hc']
        rw [hp]
        have hbound : c' < 18446744073709551616 := by omega
        obtain ⟨h, hh⟩ : ∃ n, c' * c' / 18446744073709551616 = n := ⟨_, rfl⟩
        obtain ⟨l, hl⟩ : ∃ n, c' * c' % 18446744073709551616 = n := ⟨_, rfl⟩
        have hcmp := two_le HS.out bl hh hl
        have HH := Lib.hid hh
        have HL := Lib.hid hl
        have HG := Lib.hid hgo
        have HP2 := Lib.hid hp2
        have HY := Lib.hid hyes
        have HN := Lib.hid hno
        have HC0 := Lib.hid hc0
        have HR0 := Lib.hid hr0'
        have HC1 := Lib.hid hc1
        have HR1 := Lib.hid hr1'
        clear hgo hp2 hyes hno hc0 hr0' hc1 hr1' hr0 hr1 hp hc' hcs hpow hh hl
        rcases hcmp with ⟨hle, hq | ⟨t1, hq0, hq⟩⟩ | ⟨hle, hq0, t1 | ⟨t1, hq⟩⟩
        · have HLE := Lib.hid hle
          clear hle
          go_wp2_with fail
          refine (product_is c' c' h l hbound hbound HH.out HL.out _).mono ?_
          rintro e w' ⟨rfl, rfl⟩
          go_wp2
          go_round
          case rel => exact ⟨m - 1, c', rfl, by rw [← HP2.out]; go_num, by omega, HC0.out, HC1.out, by rw [HG.out, HY.out HLE.out]⟩
          case measure => simp [intOf]; omega
        · have HLE := Lib.hid hle
          clear hle
          go_wp2_with fail
          refine (product_is c' c' h l hbound hbound HH.out HL.out _).mono ?_
          rintro e w' ⟨rfl, rfl⟩
          go_wp2
          go_round
          case rel => exact ⟨m - 1, c', rfl, by rw [← HP2.out]; go_num, by omega, HC0.out, HC1.out, by rw [HG.out, HY.out HLE.out]⟩
          case measure => simp [intOf]; omega
        · have HLE := Lib.hid hle
          clear hle
          go_wp2_with fail
          refine (product_is c' c' h l hbound hbound HH.out HL.out _).mono ?_
          rintro e w' ⟨rfl, rfl⟩
          go_wp2
          go_round
          case rel => exact ⟨m - 1, r, rfl, by rw [← HP2.out]; go_num, by omega, HR0.out, HR1.out, by rw [HG.out, HN.out HLE.out]⟩
          case measure => simp [intOf]; omega
        · have HLE := Lib.hid hle
          clear hle
          go_wp2_with fail
          refine (product_is c' c' h l hbound hbound HH.out HL.out _).mono ?_
          rintro e w' ⟨rfl, rfl⟩
          go_wp2
          go_round
          case rel => exact ⟨m - 1, r, rfl, by rw [← HP2.out]; go_num, by omega, HR0.out, HR1.out, by rw [HG.out, HN.out HLE.out]⟩
          case measure => simp [intOf]; omega

end Go.Proofs.YtflopcogalknhaaDoor.Ref01

/- NumLen: math/bits: the length of a number in bits, and its leading zeros. -/
namespace Go.Proofs.YtflopcogalknhaaDoor.Num
open Go.RowKit Go.Proofs.YtflopcogalknhaaDoor Go.Proofs.YtflopcogalknhaaDoor.NumPure

theorem tab_size : Lib.len8tab.size = 256 := by decide +kernel
theorem tab_all : ∀ n : Fin 256, (Lib.len8tab[n.val]'(by rw [tab_size]; exact n.isLt)).toNat = Lib.bitLen n.val := by decide +kernel
theorem tab_of (n : Nat) (hn : n < 256) (h : n < Lib.len8tab.size) : (Lib.len8tab[n]'h).toNat = Lib.bitLen n := tab_all ⟨n, hn⟩

theorem len_end (k x : Int) (c : Nat) (n : Nat) (hn : n < 256) (h : n < Lib.len8tab.size) (k0 : 0 ≤ k) (k1 : k ≤ 64) (hx : n = x.toNat / c) (hb : (Lib.bitLen x.toNat : Int) = k + Lib.bitLen (x.toNat / c)) : wrap64 (k + wrap64 ((Lib.len8tab[n]'h).toNat : Int)) = (Lib.bitLen x.toNat : Int) := by
  have l := Lib.bitLen_le n 8 (by omega) (by omega)
  rw [tab_of n hn h, hb, ← hx, IntWalk.wrap64_in (Lib.bitLen n : Int) (by omega), IntWalk.wrap64_in _ (by omega)]
theorem len_end0 (x : Int) (n : Nat) (hn : n < 256) (h : n < Lib.len8tab.size) (hx : n = x.toNat) : wrap64 (wrap64 ((Lib.len8tab[n]'h).toNat : Int)) = (Lib.bitLen x.toNat : Int) := by
  have l := Lib.bitLen_le n 8 (by omega) (by omega)
  rw [tab_of n hn h, ← hx, IntWalk.wrap64_in (Lib.bitLen n : Int) (by omega), IntWalk.wrap64_in _ (by omega)]

end Go.Proofs.YtflopcogalknhaaDoor.Num

/- NumDv: math/bits.Div64: two words by one. -/
namespace Go.Proofs.YtflopcogalknhaaDoor.Num
open Go.RowKit Go.Proofs.YtflopcogalknhaaDoor Go.Proofs.YtflopcogalknhaaDoor.NumPure

/-- One digit of the quotient, by the upper half of the divisor and a few steps down (base 2^32). -/
theorem digit_lt {v1 v0 U u : Nat} (hU : U < v1 * 4294967296 + v0) (hu : u < 4294967296) : (U * 4294967296 + u) / (v1 * 4294967296 + v0) < 4294967296 := by
  rw [Nat.div_lt_iff_lt_mul (by omega)]
  have := Nat.mul_le_mul_left 4294967296 (show U + 1 ≤ v1 * 4294967296 + v0 by omega)
  omega
theorem digit_first {v1 v0 U u : Nat} (h1 : 2147483648 ≤ v1) (h2 : v1 < 4294967296) (h3 : v0 < 4294967296) (hU : U < v1 * 4294967296 + v0) (hu : u < 4294967296) : (U * 4294967296 + u) / (v1 * 4294967296 + v0) ≤ U / v1 ∧ U / v1 ≤ 4294967297 := by
  constructor
  · have hm := Nat.div_add_mod U v1
    have hlt := Nat.mod_lt U (show v1 > 0 by omega)
    rw [Nat.div_le_iff_le_mul_add_pred (by omega)]
    generalize U / v1 = q at *
    have e : (v1 * 4294967296 + v0) * q = v1 * q * 4294967296 + v0 * q := by rw [Nat.add_mul, Nat.mul_right_comm]
    rw [e]
    omega
  · have : U / v1 < 4294967298 := by
      rw [Nat.div_lt_iff_lt_mul (by omega)]
      omega
    omega
/-- The digit q is not too great. -/
theorem digit_le {v1 v0 U u q rh : Nat} (h1 : 2147483648 ≤ v1) (hq : q * v1 + rh = U) (ht : q * v0 ≤ 4294967296 * rh + u) : q ≤ (U * 4294967296 + u) / (v1 * 4294967296 + v0) := by
  rw [Nat.le_div_iff_mul_le (by omega), Nat.mul_add, ← Nat.mul_assoc]
  omega
/-- The digit q is too great. -/
theorem digit_gt {v1 v0 U u q rh : Nat} (h1 : 2147483648 ≤ v1) (hq : q * v1 + rh = U) (ht : 4294967296 * rh + u < q * v0) : (U * 4294967296 + u) / (v1 * 4294967296 + v0) < q := by
  rw [Nat.div_lt_iff_lt_mul (by omega), Nat.mul_add, ← Nat.mul_assoc]
  omega

theorem bitLen_pos {y : Nat} (h : y ≠ 0) (hy : y < 18446744073709551616) : 0 < Lib.bitLen y := by
  rw [Lib.bitLen_half y h (by omega)]
  omega
theorem bitLen_up {y : Nat} (hy : y < 18446744073709551616) : y < 2 ^ Lib.bitLen y := by
  rcases Nat.lt_or_ge y (2 ^ Lib.bitLen y) with h | h
  · exact h
  · have e := Lib.bitLen_shift _ y h (by omega)
    have e0 : Lib.bitLen (y / 2 ^ Lib.bitLen y) = 0 := by omega
    have hlt : y / 2 ^ Lib.bitLen y < 18446744073709551616 := Nat.lt_of_le_of_lt (Nat.div_le_self _ _) hy
    by_cases hz : y / 2 ^ Lib.bitLen y = 0
    · have := Nat.div_pos h (Nat.pow_pos (by omega))
      omega
    · have := bitLen_pos hz hlt
      omega
theorem bitLen_dn {y : Nat} (h0 : y ≠ 0) (hy : y < 18446744073709551616) : 2 ^ (Lib.bitLen y - 1) ≤ y := by
  rcases Nat.lt_or_ge y (2 ^ (Lib.bitLen y - 1)) with h | h
  · have h1 := bitLen_pos h0 hy
    have h2 := Lib.bitLen_le y 64 (by omega) (by omega)
    have := Lib.bitLen_le y (Lib.bitLen y - 1) (by omega) h
    omega
  · exact h

/-- The divisor, brought to 64 bits. -/
theorem norm {y s : Nat} (h0 : y ≠ 0) (hy : y < 18446744073709551616) (hs : s + Lib.bitLen y = 64) : 9223372036854775808 ≤ y * 2 ^ s ∧ y * 2 ^ s < 18446744073709551616 ∧ s ≤ 63 := by
  have h1 := bitLen_up hy
  have h2 := bitLen_dn h0 hy
  have h3 := bitLen_pos h0 hy
  refine ⟨?_, ?_, by omega⟩
  · have := Nat.mul_le_mul_right (2 ^ s) h2
    rw [← Nat.pow_add, show Lib.bitLen y - 1 + s = 63 by omega] at this
    exact this
  · have := Nat.mul_lt_mul_of_pos_right h1 (show 0 < 2 ^ s from Nat.pow_pos (by omega))
    rw [← Nat.pow_add, show Lib.bitLen y + s = 64 by omega] at this
    exact this

/-- The dividend, brought to the left by s bits: its upper word. -/
theorem upper {hi lo s : Nat} (hs : s ≤ 63) (hh : hi * 2 ^ s < 18446744073709551616) (hl : lo < 18446744073709551616) :
    bits .or .u64 (IntKind.u64.wrap ((hi : Int) * 2 ^ s)) ((lo : Int) / 2 ^ (64 - s)) = ((hi * 2 ^ s + lo / 2 ^ (64 - s) : Nat) : Int) ∧ hi * 2 ^ s + lo / 2 ^ (64 - s) < 18446744073709551616 := by
  have e1 : IntKind.u64.wrap ((hi : Int) * 2 ^ s) = ((hi * 2 ^ s : Nat) : Int) := by
    have : ((hi : Int) * 2 ^ s) = ((hi * 2 ^ s : Nat) : Int) := by rw [Int.natCast_mul, Int.natCast_pow]; rfl
    rw [this, IntKind.wrap_u64]
    generalize hi * 2 ^ s = z at *
    omega
  have e2 : (lo : Int) / 2 ^ (64 - s) = ((lo / 2 ^ (64 - s) : Nat) : Int) := by rw [Int.natCast_ediv, Int.natCast_pow]; rfl
  have h3 : lo / 2 ^ (64 - s) < 2 ^ s := by
    rw [Nat.div_lt_iff_lt_mul (Nat.pow_pos (by omega)), ← Nat.pow_add, show s + (64 - s) = 64 by omega]
    exact hl
  have h4 : lo / 2 ^ (64 - s) < 18446744073709551616 := Nat.lt_of_le_of_lt (Nat.div_le_self _ _) hl
  have e3 := Nat.two_pow_add_eq_or_of_lt (i := s) h3 hi
  rw [e1, e2, u64_or_nat _ _ hh h4, Nat.mul_comm hi, ← e3]
  refine ⟨rfl, ?_⟩
  have e5 : 2 ^ s * hi + lo / 2 ^ (64 - s) < 2 ^ 64 := by
    have h6 : 2 ^ s * hi < 2 ^ s * 2 ^ (64 - s) := by rw [← Nat.pow_add, show s + (64 - s) = 64 by omega, Nat.mul_comm]; exact hh
    have h7 : hi + 1 ≤ 2 ^ (64 - s) := Nat.lt_of_mul_lt_mul_left h6
    have h8 := Nat.mul_le_mul_left (2 ^ s) h7
    rw [← Nat.pow_add, show s + (64 - s) = 64 by omega, Nat.mul_add, Nat.mul_one] at h8
    omega
  exact e5

theorem lower {lo s : Nat} (hs : s ≤ 63) : lo * 2 ^ s = lo / 2 ^ (64 - s) * 18446744073709551616 + lo * 2 ^ s % 18446744073709551616 := by
  have h := Nat.div_add_mod (lo * 2 ^ s) 18446744073709551616
  have e : lo * 2 ^ s / 18446744073709551616 = lo / 2 ^ (64 - s) := by
    have hz : 2 ^ (64 - s) * 2 ^ s = 18446744073709551616 := (Nat.pow_add 2 (64 - s) s).symm.trans (by rw [show 64 - s + s = 64 by omega])
    exact (congrArg (fun z => lo * 2 ^ s / z) hz.symm).trans (Nat.mul_div_mul_right _ _ (Nat.pow_pos (by omega)))
  rw [e] at h
  omega

/-- What the two digits and the last rest are. -/
theorem div_end {N y s Y U u1 u0 Q1 U2 Q0 R : Nat} (hy : 0 < y) (hN : N * 2 ^ s = U * 18446744073709551616 + (u1 * 4294967296 + u0)) (hY : Y = y * 2 ^ s) (h1 : U * 4294967296 + u1 = Q1 * Y + U2) (h2 : U2 * 4294967296 + u0 = Q0 * Y + R) (hR : R < Y) :
    N / y = Q1 * 4294967296 + Q0 ∧ N % y = R / 2 ^ s := by
  have hp : 0 < 2 ^ s := Nat.pow_pos (by omega)
  have e1 : (U * 4294967296 + u1) * 4294967296 = Q1 * Y * 4294967296 + U2 * 4294967296 := by rw [h1, Nat.add_mul]
  have e2 : N * 2 ^ s = (Q1 * 4294967296 + Q0) * Y + R := by
    have e1' : U * 4294967296 * 4294967296 + u1 * 4294967296 = Q1 * Y * 4294967296 + U2 * 4294967296 := by rw [← Nat.add_mul]; exact e1
    rw [Nat.mul_assoc] at e1'
    rw [hN, Nat.add_mul, Nat.mul_right_comm, Nat.add_assoc, ← h2, ← Nat.add_assoc, ← Nat.add_assoc]
    exact congrArg (· + u0) e1'
  have e3 : R = (N - (Q1 * 4294967296 + Q0) * y) * 2 ^ s := by
    rw [Nat.sub_mul, e2, hY, Nat.mul_assoc]
    omega
  have e4 : (Q1 * 4294967296 + Q0) * y ≤ N := by
    apply Nat.le_of_mul_le_mul_right _ hp
    rw [Nat.mul_assoc, ← hY, e2]
    omega
  have e5 : N - (Q1 * 4294967296 + Q0) * y < y := by
    apply Nat.lt_of_mul_lt_mul_right (a := 2 ^ s)
    rw [← e3, ← hY]
    exact hR
  have e6 := (Nat.div_mod_unique hy (a := N) (c := N - (Q1 * 4294967296 + Q0) * y) (d := Q1 * 4294967296 + Q0)).2 ⟨by rw [Nat.mul_comm y]; omega, e5⟩
  refine ⟨e6.1, ?_⟩
  rw [e6.2, e3, Nat.mul_div_cancel _ hp]

/-- The ways through the head of a loop over a digit, in the walk's own tests (z: 2^32 times the rest). -/
theorem digit_ways {v1 v0 U u q rh Q : Nat} (h1 : 2147483648 ≤ v1) (h3 : v0 < 4294967296) (hQ : (U * 4294967296 + u) / (v1 * 4294967296 + v0) = Q) (hQ2 : Q < 4294967296) (hq : q * v1 + rh = U) (hrh : rh < 4294967296) (hle : Q ≤ q) (hq1 : q ≤ 4294967297) :
    ∃ z : Nat, 4294967296 * (rh : Int) = z ∧ z ≤ 18446744069414584320 ∧
    ((decide (4294967296 ≤ (q : Int)) = false ∧ decide ((z : Int) + u < (q : Int) * v0) = false ∧ 0 ≤ (q : Int) * v0 ∧ (q : Int) * v0 ≤ 18446744065119617025 ∧ q = Q) ∨
    ((decide (4294967296 ≤ (q : Int)) = true ∨ decide (4294967296 ≤ (q : Int)) = false ∧ decide ((z : Int) + u < (q : Int) * v0) = true ∧ 0 ≤ (q : Int) * v0 ∧ (q : Int) * v0 ≤ 18446744065119617025) ∧ decide (4294967296 ≤ (rh : Int) + v1) = true ∧ q = Q + 1) ∨
    ((decide (4294967296 ≤ (q : Int)) = true ∨ decide (4294967296 ≤ (q : Int)) = false ∧ decide ((z : Int) + u < (q : Int) * v0) = true ∧ 0 ≤ (q : Int) * v0 ∧ (q : Int) * v0 ≤ 18446744065119617025) ∧ decide (4294967296 ≤ (rh : Int) + v1) = false ∧ ∃ q', q = q' + 1 ∧ q' * v1 + (rh + v1) = U ∧ Q ≤ q')) := by
  have key : 4294967296 ≤ q ∨ q < 4294967296 ∧ 4294967296 * rh + u < q * v0 → ∃ q', q = q' + 1 ∧ q' * v1 + (rh + v1) = U ∧ Q ≤ q' := by
    intro h
    have hlt : Q < q := by
      rcases h with h | ⟨_, h⟩
      · omega
      · rw [← hQ]
        exact digit_gt h1 hq h
    refine ⟨q - 1, by omega, ?_, by omega⟩
    rw [← hq, Nat.sub_mul, Nat.one_mul]
    have := Nat.mul_le_mul_right v1 (show 1 ≤ q by omega)
    omega
  have hc : ((q : Int) * v0) = ((q * v0 : Nat) : Int) := (Int.natCast_mul q v0).symm
  have hpb : q < 4294967296 → q * v0 ≤ 18446744065119617025 := fun h => Nat.mul_le_mul (show q ≤ 4294967295 by omega) (show v0 ≤ 4294967295 by omega)
  refine ⟨4294967296 * rh, by omega, by omega, ?_⟩
  rw [hc]
  simp only [decide_eq_true_eq, decide_eq_false_iff_not]
  by_cases ht : 4294967296 ≤ q ∨ q < 4294967296 ∧ 4294967296 * rh + u < q * v0
  · obtain ⟨q', e1, e2, e3⟩ := key ht
    have ht' : (4294967296 : Int) ≤ (q : Int) ∨ ¬ (4294967296 : Int) ≤ (q : Int) ∧ ((4294967296 * rh : Nat) : Int) + u < ((q * v0 : Nat) : Int) ∧ 0 ≤ ((q * v0 : Nat) : Int) ∧ ((q * v0 : Nat) : Int) ≤ 18446744065119617025 := by
      rcases ht with h | ⟨h, h'⟩
      · exact .inl (by omega)
      · have := hpb h
        exact .inr ⟨by omega, by omega, by omega, by omega⟩
    by_cases hb : 4294967296 ≤ rh + v1
    · refine .inr (.inl ⟨ht', by omega, ?_⟩)
      have hx : q' * v0 ≤ 4294967296 * (rh + v1) + u := by
        have := Nat.mul_le_mul (show q' ≤ 4294967296 by omega) (show v0 ≤ 4294967295 by omega)
        omega
      have := digit_le h1 e2 hx
      rw [hQ] at this
      omega
    · exact .inr (.inr ⟨ht', by omega, q', e1, e2, e3⟩)
  · have hql : q < 4294967296 := by omega
    have := hpb hql
    refine .inl ⟨by omega, by omega, by omega, by omega, ?_⟩
    have hx : q * v0 ≤ 4294967296 * rh + u := by omega
    have := digit_le h1 hq hx
    rw [hQ] at this
    omega

theorem tail64 (x U u Q Y U2 : Nat) (_hx : x = 0) (h : U * 4294967296 + u = Q * Y + U2) (h2 : U2 < 18446744073709551616) :
    IntKind.u64.wrap (IntKind.u64.wrap (IntKind.u64.wrap ((U : Int) * 4294967296) + u) - IntKind.u64.wrap ((Q : Int) * Y)) = (U2 : Int) := by
  have e : ((Q : Int) * Y) = ((Q * Y : Nat) : Int) := (Int.natCast_mul Q Y).symm
  rw [e]
  simp only [IntKind.wrap_u64]
  omega

theorem rest_facts {U v q r : Nat} (h : v * q + r = U) : (q : Int) * (v : Int) ≤ (U : Int) ∧ 0 ≤ (q : Int) * (v : Int) ∧ (U : Int) - (q : Int) * (v : Int) = (r : Int) := by
  have e : ((q : Int) * (v : Int)) = ((v * q : Nat) : Int) := by rw [Int.natCast_mul, Int.mul_comm]
  rw [e]
  omega

theorem ret_pair {a b c d : Int} (h1 : a = c) (h2 : b = d) : Ending.returned (.tuple #[.int .u64 a, .int .u64 b]) = .returned (.tuple #[.int .u64 c, .int .u64 d]) := by rw [h1, h2]

def DR (v1 U Q q rh : Nat) : Prop := q * v1 + rh = U ∧ rh < 4294967296 ∧ Q ≤ q ∧ q ≤ 4294967297

end Go.Proofs.YtflopcogalknhaaDoor.Num

/- NumRt: Package num: quotients of fixed-point numbers. -/
namespace Go.Proofs.YtflopcogalknhaaDoor.Num
open Go.RowKit Go.Proofs.YtflopcogalknhaaDoor Go.Proofs.YtflopcogalknhaaDoor.NumPure

theorem quo_wrap (lo y : Nat) (hl : lo < 18446744073709551616) : IntKind.u64.wrap ((lo : Int) / (y : Int)) = ((lo / y : Nat) : Int) := by
  have := Nat.div_le_self lo y
  rw [← Int.natCast_ediv]
  generalize lo / y = z at *
  rw [IntKind.wrap_u64]
  omega

theorem sgn_big {neg : Bool} {q : Nat} (h : 9223372036854775808 ≤ q) : sgn neg q = bif neg then -9223372036854775808 else 9223372036854775807 := by
  cases neg
  · show min _ _ = (9223372036854775807 : Int)
    omega
  · show max _ _ = (-9223372036854775808 : Int)
    omega
theorem rnd_ge (neg : Bool) (n d : Nat) : n / d ≤ rnd neg n d ∧ rnd neg n d ≤ n / d + 1 := by
  unfold rnd
  split <;> omega
theorem neg_word (q : Nat) (h : q ≤ 9223372036854775808) : wrap64 (IntKind.u64.wrap (-(q : Int))) = -(q : Int) := by
  rw [IntKind.wrap_u64]
  unfold wrap64
  omega

end Go.Proofs.YtflopcogalknhaaDoor.Num

/- NumTn: Package num: sine and cosine. -/
namespace Go.Proofs.YtflopcogalknhaaDoor.Num
open Go.RowKit Go.Proofs.YtflopcogalknhaaDoor Go.Proofs.YtflopcogalknhaaDoor.NumPure

/-- The table of sines lies in its variable. -/
def Tab (w : World) : Prop := ∀ i, i < 65 → w.cell? ⟨0, i, none⟩ = some (.int .i64 (sinT i))
theorem Tab.drewN {w : World} (h : Tab w) (n : Nat) : Tab (w.drewN n) := h

theorem quiet_left {P : Program} {f : FuncId} {args : Array Value} {w : World} {n : Nat} {v : Value} (h : Calls P f args (w.drewN n) fun e w' => e = .returned v ∧ w.drewN n = w') : Calls P f args (w.drewN n) fun e w'' => e = .returned v ∧ ∃ m, w'' = w.drewN m :=
  h.mono fun _ _ ⟨he, hm⟩ => ⟨he, n, hm.symm⟩

set_option maxHeartbeats 1000000 in
theorem quarter_any (u : Nat) (hu : u ≤ 16384) (w : World) (hT : Tab w) :
    Calls Tryd.prog 71 #[.int .i64 (u : Int)] w fun e w' => e = .returned (.int .i64 (qrt u)) ∧ ∃ n, w' = w.drewN n := by
  by_cases hb : u = 16384
  · subst hb
    have c := hT 64 (by omega)
    have HF : Hid (qrt 16384 = sinT 64) := Lib.hid rfl
    clear hT
    go_enter Tryd.func71, Tryd.ntmps71
    go_wp2
    go_ret
    exact ⟨ret_int HF.out.symm, 0, rfl⟩
  obtain ⟨i, hi⟩ : ∃ i, u / 256 = i := ⟨_, rfl⟩
  obtain ⟨f, hf⟩ : ∃ f, u % 256 = f := ⟨_, rfl⟩
  have hi64 : i < 64 := by omega
  have hf256 : f < 256 := by omega
  have hui : (u : Int) / 256 = (i : Int) := by omega
  have huf : (u : Int) - 256 * (i : Int) = (f : Int) := by omega
  have c0 := hT i (by omega)
  have c1 := hT (i + 1) (by omega)
  have b0 := sinT_bd i
  have b1 := sinT_bd (i + 1)
  have hq : qrt u = sinT i + dvr ((sinT (i + 1) - sinT i) * (f : Int)) 256 := by rw [qrt_of u (by omega), hi, hf]
  have bq := qrt_bd u hu
  rw [hq] at bq
  obtain ⟨s0, hs0⟩ : ∃ s, sinT i = s := ⟨_, rfl⟩
  obtain ⟨s1, hs1⟩ : ∃ s, sinT (i + 1) = s := ⟨_, rfl⟩
  rw [hs0, hs1] at hq bq
  rw [hs0] at c0 b0
  rw [hs1] at c1 b1
  have HF := Lib.hid hq
  obtain ⟨p, hp⟩ : ∃ p, (s1 - s0) * (f : Int) = p := ⟨_, rfl⟩
  have bp : -16777216 ≤ p ∧ p ≤ 16777216 := by
    rw [← hp]
    have h1 := Int.mul_le_mul_of_nonneg_right (show s1 - s0 ≤ 65536 by omega) (show (0 : Int) ≤ f by omega)
    have h2 := Int.mul_le_mul_of_nonneg_right (show -65536 ≤ s1 - s0 by omega) (show (0 : Int) ≤ f by omega)
    omega
  rw [hp] at bq
  obtain ⟨dd, hdd⟩ : ∃ dd, dd = dvr p 256 := ⟨_, rfl⟩
  rw [← hdd] at bq
  have HD := Lib.hid hdd
  have HP := Lib.hid hp
  have e1 : IntKind.i64.wrap ((i : Int) + 1) = (i : Int) + 1 := IntWalk.i64_in _ (by omega)
  have e2 : IntKind.i64.wrap (256 * (i : Int)) = 256 * (i : Int) := IntWalk.i64_in _ (by omega)
  have e3 : IntKind.i64.wrap ((u : Int) - 256 * (i : Int)) = (f : Int) := by rw [huf]; exact IntWalk.i64_in _ (by omega)
  have e4 : IntKind.i64.wrap (s1 - s0) = s1 - s0 := IntWalk.i64_in _ (by omega)
  have e5 : IntKind.i64.wrap ((s1 - s0) * (f : Int)) = p := by rw [hp]; exact IntWalk.i64_in _ (by omega)
  have e6 : IntKind.i64.wrap (s0 + dd) = s0 + dd := IntWalk.i64_in _ (by omega)
  have e7 : ((i : Int) + 1).toNat = i + 1 := by omega
  have e8 : (0 : Int) ≤ (i : Int) + 1 := by omega
  have e9 : ((i : Int) + 1) < 65 := by omega
  have hdc : ∀ n, Calls Tryd.prog 52 #[.int .i64 p, .int .i64 256] (w.drewN n) fun e w'' => e = .returned (.int .i64 dd) ∧ ∃ m, w'' = w.drewN m := fun n => quiet_left (by rw [HD.out]; exact div_any p 256 (by omega) (by omega) (by omega) (by omega) _)
  have HC := Lib.hid hdc
  clear hT hi hf huf hs0 hs1 hq bq bp hdd hp hdc hb
  go_enter Tryd.func71, Tryd.ntmps71
  go_wp2
  go_quiet ((go_at_call 52; exact HC.out _))
  go_wp2
  go_ret
  exact ⟨ret_int (by rw [HF.out, HP.out, ← HD.out]), _, rfl⟩

theorem quarter_is (z : Int) (u : Nat) (hz : z = u) (hu : u ≤ 16384) (w : World) (hT : Tab w) :
    Calls Tryd.prog 71 #[.int .i64 z] w fun e w' => e = .returned (.int .i64 (qrt u)) ∧ ∃ n, w' = w.drewN n := by
  subst hz
  exact quarter_any u hu w hT

set_option maxHeartbeats 1000000 in
theorem sine_any (a : Nat) (ha : a < 65536) (w : World) (hT : Tab w) :
    Calls Tryd.prog 69 #[.int .i64 (a : Int)] w fun e w' => e = .returned (.int .i64 (sinA a)) ∧ ∃ n, w' = w.drewN n := by
  obtain ⟨q, hq⟩ : ∃ q, a / 16384 = q := ⟨_, rfl⟩
  obtain ⟨r, hr⟩ : ∃ r, a % 16384 = r := ⟨_, rfl⟩
  have hr' : r < 16384 := by omega
  have rq : (a : Int) / 16384 = (q : Int) := by omega
  have rr : (a : Int) - 16384 * (q : Int) = (r : Int) := by omega
  have hF : sinA a = if q = 0 then qrt r else if q = 1 then qrt (16384 - r) else if q = 2 then -qrt r else -qrt (16384 - r) := by rw [sinA, hq, hr]
  have b1 := qrt_bd r (by omega)
  have b2 := qrt_bd (16384 - r) (by omega)
  have HT := Lib.hid hT
  clear hT
  have hcase : q = 0 ∨ q = 1 ∨ q = 2 ∨ q = 3 := by omega
  obtain ⟨x1, hx1⟩ : ∃ x, qrt r = x := ⟨_, rfl⟩
  obtain ⟨x2, hx2⟩ : ∃ x, qrt (16384 - r) = x := ⟨_, rfl⟩
  rw [hx1, hx2] at hF
  rw [hx1] at b1
  rw [hx2] at b2
  have X1 := Lib.hid hx1
  have X2 := Lib.hid hx2
  clear hq hr hx1 hx2
  rcases hcase with rfl | rfl | rfl | rfl
  · have HF := Lib.hid hF
    clear hF
    go_enter Tryd.func69, Tryd.ntmps69
    go_wp2_with fail
    refine (quarter_is _ r (by omega) (by omega) _ HT.out).mono ?_
    rintro e w' ⟨rfl, n, rfl⟩
    rw [X1.out]
    go_wp2
    go_ret
    exact ⟨ret_int HF.out.symm, _, rfl⟩
  · have HF := Lib.hid hF
    clear hF
    go_enter Tryd.func69, Tryd.ntmps69
    go_wp2_with fail
    refine (quarter_is _ (16384 - r) (by omega) (by omega) _ HT.out).mono ?_
    rintro e w' ⟨rfl, n, rfl⟩
    rw [X2.out]
    go_wp2
    go_ret
    exact ⟨ret_int HF.out.symm, _, rfl⟩
  · have HF := Lib.hid hF
    clear hF
    go_enter Tryd.func69, Tryd.ntmps69
    go_wp2_with fail
    refine (quarter_is _ r (by omega) (by omega) _ HT.out).mono ?_
    rintro e w' ⟨rfl, n, rfl⟩
    rw [X1.out]
    go_wp2
    go_ret
    exact ⟨ret_int HF.out.symm, _, rfl⟩
  · have HF := Lib.hid hF
    clear hF
    go_enter Tryd.func69, Tryd.ntmps69
    go_wp2_with fail
    refine (quarter_is _ (16384 - r) (by omega) (by omega) _ HT.out).mono ?_
    rintro e w' ⟨rfl, n, rfl⟩
    rw [X2.out]
    go_wp2
    go_ret
    exact ⟨ret_int HF.out.symm, _, rfl⟩

theorem sine_is (z : Int) (a : Nat) (hz : z = a) (ha : a < 65536) (w : World) (hT : Tab w) :
    Calls Tryd.prog 69 #[.int .i64 z] w fun e w' => e = .returned (.int .i64 (sinA a)) ∧ ∃ n, w' = w.drewN n := by
  subst hz
  exact sine_any a ha w hT

theorem i64_mask16 (n : Int) : bits .and .i64 n 65535 = n % 65536 := by
  have h127 : (BitVec.ofInt 64 65535).toNat = 2 ^ 16 - 1 := by decide
  have key : (BitVec.ofInt 64 n &&& BitVec.ofInt 64 65535).toNat = (n % ((2 ^ 64 : Nat) : Int)).toNat % 2 ^ 16 := by
    rw [BitVec.toNat_and, BitVec.toNat_ofInt, h127, Nat.and_two_pow_sub_one_eq_mod]
  show IntKind.i64.wrap ((BitVec.ofInt 64 n &&& BitVec.ofInt 64 65535).toNat : Nat) = n % 65536
  rw [key, IntKind.wrap_i64]
  omega

theorem ret_two {a b c d : Int} (h1 : a = c) (h2 : b = d) : Ending.returned (.tuple #[.int .i64 a, .int .i64 b]) = .returned (.tuple #[.int .i64 c, .int .i64 d]) := by rw [h1, h2]

set_option maxHeartbeats 1000000 in
theorem turn_any (z : Int) (w : World) (hT : Tab w) :
    Calls Tryd.prog 65 #[.int .i64 z] w fun e w' => e = .returned (.tuple #[.int .i64 (sinZ z), .int .i64 (cosZ z)]) ∧ ∃ n, w' = w.drewN n := by
  obtain ⟨a, ha⟩ : ∃ a, (z % 65536).toNat = a := ⟨_, rfl⟩
  have ha2 : a < 65536 := by omega
  have hm : bits .and .i64 z 65535 = (a : Int) := by rw [i64_mask16]; omega
  have HS : Hid (sinZ z = sinA a) := Lib.hid (by rw [sinZ, ha])
  have HC : Hid (cosZ z = sinA ((a + 16384) % 65536)) := Lib.hid (by rw [cosZ, ha])
  have HT := Lib.hid hT
  clear hT ha
  go_enter Tryd.func65, Tryd.ntmps65
  go_wp2_with fail
  refine (sine_any a ha2 _ HT.out).mono ?_
  rintro e w' ⟨rfl, n, rfl⟩
  go_wp2_with fail
  refine (sine_is _ ((a + 16384) % 65536) (by omega) (by omega) _ (HT.out.drewN _)).mono ?_
  rintro e w' ⟨rfl, n2, rfl⟩
  go_wp2
  go_ret2
  exact ⟨ret_two HS.out.symm HC.out.symm, _, rfl⟩

end Go.Proofs.YtflopcogalknhaaDoor.Num

/- NumEx: Package num: the examples of the chapter hold. -/
namespace Go.Proofs.YtflopcogalknhaaDoor.Num
open Go.RowKit Go.Proofs.YtflopcogalknhaaDoor Go.Proofs.YtflopcogalknhaaDoor.NumPure

theorem turn_is (z s c : Int) (hs : sinZ z = s) (hc : cosZ z = c) (w : World) (hT : Tab w) :
    Calls Tryd.prog 65 #[.int .i64 z] w fun e w' => e = .returned (.tuple #[.int .i64 s, .int .i64 c]) ∧ ∃ n, w' = w.drewN n := by
  subst hs hc
  exact turn_any z w hT
theorem hypot_is (a b d : Int) (h : d = hypU a b) (h0 : -9223372036854775808 ≤ a) (h1 : a ≤ 9223372036854775807) (g0 : -9223372036854775808 ≤ b) (g1 : b ≤ 9223372036854775807) (w : World) : Calls Tryd.prog 47 #[.int .i64 a, .int .i64 b] w fun e w' => e = .returned (.int .i64 d) ∧ w = w' := by
  subst h
  exact hypot_any a b h0 h1 g0 g1 w

end Go.Proofs.YtflopcogalknhaaDoor.Num

/- Ref01Tn: The reference of layer 1: the table of sines, sine and cosine. -/
namespace Go.Proofs.YtflopcogalknhaaDoor.Ref01
open Go.RowKit Go.Proofs.YtflopcogalknhaaDoor Go.Proofs.YtflopcogalknhaaDoor.NumPure Go.Proofs.YtflopcogalknhaaDoor.Num

def tabA : Array Value := (sinL.map (Value.int .i64)).toArray
def tab0 : Array Value := (List.replicate 65 (Value.int .i64 0)).toArray
theorem tabA_size : tabA.size = 65 := by decide +kernel
theorem tabA_at (i : Nat) (h : i < 65) : tabA[i]? = some (.int .i64 (sinT i)) := by
  have hl : i < sinL.length := h
  unfold tabA sinT
  rw [List.getElem?_toArray, List.getElem?_map, List.getD_eq_getElem?_getD, List.getElem?_eq_getElem hl]
  rfl
theorem tabA_one : tabA.all (·.oneCell') = true := by decide +kernel
theorem tab_same : tab0.size = tabA.size := by decide +kernel
theorem info65 : (Tryd.prog.info? 91).map (·.size) = some tabA.size := by kernel_rfl
theorem run_alloc65 (w : World) : (Instr.alloc 91 true (.tuple #[])).run Tryd.prog w = .ok (.pointer (some ⟨w.heap.size, 0, none⟩)) (w.alloc (.cells tab0 91)) := by
  kernel_rfl
theorem wpList_alloc65 {ops : Array Oper} {rest : List Oper} {o : Oper} {a : Act} {w : World} {Q : Exit → Act → World → Prop} (hg : o.guard = none) (ho : o.op = .alloc 91)
    (h : wpList Tryd.prog ops Q rest (a.put o.dst (.pointer (some ⟨w.heap.size, 0, none⟩))) (w.alloc (.cells tab0 91))) : wpList Tryd.prog ops Q (o :: rest) a w := by
  refine wpList_plain hg fun K hK => ?_
  have hr := run_alloc65 w
  unfold Oper.wp
  simp only [execOp, ho, Sem.run_bind, hr, Result.andThen_ok, Sem.run_pure]
  exact hK _ _ h
theorem wpList_buildT {ops : Array Oper} {rest : List Oper} {o : Oper} {a : Act} {w : World} {Q : Exit → Act → World → Prop} (hg : o.guard = none) (parts : Array (Nat × Operand)) (ho : o.op = .build 91 parts)
    (hb : Tryd.prog.built 91 (parts.map fun (i, x) => (i, a.eval x)).toList = some tabA)
    (h : wpList Tryd.prog ops Q rest (a.put o.dst (.agg tabA)) w) : wpList Tryd.prog ops Q (o :: rest) a w := by
  refine wpList_build hg 91 parts ho (by rw [hb]; rfl) ?_
  rw [hb]
  exact h
theorem below_setRowT {B : Nat} {a w : World} (h : Below B a w) {g : Nat} (hg : B ≤ g) (cs : Array Value) : Below B a (w.setRow g cs) :=
  ⟨h.os, h.tape, h.output, by rw [size_setRow]; exact h.size, fun i hi => (setRow_other _ _ _ _ (by omega)).trans (h.block i hi)⟩
theorem belowN {B : Nat} {a w : World} (h : Below B a w) (n : Nat) : Below B a (w.drewN n) := ⟨h.os, h.tape, h.output, h.size, h.block⟩

set_option maxHeartbeats 1000000 in
set_option maxRecDepth 100000 in
theorem rTable_any (w : World) : Calls Tryd.prog 72 #[] w fun e w' => e = .returned (.agg tabA) ∧ Below w.heap.size w w' := by
  go_enter Tryd.func72, Tryd.ntmps72
  go_wp2_with (first
    | (refine wpList_alloc65 rfl rfl ?_)
    | (refine wpList_buildT rfl _ rfl (by kernel_rfl) ?_)
    | (refine wpList_store_row rfl _ _ _ rfl w.heap.size tabA rfl rfl 91 tab0 (heap_alloc_new _ _) info65 tab_same tabA_one ?_))
  refine bodyPost_ret (v := .agg tabA) (results_cell_row rfl _ _ w.heap.size 91 tabA (0, 0) _ rfl (setRow_heap _ _ tab0 _ _ _ (heap_alloc_new _ _)) Tryd.underlying91 rfl info65) rfl ⟨rfl, ?_⟩
  exact below_setRowT ((Below.refl _ _).alloc (Nat.le_refl _) _) (Nat.le_refl _) _

/-- The table in a block of the call's own, and what was there before. -/
def TB (B g : Nat) (w wr : World) : Prop := Blk wr g 91 tabA ∧ Below B w wr
theorem TB.drewN {B g : Nat} {w wr : World} (h : TB B g w wr) (n : Nat) : TB B g w (wr.drewN n) := ⟨h.1, belowN h.2 n⟩
theorem quiet_right {P : Program} {f : FuncId} {args : Array Value} {w : World} {n : Nat} {v : Value} (h : Calls P f args (w.drewN n) fun e w' => e = .returned v ∧ ∃ k, w' = (w.drewN n).drewN k) : Calls P f args (w.drewN n) fun e w'' => e = .returned v ∧ ∃ m, w'' = w.drewN m :=
  h.mono fun _ _ ⟨he, k, hk⟩ => ⟨he, n + k, by rw [hk, World.drewN_drewN]⟩

set_option maxHeartbeats 2000000 in
set_option maxRecDepth 100000 in
theorem rQuarter_any (u : Nat) (hu : u ≤ 16384) (w : World) :
    Calls Tryd.prog 70 #[.int .i64 (u : Int)] w fun e w' => e = .returned (.int .i64 (qrt u)) ∧ Below w.heap.size w w' := by
  obtain ⟨B, hB⟩ : ∃ B, B = w.heap.size := ⟨_, rfl⟩
  rw [← hB]
  go_enter Tryd.func70, Tryd.ntmps70
  go_wp2_with fail
  refine (rTable_any _).mono ?_
  rintro e w1 ⟨rfl, hb1⟩
  rw [← hB] at hb1
  have hw1 : B ≤ w1.heap.size := by have := hb1.size; omega
  obtain ⟨g, eg⟩ : ∃ g, w1.heap.size = g := ⟨_, rfl⟩
  have D0 : (w1.alloc (.cells tab0 91)).heap[g]? = some (.cells tab0 91) := by rw [← eg]; exact heap_alloc_new _ _
  have T0 : TB B g w ((w1.alloc (.cells tab0 91)).setRow g tabA) := ⟨setRow_heap _ _ tab0 _ _ _ D0, below_setRowT (hb1.alloc hw1 _) (by omega) _⟩
  clear hB hw1 hb1
  by_cases hb : u = 16384
  · subst hb
    have HF : Hid (qrt 16384 = sinT 64) := Lib.hid rfl
    have c0 := T0.1.cell 64
    rw [tabA_at _ (by omega)] at c0
    have HT := Lib.hid T0
    clear T0 hu
    go_wp2_with (first
      | (refine wpList_alloc65 rfl rfl ?_)
      | (rw [eg]; refine wpList_store_row rfl _ _ _ rfl g tabA rfl rfl 91 tab0 D0 info65 tab_same tabA_one ?_))
    go_ret
    exact ⟨ret_int HF.out.symm, HT.out.2⟩
  obtain ⟨i, hi⟩ : ∃ i, u / 256 = i := ⟨_, rfl⟩
  obtain ⟨f, hf⟩ : ∃ f, u % 256 = f := ⟨_, rfl⟩
  have hi64 : i < 64 := by omega
  have hf256 : f < 256 := by omega
  have hui : (u : Int) / 256 = (i : Int) := by omega
  have huf : (u : Int) - 256 * (i : Int) = (f : Int) := by omega
  have c0 := T0.1.cell i
  rw [tabA_at _ (by omega)] at c0
  have c1 := T0.1.cell (i + 1)
  rw [tabA_at _ (by omega)] at c1
  have b0 := sinT_bd i
  have b1 := sinT_bd (i + 1)
  have hq : qrt u = sinT i + dvr ((sinT (i + 1) - sinT i) * (f : Int)) 256 := by rw [qrt_of u (by omega), hi, hf]
  have bq := qrt_bd u hu
  rw [hq] at bq
  obtain ⟨s0, hs0⟩ : ∃ s, sinT i = s := ⟨_, rfl⟩
  obtain ⟨s1, hs1⟩ : ∃ s, sinT (i + 1) = s := ⟨_, rfl⟩
  rw [hs0, hs1] at hq bq
  rw [hs0] at c0 b0
  rw [hs1] at c1 b1
  have HF := Lib.hid hq
  obtain ⟨p, hp⟩ : ∃ p, (s1 - s0) * (f : Int) = p := ⟨_, rfl⟩
  have bp : -16777216 ≤ p ∧ p ≤ 16777216 := by
    rw [← hp]
    have h1 := Int.mul_le_mul_of_nonneg_right (show s1 - s0 ≤ 65536 by omega) (show (0 : Int) ≤ f by omega)
    have h2 := Int.mul_le_mul_of_nonneg_right (show -65536 ≤ s1 - s0 by omega) (show (0 : Int) ≤ f by omega)
    omega
  rw [hp] at bq
  obtain ⟨dd, hdd⟩ : ∃ dd, dd = dvr p 256 := ⟨_, rfl⟩
  rw [← hdd] at bq
  have HV := Lib.hid (fun W => div_any p 256 (by omega) (by omega) (by omega) (by omega) W)
  have HD := Lib.hid hdd
  have HP := Lib.hid hp
  have e1 : IntKind.i64.wrap ((i : Int) + 1) = (i : Int) + 1 := IntWalk.i64_in _ (by omega)
  have e2 : IntKind.i64.wrap (256 * (i : Int)) = 256 * (i : Int) := IntWalk.i64_in _ (by omega)
  have e3 : IntKind.i64.wrap ((u : Int) - 256 * (i : Int)) = (f : Int) := by rw [huf]; exact IntWalk.i64_in _ (by omega)
  have e4 : IntKind.i64.wrap (s1 - s0) = s1 - s0 := IntWalk.i64_in _ (by omega)
  have e5 : IntKind.i64.wrap ((s1 - s0) * (f : Int)) = p := by rw [hp]; exact IntWalk.i64_in _ (by omega)
  have e6 : IntKind.i64.wrap (s0 + dd) = s0 + dd := IntWalk.i64_in _ (by omega)
  have e7 : ((i : Int) + 1).toNat = i + 1 := by omega
  have e8 : (0 : Int) ≤ (i : Int) + 1 := by omega
  have e9 : ((i : Int) + 1) < 65 := by omega
  have HT := Lib.hid T0
  clear T0 hi hf huf hs0 hs1 hq bq bp hdd hp hu
  go_wp2_with (first
    | (refine wpList_alloc65 rfl rfl ?_)
    | (rw [eg]; refine wpList_store_row rfl _ _ _ rfl g tabA rfl rfl 91 tab0 D0 info65 tab_same tabA_one ?_))
  obtain ⟨W, hW⟩ : ∃ W, W = (w1.alloc (.cells tab0 91)).setRow g tabA := ⟨_, rfl⟩
  rw [← hW] at HT c0 c1 ⊢
  clear hW D0 eg hb
  have hdc : ∀ n, Calls Tryd.prog 55 #[.int .i64 p, .int .i64 256] (W.drewN n) fun e w'' => e = .returned (.int .i64 dd) ∧ ∃ m, w'' = W.drewN m := fun n => quiet_right (by rw [HD.out]; exact HV.out _)
  have HC := Lib.hid hdc
  clear hdc
  go_quiet ((go_at_call 55; exact HC.out _))
  go_wp2
  go_ret
  exact ⟨ret_int (by rw [HF.out, HP.out, ← HD.out]), belowN HT.out.2 _⟩

theorem rQuarter_is (z : Int) (u : Nat) (hz : z = u) (hu : u ≤ 16384) (w : World) :
    Calls Tryd.prog 70 #[.int .i64 z] w fun e w' => e = .returned (.int .i64 (qrt u)) ∧ Below w.heap.size w w' := by
  subst hz
  exact rQuarter_any u hu w

set_option maxHeartbeats 1000000 in
theorem rSine_any (a : Nat) (ha : a < 65536) (w : World) :
    Calls Tryd.prog 68 #[.int .i64 (a : Int)] w fun e w' => e = .returned (.int .i64 (sinA a)) ∧ Below w.heap.size w w' := by
  obtain ⟨q, hq⟩ : ∃ q, a / 16384 = q := ⟨_, rfl⟩
  obtain ⟨r, hr⟩ : ∃ r, a % 16384 = r := ⟨_, rfl⟩
  have hr' : r < 16384 := by omega
  have rq : (a : Int) / 16384 = (q : Int) := by omega
  have rr : (a : Int) - 16384 * (q : Int) = (r : Int) := by omega
  have hF : sinA a = if q = 0 then qrt r else if q = 1 then qrt (16384 - r) else if q = 2 then -qrt r else -qrt (16384 - r) := by rw [sinA, hq, hr]
  have b1 := qrt_bd r (by omega)
  have b2 := qrt_bd (16384 - r) (by omega)
  have hcase : q = 0 ∨ q = 1 ∨ q = 2 ∨ q = 3 := by omega
  obtain ⟨x1, hx1⟩ : ∃ x, qrt r = x := ⟨_, rfl⟩
  obtain ⟨x2, hx2⟩ : ∃ x, qrt (16384 - r) = x := ⟨_, rfl⟩
  rw [hx1, hx2] at hF
  rw [hx1] at b1
  rw [hx2] at b2
  have X1 := Lib.hid hx1
  have X2 := Lib.hid hx2
  clear hq hr hx1 hx2
  rcases hcase with rfl | rfl | rfl | rfl
  · have HF := Lib.hid hF
    clear hF
    go_enter Tryd.func68, Tryd.ntmps68
    go_wp2_with fail
    refine (rQuarter_is _ r (by omega) (by omega) _).mono ?_
    rintro e w' ⟨rfl, hb⟩
    rw [X1.out]
    go_wp2
    go_ret
    exact ⟨ret_int HF.out.symm, hb⟩
  · have HF := Lib.hid hF
    clear hF
    go_enter Tryd.func68, Tryd.ntmps68
    go_wp2_with fail
    refine (rQuarter_is _ (16384 - r) (by omega) (by omega) _).mono ?_
    rintro e w' ⟨rfl, hb⟩
    rw [X2.out]
    go_wp2
    go_ret
    exact ⟨ret_int HF.out.symm, hb⟩
  · have HF := Lib.hid hF
    clear hF
    go_enter Tryd.func68, Tryd.ntmps68
    go_wp2_with fail
    refine (rQuarter_is _ r (by omega) (by omega) _).mono ?_
    rintro e w' ⟨rfl, hb⟩
    rw [X1.out]
    go_wp2
    go_ret
    exact ⟨ret_int HF.out.symm, hb⟩
  · have HF := Lib.hid hF
    clear hF
    go_enter Tryd.func68, Tryd.ntmps68
    go_wp2_with fail
    refine (rQuarter_is _ (16384 - r) (by omega) (by omega) _).mono ?_
    rintro e w' ⟨rfl, hb⟩
    rw [X2.out]
    go_wp2
    go_ret
    exact ⟨ret_int HF.out.symm, hb⟩

theorem rSine_is (z : Int) (a : Nat) (hz : z = a) (ha : a < 65536) (w : World) :
    Calls Tryd.prog 68 #[.int .i64 z] w fun e w' => e = .returned (.int .i64 (sinA a)) ∧ Below w.heap.size w w' := by
  subst hz
  exact rSine_any a ha w

set_option maxHeartbeats 1000000 in
theorem rTurn_any (z : Int) (h0 : -9223372036854775808 ≤ z) (h1 : z ≤ 9223372036854775807) (w : World) :
    Calls Tryd.prog 56 #[.int .i64 z] w fun e w' => e = .returned (.tuple #[.int .i64 (sinZ z), .int .i64 (cosZ z)]) ∧ Below w.heap.size w w' := by
  obtain ⟨a, ha⟩ : ∃ a, (z % 65536).toNat = a := ⟨_, rfl⟩
  have ha2 : a < 65536 := by omega
  have HS : Hid (sinZ z = sinA a) := Lib.hid (by rw [sinZ, ha])
  have HC : Hid (cosZ z = sinA ((a + 16384) % 65536)) := Lib.hid (by rw [cosZ, ha])
  rcases Int.lt_or_le z 0 with hz | hz
  · have ht := tmod_neg (a := z) (b := 65536) (by omega) (by omega)
    have hp := t_parts z 65536
    obtain ⟨T, hT⟩ : ∃ T, z.tmod 65536 = T := ⟨_, rfl⟩
    rw [hT] at ht hp
    have hTa : (T < 0 ∧ (a : Int) = T + 65536) ∨ (T = 0 ∧ a = 0) := by omega
    clear hp ha
    rcases hTa with ⟨hT0, haT⟩ | ⟨rfl, rfl⟩
    · have HT := Lib.hid haT
      have e1 : T + 65536 = (a : Int) := by omega
      clear haT
      go_enter Tryd.func56, Tryd.ntmps56
      go_wp2_with fail
      refine (rSine_is _ a (by omega) ha2 _).mono ?_
      rintro e w1 ⟨rfl, hb1⟩
      go_wp2_with fail
      refine (rSine_is _ ((a + 16384) % 65536) (by omega) (by omega) _).mono ?_
      rintro e w2 ⟨rfl, hb2⟩
      go_wp2
      go_ret2
      exact ⟨ret_two HS.out.symm HC.out.symm, hb1.trans (hb2.mono hb1.size)⟩
    · clear ht ha2
      go_enter Tryd.func56, Tryd.ntmps56
      go_wp2_with fail
      refine (rSine_is _ 0 (by omega) (by omega) _).mono ?_
      rintro e w1 ⟨rfl, hb1⟩
      go_wp2_with fail
      refine (rSine_is _ 16384 (by omega) (by omega) _).mono ?_
      rintro e w2 ⟨rfl, hb2⟩
      go_wp2
      go_ret2
      exact ⟨ret_two HS.out.symm HC.out.symm, hb1.trans (hb2.mono hb1.size)⟩
  · have e1 : z % 65536 = (a : Int) := by omega
    clear ha
    go_enter Tryd.func56, Tryd.ntmps56
    go_wp2_with fail
    refine (rSine_is _ a (by omega) ha2 _).mono ?_
    rintro e w1 ⟨rfl, hb1⟩
    go_wp2_with fail
    refine (rSine_is _ ((a + 16384) % 65536) (by omega) (by omega) _).mono ?_
    rintro e w2 ⟨rfl, hb2⟩
    go_wp2
    go_ret2
    exact ⟨ret_two HS.out.symm HC.out.symm, hb1.trans (hb2.mono hb1.size)⟩

end Go.Proofs.YtflopcogalknhaaDoor.Ref01

/- NumFrame: What every law over package num has in common: the table of sines as the row lists it, and a world that holds it. -/
namespace Go.Proofs.YtflopcogalknhaaDoor.Num
open Go.ChangeShapes Go.WideShapes Go.ChangeAt Go.RowKit Go.Proofs.YtflopcogalknhaaDoor.NumPure

def laidL : List (String × DataW Unit) := [("imageeditor/num.sines", Rows.laid_imageeditor_num_sines)]
theorem gTab : Tryd.prog.globalNamed "imageeditor/num.sines" = some 0 := by kernel_rfl
theorem gTabType : (Tryd.prog.globals[0]?).map (·.type) = some 91 := by kernel_rfl
theorem cellsA : Tryd.prog.cellsOf 91 = 65 := by kernel_rfl
theorem cellsI : Tryd.prog.cellsOf 3 = 1 := by kernel_rfl

theorem tab_of_laid {W : World} (h : laidMetH Tryd.prog [("imageeditor/num.sines", Rows.laid_imageeditor_num_sines)] W) : Tab W := by
  have ht : Lib.TabIs Tryd.prog W "imageeditor/num.sines" .i64 sinL := Lib.tabIs_of_head (rest := []) gTab gTabType Tryd.underlying91 Tryd.underlying3 cellsI cellsA h
  intro i hi
  exact ht.cell gTab i hi

/-- A world for the witness: the settled one, the table holding what its initialiser lays. -/
noncomputable def laidWorld (os : Os) : World :=
  { World.holding Tryd.prog os ⟨#[], #[], []⟩ with heap := (World.holding Tryd.prog os ⟨#[], #[], []⟩).heap.modify 0 fun
      | .cells _ t frozen => .cells (sinL.map (Value.int .i64)).toArray t frozen
      | o => o }

theorem bdrew {W : World} (n : Nat) : Below W.heap.size W (W.drewN n) := by
  have h : Below W.heap.size W W := Below.refl _ _
  exact ⟨h.os, h.tape, h.output, h.size, h.block⟩

end Go.Proofs.YtflopcogalknhaaDoor.Num

/- RegG: Regions that draw their order: a load may be taken first where the cell is written only by operations that wait for the load. -/
namespace Go.Proofs.YtflopcogalknhaaDoor.RegG
open Go

section
variable {P : Program} {ops : Array Oper} {Q : Exit → Act → World → Prop} {md : Region.Mode} {S : Array Bool → World → Prop}

/-- Whatever order is picked from here on, and behind every operation that is carried out S holds of what has come up so far. -/
def wpAnyG (P : Program) (md : Region.Mode) (ops : Array Oper) (Q : Exit → Act → World → Prop) (S : Array Bool → World → Prop) : Nat → Array Bool → Act → World → Prop
  | 0, listed, a, w => Region.ready md ops listed = [] ∧ Q .normal a w
  | fuel + 1, listed, a, w =>
    (Region.ready md ops listed = [] → Q .normal a w) ∧
    ∀ i ∈ Region.ready md ops listed, wpOp P ops Q i (fun a' w' => S (listed.setIfInBounds i true) w' ∧ wpAnyG P md ops Q S fuel (listed.setIfInBounds i true) a' w') a w
theorem wpAny_of_G : ∀ (fuel : Nat) (listed : Array Bool) (a : Act) (w : World), wpAnyG P md ops Q S fuel listed a w → wpAny P md ops Q fuel listed a w
  | 0, _, _, _, h => h
  | fuel + 1, _, _, _, h => ⟨h.1, fun i hi => wpOp_mono (fun a' w' h' => wpAny_of_G fuel _ a' w' h'.2) (h.2 i hi)⟩
/-- What has come up has come up behind what it waits for. -/
def Closed (md : Region.Mode) (ops : Array Oper) (l : Array Bool) : Prop := ∀ j o, ops[j]? = some o → l.getD j false = true → ∀ e ∈ o.after, Region.binds md e = true → l.getD e.on false = true
def closedB (md : Region.Mode) (ops : Array Oper) (l : Array Bool) : Bool := (List.range ops.size).all fun j => match ops[j]? with | none => true | some o => !(l.getD j false) || o.after.all fun e => !(Region.binds md e) || l.getD e.on false
theorem closed_of_B {l : Array Bool} (h : closedB md ops l = true) : Closed md ops l := fun j o ho hl e he hb => by
  have hj : j < ops.size := (Array.getElem?_eq_some_iff.1 ho).1
  have h1 := List.all_eq_true.1 h j (List.mem_range.2 hj)
  simp only [ho, hl, Bool.not_true, Bool.false_or] at h1
  have h2 := Array.all_eq_true_iff_forall_mem.1 h1 e he
  simpa [hb] using h2
theorem Closed.next {l : Array Bool} {j : Nat} (h : Closed md ops l) (hj : j ∈ Region.ready md ops l) : Closed md ops (l.setIfInBounds j true) := fun k o ho hl e he hb => by
  obtain ⟨_, oj, hoj, hall⟩ := mem_ready.1 hj
  by_cases hk : j = k
  · subst hk
    rw [ho] at hoj
    injection hoj with hoj
    subst hoj
    exact getD_set_true (hall e he hb)
  · rw [getD_set_ne false hk] at hl
    exact getD_set_true (h k o ho hl e he hb)
/-- What waits for an operation that has not come up has not come up. -/
theorem Closed.back {l : Array Bool} (h : Closed md ops l) (i j : Nat) {o : Oper} (ho : ops[j]? = some o) (hw : (o.after.toList.any fun e => e.on == i && Region.binds md e) = true) (hi : l.getD i false = false) : l.getD j false = false := by
  obtain ⟨e, he, h2⟩ := List.any_eq_true.1 hw
  simp only [Bool.and_eq_true, beq_iff_eq] at h2
  cases hj : l.getD j false with
  | false => rfl
  | true =>
    have := h j o ho hj e (Array.mem_toList_iff.1 he) h2.2
    rw [h2.1, hi] at this
    cases this
theorem unlisted {l : Array Bool} {i : Nat} (h : l.getD i true = false) : l.getD i false = false := by
  simp only [Array.getD_eq_getD_getElem?] at h ⊢
  cases hl : l[i]? with
  | none => rfl
  | some b => rw [hl] at h; simpa using h

theorem wpAnyG_first {i : Nat} {oi : Oper} {v : Value} (hi : ops[i]? = some oi) (hsel : ∀ (j : Nat) (o : Oper) cs b, ops[j]? = some o → o.op ≠ .select cs b)
    (hQ : ∀ c a w, Q (.panic c) (a.put oi.dst v) w → Q (.panic c) a w) (hSi : ∀ l w, S (l.setIfInBounds i true) w → S l w) :
    ∀ (fuel : Nat) (listed : Array Bool) (a : Act) (w : World),
      (∀ j oj, ops[j]? = some oj → j ≠ i → listed.getD j true = false → (∀ e ∈ oj.after, Region.binds md e = true → e.on ≠ i) → oi.apart ops oj = true) →
      i ∈ Region.ready md ops listed → Closed md ops listed → YieldsIf P ops (fun w => ∃ l, Closed md ops l ∧ l.getD i true = false ∧ S l w) oi v a → S (listed.setIfInBounds i true) w →
      wpAnyG P md ops Q S fuel (listed.setIfInBounds i true) (a.put oi.dst v) w → wpAnyG P md ops Q S (fuel + 1) listed a w := by
  intro fuel
  induction fuel with
  | zero =>
    intro listed a w _ hr hcl hy hS H
    refine ⟨fun h => (by rw [h] at hr; cases hr), fun j hj => ?_⟩
    by_cases hji : j = i
    · subst hji; exact hy.wpOp hi ⟨listed, hcl, (mem_ready.1 hr).1, hSi _ _ hS⟩ ⟨hS, H⟩
    · have := ready_mono hj hji
      rw [H.1] at this
      cases this
  | succ fuel ih =>
    intro listed a w hfree hr hcl hy hS H
    refine ⟨fun h => (by rw [h] at hr; cases hr), fun j hj => ?_⟩
    by_cases hji : j = i
    · subst hji; exact hy.wpOp hi ⟨listed, hcl, (mem_ready.1 hr).1, hSi _ _ hS⟩ ⟨hS, H⟩
    · have h1 := H.2 j (ready_mono hj hji)
      obtain ⟨hjun, oj, hoj, hall⟩ := mem_ready.1 hj
      have hnot : ∀ e ∈ oj.after, Region.binds md e = true → e.on ≠ i := fun e he hb heq => by
        have h1 := hall e he hb
        have h0 := (mem_ready.1 hr).1
        rw [heq] at h1
        rcases Nat.lt_or_ge i listed.size with h' | h'
        · simp [h'] at h0 h1; rw [h0] at h1; cases h1
        · simp [Array.getElem?_eq_none h'] at h1
      have h2 := wpOp_putIf hoj (hfree j oj hoj hji hjun hnot) (fun cs b => hsel i oi cs b hi) (fun cs b => hsel j oj cs b hoj) hQ hy h1
      have hfree' : ∀ k ok, ops[k]? = some ok → k ≠ i → (listed.setIfInBounds j true).getD k true = false →
          (∀ e ∈ ok.after, Region.binds md e = true → e.on ≠ i) → oi.apart ops ok = true := fun k ok hk hki hun hno => by
        refine hfree k ok hk hki ?_ hno
        by_cases hjk : j = k
        · subst hjk; exact hjun
        · rw [getD_set_ne true hjk] at hun; exact hun
      have hcomm : (listed.setIfInBounds i true).setIfInBounds j true = (listed.setIfInBounds j true).setIfInBounds i true := Array.setIfInBounds_comm _ _ (Ne.symm hji)
      rw [hcomm] at h2
      exact wpOp_mono (fun a' w' h3 => ⟨hSi _ _ h3.2.1, ih (listed.setIfInBounds j true) a' w' hfree' (ready_mono hr (Ne.symm hji)) (hcl.next hj) h3.1 h3.2.1 h3.2.2⟩) h2
/-- Take number 'i' first. -/
theorem wpAnyG_take {i : Nat} {oi : Oper} {v : Value} {fuel : Nat} {listed : Array Bool} {a : Act} {w : World} (hi : ops[i]? = some oi)
    (hs : Region.noSelect ops = true) (hf : Region.free md ops listed i = true) (hr : (Region.ready md ops listed).contains i = true)
    (hQ : ∀ c a w, Q (.panic c) (a.put oi.dst v) w → Q (.panic c) a w) (hSi : ∀ l w, S (l.setIfInBounds i true) w → S l w) (hc : closedB md ops listed = true)
    (hy : YieldsIf P ops (fun w => ∃ l, Closed md ops l ∧ l.getD i true = false ∧ S l w) oi v a) (hS : S (listed.setIfInBounds i true) w)
    (h : S (listed.setIfInBounds i true) w → wpAnyG P md ops Q S fuel (listed.setIfInBounds i true) (a.put oi.dst v) w) : wpAnyG P md ops Q S (fuel + 1) listed a w :=
  wpAnyG_first hi (Region.noSelect_spec hs) hQ hSi fuel listed a w (Region.free_spec hi hf) (by simpa using hr) (closed_of_B hc) hy hS (h hS)
theorem wpAnyG_done {listed : Array Bool} {a : Act} {w : World} (hr : Region.ready md ops listed = []) (h : Q .normal a w) :
    ∀ fuel, wpAnyG P md ops Q S fuel listed a w
  | 0 => ⟨hr, h⟩
  | _ + 1 => ⟨fun _ => h, by rw [hr]; simp⟩
def AllReadyG (P : Program) (md : Region.Mode) (ops : Array Oper) (Q : Exit → Act → World → Prop) (S : Array Bool → World → Prop) (fuel : Nat) (listed : Array Bool) (a : Act) (w : World) (rs : List Nat) : Prop :=
  ∀ i ∈ rs, wpOp P ops Q i (fun a' w' => S (listed.setIfInBounds i true) w' ∧ wpAnyG P md ops Q S fuel (listed.setIfInBounds i true) a' w') a w
theorem AllReadyG.nil {fuel : Nat} {listed : Array Bool} {a : Act} {w : World} : AllReadyG P md ops Q S fuel listed a w [] := fun _ h => by cases h
theorem AllReadyG.cons {fuel : Nat} {listed : Array Bool} {a : Act} {w : World} {i : Nat} {o : Oper} {rs : List Nat} (ho : ops[i]? = some o)
    (h : ∀ K' : Act → World → Prop, Shut (∀ a w, S (listed.setIfInBounds i true) w → (S (listed.setIfInBounds i true) w → wpAnyG P md ops Q S fuel (listed.setIfInBounds i true) a w) → K' a w) → if Region.wanted o (yielded ops a.tmps) = true then Oper.wp P o a w K' Q else K' (a.put o.dst undef) w)
    (hs : AllReadyG P md ops Q S fuel listed a w rs) : AllReadyG P md ops Q S fuel listed a w (i :: rs) := fun j hj => by
  rcases List.mem_cons.1 hj with rfl | hj
  · exact wpOp_step ho (fun K' hK => h K' (fun a w hS hW => hK a w ⟨hS, hW hS⟩))
  · exact hs j hj
theorem wpAnyG_ready {rs : List Nat} {fuel : Nat} {listed : Array Bool} {a : Act} {w : World} (hr : Region.ready md ops listed = rs) (hne : rs ≠ [])
    (h : AllReadyG P md ops Q S fuel listed a w rs) : wpAnyG P md ops Q S (fuel + 1) listed a w :=
  ⟨fun h0 => absurd (hr ▸ h0) hne, hr ▸ h⟩
theorem wp_region_G {id : Nat} {a : Act} {w : World} (hm : P.follows .mixedOrders = true) (hS : S (Array.replicate ops.size false) w.drew)
    (h : S (Array.replicate ops.size false) w.drew → wpAnyG P .any ops Q S ops.size (Array.replicate ops.size false) a w.drew) : (Code.region id ops true).wp P Q a w :=
  wp_region_any hm (wpAny_of_G _ _ _ _ (h hS))
end

/-- What holds all along (t), and what holds till operation k has come up (c). -/
structure S1 (k : Nat) (c t : World → Prop) (l : Array Bool) (w : World) : Prop where
  C : l.getD k false = false → c w
  T : t w
structure S2 (k k' : Nat) (c c' t : World → Prop) (l : Array Bool) (w : World) : Prop where
  C : l.getD k false = false → c w
  D : l.getD k' false = false → c' w
  T : t w
section
variable {k k' i : Nat} {c c' t : World → Prop} {l : Array Bool} {w : World}
theorem S1.un (hik : i ≠ k) (h : S1 k c t (l.setIfInBounds i true) w) : S1 k c t l w := ⟨fun hl => h.C (by rw [getD_set_ne false hik]; exact hl), h.T⟩
theorem S1.set (hik : i ≠ k) (h : S1 k c t l w) : S1 k c t (l.setIfInBounds i true) w := ⟨fun hl => h.C (by rw [getD_set_ne false hik] at hl; exact hl), h.T⟩
theorem S2.un (hik : i ≠ k) (hik' : i ≠ k') (h : S2 k k' c c' t (l.setIfInBounds i true) w) : S2 k k' c c' t l w := ⟨fun hl => h.C (by rw [getD_set_ne false hik]; exact hl), fun hl => h.D (by rw [getD_set_ne false hik']; exact hl), h.T⟩
theorem S2.set (hik : i ≠ k) (hik' : i ≠ k') (h : S2 k k' c c' t l w) : S2 k k' c c' t (l.setIfInBounds i true) w := ⟨fun hl => h.C (by rw [getD_set_ne false hik] at hl; exact hl), fun hl => h.D (by rw [getD_set_ne false hik'] at hl; exact hl), h.T⟩
end

end Go.Proofs.YtflopcogalknhaaDoor.RegG
