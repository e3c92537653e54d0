/-
  Layer 21, plain: dashes.
-/
import Derived.Test.YtflopcogalknhaaDoorKStrOb
set_option linter.unusedVariables false
set_option linter.unusedSimpArgs false
namespace Go.Proofs.YtflopcogalknhaaDoor.Str
open Go.RowKit Go.Proofs.YtflopcogalknhaaDoor Go.Proofs.YtflopcogalknhaaDoor.NumPure

/-! the pattern -/
/-- Lengths of dashes and gaps, summed round and round. -/
def psN (p : List Nat) : Nat → Nat
  | 0 => 0
  | n + 1 => psN p n + p.getD (n % p.length) 0
def fnd (p : List Nat) (x : Nat) : Nat → Nat → Nat
  | 0, i => i
  | f + 1, i => if x < psN p (i + 1) then i else fnd p x f (i + 1)
/-- The sum of a pattern. -/
def psS (p : List Nat) : Nat := psN p p.length
/-- The number of the dash or gap at a place. -/
def idx (p : List Nat) (x : Nat) : Nat := fnd p (x % psS p) p.length 0 + x / psS p * p.length
def onB (p : List Nat) (x : Nat) : Bool := decide (idx p x % 2 = 0)
def lft (p : List Nat) (x : Nat) : Nat := psN p (idx p x + 1) - x
def PatB (p : List Nat) : Prop := (0 < p.length ∧ p.length ≤ 16) ∧ ∀ n ∈ p, 1 ≤ n ∧ n ≤ 1048576
theorem pat_at {p : List Nat} (h : PatB p) (i : Nat) : 1 ≤ p.getD (i % p.length) 0 ∧ p.getD (i % p.length) 0 ≤ 1048576 := by
  have hi : i % p.length < p.length := Nat.mod_lt _ h.1.1
  rw [List.getD_eq_getElem?_getD, List.getElem?_eq_getElem hi]
  exact h.2 _ (List.getElem_mem hi)
theorem psN_lt {p : List Nat} (h : PatB p) (i : Nat) : psN p i < psN p (i + 1) := by
  have := pat_at h i
  rw [psN]; omega
theorem psN_mono {p : List Nat} (h : PatB p) (i : Nat) : ∀ d, psN p i ≤ psN p (i + d)
  | 0 => Nat.le_refl _
  | d + 1 => by
    have h1 := psN_mono h i d
    have h2 := psN_lt h (i + d)
    rw [← Nat.add_assoc]; omega
theorem psN_le {p : List Nat} (h : PatB p) {i j : Nat} (hij : i ≤ j) : psN p i ≤ psN p j := by
  have := psN_mono h i (j - i)
  rwa [show i + (j - i) = j by omega] at this
theorem psN_bd {p : List Nat} (h : PatB p) : ∀ i, i ≤ psN p i ∧ psN p i ≤ 1048576 * i
  | 0 => by simp [psN]
  | i + 1 => by
    have h1 := psN_bd h i
    have h2 := pat_at h i
    rw [psN]; omega
theorem psS_bd {p : List Nat} (h : PatB p) : p.length ≤ psS p ∧ psS p ≤ 16777216 := by
  have h1 := psN_bd h p.length
  have h2 := h.1
  unfold psS
  omega
theorem psN_add {p : List Nat} (i : Nat) : psN p (i + p.length) = psN p i + psS p := by
  induction i with
  | zero => rw [Nat.zero_add, psN, Nat.zero_add]; rfl
  | succ i ih => rw [show i + 1 + p.length = i + p.length + 1 by omega, psN, ih, psN, Nat.add_mod_right]; omega
theorem psN_rounds {p : List Nat} (i : Nat) : ∀ q, psN p (i + q * p.length) = psN p i + q * psS p
  | 0 => by simp
  | q + 1 => by
    rw [Nat.succ_mul, ← Nat.add_assoc, psN_add, psN_rounds i q, Nat.succ_mul]; omega
theorem fnd_spec {p : List Nat} {x : Nat} : ∀ f i, psN p i ≤ x → x < psN p (i + f) → psN p (fnd p x f i) ≤ x ∧ x < psN p (fnd p x f i + 1) ∧ fnd p x f i < i + f
  | 0, i, h, h' => by rw [Nat.add_zero] at h'; omega
  | f + 1, i, h, h' => by
    rw [fnd]
    split
    · next hx => exact ⟨h, hx, by omega⟩
    · next hx =>
      have := fnd_spec (p := p) (x := x) f (i + 1) (by omega) (by rwa [show i + 1 + f = i + (f + 1) by omega])
      omega
theorem idx_spec {p : List Nat} (h : PatB p) (x : Nat) : psN p (idx p x) ≤ x ∧ x < psN p (idx p x + 1) := by
  have hs := psS_bd h
  have h0 := h.1
  have hm := Nat.mod_lt x (show 0 < psS p by omega)
  obtain ⟨h1, h2, h3⟩ := fnd_spec (p := p) (x := x % psS p) p.length 0 (by simp [psN]) (by rw [Nat.zero_add]; exact hm)
  have hd := Nat.div_add_mod x (psS p)
  unfold idx
  rw [psN_rounds, show fnd p (x % psS p) p.length 0 + x / psS p * p.length + 1 = fnd p (x % psS p) p.length 0 + 1 + x / psS p * p.length by omega, psN_rounds]
  rw [Nat.mul_comm] at hd
  omega
theorem idx_is {p : List Nat} (h : PatB p) {x m : Nat} (h1 : psN p m ≤ x) (h2 : x < psN p (m + 1)) : idx p x = m := by
  obtain ⟨k1, k2⟩ := idx_spec h x
  rcases Nat.lt_trichotomy (idx p x) m with hh | hh | hh
  · have := psN_le h (show idx p x + 1 ≤ m by omega); omega
  · exact hh
  · have := psN_le h (show m + 1 ≤ idx p x by omega); omega
theorem lft_pos {p : List Nat} (h : PatB p) (x : Nat) : 1 ≤ lft p x ∧ lft p x ≤ 1048576 := by
  obtain ⟨k1, k2⟩ := idx_spec h x
  have := pat_at h (idx p x)
  unfold lft
  rw [psN] at *
  omega
/-- A place, whole double rounds away. -/
theorem idx_rounds {p : List Nat} (h : PatB p) (x q : Nat) : idx p (x + q * psS p) = idx p x + q * p.length := by
  obtain ⟨k1, k2⟩ := idx_spec h x
  refine idx_is h ?_ ?_
  · rw [psN_rounds]; omega
  · rw [show idx p x + q * p.length + 1 = idx p x + 1 + q * p.length by omega, psN_rounds]; omega
theorem onB_rounds {p : List Nat} (h : PatB p) (x q : Nat) : onB p (x + 2 * q * psS p) = onB p x ∧ lft p (x + 2 * q * psS p) = lft p x := by
  obtain ⟨k1, k2⟩ := idx_spec h x
  have e := idx_rounds h x (2 * q)
  unfold onB lft
  rw [e, show idx p x + 2 * q * p.length + 1 = idx p x + 1 + 2 * q * p.length by omega, psN_rounds]
  refine ⟨?_, by omega⟩
  congr 2
  rw [Nat.mul_assoc]
  omega
/-- What checkPattern answers. -/
def ptnE (p : List Int) (o : Int) : Int := if p.length = 0 ∨ 16 < p.length then 1 else if p.any (fun n => decide (n < 1) || decide (1048576 < n)) then 2 else if o < 0 ∨ 1048576 < o then 2 else 0
theorem ptn_ok {p : List Int} {o : Int} (h : ptnE p o = 0) : ∃ (q : List Nat) (f : Nat), p = q.map Int.ofNat ∧ o = (f : Int) ∧ f ≤ 1048576 ∧ PatB q := by
  unfold ptnE at h
  split at h
  · cases h
  · split at h
    · cases h
    · split at h
      · cases h
      · next h1 h2 h3 =>
        have h4 : ∀ n ∈ p, 1 ≤ n ∧ n ≤ 1048576 := fun n hn => by
          have := h2
          simp only [List.any_eq_true, Bool.or_eq_true, decide_eq_true_eq, not_exists, not_and, not_or] at this
          have := this n hn
          omega
        refine ⟨p.map Int.toNat, o.toNat, ?_, by omega, by omega, ⟨by rw [List.length_map]; omega, fun n hn => ?_⟩⟩
        · rw [List.map_map]
          conv => lhs; rw [← List.map_id p]
          apply List.map_congr_left
          intro n hn
          have := h4 n hn
          simp only [id, Function.comp, Int.ofNat_eq_natCast]
          omega
        · obtain ⟨m, hm, rfl⟩ := List.mem_map.1 hn
          have := h4 m hm
          omega

/-! distances -/
/-- The reduced polygon, closed. -/
def lin (l : List P2) (o : Bool) : List P2 := if o = false ∧ 1 < (red l o).length then red l o ++ [(red l o).getD 0 (0, 0)] else red l o
def hypN (a b : P2) : Nat := (Num.hypU (b.1 - a.1) (b.2 - a.2)).toNat
def gp (l : List P2) (i : Nat) : P2 := l.getD i (0, 0)
def atN (l : List P2) : Nat → Nat
  | 0 => 0
  | i + 1 => atN l i + hypN (gp l i) (gp l (i + 1))
def lenN (l : List P2) : Nat := atN l (l.length - 1)
/-- The point at the distance s, on the edge with the number i. -/
def plc (l : List P2) (i s : Nat) : P2 :=
  ((gp l i).1 + dvr (((gp l (i + 1)).1 - (gp l i).1) * ((s : Int) - (atN l i : Nat))) (hypN (gp l i) (gp l (i + 1)) : Nat), (gp l i).2 + dvr (((gp l (i + 1)).2 - (gp l i).2) * ((s : Int) - (atN l i : Nat))) (hypN (gp l i) (gp l (i + 1)) : Nat))
def addp (l : List P2) (p : P2) : List P2 := if l.getLast? = some p then l else l ++ [p]
def pceN (l : List P2) (a b : Nat) : Nat → List P2
  | 0 => []
  | i + 1 => if (atN l (i + 1) ≤ a ∧ i + 2 < l.length) ∨ b ≤ atN l i then pceN l a b i else addp (addp (pceN l a b i) (plc l i (max a (atN l i)))) (plc l i (min b (atN l (i + 1))))
def pce (l : List P2) (a b : Nat) : List P2 := pceN l a b (l.length - 1)
/-- Where the dash or gap at the distance s ends. -/
def nxt (l : List P2) (p : List Nat) (o s : Nat) : Nat := min (s + lft p (o + s)) (lenN l)
def addD (L : List (List P2)) (d : List P2) : List (List P2) := if 1 < d.length then L ++ [d] else L
def stp (l : List P2) (p : List Nat) (o : Nat) (x : Nat × List (List P2)) : Nat × List (List P2) :=
  if x.1 < lenN l ∧ ptsN x.2 ≤ 4096 then (nxt l p o x.1, if onB p (o + x.1) then addD x.2 (pce l x.1 (nxt l p o x.1)) else x.2) else x
def itr (l : List P2) (p : List Nat) (o : Nat) (L : List (List P2)) : Nat → Nat × List (List P2)
  | 0 => (0, L)
  | k + 1 => stp l p o (itr l p o L k)
/-- The dashes of a line. -/
def dsh (L : List (List P2)) (l : List P2) (p : List Nat) (o : Nat) : List (List P2) := (itr l p o L (lenN l)).2
theorem itr_stay {l : List P2} {p : List Nat} {o : Nat} {L : List (List P2)} {k : Nat} (h : ¬ ((itr l p o L k).1 < lenN l ∧ ptsN (itr l p o L k).2 ≤ 4096)) : ∀ d, itr l p o L (k + d) = itr l p o L k
  | 0 => rfl
  | d + 1 => by rw [← Nat.add_assoc, itr, itr_stay h d, stp, if_neg h]
theorem itr_done {l : List P2} {p : List Nat} {o : Nat} {L : List (List P2)} {k s : Nat} {L' : List (List P2)} (h : itr l p o L k = (s, L')) (hk : k ≤ lenN l) (hd : ¬ (s < lenN l ∧ ptsN L' ≤ 4096)) : dsh L l p o = L' := by
  have := itr_stay (l := l) (p := p) (o := o) (L := L) (k := k) (by rw [h]; exact hd) (lenN l - k)
  rw [show k + (lenN l - k) = lenN l by omega] at this
  unfold dsh
  rw [this, h]
theorem itr_step {l : List P2} {p : List Nat} {o : Nat} {L : List (List P2)} {k s : Nat} {L' : List (List P2)} (h : itr l p o L k = (s, L')) (h1 : s < lenN l) (h2 : ptsN L' ≤ 4096) : itr l p o L (k + 1) = (nxt l p o s, if onB p (o + s) then addD L' (pce l s (nxt l p o s)) else L') := by
  rw [itr, h, stp, if_pos ⟨h1, h2⟩]
theorem nxt_gt {p : List Nat} (hp : PatB p) (l : List P2) (o s : Nat) (h : s < lenN l) : s < nxt l p o s ∧ nxt l p o s ≤ lenN l := by
  have := lft_pos hp (o + s)
  unfold nxt
  omega
/-- The dashes of lines; nothing where there are too many points. -/
def runD (ls : List (List P2)) (ob : List Bool) (p : List Nat) (o : Nat) : Nat → Option (List (List P2))
  | 0 => some []
  | i + 1 => match runD ls ob p o i with
    | none => none
    | some L => if 4096 < ptsN (dsh L (lin (ls.getD i []) (ob.getD i false)) p o) then none else some (dsh L (lin (ls.getD i []) (ob.getD i false)) p o)
def dasF (ls : List (List P2)) (ob : List Bool) (p : List Int) (o : Int) : Int × List (List P2) :=
  if ptnE p o ≠ 0 then (ptnE p o, [])
  else if covE ls ≠ 0 then (covE ls, [])
  else if ob.length ≠ ls.length then (15, [])
  else match runD ls ob (p.map Int.toNat) o.toNat ls.length with
    | none => (3, [])
    | some L => (0, L)
theorem runD_none {ls : List (List P2)} {ob : List Bool} {p : List Nat} {o : Nat} {i : Nat} (h : runD ls ob p o i = none) : ∀ d, runD ls ob p o (i + d) = none
  | 0 => h
  | d + 1 => by
    rw [← Nat.add_assoc, runD, runD_none h d]
theorem runD_step {ls : List (List P2)} {ob : List Bool} {p : List Nat} {o : Nat} {i : Nat} {L : List (List P2)} (h : runD ls ob p o i = some L) :
    runD ls ob p o (i + 1) = if 4096 < ptsN (dsh L (lin (ls.getD i []) (ob.getD i false)) p o) then none else some (dsh L (lin (ls.getD i []) (ob.getD i false)) p o) := by
  rw [runD, h]
theorem runD_pts {ls : List (List P2)} {ob : List Bool} {p : List Nat} {o : Nat} : ∀ {i : Nat} {L : List (List P2)}, runD ls ob p o i = some L → ptsN L ≤ 4096
  | 0, L, h => by
    rw [runD] at h
    injection h with h
    subst h
    simp [ptsN]
  | i + 1, L, h => by
    rw [runD] at h
    split at h
    · cases h
    · split at h
      · cases h
      · injection h with h
        subst h
        omega
end Go.Proofs.YtflopcogalknhaaDoor.Str
