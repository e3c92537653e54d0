/-
  Texts of this claim, joined: StrPure, StrBd, StrMem, StrA, StrB, StrW, StrR, StrC.
-/
import Derived.Test.YtflopcogalknhaaDoorKBase
import Derived.Laws.IdiomCopy
import Derived.Laws.AppendOwn
import Derived.Laws.Tables
import Derived.Laws.StructEq
import Derived.Deep.MidRow
import Derived.BigQuiet
import Derived.Lib.Hide
import Derived.Great.BuildSlice
import Derived.Maps.AppendAt
import Derived.OwnWalk
import Derived.Deep.RegionHeld3
import Derived.Deep.DeepCutAuto
set_option linter.unusedVariables false
set_option linter.unusedSimpArgs false

/- StrPure: Layer 21, plain: points, outlines of strokes. -/
namespace Go.Proofs.YtflopcogalknhaaDoor.Str
open Go.RowKit Go.Proofs.YtflopcogalknhaaDoor Go.Proofs.YtflopcogalknhaaDoor.NumPure

abbrev P2 := Int × Int
def pt (p : P2) : List Value := [.int .i64 p.1, .int .i64 p.2]
def pts : List P2 → List Value
  | [] => []
  | p :: l => pt p ++ pts l
def pagg (p : P2) : Value := .agg #[.int .i64 p.1, .int .i64 p.2]
theorem pt_len (p : P2) : (pt p).length = 2 := rfl
theorem pts_len (l : List P2) : (pts l).length = l.length * 2 := by
  induction l with
  | nil => rfl
  | cons k l ih => simp only [pts, List.length_append, pt_len, ih, List.length_cons]; omega
theorem pts_app (l m : List P2) : pts (l ++ m) = pts l ++ pts m := by
  induction l with
  | nil => rfl
  | cons k l ih => simp only [List.cons_append, pts, ih, List.append_assoc]
theorem pts_one (l : List P2) : ∀ u ∈ pts l, u.oneCell' = true := by
  induction l with
  | nil => intro u hu; simp [pts] at hu
  | cons k l ih =>
    intro u hu
    rcases List.mem_append.1 hu with h | h
    · simp only [pt, List.mem_cons, List.not_mem_nil, or_false] at h
      rcases h with rfl | rfl <;> rfl
    · exact ih u h
theorem pts_at (l : List P2) (i : Nat) (h : i < l.length) (c : Nat) (hc : c < 2) : (pts l)[i * 2 + c]? = (pt l[i])[c]? := by
  have e : pts l = pts (l.take i) ++ (pt l[i] ++ pts (l.drop (i + 1))) := by
    rw [← pts, ← pts_app, ← List.drop_eq_getElem_cons h, List.take_append_drop]
  have hl : (pts (l.take i)).length = i * 2 := by rw [pts_len, List.length_take, Nat.min_eq_left (by omega)]
  rw [e, List.getElem?_append_right (by omega), hl, Nat.add_sub_cancel_left, List.getElem?_append_left (by rw [pt_len]; exact hc)]
theorem pts_take (l : List P2) (i : Nat) : (pts l).take (i * 2) = pts (l.take i) := by
  by_cases h : i ≤ l.length
  · have e : pts l = pts (l.take i) ++ pts (l.drop i) := by rw [← pts_app, List.take_append_drop]
    rw [e, List.take_left' (by rw [pts_len, List.length_take]; omega)]
  · rw [List.take_of_length_le (by rw [pts_len]; omega), List.take_of_length_le (by omega)]
theorem pt_inj {a b : P2} (h : pt a = pt b) : a = b := by
  obtain ⟨a0, a1⟩ := a
  obtain ⟨b0, b1⟩ := b
  simp only [pt, List.cons.injEq, Value.int.injEq, true_and, and_true] at h
  obtain ⟨rfl, rfl⟩ := h
  rfl

/-! vectors -/
def pl (a b : P2) : P2 := (a.1 + b.1, a.2 + b.2)
def mi (a b : P2) : P2 := (a.1 - b.1, a.2 - b.2)
def sumN (f : Nat → Int) : Nat → Int
  | 0 => 0
  | n + 1 => sumN f n + f n
/-- A point of a list by its number, round and round. -/
def nx (l : List P2) (i : Nat) : P2 := l.getD (i % l.length) (0, 0)
def cr (a b : P2) : Int := a.1 * b.2 - b.1 * a.2
def areaN (l : List P2) (n : Nat) : Int := sumN (fun i => cr (nx l i) (nx l (i + 1))) n
def area (l : List P2) : Int := areaN l l.length
def put (L : List (List P2)) (l : List P2) : List (List P2) := if area l = 0 then L else if area l < 0 then L ++ [l.reverse] else L ++ [l]
def hyp16 (a b : P2) : Int := Num.hypU (16 * (b.1 - a.1)) (16 * (b.2 - a.2))
def nrm (w : Int) (a b : P2) : P2 := (dvr (-8 * w * (b.2 - a.2)) (hyp16 a b), dvr (8 * w * (b.1 - a.1)) (hyp16 a b))
def ext (w : Int) (a b : P2) : P2 := (dvr (8 * w * (b.1 - a.1)) (hyp16 a b), dvr (8 * w * (b.2 - a.2)) (hyp16 a b))
def crcP (w : Int) (c : P2) (k : Nat) : P2 := (c.1 + dvr (w * cosZ (4096 * k)) 131072, c.2 + dvr (w * sinZ (4096 * k)) 131072)
def crcN (w : Int) (c : P2) (n : Nat) : List P2 := (List.range n).map (crcP w c)
def crc (w : Int) (c : P2) : List P2 := crcN w c 16
def tri (c m n : P2) (up : Bool) : List P2 := if up then [c, pl c m, pl c n] else [c, mi c m, mi c n]
def zV (a c b : P2) : Int := (c.1 - a.1) * (b.2 - c.2) - (c.2 - a.2) * (b.1 - c.1)
def kV (w : Int) (m n : P2) : Int := w * w + 4 * (m.1 * n.1 + m.2 * n.2)
def tV (w : Int) (m n : P2) : P2 := (dvr (w * w * (m.1 + n.1)) (kV w m n), dvr (w * w * (m.2 + n.2)) (kV w m n))
def mitre (c m t n : P2) (dn : Bool) : List P2 := if dn then [c, mi c m, mi c t, mi c n] else [c, pl c m, pl c t, pl c n]
/-- The join of two edges, from a to c and from c to b. -/
def crn (w j : Int) (L : List (List P2)) (a c b : P2) : List (List P2) :=
  if j = 1 then put L (crc w c)
  else
    let L2 := put (put L (tri c (nrm w a c) (nrm w c b) true)) (tri c (nrm w a c) (nrm w c b) false)
    if j = 2 ∨ zV a c b = 0 ∨ kV w (nrm w a c) (nrm w c b) ≤ 0 then L2
    else if 4 * w < Num.hypU (tV w (nrm w a c) (nrm w c b)).1 (tV w (nrm w a c) (nrm w c b)).2 then L2
    else put L2 (mitre c (nrm w a c) (tV w (nrm w a c) (nrm w c b)) (nrm w c b) (decide (0 < zV a c b)))
def sngB (r : Int) (c : P2) : List P2 := [(c.1 - r, c.2 - r), (c.1 + r, c.2 - r), (c.1 + r, c.2 + r), (c.1 - r, c.2 + r)]
def sng (w e : Int) (L : List (List P2)) (c : P2) : List (List P2) := if e = 1 then put L (crc w c) else if e = 2 then put L (sngB (dvr w 2) c) else L
def quad (a b v : P2) : List P2 := [pl a v, pl b v, mi b v, mi a v]
def edgL (w : Int) (l : List P2) (L : List (List P2)) : Nat → List (List P2)
  | 0 => L
  | i + 1 => put (edgL w l L i) (quad (nx l i) (nx l (i + 1)) (nrm w (nx l i) (nx l (i + 1))))
/-- Whether a polygon has a corner at the point with the number i. -/
def hasC (o : Bool) (n i : Nat) : Bool := !o || (decide (0 < i) && decide (i + 1 < n))
def crnL (w j : Int) (o : Bool) (l : List P2) (L : List (List P2)) : Nat → List (List P2)
  | 0 => L
  | i + 1 => if hasC o l.length i then crn w j (crnL w j o l L i) (nx l (i + l.length - 1)) (nx l i) (nx l (i + 1)) else crnL w j o l L i
def capA (a v e : P2) : List P2 := [pl (mi a e) v, pl a v, mi a v, mi (mi a e) v]
def capB (b v e : P2) : List P2 := [pl b v, pl (pl b e) v, mi (pl b e) v, mi b v]
def cap (w e : Int) (L : List (List P2)) (a a1 b1 b : P2) : List (List P2) :=
  if e = 1 then put (put L (crc w a)) (crc w b)
  else if e = 2 then put (put L (capA a (nrm w a a1) (ext w a a1))) (capB b (nrm w b1 b) (ext w b1 b))
  else L
def nEdg (o : Bool) (n : Nat) : Nat := if o then n - 1 else n
/-- The stroke of a reduced polygon. -/
def one (w j e : Int) (o : Bool) (L : List (List P2)) (l : List P2) : List (List P2) :=
  if l.length = 0 then L
  else if l.length = 1 then sng w e L (nx l 0)
  else
    let L2 := crnL w j o l (edgL w l L (nEdg o l.length)) l.length
    if o then cap w e L2 (nx l 0) (nx l 1) (nx l (l.length - 2)) (nx l (l.length - 1)) else L2

/-! the reduced polygon -/
def ddN (l : List P2) : Nat → List P2
  | 0 => []
  | i + 1 => if ddN l i = [] ∨ (ddN l i).getLast? ≠ some (l.getD i (0, 0)) then ddN l i ++ [l.getD i (0, 0)] else ddN l i
def trm (o : Bool) (l : List P2) : Nat → List P2
  | 0 => l.take 0
  | n + 1 => if o = false ∧ 1 < n + 1 ∧ l.getD n (0, 0) = l.getD 0 (0, 0) then trm o l n else l.take (n + 1)
def red (l : List P2) (o : Bool) : List P2 := trm o (ddN l l.length) (ddN l l.length).length

def ptsN (L : List (List P2)) : Nat := (L.map List.length).sum
/-- What Check of the stroke's parameters answers. -/
def chkE (w j e : Int) : Int := if w < 1 ∨ 4096 < w then 2 else if j < 0 ∨ 2 < j ∨ e < 0 ∨ 2 < e then 8 else 0
end Go.Proofs.YtflopcogalknhaaDoor.Str

/- StrBd: Layer 21, plain: bounds. -/
namespace Go.Proofs.YtflopcogalknhaaDoor.Str
open Go.RowKit Go.Proofs.YtflopcogalknhaaDoor Go.Proofs.YtflopcogalknhaaDoor.NumPure

def Inb (B : Int) (p : P2) : Prop := (-B ≤ p.1 ∧ p.1 ≤ B) ∧ -B ≤ p.2 ∧ p.2 ≤ B
theorem Inb.mono {B B' : Int} {p : P2} (h : Inb B p) (hb : B ≤ B') : Inb B' p := by unfold Inb at *; omega
theorem mul_in {a b A B : Int} (h0 : -A ≤ a) (h1 : a ≤ A) (g0 : -B ≤ b) (g1 : b ≤ B) : -(A * B) ≤ a * b ∧ a * b ≤ A * B := by
  have hA : 0 ≤ A := by omega
  have hB : 0 ≤ B := by omega
  have h := Int.natAbs_mul a b
  have ha : a.natAbs ≤ A.natAbs := by omega
  have hb : b.natAbs ≤ B.natAbs := by omega
  have hm := Nat.mul_le_mul ha hb
  rw [← h] at hm
  have e : ((A.natAbs * B.natAbs : Nat) : Int) = A * B := by
    rw [Int.natCast_mul, Int.natAbs_of_nonneg hA, Int.natAbs_of_nonneg hB]
  have hx : ((a * b).natAbs : Int) ≤ A * B := by rw [← e]; exact Int.ofNat_le.2 hm
  omega
theorem dvr_bd {a h c : Int} (h0 : 0 ≤ h) (c0 : 0 ≤ c) (a0 : -(c * h) ≤ a) (a1 : a ≤ c * h) : -c ≤ dvr a h ∧ dvr a h ≤ c := by
  by_cases hz : h = 0
  · subst hz; rw [dvr_zero]; omega
  have hp : 0 < h := by omega
  have hq := Int.mul_ediv_add_emod a h
  have r0 := Int.emod_nonneg a hz
  have r1 := Int.emod_lt_of_pos a hp
  have hf : a.fdiv h = a / h := Int.fdiv_eq_ediv_of_nonneg _ (by omega)
  have lo : -c ≤ a / h := by
    rw [Int.le_ediv_iff_mul_le hp, Int.neg_mul]
    exact a0
  have hi : a / h ≤ c := by
    have : a / h ≤ c * h / h := Int.ediv_le_ediv hp a1
    rwa [Int.mul_ediv_cancel _ hz] at this
  unfold dvr
  rw [if_neg hz, if_neg (by omega)]
  split
  · next hu =>
    refine ⟨by omega, ?_⟩
    rw [hf]
    by_cases he : a / h = c
    · exfalso
      unfold up at hu
      rw [hf, he, decide_eq_true_eq] at hu
      rw [he] at hq
      have : h * c = c * h := Int.mul_comm _ _
      omega
    · omega
  · rw [hf]; omega
theorem dvr_abs {a b A : Int} (h0 : 1 ≤ b) (a0 : -A ≤ a) (a1 : a ≤ A) : -A ≤ dvr a b ∧ dvr a b ≤ A := by
  have hA : 0 ≤ A := by omega
  have : A * 1 ≤ A * b := Int.mul_le_mul_of_nonneg_left h0 hA
  exact dvr_bd (by omega) hA (by omega) (by omega)
theorem hyp_ge {x y : Int} (hx : -4611686018427387904 ≤ x ∧ x ≤ 4611686018427387904) (hy : -4611686018427387904 ≤ y ∧ y ≤ 4611686018427387904) :
    0 ≤ Num.hypU x y ∧ Num.hypU x y ≤ 9223372036854775807 ∧ (x.natAbs : Int) ≤ Num.hypU x y ∧ (y.natAbs : Int) ≤ Num.hypU x y := by
  obtain ⟨a, ha⟩ : ∃ a, x.natAbs = a := ⟨_, rfl⟩
  obtain ⟨b, hb⟩ : ∃ b, y.natAbs = b := ⟨_, rfl⟩
  have ha1 : a ≤ 4611686018427387904 := by omega
  have hb1 : b ≤ 4611686018427387904 := by omega
  have m1 := Nat.mul_le_mul ha1 ha1
  have m2 := Nat.mul_le_mul hb1 hb1
  unfold Num.hypU
  rw [ha, hb]
  obtain ⟨s1, s2⟩ := sqGo_spec (a * a + b * b) 64 0 (by omega) (by simp; omega)
  obtain ⟨r, hr⟩ : ∃ r, sqGo (a * a + b * b) 64 0 = r := ⟨_, rfl⟩
  rw [hr] at s1 s2 ⊢
  have g : ∀ c, c * c ≤ a * a + b * b → c ≤ r := fun c hc => by
    rcases Nat.lt_or_ge r c with h | h
    · have := Nat.mul_le_mul (show r + 1 ≤ c by omega) (show r + 1 ≤ c by omega)
      omega
    · exact h
  have g1 := g a (by omega)
  have g2 := g b (by omega)
  omega
theorem nrm_c {w x h : Int} (w1 : 1 ≤ w) (w2 : w ≤ 4096) (hx : -33554432 ≤ x ∧ x ≤ 33554432) (hh : (16 * x).natAbs ≤ h) : -2048 ≤ dvr (8 * w * x) h ∧ dvr (8 * w * x) h ≤ 2048 := by
  have := mul_in (a := 8 * w) (b := x) (A := 32768) (B := x.natAbs) (by omega) (by omega) (by omega) (by omega)
  exact dvr_bd (by omega) (by omega) (by omega) (by omega)
theorem nrm_d {w x h : Int} (w1 : 1 ≤ w) (w2 : w ≤ 4096) (hx : -33554432 ≤ x ∧ x ≤ 33554432) (hh : (16 * x).natAbs ≤ h) : -2048 ≤ dvr (-8 * w * x) h ∧ dvr (-8 * w * x) h ≤ 2048 := by
  have := mul_in (a := -8 * w) (b := x) (A := 32768) (B := x.natAbs) (by omega) (by omega) (by omega) (by omega)
  exact dvr_bd (by omega) (by omega) (by omega) (by omega)
theorem nrm_in {w : Int} {a b : P2} (w1 : 1 ≤ w) (w2 : w ≤ 4096) (ha : Inb 16777216 a) (hb : Inb 16777216 b) : Inb 2048 (nrm w a b) ∧ Inb 2048 (ext w a b) := by
  unfold Inb at ha hb
  have h := hyp_ge (x := 16 * (b.1 - a.1)) (y := 16 * (b.2 - a.2)) (by omega) (by omega)
  unfold nrm ext hyp16
  obtain ⟨_, _, h1, h2⟩ := h
  exact ⟨⟨nrm_d w1 w2 (by omega) h2, nrm_c w1 w2 (by omega) h1⟩, ⟨nrm_c w1 w2 (by omega) h1, nrm_c w1 w2 (by omega) h2⟩⟩
theorem sinA_in (a : Nat) : -65536 ≤ sinA a ∧ sinA a ≤ 65536 := by
  have h1 := qrt_bd (a % 16384) (by omega)
  have h2 := qrt_bd (16384 - a % 16384) (by omega)
  unfold sinA
  split
  · omega
  · split
    · omega
    · split <;> omega
theorem sin_in (z : Int) : -65536 ≤ sinZ z ∧ sinZ z ≤ 65536 := sinA_in _
theorem cos_in (z : Int) : -65536 ≤ cosZ z ∧ cosZ z ≤ 65536 := sinA_in _
theorem circ_d {w s : Int} (w1 : 1 ≤ w) (w2 : w ≤ 4096) (s0 : -65536 ≤ s) (s1 : s ≤ 65536) : (-268435456 ≤ w * s ∧ w * s ≤ 268435456) ∧ -2048 ≤ dvr (w * s) 131072 ∧ dvr (w * s) 131072 ≤ 2048 := by
  have h := mul_in (a := w) (b := s) (A := 4096) (B := 65536) (by omega) (by omega) s0 s1
  exact ⟨by omega, dvr_bd (by omega) (by omega) (by omega) (by omega)⟩
theorem crcP_in {w : Int} {c : P2} (w1 : 1 ≤ w) (w2 : w ≤ 4096) (hc : Inb 16777216 c) (k : Nat) : Inb 16793600 (crcP w c k) := by
  have h1 := (circ_d w1 w2 (cos_in (4096 * k)).1 (cos_in (4096 * k)).2).2
  have h2 := (circ_d w1 w2 (sin_in (4096 * k)).1 (sin_in (4096 * k)).2).2
  unfold crcP Inb at *
  dsimp only
  omega
theorem pl_in {A B : Int} {a b : P2} (ha : Inb A a) (hb : Inb B b) : Inb (A + B) (pl a b) := by unfold Inb pl at *; dsimp only; omega
theorem mi_in {A B : Int} {a b : P2} (ha : Inb A a) (hb : Inb B b) : Inb (A + B) (mi a b) := by unfold Inb mi at *; dsimp only; omega
theorem half_in {w : Int} (w1 : 1 ≤ w) (w2 : w ≤ 4096) : 0 ≤ dvr w 2 ∧ dvr w 2 ≤ 2048 := by
  have h := dvr_bd (a := w) (h := 2) (c := 2048) (by omega) (by omega) (by omega) (by omega)
  refine ⟨?_, h.2⟩
  unfold dvr
  rw [if_neg (by omega), if_neg (by omega), Int.fdiv_eq_ediv_of_nonneg _ (by omega)]
  split <;> omega
theorem k_in {w : Int} {m n : P2} (w1 : 1 ≤ w) (w2 : w ≤ 4096) (hm : Inb 2048 m) (hn : Inb 2048 n) : (1 ≤ w * w ∧ w * w ≤ 16777216) ∧ (-4194304 ≤ m.1 * n.1 ∧ m.1 * n.1 ≤ 4194304) ∧ (-4194304 ≤ m.2 * n.2 ∧ m.2 * n.2 ≤ 4194304) := by
  obtain ⟨⟨a0, a1⟩, a2, a3⟩ := hm
  obtain ⟨⟨b0, b1⟩, b2, b3⟩ := hn
  have h1 := mul_in (a := w) (b := w) (A := 4096) (B := 4096) (by omega) (by omega) (by omega) (by omega)
  have h2 := mul_in a0 a1 b0 b1
  have h3 := mul_in a2 a3 b2 b3
  have h4 : 1 * w ≤ w * w := Int.mul_le_mul_of_nonneg_right w1 (by omega)
  omega
theorem tnum {w x y : Int} (w1 : 1 ≤ w) (w2 : w ≤ 4096) (x0 : -2048 ≤ x ∧ x ≤ 2048) (y0 : -2048 ≤ y ∧ y ≤ 2048) : -68719476736 ≤ w * w * (x + y) ∧ w * w * (x + y) ≤ 68719476736 := by
  have h1 := mul_in (a := w) (b := w) (A := 4096) (B := 4096) (by omega) (by omega) (by omega) (by omega)
  have h2 := mul_in (a := w * w) (b := x + y) (A := 16777216) (B := 4096) (by omega) (by omega) (by omega) (by omega)
  omega
theorem tin {w : Int} {m n : P2} (w1 : 1 ≤ w) (w2 : w ≤ 4096) (hm : Inb 2048 m) (hn : Inb 2048 n) (hk : 1 ≤ kV w m n) : Inb 68719476736 (tV w m n) := by
  obtain ⟨⟨a0, a1⟩, a2, a3⟩ := hm
  obtain ⟨⟨b0, b1⟩, b2, b3⟩ := hn
  have h1 := tnum w1 w2 ⟨a0, a1⟩ ⟨b0, b1⟩
  have h2 := tnum w1 w2 ⟨a2, a3⟩ ⟨b2, b3⟩
  exact ⟨dvr_abs hk h1.1 h1.2, dvr_abs hk h2.1 h2.2⟩
theorem tsmall {w : Int} {t : P2} (w2 : w ≤ 4096) (ht : Inb 68719476736 t) (hh : ¬ 4 * w < Num.hypU t.1 t.2) : Inb 16384 t := by
  obtain ⟨⟨a0, a1⟩, a2, a3⟩ := ht
  have h := hyp_ge (x := t.1) (y := t.2) (by omega) (by omega)
  unfold Inb
  omega

/-- All points of a list within a bound. -/
def AllB (B : Int) (l : List P2) : Prop := ∀ p ∈ l, Inb B p
theorem nx_in {B : Int} {l : List P2} (h : AllB B l) (hB : 0 ≤ B) (i : Nat) : Inb B (nx l i) := by
  unfold nx
  by_cases h0 : i % l.length < l.length
  · rw [List.getD_eq_getElem?_getD, List.getElem?_eq_getElem h0]
    exact h _ (List.getElem_mem h0)
  · rw [List.getD_eq_getElem?_getD, List.getElem?_eq_none (by omega)]
    exact ⟨⟨by simpa using hB, hB⟩, by simpa using hB, hB⟩
theorem cr_in {a b : P2} (ha : Inb 33554432 a) (hb : Inb 33554432 b) : (-1125899906842624 ≤ a.1 * b.2 ∧ a.1 * b.2 ≤ 1125899906842624) ∧ (-1125899906842624 ≤ b.1 * a.2 ∧ b.1 * a.2 ≤ 1125899906842624) ∧ -2251799813685248 ≤ cr a b ∧ cr a b ≤ 2251799813685248 := by
  have h1 := mul_in ha.1.1 ha.1.2 hb.2.1 hb.2.2
  have h2 := mul_in hb.1.1 hb.1.2 ha.2.1 ha.2.2
  unfold cr
  omega
theorem area_in {l : List P2} (h : AllB 33554432 l) : ∀ n : Nat, -(2251799813685248 * (n : Int)) ≤ areaN l n ∧ areaN l n ≤ 2251799813685248 * (n : Int)
  | 0 => by unfold areaN sumN; omega
  | n + 1 => by
    have ih := area_in h n
    have hc := (cr_in (nx_in h (by omega) n) (nx_in h (by omega) (n + 1))).2.2
    unfold areaN at ih ⊢
    rw [sumN]
    omega
theorem nx_at {l : List P2} {i : Nat} (h : i < l.length) : nx l i = l[i] := by
  unfold nx
  rw [Nat.mod_eq_of_lt h, List.getD_eq_getElem?_getD, List.getElem?_eq_getElem h]
  rfl
theorem nx_mod {l : List P2} {i j : Nat} (h : i % l.length = j) (hj : j < l.length) : nx l i = l[j] := by
  unfold nx
  rw [h, List.getD_eq_getElem?_getD, List.getElem?_eq_getElem hj]
  rfl
end Go.Proofs.YtflopcogalknhaaDoor.Str

/- StrMem: Layer 21: memory: what a call leaves, named blocks, points that are read. -/
namespace Go.Proofs.YtflopcogalknhaaDoor.Str
open Go.RowKit Go.Proofs.YtflopcogalknhaaDoor Go.Proofs.YtflopcogalknhaaDoor.NumPure

/-- w' is w but for new blocks and the blocks on the list. -/
structure Tch (M : List Nat) (w w' : World) : Prop where
  os : w'.os = w.os
  tape : w'.tape = w.tape
  output : w'.output = w.output
  size : w.heap.size ≤ w'.heap.size
  block : ∀ k, k < w.heap.size → k ∉ M → w'.heap[k]? = w.heap[k]?
section
variable {w w' w1 : World} {M M' : List Nat}
theorem Tch.refl (M : List Nat) (w : World) : Tch M w w := ⟨rfl, rfl, rfl, Nat.le_refl _, fun _ _ _ => rfl⟩
theorem Tch.trans (h : Tch M w w1) (h' : Tch M' w1 w') (hm : ∀ k ∈ M', k ∈ M ∨ w.heap.size ≤ k) : Tch M w w' :=
  ⟨h'.os.trans h.os, h'.tape.trans h.tape, h'.output.trans h.output, Nat.le_trans h.size h'.size, fun k hk hn =>
    (h'.block k (Nat.lt_of_lt_of_le hk h.size) (fun e => by rcases hm k e with h1 | h1; exact hn h1; omega)).trans (h.block k hk hn)⟩
theorem Tch.mono (h : Tch M w w') (hm : ∀ k ∈ M, k ∈ M' ∨ w.heap.size ≤ k) : Tch M' w w' :=
  ⟨h.os, h.tape, h.output, h.size, fun k hk hn => h.block k hk (fun e => by rcases hm k e with h1 | h1; exact hn h1; omega)⟩
theorem Tch.drew (h : Tch M w w') : Tch M w w'.drew := ⟨h.os, h.tape, h.output, h.size, h.block⟩
theorem Tch.alloc (h : Tch M w w') (o : Obj) : Tch M w (w'.alloc o) :=
  ⟨h.os, h.tape, h.output, Nat.le_trans h.size (by simp), fun k hk hn => (Below.heap_alloc w' o k (Nat.lt_of_lt_of_le hk h.size)).trans (h.block k hk hn)⟩
theorem Tch.setCell (h : Tch M w w') {p : Addr} (hp : p.block ∈ M ∨ w.heap.size ≤ p.block) (u : Value) : Tch M w (w'.setCell p u) :=
  ⟨h.os, h.tape, h.output, by simpa [World.setCell] using h.size, fun k hk hn => (Below.heap_setCell w' p u k (fun e => by subst e; rcases hp with h1 | h1; exact hn h1; omega)).trans (h.block k hk hn)⟩
theorem Tch.grown {row : Option Nat} (h : Tch M w w1) (hg : w1.grownBy w' row) (hr : ∀ k, row = some k → k ∈ M ∨ w.heap.size ≤ k) : Tch M w w' :=
  ⟨hg.os.trans h.os, hg.tape.trans h.tape, hg.output.trans h.output, Nat.le_trans h.size hg.size, fun k hk hn =>
    (hg.block k (Nat.lt_of_lt_of_le hk h.size) (fun e => by rcases hr k e.symm with h1 | h1; exact hn h1; omega)).trans (h.block k hk hn)⟩
theorem Tch.below (h : Tch M w w1) (hb : Below w1.heap.size w1 w') : Tch M w w' :=
  ⟨hb.os.trans h.os, hb.tape.trans h.tape, hb.output.trans h.output, Nat.le_trans h.size hb.size, fun k hk hn => (hb.block k (Nat.lt_of_lt_of_le hk h.size)).trans (h.block k hk hn)⟩
theorem Tch.to_below {B : Nat} (h : Tch M w w') (hB : B ≤ w.heap.size) (hm : ∀ k ∈ M, B ≤ k) : Below B w w' :=
  ⟨h.os, h.tape, h.output, h.size, fun k hk => h.block k (by omega) (fun e => by have := hm k e; omega)⟩
theorem Tch.blk {g : Nat} {t : TypeId} {cs : Array Value} (h : Tch M w w') (hb : Blk w g t cs) (hg : g ∉ M) : Blk w' g t cs := (h.block g hb.lt hg).trans hb
theorem own_at {base e size n : Nat} {v : Value} {xs : List Value} (h : w.ownsRow base e size v n xs) (hk : ∀ k, v.ownBlock = some k → w'.heap[k]? = w.heap[k]?) : w'.ownsRow base e size v n xs := by
  refine ⟨h.1, ?_⟩
  rcases h.2 with h0 | ⟨g, cap, cur, rfl, hb, hh, r⟩
  · exact .inl h0
  · exact .inr ⟨g, cap, cur, rfl, hb, (hk g (by simp [Value.ownBlock])).trans hh, r⟩
theorem own_lt {base e size n : Nat} {v : Value} {xs : List Value} (h : w.ownsRow base e size v n xs) : ∀ k, v.ownBlock = some k → k < w.heap.size := fun k hk => by
  rcases h.2 with ⟨rfl, rfl⟩ | ⟨g, cap, cur, rfl, _, hh, _⟩
  · simp [Value.ownBlock] at hk
  · obtain rfl : g = k := by simpa [Value.ownBlock] using hk
    exact (Array.getElem?_eq_some_iff.1 hh).1
theorem own_low {base e size n : Nat} {v : Value} {xs : List Value} (h : w.ownsRow base e size v n xs) : ∀ k, v.ownBlock = some k → base ≤ k := fun k hk => by
  rcases h.2 with ⟨rfl, rfl⟩ | ⟨g, cap, cur, rfl, hb, hh, _⟩
  · simp [Value.ownBlock] at hk
  · obtain rfl : g = k := by simpa [Value.ownBlock] using hk
    exact hb
theorem Tch.own {base e size n : Nat} {v : Value} {xs : List Value} (h : Tch M w w') (ho : w.ownsRow base e size v n xs) (hk : ∀ k, v.ownBlock = some k → k ∉ M) : w'.ownsRow base e size v n xs :=
  own_at ho fun k e => h.block k (own_lt ho k e) (hk k e)
theorem blk_ne {g g' : Nat} {t t' : TypeId} {cs cs' : Array Value} (h : Blk w g t cs) (h' : Blk w g' t' cs') (hne : t ≠ t') : g ≠ g' := by
  rintro rfl; unfold Blk at h h'; rw [h] at h'; injection h' with h'; injection h' with _ ht; exact hne ht
theorem own_ne_blk {base g : Nat} {e t : TypeId} {size n : Nat} {v : Value} {xs : List Value} {cs : Array Value} (h : w.ownsRow base e size v n xs) (hg : Blk w g t cs) (hne : e ≠ t) : ∀ k, v.ownBlock = some k → k ≠ g := by
  rcases h.2 with ⟨rfl, _⟩ | ⟨g', cap, cur, rfl, _, hh, _⟩
  · intro k hk; simp [Value.ownBlock] at hk
  · intro k hk; have : g' = k := by simpa [Value.ownBlock] using hk
    subst this; exact blk_ne (t := e) hh hg hne
theorem own_ne_own {b1 b2 e1 e2 s1 s2 n1 n2 : Nat} {v1 v2 : Value} {x1 x2 : List Value} (h1 : w.ownsRow b1 e1 s1 v1 n1 x1) (h2 : w.ownsRow b2 e2 s2 v2 n2 x2) (hne : e1 ≠ e2) : ∀ k, v1.ownBlock = some k → ∀ j, v2.ownBlock = some j → k ≠ j := by
  rcases h2.2 with ⟨rfl, rfl⟩ | ⟨g, cap, cur, rfl, _, hh, _⟩
  · intro k _ j hj; simp [Value.ownBlock] at hj
  · intro k hk j hj; have : g = j := by simpa [Value.ownBlock] using hj
    subst this; exact own_ne_blk h1 (g := g) (t := e2) (cs := cur) hh hne k hk
end
/-- The block of a row, as a list. -/
def bl (v : Value) : List Nat := v.ownBlock.toList
theorem mem_bl {v : Value} {k : Nat} : k ∈ bl v ↔ v.ownBlock = some k := by simp [bl]
/-- A row, opened: its slice, and how its cells read. -/
theorem own_open {w : World} {base e size n : Nat} {v : Value} {xs : List Value} (h : w.ownsRow base e size v n xs) : ∃ A cap, v = .slice A n cap ∧ n ≤ cap ∧ Reads w w.heap.size size A n xs := by
  rcases h.2 with ⟨rfl, rfl⟩ | ⟨g, cap, cur, rfl, hb, hh, hn, _⟩
  · exact ⟨none, 0, rfl, Nat.le_refl _, Reads.of_own h⟩
  · exact ⟨_, cap, rfl, hn, Reads.of_own h⟩

/-- Blocks with their numbers, types and cells, in a world that has grown out of w. -/
abbrev Ent := Nat × TypeId × Array Value
structure Bn (w W : World) (L : List Ent) : Prop where
  b : Below w.heap.size w W
  at_ : ∀ (i : Nat) (x : Ent), L[i]? = some x → Blk W x.1 x.2.1 x.2.2
theorem Bn.get {w W : World} {L : List Ent} (h : Bn w W L) (i : Nat) {g : Nat} {t : TypeId} {cs : Array Value} (hx : L[i]? = some (g, t, cs)) : Blk W g t cs := h.at_ i _ hx
theorem Bn.drew {w W : World} {L : List Ent} (h : Bn w W L) : Bn w W.drew L := ⟨h.b.drew, fun i x hx => (h.at_ i x hx).drew⟩
theorem Bn.below {w W W' : World} {L : List Ent} (h : Bn w W L) (hb : Below W.heap.size W W') : Bn w W' L := ⟨h.b.trans (hb.mono h.b.size), fun i x hx => (h.at_ i x hx).below hb (h.at_ i x hx).lt⟩
theorem Bn.nil (w : World) : Bn w w [] := ⟨Below.refl _ _, fun i x hx => by simp at hx⟩
theorem Bn.push {w W : World} {L : List Ent} (h : Bn w W L) (n : Nat) (hn : n = W.heap.size) (t : TypeId) (cs : Array Value) : Bn w (W.alloc (.cells cs t)) (L ++ [(n, t, cs)]) := by
  subst hn
  refine ⟨h.b.alloc h.b.size _, fun i x hx => ?_⟩
  rcases Nat.lt_trichotomy i L.length with hi | hi | hi
  · rw [List.getElem?_append_left hi] at hx
    exact (h.at_ i x hx).alloc _
  · rw [List.getElem?_append_right (by omega), hi, Nat.sub_self] at hx
    injection hx with hx
    subst hx
    exact Blk.new _ _ _
  · rw [List.getElem?_eq_none (by simp; omega)] at hx
    cases hx
theorem Blk.row {W : World} {g : Nat} {t : TypeId} {cs : Array Value} (h : Blk W g t cs) (ds : Array Value) : Blk (W.setRow g ds) g t ds := setRow_heap _ _ _ _ _ _ h
theorem Blk.rowFar {W : World} {g k : Nat} {t : TypeId} {cs : Array Value} (h : Blk W g t cs) (hk : g ≠ k) (ds : Array Value) : Blk (W.setRow k ds) g t cs := (setRow_other _ _ _ _ hk).trans h
theorem size_alloc1 (w : World) (o : Obj) : w.heap.size + 1 = (w.alloc o).heap.size := (Array.size_push _).symm
theorem size_alloc2 (w : World) (o o' : Obj) : w.heap.size + 1 + 1 = ((w.alloc o).alloc o').heap.size := by rw [← size_alloc1, ← size_alloc1]
theorem size_alloc3 (w : World) (o o' o'' : Obj) : w.heap.size + 1 + 1 + 1 = (((w.alloc o).alloc o').alloc o'').heap.size := by rw [← size_alloc1, ← size_alloc1, ← size_alloc1]
theorem Bn.three (w : World) (t1 t2 t3 : TypeId) (c1 c2 c3 : Array Value) : Bn w (((w.alloc (.cells c1 t1)).alloc (.cells c2 t2)).alloc (.cells c3 t3)) [(w.heap.size, t1, c1), (w.heap.size + 1, t2, c2), (w.heap.size + 1 + 1, t3, c3)] :=
  (((Bn.nil w).push _ rfl t1 c1).push _ (size_alloc1 _ _) t2 c2).push _ (size_alloc2 _ _ _) t3 c3
theorem Bn.four (w : World) (t1 t2 t3 t4 : TypeId) (c1 c2 c3 c4 : Array Value) : Bn w ((((w.alloc (.cells c1 t1)).alloc (.cells c2 t2)).alloc (.cells c3 t3)).alloc (.cells c4 t4)) [(w.heap.size, t1, c1), (w.heap.size + 1, t2, c2), (w.heap.size + 1 + 1, t3, c3), (w.heap.size + 1 + 1 + 1, t4, c4)] :=
  (Bn.three w t1 t2 t3 c1 c2 c3).push _ (size_alloc3 _ _ _ _) t4 c4

theorem wpList_allocC {cs : Array Value} {T : TypeId} (hr : ∀ w, (Instr.alloc T true (.tuple #[])).run Tryd.prog w = .ok (.pointer (some ⟨w.heap.size, 0, none⟩)) (w.alloc (.cells cs T))) {ops : Array Oper} {rest : List Oper} {o : Oper} {a : Act} {w : World} {Q : Exit → Act → World → Prop} (hg : o.guard = none) (ho : o.op = .alloc T)
    (h : wpList Tryd.prog ops Q rest (a.put o.dst (.pointer (some ⟨w.heap.size, 0, none⟩))) (w.alloc (.cells cs T))) : wpList Tryd.prog ops Q (o :: rest) a w := by
  refine wpList_plain hg fun K hK => ?_
  have hr := hr w
  unfold Oper.wp
  simp only [execOp, ho, Sem.run_bind, hr, Result.andThen_ok, Sem.run_pure]
  exact hK _ _ h
theorem wpList_buildC {cs : Array Value} {T : TypeId} {ops : Array Oper} {rest : List Oper} {o : Oper} {a : Act} {w : World} {Q : Exit → Act → World → Prop} (hg : o.guard = none) (parts : Array (Nat × Operand)) (ho : o.op = .build T parts)
    (hb : Tryd.prog.built T (parts.map fun (i, x) => (i, a.eval x)).toList = some cs)
    (h : wpList Tryd.prog ops Q rest (a.put o.dst (.agg cs)) w) : wpList Tryd.prog ops Q (o :: rest) a w := by
  refine wpList_build hg T parts ho (by rw [hb]; rfl) ?_
  rw [hb]
  exact h

/-! points that are read -/
/-- A list of points that is read. -/
abbrev PtR (w : World) (A : Option Addr) (l : List P2) : Prop := Reads w w.heap.size 2 A l.length (pts l)
theorem PtR.below {w w' : World} {A : Option Addr} {l : List P2} (h : PtR w A l) (hb : Below w.heap.size w w') : PtR w' A l := (Reads.below h hb).more hb.size
theorem PtR.addr {w : World} {A : Option Addr} {l : List P2} (h : PtR w A l) (h0 : 0 < l.length) : ∃ ad, A = some ad ∧ ad.block < w.heap.size := by
  obtain ⟨a, e, hb, _⟩ := h.2 h0
  exact ⟨a, e, hb⟩
/-- What is read stands where its block is left alone. -/
theorem PtR.tch {w w' : World} {M : List Nat} {A : Option Addr} {l : List P2} (h : PtR w A l) (ht : Tch M w w') (hA : ∀ ad, A = some ad → ad.block ∉ M) : PtR w' A l :=
  ⟨h.1, fun hn => by
    obtain ⟨ad, e, hb, hc⟩ := h.2 hn
    have := ht.size
    exact ⟨ad, e, by omega, fun j u hu => (World.cell?_of_block (by rw [block_of_add]; exact ht.block _ hb (hA ad e))).trans (hc j u hu)⟩⟩
theorem add_of_add (a : Addr) (i j : Nat) : (a.add i).add j = a.add (i + j) := by
  unfold Addr.add
  by_cases hi : i = 0 <;> by_cases hj : j = 0 <;> simp [hi, hj, Nat.add_assoc]
/-- A point's two cells. -/
theorem pt_cells {w : World} {ad : Addr} {l : List P2} (h : PtR w (some ad) l) (j : Nat) (hj : j < l.length) :
    w.cell? (ad.add (j * 2)) = some (.int .i64 l[j].1) ∧ w.cell? ⟨(ad.add (j * 2)).block, (ad.add (j * 2)).off + 1, none⟩ = some (.int .i64 l[j].2) := by
  obtain ⟨a, e, _, hc⟩ := h.2 (by omega)
  injection e with e
  subst e
  have k := fun c (hc2 : c < 2) (u : Value) (hu : (pt l[j])[c]? = some u) => hc (j * 2 + c) u ((pts_at l j hj c hc2).trans hu)
  have f : (⟨(ad.add (j * 2)).block, (ad.add (j * 2)).off + 1, none⟩ : Addr) = ad.add (j * 2 + 1) := by
    rw [← add_of_add]
    generalize ad.add (j * 2) = b
    unfold Addr.add
    rw [if_neg (by omega)]
  rw [f]
  exact ⟨k 0 (by omega) _ rfl, k 1 (by omega) _ rfl⟩
theorem blk2 {w : World} {g : Nat} {t : TypeId} {a b : Value} (h : Blk w g t #[a, b]) : w.cell? ⟨g, 0, none⟩ = some a ∧ w.cell? ⟨g, 1, none⟩ = some b ∧ ∀ o, w.frozen? ⟨g, o, none⟩ = false := ⟨h.cell 0, h.cell 1, h.frozen⟩
theorem drew_below {B : Nat} {w wr : World} {n : Nat} (h : Below B w wr) : Below B w (wr.drewN n) := h.trans ⟨rfl, rfl, rfl, Nat.le_refl _, fun _ _ => rfl⟩
def pcs (p : P2) : Array Value := #[.int .i64 p.1, .int .i64 p.2]
/-- A call that returns a point. -/
def PtC (p : P2) (w : World) (e : Ending) (w' : World) : Prop := e = .returned (.agg #[.int .i64 p.1, .int .i64 p.2]) ∧ Below w.heap.size w w'
/-- A call that returns a number. -/
def NmC (n : Int) (w : World) (e : Ending) (w' : World) : Prop := e = .returned (.int .i64 n) ∧ Below w.heap.size w w'
theorem below_setRow {B : Nat} {w w' : World} (h : Below B w w') {g : Nat} (hg : B ≤ g) (cs : Array Value) : Below B w (w'.setRow g cs) :=
  ⟨h.os, h.tape, h.output, by simpa [World.setRow] using h.size, fun k hk => (setRow_other _ _ _ _ (by omega)).trans (h.block k hk)⟩
theorem two_row {w : World} {g : Nat} {t : TypeId} {a b a' b' : Value} (h : Blk w g t #[a, b]) : (w.setCell ⟨g, 0, none⟩ a').setCell ⟨g, 1, none⟩ b' = w.setRow g #[a', b'] := by
  rw [setCell_eq_setRow w g 0 _ _ _ _ h, setCell_eq_setRow _ g 1 _ _ _ _ (Blk.row h _), setRow_setRow]
  rfl
theorem infoPt (p : P2) : (Tryd.prog.info? 30).map (·.size) = some (pcs p).size := by kernel_rfl
theorem pcs_one (p : P2) : (pcs p).all (·.oneCell') = true := by simp [pcs, Value.oneCell']
theorem runPt (w : World) : (Instr.alloc 30 true (.tuple #[])).run Tryd.prog w = .ok (.pointer (some ⟨w.heap.size, 0, none⟩)) (w.alloc (.cells (pcs (0, 0)) 30)) := by kernel_rfl

theorem tab_below {w w' : World} (h : Num.Tab w) (hb : Below w.heap.size w w') : Num.Tab w' := fun i hi => by
  have hc := h i hi
  have hlt : 0 < w.heap.size := by
    rcases Nat.lt_or_ge 0 w.heap.size with hlt | hge
    · exact hlt
    · unfold World.cell? at hc
      rw [Array.getElem?_eq_none hge] at hc
      cases hc
  exact (hb.cell (p := ⟨0, i, none⟩) hlt).trans hc
theorem tab_tch {w w' : World} {M : List Nat} (h : Num.Tab w) (ht : Tch M w w') (hg : 0 ∉ M) : Num.Tab w' := fun i hi => by
  have hc := h i hi
  have hlt : 0 < w.heap.size := World.block_lt_of_cell? w ⟨0, i, none⟩ hc
  exact (World.cell?_of_block (ht.block _ hlt hg)).trans hc
end Go.Proofs.YtflopcogalknhaaDoor.Str

/- StrA: Layer 21: sums of vectors; the parameters' errors; shoelace sums. -/
namespace Go.Proofs.YtflopcogalknhaaDoor.Str
open Go.RowKit Go.Proofs.YtflopcogalknhaaDoor Go.Proofs.YtflopcogalknhaaDoor.NumPure

theorem plus_any (p q : P2) (w : World) (h : Inb 1000000000000 p) (h' : Inb 1000000000000 q) : Calls Tryd.prog 34 #[.agg #[.int .i64 p.1, .int .i64 p.2], .agg #[.int .i64 q.1, .int .i64 q.2]] w (PtC (pl p q) w) := by
  obtain ⟨x, y⟩ := p
  obtain ⟨a, b⟩ := q
  obtain ⟨⟨p0, p1⟩, p2, p3⟩ := h
  obtain ⟨⟨q0, q1⟩, q2, q3⟩ := h'
  dsimp only at p0 p1 p2 p3 q0 q1 q2 q3 ⊢
  have HB := Lib.hid (Bn.three w 30 30 30 #[.int .i64 x, .int .i64 y] #[.int .i64 a, .int .i64 b] #[.int .i64 (x + a), .int .i64 (y + b)])
  go_enter Tryd.func34, Tryd.ntmps34
  go_wp2_with fail
  refine bodyPost_ret (v := .agg #[.int .i64 (x + a), .int .i64 (y + b)]) (results_cell_row rfl _ _ (w.heap.size + 1 + 1) 30 #[.int .i64 (x + a), .int .i64 (y + b)] (0, 0) _ rfl (HB.out.get 2 rfl) Tryd.underlying30 rfl (infoPt (0, 0))) rfl ?_
  exact ⟨rfl, HB.out.b⟩
theorem minus_any (p q : P2) (w : World) (h : Inb 1000000000000 p) (h' : Inb 1000000000000 q) : Calls Tryd.prog 35 #[.agg #[.int .i64 p.1, .int .i64 p.2], .agg #[.int .i64 q.1, .int .i64 q.2]] w (PtC (mi p q) w) := by
  obtain ⟨x, y⟩ := p
  obtain ⟨a, b⟩ := q
  obtain ⟨⟨p0, p1⟩, p2, p3⟩ := h
  obtain ⟨⟨q0, q1⟩, q2, q3⟩ := h'
  dsimp only at p0 p1 p2 p3 q0 q1 q2 q3 ⊢
  have HB := Lib.hid (Bn.three w 30 30 30 #[.int .i64 x, .int .i64 y] #[.int .i64 a, .int .i64 b] #[.int .i64 (x - a), .int .i64 (y - b)])
  go_enter Tryd.func35, Tryd.ntmps35
  go_wp2_with fail
  refine bodyPost_ret (v := .agg #[.int .i64 (x - a), .int .i64 (y - b)]) (results_cell_row rfl _ _ (w.heap.size + 1 + 1) 30 #[.int .i64 (x - a), .int .i64 (y - b)] (0, 0) _ rfl (HB.out.get 2 rfl) Tryd.underlying30 rfl (infoPt (0, 0))) rfl ?_
  exact ⟨rfl, HB.out.b⟩
theorem radd_p (p q : P2) (w : World) (h : Inb 1000000000000 p) (h' : Inb 1000000000000 q) : Calls Tryd.prog 41 #[.agg #[.int .i64 p.1, .int .i64 p.2], .agg #[.int .i64 q.1, .int .i64 q.2], .int .i64 1] w (PtC (pl p q) w) := by
  obtain ⟨x, y⟩ := p
  obtain ⟨a, b⟩ := q
  obtain ⟨⟨p0, p1⟩, p2, p3⟩ := h
  obtain ⟨⟨q0, q1⟩, q2, q3⟩ := h'
  dsimp only at p0 p1 p2 p3 q0 q1 q2 q3 ⊢
  have HB := Lib.hid (Bn.three w 30 30 30 #[.int .i64 x, .int .i64 y] #[.int .i64 a, .int .i64 b] #[.int .i64 (x + a), .int .i64 (y + b)])
  go_enter Tryd.func41, Tryd.ntmps41
  go_wp2_with fail
  refine bodyPost_ret (v := .agg #[.int .i64 (x + a), .int .i64 (y + b)]) (results_cell_row rfl _ _ (w.heap.size + 1 + 1) 30 #[.int .i64 (x + a), .int .i64 (y + b)] (0, 0) _ rfl (HB.out.get 2 rfl) Tryd.underlying30 rfl (infoPt (0, 0))) rfl ?_
  exact ⟨rfl, HB.out.b⟩
theorem radd_m (p q : P2) (w : World) (h : Inb 1000000000000 p) (h' : Inb 1000000000000 q) : Calls Tryd.prog 41 #[.agg #[.int .i64 p.1, .int .i64 p.2], .agg #[.int .i64 q.1, .int .i64 q.2], .int .i64 (-1)] w (PtC (mi p q) w) := by
  obtain ⟨x, y⟩ := p
  obtain ⟨a, b⟩ := q
  obtain ⟨⟨p0, p1⟩, p2, p3⟩ := h
  obtain ⟨⟨q0, q1⟩, q2, q3⟩ := h'
  dsimp only at p0 p1 p2 p3 q0 q1 q2 q3 ⊢
  have HB := Lib.hid (Bn.three w 30 30 30 #[.int .i64 x, .int .i64 y] #[.int .i64 a, .int .i64 b] #[.int .i64 (x - a), .int .i64 (y - b)])
  have e1 : (-1) * a = -a := by omega
  have e2 : (-1) * b = -b := by omega
  have e3 : x + -a = x - a := by omega
  have e4 : y + -b = y - b := by omega
  go_enter Tryd.func41, Tryd.ntmps41
  go_wp2_with fail
  refine bodyPost_ret (v := .agg #[.int .i64 (x - a), .int .i64 (y - b)]) (results_cell_row rfl _ _ (w.heap.size + 1 + 1) 30 #[.int .i64 (x - a), .int .i64 (y - b)] (0, 0) _ rfl (HB.out.get 2 rfl) Tryd.underlying30 rfl (infoPt (0, 0))) rfl ?_
  exact ⟨rfl, HB.out.b⟩
theorem Check_any (a j e : Int) (w : World) : Calls Tryd.prog 11 #[.int .i64 a, .int .i64 j, .int .i64 e] w fun x w' => x = .returned (.int .i64 (chkE a j e)) ∧ w = w' := by
  unfold chkE
  by_cases h0 : a < 1 ∨ 4096 < a
  · rw [if_pos h0]
    rcases h0 with h0 | h0
    · go_enter Tryd.func11, Tryd.ntmps11
      go_wp2_with fail
      go_ret
      exact ⟨rfl, rfl⟩
    · have h1 : ¬ a < 1 := by omega
      go_enter Tryd.func11, Tryd.ntmps11
      go_wp2_with fail
      go_ret
      exact ⟨rfl, rfl⟩
  rw [if_neg h0]
  have h1 : ¬ a < 1 := by omega
  have h2 : ¬ 4096 < a := by omega
  clear h0
  by_cases h3 : j < 0
  · rw [if_pos (Or.inl h3)]
    go_enter Tryd.func11, Tryd.ntmps11
    go_wp2_with fail
    go_ret
    exact ⟨rfl, rfl⟩
  by_cases h4 : 2 < j
  · rw [if_pos (by omega)]
    go_enter Tryd.func11, Tryd.ntmps11
    go_wp2_with fail
    go_ret
    exact ⟨rfl, rfl⟩
  by_cases h5 : e < 0
  · rw [if_pos (by omega)]
    go_enter Tryd.func11, Tryd.ntmps11
    go_wp2_with fail
    go_ret
    exact ⟨rfl, rfl⟩
  by_cases h6 : 2 < e
  · rw [if_pos (by omega)]
    go_enter Tryd.func11, Tryd.ntmps11
    go_wp2_with fail
    go_ret
    exact ⟨rfl, rfl⟩
  rw [if_neg (by omega)]
  go_enter Tryd.func11, Tryd.ntmps11
  go_wp2_with fail
  go_ret
  exact ⟨rfl, rfl⟩
theorem rCheck_any (a j e : Int) (w : World) : Calls Tryd.prog 12 #[.int .i64 a, .int .i64 j, .int .i64 e] w fun x w' => x = .returned (.int .i64 (chkE a j e)) ∧ w = w' := by
  unfold chkE
  by_cases h0 : a < 1 ∨ 4096 < a
  · rw [if_pos h0]
    rcases h0 with h0 | h0
    · go_enter Tryd.func12, Tryd.ntmps12
      go_wp2_with fail
      go_ret
      exact ⟨rfl, rfl⟩
    · have h1 : ¬ a < 1 := by omega
      go_enter Tryd.func12, Tryd.ntmps12
      go_wp2_with fail
      go_ret
      exact ⟨rfl, rfl⟩
  rw [if_neg h0]
  have h1 : ¬ a < 1 := by omega
  have h2 : ¬ 4096 < a := by omega
  clear h0
  by_cases h3 : j < 0
  · rw [if_pos (Or.inl h3)]
    go_enter Tryd.func12, Tryd.ntmps12
    go_wp2_with fail
    go_ret
    exact ⟨rfl, rfl⟩
  by_cases h4 : 2 < j
  · rw [if_pos (by omega)]
    go_enter Tryd.func12, Tryd.ntmps12
    go_wp2_with fail
    go_ret
    exact ⟨rfl, rfl⟩
  by_cases h5 : e < 0
  · rw [if_pos (by omega)]
    go_enter Tryd.func12, Tryd.ntmps12
    go_wp2_with fail
    go_ret
    exact ⟨rfl, rfl⟩
  by_cases h6 : 2 < e
  · rw [if_pos (by omega)]
    go_enter Tryd.func12, Tryd.ntmps12
    go_wp2_with fail
    go_ret
    exact ⟨rfl, rfl⟩
  rw [if_neg (by omega)]
  go_enter Tryd.func12, Tryd.ntmps12
  go_wp2_with fail
  go_ret
  exact ⟨rfl, rfl⟩
end Go.Proofs.YtflopcogalknhaaDoor.Str

/- StrB: Layer 21: shoelace sums. -/
namespace Go.Proofs.YtflopcogalknhaaDoor.Str
open Go.RowKit Go.Proofs.YtflopcogalknhaaDoor Go.Proofs.YtflopcogalknhaaDoor.NumPure

theorem areaN_step (l : List P2) (n : Nat) : areaN l (n + 1) = areaN l n + cr (nx l n) (nx l (n + 1)) := rfl
theorem area_go {l : List P2} (hb : AllB 33554432 l) (hn : l.length ≤ 16) (j : Nat) (hj : j < l.length) : (-36028797018963968 ≤ areaN l j ∧ areaN l j ≤ 36028797018963968) ∧ (-36028797018963968 ≤ areaN l (j + 1) ∧ areaN l (j + 1) ≤ 36028797018963968) := by
  have h1 := area_in hb j
  have h2 := area_in hb (j + 1)
  omega
set_option maxRecDepth 100000 in
set_option maxHeartbeats 8000000 in
theorem twice_any (A : Option Addr) (l : List P2) (c : Nat) (w : World) (h : PtR w A l) (hb : AllB 33554432 l) (hl : l.length ≤ 16) : Calls Tryd.prog 53 #[.slice A l.length c] w (NmC (area l) w) := by
  obtain ⟨n, hn⟩ : ∃ n, l.length = n := ⟨_, rfl⟩
  have HA : Hid (areaN l n = area l) := Lib.hid (by rw [← hn]; rfl)
  have HG := Lib.hid (fun j hj => area_go hb hl j hj)
  have HC := Lib.hid (fun j => cr_in (nx_in hb (by omega) j) (nx_in hb (by omega) (j + 1)))
  rw [hn] at hl ⊢
  have HN := Lib.hid hn
  have HR := Lib.hid h
  clear h hb hn
  go_enter Tryd.func53, Tryd.ntmps53
  go_wp2_with fail
  go_loopw [3, 9] (fun s i wr => ∃ j : Nat, i = .int .i64 j ∧ j ≤ n ∧ s = .int .i64 (areaN l j) ∧ Below w.heap.size w wr) (fun _ i _ => n - (intOf i).toNat)
  case atStart => exact ⟨0, rfl, by omega, rfl, Below.refl _ _⟩
  case round =>
    obtain ⟨j, rfl, hj, rfl, hb⟩ := hrel
    by_cases hlt : j < n
    · have hjl : j < l.length := by have := HN.out; omega
      obtain ⟨k, hk⟩ : ∃ k, (j + 1) % n = k := ⟨_, rfl⟩
      have hkn : k < n := by rw [← hk]; exact Nat.mod_lt _ (by omega)
      have hkl : k < l.length := by have := HN.out; omega
      have hr := HR.out.below hb
      obtain ⟨ad, rfl, hadb⟩ := hr.addr (by omega)
      obtain ⟨a0, a1⟩ := pt_cells hr j hjl
      have e1 := nx_at hjl
      have e2 : nx l (j + 1) = l[k] := nx_mod (by rw [HN.out, hk]) hkl
      obtain ⟨⟨m0, m1⟩, ⟨m2, m3⟩, m4, m5⟩ := HC.out j
      obtain ⟨⟨s0, s1⟩, s2, s3⟩ := HG.out j hjl
      rw [areaN_step] at s2 s3
      have HS := Lib.hid (areaN_step l j)
      unfold cr at m4 m5 s2 s3
      rw [e1, e2] at m0 m1 m2 m3 m4 m5 s2 s3
      obtain ⟨x, hx⟩ : ∃ x, l[j].1 = x := ⟨_, rfl⟩
      obtain ⟨y, hy⟩ : ∃ x, l[j].2 = x := ⟨_, rfl⟩
      obtain ⟨u, hu⟩ : ∃ x, l[k].1 = x := ⟨_, rfl⟩
      obtain ⟨v, hv⟩ : ∃ x, l[k].2 = x := ⟨_, rfl⟩
      obtain ⟨S, hS⟩ : ∃ S, areaN l j = S := ⟨_, rfl⟩
      have HX : Hid (areaN l (j + 1) = S + (x * v - u * y)) := Lib.hid (by rw [HS.out, e1, e2, hS]; unfold cr; rw [hx, hy, hu, hv])
      rw [hx] at a0
      rw [hy] at a1
      rw [hx, hy, hu, hv] at m4 m5 s2 s3
      rw [hx, hv] at m0 m1
      rw [hu, hy] at m2 m3
      rw [hS] at s0 s1 s2 s3 ⊢
      have hm : ((j : Int) + 1).tmod (n : Int) = (k : Int) := by rw [← hk]; rfl
      have HB := Lib.hid hb
      have bs := hb.size
      have HR2 : Hid (w.heap.size ≤ wr.heap.size ∧ (wr.alloc (.cells #[.int .i64 x, .int .i64 y] 30)).cell? (ad.add (k * 2)) = some (.int .i64 u) ∧ (wr.alloc (.cells #[.int .i64 x, .int .i64 y] 30)).cell? ⟨(ad.add (k * 2)).block, (ad.add (k * 2)).off + 1, none⟩ = some (.int .i64 v)) := Lib.hid (by
        obtain ⟨b0, b1⟩ := pt_cells (HR.out.below (hb.alloc bs (.cells #[.int .i64 x, .int .i64 y] 30))) k hkl
        rw [hu] at b0
        rw [hv] at b1
        exact ⟨bs, b0, b1⟩)
      obtain ⟨_, b0, b1⟩ := HR2.out
      clear hb hr e1 e2 hx hy hu hv hS hk bs
      go_wp2_with fail
      clear a0 a1 b0 b1 m0 m1 m2 m3 m4 m5 s0 s1 s2 s3 hm
      go_roundw
      case rel => exact ⟨j + 1, by go_num, by omega, by rw [HX.out], (HB.out.alloc HR2.out.1 _).alloc (by simp; have := HR2.out.1; omega) _⟩
      case measure => simp [intOf]; omega
    · obtain rfl : j = n := by omega
      have HB := Lib.hid hb
      clear hb
      go_wp2_with fail
      go_ret
      exact ⟨congrArg (fun z => Ending.returned (.int .i64 z)) HA.out, HB.out⟩
set_option maxRecDepth 100000 in
set_option maxHeartbeats 8000000 in
theorem rArea_any (A : Option Addr) (l : List P2) (c : Nat) (w : World) (h : PtR w A l) (hb : AllB 33554432 l) (hl : l.length ≤ 16) : Calls Tryd.prog 17 #[.slice A l.length c] w (NmC (area l) w) := by
  obtain ⟨n, hn⟩ : ∃ n, l.length = n := ⟨_, rfl⟩
  have HA : Hid (areaN l n = area l) := Lib.hid (by rw [← hn]; rfl)
  have HG := Lib.hid (fun j hj => area_go hb hl j hj)
  have HC := Lib.hid (fun j => cr_in (nx_in hb (by omega) j) (nx_in hb (by omega) (j + 1)))
  rw [hn] at hl ⊢
  have HN := Lib.hid hn
  have HR := Lib.hid h
  clear h hb hn
  go_enter Tryd.func17, Tryd.ntmps17
  go_wp2_with fail
  go_loopw [3, 8] (fun s i wr => ∃ j : Nat, i = .int .i64 j ∧ j ≤ n ∧ s = .int .i64 (areaN l j) ∧ Below w.heap.size w wr) (fun _ i _ => n - (intOf i).toNat)
  case atStart => exact ⟨0, rfl, by omega, rfl, Below.refl _ _⟩
  case round =>
    obtain ⟨j, rfl, hj, rfl, hb⟩ := hrel
    by_cases hlt : j < n
    · have hjl : j < l.length := by have := HN.out; omega
      obtain ⟨k, hk⟩ : ∃ k, (j + 1) % n = k := ⟨_, rfl⟩
      have hkn : k < n := by rw [← hk]; exact Nat.mod_lt _ (by omega)
      have hkl : k < l.length := by have := HN.out; omega
      have hr := HR.out.below hb
      obtain ⟨ad, rfl, hadb⟩ := hr.addr (by omega)
      obtain ⟨a0, a1⟩ := pt_cells hr j hjl
      have e1 := nx_at hjl
      have e2 : nx l (j + 1) = l[k] := nx_mod (by rw [HN.out, hk]) hkl
      obtain ⟨⟨m0, m1⟩, ⟨m2, m3⟩, m4, m5⟩ := HC.out j
      obtain ⟨⟨s0, s1⟩, s2, s3⟩ := HG.out j hjl
      rw [areaN_step] at s2 s3
      have HS := Lib.hid (areaN_step l j)
      unfold cr at m4 m5 s2 s3
      rw [e1, e2] at m0 m1 m2 m3 m4 m5 s2 s3
      obtain ⟨x, hx⟩ : ∃ x, l[j].1 = x := ⟨_, rfl⟩
      obtain ⟨y, hy⟩ : ∃ x, l[j].2 = x := ⟨_, rfl⟩
      obtain ⟨u, hu⟩ : ∃ x, l[k].1 = x := ⟨_, rfl⟩
      obtain ⟨v, hv⟩ : ∃ x, l[k].2 = x := ⟨_, rfl⟩
      obtain ⟨S, hS⟩ : ∃ S, areaN l j = S := ⟨_, rfl⟩
      have HX : Hid (areaN l (j + 1) = S + (x * v - y * u)) := Lib.hid (by rw [HS.out, e1, e2, hS]; unfold cr; rw [hx, hy, hu, hv, Int.mul_comm u y])
      rw [hx] at a0
      rw [hy] at a1
      rw [hx, hy, hu, hv] at m4 m5 s2 s3
      rw [hx, hv] at m0 m1
      rw [hu, hy] at m2 m3
      rw [hS] at s0 s1 s2 s3 ⊢
      rw [Int.mul_comm u y] at m2 m3 m4 m5 s2 s3
      have hm : ((j : Int) + 1).tmod (n : Int) = (k : Int) := by rw [← hk]; rfl
      have HB := Lib.hid hb
      obtain ⟨b0, b1⟩ := pt_cells hr k hkl
      rw [hu] at b0
      rw [hv] at b1
      clear hb hr e1 e2 hx hy hu hv hS hk
      go_wp2_with fail
      go_quiet (fail)
      go_wp2_with fail
      clear a0 a1 b0 b1 m0 m1 m2 m3 m4 m5 s0 s1 s2 s3 hm
      go_roundw
      case rel => exact ⟨j + 1, by go_num, by omega, by rw [HX.out], drew_below HB.out⟩
      case measure => simp [intOf]; omega
    · obtain rfl : j = n := by omega
      have HB := Lib.hid hb
      clear hb
      go_wp2_with fail
      go_ret
      exact ⟨congrArg (fun z => Ending.returned (.int .i64 z)) HA.out, HB.out⟩
end Go.Proofs.YtflopcogalknhaaDoor.Str

/- StrW: Layer 21: rows that are appended to; equality of points. -/
namespace Go.Proofs.YtflopcogalknhaaDoor.Str
open Go.RowKit Go.Proofs.YtflopcogalknhaaDoor Go.Proofs.YtflopcogalknhaaDoor.NumPure

theorem own_shape {w : World} {base e size n : Nat} {v : Value} {xs : List Value} (h : w.ownsRow base e size v (n + 1) xs) : ∃ o cap, v = .slice (some ⟨o, 0, none⟩) (n + 1) cap := by
  rcases h.2 with ⟨_, h0⟩ | ⟨g, cap, cur, rfl, _⟩
  · omega
  · exact ⟨g, cap, rfl⟩
theorem own_below {w w' : World} {base e size n : Nat} {v : Value} {xs : List Value} (h : w.ownsRow base e size v n xs) (hb : Below w.heap.size w w') : w'.ownsRow base e size v n xs := own_at h fun k hk => hb.block k (own_lt h k hk)
/-- A row that the call itself has made, and a literal that waits. -/
structure R1 (t sz : Nat) (w0 : World) (v : Value) (n : Nat) (xs : List Value) (l : Option (Nat × Array Value)) (W : World) : Prop where
  row : W.ownsRow w0.heap.size t sz v n xs
  new : ∀ g cs, l = some (g, cs) → Blk W g t cs ∧ v.ownBlock ≠ some g
  below : Below w0.heap.size w0 W
section
variable {t sz : Nat} {w0 W w' : World} {v : Value} {n : Nat} {xs : List Value} {l : Option (Nat × Array Value)}
theorem R1.later (h : R1 t sz w0 v n xs l W) (hb : Below W.heap.size W w') : R1 t sz w0 v n xs l w' :=
  ⟨own_below h.row hb, fun g cs e => ⟨(h.new g cs e).1.below hb (h.new g cs e).1.lt, (h.new g cs e).2⟩, h.below.trans (hb.mono h.below.size)⟩
theorem R1.drew (h : R1 t sz w0 v n xs l W) : R1 t sz w0 v n xs l W.drew := h.later (Below.refl _ _).drew
theorem R1.lit (h : R1 t sz w0 v n xs none W) (cs : Array Value) : R1 t sz w0 v n xs (some (W.heap.size, cs)) (W.alloc (.cells cs t)) :=
  ⟨own_below h.row ((Below.refl _ _).alloc (Nat.le_refl _) _), fun g y e => by
    simp only [Option.some.injEq, Prod.mk.injEq] at e
    obtain ⟨rfl, rfl⟩ := e
    exact ⟨Blk.new _ _ _, fun e => by have := own_lt h.row _ e; omega⟩, h.below.alloc h.below.size _⟩
theorem R1.app {v' : Value} {n' : Nat} {xs' : List Value} (h : R1 t sz w0 v n xs l W) (ho : w'.ownsRow w0.heap.size t sz v' n' xs') (hg : W.grownBy w' v.ownBlock) : R1 t sz w0 v' n' xs' none w' :=
  ⟨ho, (fun _ _ e => by cases e), h.below.grown hg h.below.size (own_low h.row)⟩
theorem R1.start (w0 : World) : R1 t sz w0 (.slice none 0 0) 0 [] none w0 := ⟨⟨by simp, .inl ⟨rfl, rfl⟩⟩, (fun _ _ e => by cases e), Below.refl _ _⟩
end
theorem infoP : (Tryd.prog.info? 30).map (fun i => (i.zero, i.size, i.bytes)) = some (some (.agg #[.int .i64 0, .int .i64 0]), 2, 16) := by kernel_rfl
theorem wp_litP {o : Oper} {a : Act} {W : World} {K : Act → World → Prop} {Q : Exit → Act → World → Prop} (dd : Tmp) (hd : o.dst = some dd) (x : Operand)
    (ho : o.op = .buildSlice 36 1 #[(0, x)]) {w0 : World} {v : Value} {n : Nat} {xs : List Value} (y0 y1 : Value) (h : R1 30 2 w0 v n xs none W) (hx : a.eval x = .agg #[y0, y1])
    (hK : ∀ gl w', R1 30 2 w0 v n xs (some (gl, #[y0, y1])) w' → K (a.put (some dd) (.slice (some ⟨gl, 0, none⟩) 1 1)) w') : o.wp Tryd.prog a W K Q := by
  obtain ⟨i0, hi0, hz0, hz1, hz2⟩ := info_parts infoP
  refine wp_buildSlice 36 30 1 _ ho #[y0, y1] i0 (.agg #[.int .i64 0, .int .i64 0]) Tryd.underlying36 hi0 hz0 (by rw [hz1]; decide) (by rw [hz1]; decide) ?_ ?_
  · rw [hz1]; simp only [List.map_toArray, List.map_cons, List.map_nil, hx]; kernel_rfl
  · rw [hd]; exact hK _ _ (h.lit _)
theorem wp_appP {o : Oper} {a : Act} {W : World} {K : Act → World → Prop} {Q : Exit → Act → World → Prop} (dd : Tmp) (hd : o.dst = some dd) (s x : Operand)
    (ho : o.op = .call { callee := .builtin .append, args := #[s, x], argTypes := #[36, 36] }) {w0 : World} {v : Value} {n : Nat} {xs : List Value} {gl : Nat} {c : Array Value}
    (h : R1 30 2 w0 v n xs (some (gl, c)) W) (hs : a.eval s = v) (hx : a.eval x = .slice (some ⟨gl, 0, none⟩) 1 1) (hc : c.size = 2) (hu : ∀ y ∈ c.toList, y.oneCell' = true) (hn : (n + 1) * 16 ≤ 140737488355328)
    (hK : ∀ v' w', R1 30 2 w0 v' (n + 1) (xs ++ c.toList) none w' → K (a.put (some dd) v') w') : o.wp Tryd.prog a W K Q := by
  obtain ⟨i0, hi0, hz0, hz1, hz2⟩ := info_parts infoP
  obtain ⟨v', w', hrun, h2, h3, _, h5⟩ := run_append_own_at (P := Tryd.prog) W w0.heap.size 36 o.type 30 i0 (.agg #[.int .i64 0, .int .i64 0]) 2 16 Tryd.underlying36 hi0 hz0 hz1 hz2 rfl (by decide) v n xs h.row ⟨gl, 0, none⟩ 1 1 c.toList (by rw [Array.length_toList, hc]) (World.news_of_block (h.new gl c rfl).1) hu (by unfold maxLen; omega) (by omega) h.below.size
  unfold Oper.wp execOp
  simp only [ho, resolve, invoke, builtin, Sem.run_bind, Sem.run_pure, Result.andThen_ok, List.map_toArray, List.map_cons, List.map_nil, hs, hx, hrun]
  show K (a.put o.dst v') w'
  rw [hd]
  exact hK v' w' (h.app h2 h3)
/-- The front of a row of one's own. -/
theorem own_front {w : World} {base e size n cap i : Nat} {A : Option Addr} {xs : List Value} (h : w.ownsRow base e size (.slice A n cap) n xs) (hA : A ≠ none) (hi : i ≤ n) : w.ownsRow base e size (.slice A i cap) i (xs.take (i * size)) := by
  obtain ⟨hl, h0 | ⟨g, cap', cur, hv, hb, hh, hn, hm, hs, hx⟩⟩ := h
  · exact absurd (by have := h0.1; injection this) hA
  · injection hv with hA2 _ hc
    subst hA2 hc
    have hmul : i * size ≤ n * size := Nat.mul_le_mul_right _ hi
    refine ⟨by rw [List.length_take, hl]; omega, .inr ⟨g, cap, cur, rfl, hb, hh, by omega, hm, hs, ?_⟩⟩
    rw [← hx, List.take_take, Nat.min_eq_left hmul]

theorem eqInPt (a b : P2) (w : World) : (Op.equalIn 10000 30 (pagg a) (pagg b)).run Tryd.prog w = .ok (decide (a = b)) w := by
  obtain ⟨a0, a1⟩ := a
  obtain ⟨b0, b1⟩ := b
  have hp : Tryd.prog.stoodInHeld 30 = false := by kernel_rfl
  have hf : (Tryd.prog.fieldsOf 30).toList.map (fun f => (f.name, f.type, f.offset)) = [("X", 3, 0), ("Y", 3, 1)] := by kernel_rfl
  obtain ⟨f0, l0, hl, g0, hf⟩ := List.map_eq_cons_iff.1 hf
  obtain ⟨f1, l1, rfl, g1, hf⟩ := List.map_eq_cons_iff.1 hf
  obtain rfl := List.map_eq_nil_iff.1 hf
  simp only [Prod.mk.injEq] at g0 g1
  unfold pagg
  rw [run_equalIn_struct w 9999 30 _ _ (by kernel_rfl) hp, hl]
  simp only [Op.eqFields, g0, g1]
  have e := fun (x y : Int) (W : World) => run_equalIn_int (P := Tryd.prog) W 9998 3 .i64 .i64 x y Tryd.underlying3
  have u := fun (W : World) => run_underlying (w := W) Tryd.underlying3
  by_cases x0 : a0 = b0
  rotate_left
  · simp [part, isAgg, e, u, x0]
  by_cases x1 : a1 = b1
  rotate_left
  · simp [part, isAgg, e, u, x0, x1]
  simp [part, isAgg, e, u, x0, x1]
theorem eqlPt (a b : P2) (w : World) : (binOp .eql 30 (pagg a) (pagg b)).run Tryd.prog w = .ok (.bool (decide (a = b))) w := by
  rw [show pagg a = .agg _ from rfl, show pagg b = .agg _ from rfl, run_eql_struct]
  have h := eqInPt a b w
  unfold pagg at h
  rw [h]; rfl
theorem neqPt (a b : P2) (w : World) : (binOp .neq 30 (pagg a) (pagg b)).run Tryd.prog w = .ok (.bool (!decide (a = b))) w := by
  rw [show pagg a = .agg _ from rfl, show pagg b = .agg _ from rfl, run_neq_struct]
  have h := eqInPt a b w
  unfold pagg at h
  rw [h]; rfl
theorem neq_of {a b : P2} (h : a ≠ b) (w : World) : (binOp .neq 30 (.agg #[.int .i64 a.1, .int .i64 a.2]) (.agg #[.int .i64 b.1, .int .i64 b.2])).run Tryd.prog w = .ok (.bool true) w := (neqPt a b w).trans (by rw [decide_eq_false h]; rfl)
theorem neq_self (a : P2) (w : World) : (binOp .neq 30 (.agg #[.int .i64 a.1, .int .i64 a.2]) (.agg #[.int .i64 a.1, .int .i64 a.2])).run Tryd.prog w = .ok (.bool false) w := (neqPt a a w).trans (by rw [decide_eq_true rfl]; rfl)
theorem eql_not {a b : P2} (h : a ≠ b) (w : World) : (binOp .eql 30 (.agg #[.int .i64 a.1, .int .i64 a.2]) (.agg #[.int .i64 b.1, .int .i64 b.2])).run Tryd.prog w = .ok (.bool false) w := (eqlPt a b w).trans (by rw [decide_eq_false h])
theorem eql_self (a : P2) (w : World) : (binOp .eql 30 (.agg #[.int .i64 a.1, .int .i64 a.2]) (.agg #[.int .i64 a.1, .int .i64 a.2])).run Tryd.prog w = .ok (.bool true) w := (eqlPt a a w).trans (by rw [decide_eq_true rfl])
theorem ptr_of_own {w : World} {B n : Nat} {v : Value} {l : List P2} (h : w.ownsRow B 30 2 v n (pts l)) (hn : n = l.length) : ∃ A cap, v = .slice A n cap ∧ PtR w A l := by
  obtain ⟨A, cap, rfl, _, hr⟩ := own_open h
  subst hn
  exact ⟨A, cap, rfl, hr⟩
/-- A call that returns a row of points of its own. -/
def OwC (l : List P2) (w : World) (e : Ending) (w' : World) : Prop := ∃ v, e = .returned v ∧ w'.ownsRow w.heap.size 30 2 v l.length (pts l) ∧ Below w.heap.size w w'

/-! reducing -/
theorem ddN_len (l : List P2) : ∀ j, (ddN l j).length ≤ j
  | 0 => Nat.le_refl _
  | j + 1 => by
    have := ddN_len l j
    rw [ddN]
    split
    · simp; omega
    · omega
theorem getD_at {l : List P2} {i : Nat} (h : i < l.length) : l.getD i (0, 0) = l[i] := by
  rw [List.getD_eq_getElem?_getD, List.getElem?_eq_getElem h]
  rfl
theorem dd_add {l : List P2} {j : Nat} (h : ddN l j = [] ∨ (ddN l j).getLast? ≠ some (l.getD j (0, 0))) : ddN l (j + 1) = ddN l j ++ [l.getD j (0, 0)] := by rw [ddN, if_pos h]
theorem dd_keep {l : List P2} {j : Nat} (h : ¬ (ddN l j = [] ∨ (ddN l j).getLast? ≠ some (l.getD j (0, 0)))) : ddN l (j + 1) = ddN l j := by rw [ddN, if_neg h]
theorem last_at {l : List P2} {k : Nat} (h : l.length = k + 1) : l.getLast? = some (l[k]'(by omega)) := by
  rw [List.getLast?_eq_getElem?, show l.length - 1 = k by omega, List.getElem?_eq_getElem]
theorem trm_go {l : List P2} {k : Nat} (h0 : 0 < k) (h : l.getD (k + 1 - 1) (0, 0) = l.getD 0 (0, 0)) : trm false l (k + 1) = trm false l k := by rw [trm, if_pos ⟨rfl, by omega, h⟩]
theorem trm_stop {o : Bool} {l : List P2} {k : Nat} (h : ¬ (o = false ∧ 1 < k ∧ l.getD (k - 1) (0, 0) = l.getD 0 (0, 0))) : trm o l k = l.take k := by
  cases k with
  | zero => rfl
  | succ k =>
    rw [Nat.add_sub_cancel] at h
    rw [trm, if_neg h]
theorem trm_len (o : Bool) (l : List P2) : ∀ k, (trm o l k).length ≤ k
  | 0 => by simp [trm]
  | k + 1 => by
    rw [trm]
    split
    · have := trm_len o l k
      omega
    · simp; omega
theorem trm_mem (o : Bool) (l : List P2) : ∀ k, ∀ p ∈ trm o l k, p ∈ l
  | 0 => by simp [trm]
  | k + 1 => by
    rw [trm]
    split
    · exact trm_mem o l k
    · exact fun p hp => List.mem_of_mem_take hp
theorem ddN_mem (l : List P2) : ∀ j, j ≤ l.length → ∀ p ∈ ddN l j, p ∈ l
  | 0, _ => by simp [ddN]
  | j + 1, hj => by
    have ih := ddN_mem l j (by omega)
    rw [ddN]
    split
    · intro p hp
      rcases List.mem_append.1 hp with hp | hp
      · exact ih p hp
      · simp only [List.mem_singleton] at hp
        rw [hp, getD_at (by omega)]
        exact List.getElem_mem _
    · exact ih
theorem red_len (l : List P2) (o : Bool) : (red l o).length ≤ l.length := Nat.le_trans (trm_len _ _ _) (ddN_len _ _)
theorem red_mem (l : List P2) (o : Bool) : ∀ p ∈ red l o, p ∈ l := fun p hp => ddN_mem l _ (Nat.le_refl _) p (trm_mem _ _ _ p hp)
theorem red_in {B : Int} {l : List P2} (h : AllB B l) (o : Bool) : AllB B (red l o) := fun p hp => h p (red_mem l o p hp)
end Go.Proofs.YtflopcogalknhaaDoor.Str

/- StrR: Layer 21: reduced polygons, both sides. -/
namespace Go.Proofs.YtflopcogalknhaaDoor.Str
open Go.RowKit Go.Proofs.YtflopcogalknhaaDoor Go.Proofs.YtflopcogalknhaaDoor.NumPure

set_option maxRecDepth 100000 in
set_option maxHeartbeats 8000000 in
theorem reduced_any (A : Option Addr) (l : List P2) (c : Nat) (o : Bool) (w : World) (h : PtR w A l) (hl : l.length ≤ 1048576) : Calls Tryd.prog 30 #[.slice A l.length c, .bool o] w (OwC (red l o) w) := by
  obtain ⟨n, hn⟩ : ∃ n, l.length = n := ⟨_, rfl⟩
  rw [hn] at hl ⊢
  have HN := Lib.hid hn
  have HR := Lib.hid h
  clear h hn
  obtain ⟨t0, hi0, hz0, hz1, hz2⟩ := info_parts infoP
  go_enter Tryd.func30, Tryd.ntmps30
  go_wp2_with fail
  go_loopw [5, 10] (fun v i wr => ∃ j m : Nat, i = .int .i64 j ∧ j ≤ n ∧ (ddN l j).length = m ∧ m ≤ j ∧ wr.ownsRow w.heap.size 30 2 v m (pts (ddN l j)) ∧ Below w.heap.size w wr) (fun _ i _ => n - (intOf i).toNat)
  case atStart => exact ⟨0, 0, rfl, by omega, rfl, Nat.le_refl _, ⟨by simp [ddN, pts], .inl ⟨rfl, rfl⟩⟩, Below.refl _ _⟩
  case round =>
    obtain ⟨j, m, rfl, hj, hm, hmj, ho, hb⟩ := hrel
    by_cases hlt : j < n
    · have hjl : j < l.length := by have := HN.out; omega
      have hr := HR.out.below hb
      obtain ⟨ad, rfl, hadb⟩ := hr.addr (by omega)
      obtain ⟨a0, a1⟩ := pt_cells hr j hjl
      obtain ⟨x, hx⟩ : ∃ x, l[j].1 = x := ⟨_, rfl⟩
      obtain ⟨y, hy⟩ : ∃ x, l[j].2 = x := ⟨_, rfl⟩
      have hp : l.getD j (0, 0) = (x, y) := by rw [getD_at hjl, ← hx, ← hy]
      rw [hx] at a0
      rw [hy] at a1
      have HX : Hid (pts [l.getD j (0, 0)] = [.int .i64 x, .int .i64 y]) := Lib.hid (by rw [hp]; rfl)
      obtain ⟨A', cap, rfl, hcap, hrd⟩ := own_open ho
      have HO0 := Lib.hid ho
      have HB0 := Lib.hid hb
      have HM := Lib.hid hm
      have HP := Lib.hid hp
      clear hx hy hr hp
      by_cases hm0 : m = 0
      · subst hm0
        have HD : Hid (ddN l (j + 1) = ddN l j ++ [l.getD j (0, 0)]) := Lib.hid (dd_add (Or.inl (List.eq_nil_of_length_eq_zero HM.out)))
        clear hrd hb ho hm
        go_wp2_with fail
        go_quiet (fail)
        have HB := Lib.hid (drew_below (n := nq) (HB0.out.alloc HB0.out.size (.cells #[.int .i64 x, .int .i64 y] 30)))
        have HO := Lib.hid (own_below HO0.out (drew_below (n := nq) ((Below.refl _ _).alloc (Nat.le_refl _) (.cells #[.int .i64 x, .int .i64 y] 30))))
        obtain ⟨W1, hW1⟩ : ∃ W, (wr.alloc (.cells #[.int .i64 x, .int .i64 y] 30)).drewN nq = W := ⟨_, rfl⟩
        have e0 : W1.cell? ⟨wr.heap.size, 0, none⟩ = some (.int .i64 x) ∧ W1.cell? ⟨wr.heap.size, 1, none⟩ = some (.int .i64 y) := by rw [← hW1]; exact ⟨(Blk.new wr 30 #[.int .i64 x, .int .i64 y]).cell 0, (Blk.new wr 30 #[.int .i64 x, .int .i64 y]).cell 1⟩
        rw [hW1] at HB HO ⊢
        obtain ⟨e0, e1⟩ := e0
        clear hW1 HO0 HB0 a0 a1
        go_wp2_with (at_builtin; refine wpList_append_own _ rfl _ _ 36 rfl w.heap.size 30 t0 (.agg #[.int .i64 0, .int .i64 0]) 2 16 Tryd.underlying36 hi0 hz0 hz1 hz2 rfl (by decide) _ _ _ rfl (HO.out.alloc _) ⟨W1.heap.size, 0, none⟩ 1 1 [.int .i64 x, .int .i64 y] rfl rfl (World.news_of_block (Blk.new _ _ _)) ?c2 ?c3 ?c4 ?c5 ?_)
        case c2 => intro u hu; simp only [List.mem_cons, List.not_mem_nil, or_false] at hu; rcases hu with rfl | rfl <;> rfl
        case c3 => unfold maxLen; omega
        case c4 => omega
        case c5 => simp; have := HB.out.size; omega
        intro v' w7 hown' hgrow _
        have HB7 := Lib.hid ((HB.out.alloc HB.out.size _).grown hgrow (by simp; have := HB.out.size; omega) (own_low HO.out))
        have HO7 := Lib.hid hown'
        clear hown' hgrow HO
        go_wp2_with fail
        go_roundw
        case rel => exact ⟨j + 1, 0 + 1, by go_num, by omega, by rw [HD.out, List.length_append, HM.out]; rfl, by omega, by rw [HD.out, pts_app, HX.out]; exact HO7.out, HB7.out⟩
        case measure => simp [intOf]; omega
      · obtain ⟨k, rfl⟩ : ∃ k, m = k + 1 := ⟨m - 1, by omega⟩
        have hkl : k < (ddN l j).length := by omega
        have hla : (ddN l j).getLast? = some (ddN l j)[k] := last_at hm
        obtain ⟨ad', rfl, hadb'⟩ := (show PtR wr A' (ddN l j) by rw [← hm] at hrd; exact hrd).addr (by omega)
        have hrd' : PtR wr (some ad') (ddN l j) := by rw [← hm] at hrd; exact hrd
        obtain ⟨b0, b1⟩ := pt_cells (hrd'.below ((Below.refl _ _).alloc (Nat.le_refl _) (.cells #[.int .i64 x, .int .i64 y] 30))) k hkl
        obtain ⟨q, hq⟩ : ∃ q, (ddN l j)[k] = q := ⟨_, rfl⟩
        rw [hq] at b0 b1 hla
        have w1 : IntKind.i64.wrap (k : Int) = (k : Int) := IntWalk.i64_in _ (by omega)
        have z0 : ((k : Int) + 1 == 0) = false := by simp; omega
        have z1 : (k : Int) < (k : Int) + 1 := by omega
        by_cases he : (x, y) = q
        · subst he
          have q0 := neq_self (x, y)
          have HD : Hid (ddN l (j + 1) = ddN l j) := Lib.hid (dd_keep (by
            rw [HP.out, hla]
            rintro (h1 | h1)
            · rw [h1] at hm; cases hm
            · exact h1 rfl))
          clear hrd hrd' hb ho hla hq
          dsimp only at b0 b1 q0
          go_wp2_with fail
          go_quiet (fail)
          have HB := Lib.hid (drew_below (n := nq) (HB0.out.alloc HB0.out.size (.cells #[.int .i64 x, .int .i64 y] 30)))
          have HO := Lib.hid (own_below HO0.out (drew_below (n := nq) ((Below.refl _ _).alloc (Nat.le_refl _) (.cells #[.int .i64 x, .int .i64 y] 30))))
          clear HO0 HB0 a0 a1 b0 b1 q0
          go_wp2_with fail
          go_roundw
          case rel => exact ⟨j + 1, k + 1, by go_num, by omega, by rw [HD.out, HM.out], by omega, by rw [HD.out]; exact HO.out, HB.out⟩
          case measure => simp [intOf]; omega
        · have q0 := neq_of he
          have HD : Hid (ddN l (j + 1) = ddN l j ++ [l.getD j (0, 0)]) := Lib.hid (dd_add (Or.inr (by
            rw [HP.out, hla]
            intro h1
            injection h1 with h1
            exact he h1.symm)))
          obtain ⟨u, v⟩ := q
          clear hrd hrd' hb ho hla hq he
          dsimp only at b0 b1 q0
          go_wp2_with fail
          go_quiet (fail)
          have HB := Lib.hid (drew_below (n := nq) (HB0.out.alloc HB0.out.size (.cells #[.int .i64 x, .int .i64 y] 30)))
          have HO := Lib.hid (own_below HO0.out (drew_below (n := nq) ((Below.refl _ _).alloc (Nat.le_refl _) (.cells #[.int .i64 x, .int .i64 y] 30))))
          obtain ⟨W1, hW1⟩ : ∃ W, (wr.alloc (.cells #[.int .i64 x, .int .i64 y] 30)).drewN nq = W := ⟨_, rfl⟩
          have e0 : W1.cell? ⟨wr.heap.size, 0, none⟩ = some (.int .i64 x) ∧ W1.cell? ⟨wr.heap.size, 1, none⟩ = some (.int .i64 y) := by rw [← hW1]; exact ⟨(Blk.new wr 30 #[.int .i64 x, .int .i64 y]).cell 0, (Blk.new wr 30 #[.int .i64 x, .int .i64 y]).cell 1⟩
          rw [hW1] at HB HO ⊢
          obtain ⟨e0, e1⟩ := e0
          clear hW1 HO0 HB0 a0 a1 b0 b1 q0
          go_wp2_with (at_builtin; refine wpList_append_own _ rfl _ _ 36 rfl w.heap.size 30 t0 (.agg #[.int .i64 0, .int .i64 0]) 2 16 Tryd.underlying36 hi0 hz0 hz1 hz2 rfl (by decide) _ _ _ rfl (HO.out.alloc _) ⟨W1.heap.size, 0, none⟩ 1 1 [.int .i64 x, .int .i64 y] rfl rfl (World.news_of_block (Blk.new _ _ _)) ?c2 ?c3 ?c4 ?c5 ?_)
          case c2 => intro u hu; simp only [List.mem_cons, List.not_mem_nil, or_false] at hu; rcases hu with rfl | rfl <;> rfl
          case c3 => unfold maxLen; omega
          case c4 => omega
          case c5 => simp; have := HB.out.size; omega
          intro v' w7 hown' hgrow _
          have HB7 := Lib.hid ((HB.out.alloc HB.out.size _).grown hgrow (by simp; have := HB.out.size; omega) (own_low HO.out))
          have HO7 := Lib.hid hown'
          clear hown' hgrow HO
          go_wp2_with fail
          go_roundw
          case rel => exact ⟨j + 1, (k + 1) + 1, by go_num, by omega, by rw [HD.out, List.length_append, HM.out]; rfl, by omega, by rw [HD.out, pts_app, HX.out]; exact HO7.out, HB7.out⟩
          case measure => simp [intOf]; omega
    · obtain rfl : j = n := by omega
      have HL : Hid (trm o (ddN l j) m = red l o) := Lib.hid (by unfold red; rw [HN.out, hm])
      have HF : Hid (pts (ddN l j) = (pts (ddN l j)).take (m * 2)) := Lib.hid (by rw [List.take_of_length_le]; rw [pts_len, hm]; exact Nat.le_refl _)
      obtain ⟨D, hD⟩ : ∃ D, ddN l j = D := ⟨_, rfl⟩
      obtain ⟨A', cap, rfl, hcap, hrd⟩ := own_open ho
      rw [hD] at HL HF ho hm hrd
      have hrr : Reads wr wr.heap.size 2 A' m (pts D) := hrd
      have HO := Lib.hid ho
      have HB := Lib.hid hb
      have HM := Lib.hid hm
      have HRD : Hid (PtR wr A' D) := Lib.hid (by rw [← hm] at hrd; exact hrd)
      have HTK : Hid (pts D = pts (D.take m)) := Lib.hid (by rw [List.take_of_length_le (by omega)])
      clear ho hb hm hrd hrr hD
      go_wp2_with fail
      go_loopw [5] (fun v w9 => ∃ k : Nat, v = .slice A' k cap ∧ k ≤ m ∧ trm o D k = red l o ∧ w9.ownsRow w.heap.size 30 2 v k (pts (D.take k)) ∧ Below wr.heap.size wr w9) (fun v _ => match v with | .slice _ k _ => k | _ => 0)
      case atStart => exact ⟨m, rfl, Nat.le_refl _, HL.out, by rw [← HTK.out]; exact HO.out, Below.refl _ _⟩
      case round =>
        obtain ⟨k, rfl, hkm, ht, ho, hb2⟩ := hrel
        have HB2 := Lib.hid (HB.out.trans (hb2.mono HB.out.size))
        have HKL : Hid ((D.take k).length = k) := Lib.hid (by rw [List.length_take, HM.out]; omega)
        have HO2 := Lib.hid ho
        have HRD2 := Lib.hid (HRD.out.below hb2)
        have HT := Lib.hid ht
        clear ho ht
        by_cases hc : o = false ∧ 1 < k ∧ D.getD (k - 1) (0, 0) = D.getD 0 (0, 0)
        · obtain ⟨rfl, hk1, he⟩ := hc
          obtain ⟨q, rfl⟩ : ∃ q, k = q + 2 := ⟨k - 2, by omega⟩
          have h1 : q + 1 < D.length := by have := HM.out; omega
          have HG : Hid (trm false D (q + 1) = red l false) := Lib.hid (by rw [← trm_go (l := D) (k := q + 1) (by omega) he]; exact HT.out)
          rw [show q + 2 - 1 = q + 1 by omega, getD_at h1, getD_at (by omega)] at he
          obtain ⟨ad', rfl, _⟩ := HRD2.out.addr (by omega)
          obtain ⟨b0, b1⟩ := pt_cells HRD2.out (q + 1) h1
          obtain ⟨c0, c1⟩ := pt_cells HRD2.out 0 (by omega)
          rw [show ad'.add (0 * 2) = ad' by unfold Addr.add; simp] at c0 c1
          obtain ⟨⟨x, y⟩, hp⟩ : ∃ p, D[q + 1] = p := ⟨_, rfl⟩
          rw [hp] at b0 b1 he
          rw [← he] at c0 c1
          dsimp only at b0 b1 c0 c1
          have q0 := eql_self (x, y)
          dsimp only at q0
          have w1 : IntKind.i64.wrap ((q : Int) + 1) = (q : Int) + 1 := IntWalk.i64_in _ (by omega)
          have z0 : (1 : Int) < (q : Int) + 2 := by omega
          have HOF : Hid (wr.ownsRow w.heap.size 30 2 (.slice (some ad') (q + 1) cap) (q + 1) (pts (D.take (q + 1)))) := Lib.hid (by
            have := own_front HO2.out (fun e => by cases e) (show q + 1 ≤ q + 2 by omega)
            rwa [pts_take, List.take_take, Nat.min_eq_left (by omega)] at this)
          have HBB := Lib.hid hb2
          clear hp he HO2 HT hb2
          go_wp2_with fail
          go_quiet (fail)
          have HO3 := Lib.hid (own_below HOF.out (drew_below (n := nq) (Below.refl _ _)))
          have HB3 := Lib.hid (drew_below (n := nq) HBB.out)
          clear b0 b1 c0 c1 q0
          go_wp2_with fail
          go_roundw
          case rel => exact ⟨q + 1, rfl, by omega, HG.out, HO3.out, HB3.out⟩
          case measure => simp
        · have HE : Hid (red l o = D.take k) := Lib.hid (by rw [← HT.out, trm_stop hc])
          have HF : Hid (∀ q, OwC (red l o) w (.returned (.slice A' k cap)) (wr.drewN q)) := Lib.hid fun q => ⟨_, rfl, by rw [HE.out, HKL.out]; exact own_below HO2.out (drew_below (Below.refl _ _)), drew_below HB2.out⟩
          have HR2 := Lib.hid hc
          clear hc hb2 HO2 HB2 HE HT HKL
          cases o with
          | true =>
            clear HRD2 HR2
            go_wp2_with fail
            go_quiet (fail)
            go_wp2_with fail
            go_ret
            exact HF.out nq
          | false =>
            by_cases hk1 : k ≤ 1
            · have z0 : decide ((1 : Int) < (k : Int)) = false := by simp; omega
              clear HRD2 HR2
              go_wp2_with fail
              go_quiet (fail)
              go_wp2_with fail
              go_ret
              exact HF.out nq
            · obtain ⟨q, rfl⟩ : ∃ q, k = q + 2 := ⟨k - 2, by omega⟩
              have h1 : q + 1 < D.length := by have := HM.out; omega
              have he : D[q + 1] ≠ D[0] := fun e => HR2.out ⟨rfl, by omega, by rw [show q + 2 - 1 = q + 1 by omega, getD_at h1, getD_at (by omega), e]⟩
              obtain ⟨ad', rfl, _⟩ := HRD2.out.addr (by omega)
              obtain ⟨b0, b1⟩ := pt_cells HRD2.out (q + 1) h1
              obtain ⟨c0, c1⟩ := pt_cells HRD2.out 0 (by omega)
              rw [show ad'.add (0 * 2) = ad' by unfold Addr.add; simp] at c0 c1
              obtain ⟨⟨x, y⟩, hp⟩ : ∃ p, D[q + 1] = p := ⟨_, rfl⟩
              obtain ⟨⟨u, v⟩, hp'⟩ : ∃ p, D[0] = p := ⟨_, rfl⟩
              rw [hp, hp'] at he
              rw [hp] at b0 b1
              rw [hp'] at c0 c1
              have q0 := eql_not he
              dsimp only at b0 b1 c0 c1 q0
              have w1 : IntKind.i64.wrap ((q : Int) + 1) = (q : Int) + 1 := IntWalk.i64_in _ (by omega)
              have z0 : (1 : Int) < (q : Int) + 2 := by omega
              clear hp hp' he HR2 hk1 HRD2
              go_wp2_with fail
              go_quiet (fail)
              go_wp2_with fail
              go_ret
              exact HF.out nq
set_option maxRecDepth 100000 in
set_option maxHeartbeats 8000000 in
theorem rReduced_any (A : Option Addr) (l : List P2) (c : Nat) (o : Bool) (w : World) (h : PtR w A l) (hl : l.length ≤ 1048576) : Calls Tryd.prog 24 #[.slice A l.length c, .bool o] w (OwC (red l o) w) := by
  obtain ⟨n, hn⟩ : ∃ n, l.length = n := ⟨_, rfl⟩
  rw [hn] at hl ⊢
  have HN := Lib.hid hn
  have HR := Lib.hid h
  clear h hn
  obtain ⟨t0, hi0, hz0, hz1, hz2⟩ := info_parts infoP
  go_enter Tryd.func24, Tryd.ntmps24
  go_wp2_with fail
  go_loopw [5, 9] (fun v i wr => ∃ j m : Nat, i = .int .i64 j ∧ j ≤ n ∧ (ddN l j).length = m ∧ m ≤ j ∧ wr.ownsRow w.heap.size 30 2 v m (pts (ddN l j)) ∧ Below w.heap.size w wr) (fun _ i _ => n - (intOf i).toNat)
  case atStart => exact ⟨0, 0, rfl, by omega, rfl, Nat.le_refl _, ⟨by simp [ddN, pts], .inl ⟨rfl, rfl⟩⟩, Below.refl _ _⟩
  case round =>
    obtain ⟨j, m, rfl, hj, hm, hmj, ho, hb⟩ := hrel
    by_cases hlt : j < n
    · have hjl : j < l.length := by have := HN.out; omega
      have hr := HR.out.below hb
      obtain ⟨ad, rfl, hadb⟩ := hr.addr (by omega)
      obtain ⟨a0, a1⟩ := pt_cells hr j hjl
      obtain ⟨x, hx⟩ : ∃ x, l[j].1 = x := ⟨_, rfl⟩
      obtain ⟨y, hy⟩ : ∃ x, l[j].2 = x := ⟨_, rfl⟩
      have hp : l.getD j (0, 0) = (x, y) := by rw [getD_at hjl, ← hx, ← hy]
      rw [hx] at a0
      rw [hy] at a1
      have HX : Hid (pts [l.getD j (0, 0)] = [.int .i64 x, .int .i64 y]) := Lib.hid (by rw [hp]; rfl)
      obtain ⟨A', cap, rfl, hcap, hrd⟩ := own_open ho
      have HO0 := Lib.hid ho
      have HB0 := Lib.hid hb
      have HM := Lib.hid hm
      have HP := Lib.hid hp
      clear hx hy hr hp
      by_cases hm0 : m = 0
      · subst hm0
        have HD : Hid (ddN l (j + 1) = ddN l j ++ [l.getD j (0, 0)]) := Lib.hid (dd_add (Or.inl (List.eq_nil_of_length_eq_zero HM.out)))
        clear hrd hb ho hm
        go_wp2_with fail
        go_quiet (fail)
        have HB := Lib.hid (drew_below (n := nq) HB0.out)
        have HO := Lib.hid (own_below HO0.out (drew_below (n := nq) (Below.refl _ _)))
        obtain ⟨W1, hW1⟩ : ∃ W, wr.drewN nq = W := ⟨_, rfl⟩
        have e0 : W1.cell? (ad.add (j * 2)) = some (.int .i64 x) ∧ W1.cell? ⟨(ad.add (j * 2)).block, (ad.add (j * 2)).off + 1, none⟩ = some (.int .i64 y) := by rw [← hW1]; exact ⟨a0, a1⟩
        rw [hW1] at HB HO ⊢
        obtain ⟨e0, e1⟩ := e0
        clear hW1 HO0 HB0 a0 a1
        go_wp2_with (at_builtin; refine wpList_append_own _ rfl _ _ 36 rfl w.heap.size 30 t0 (.agg #[.int .i64 0, .int .i64 0]) 2 16 Tryd.underlying36 hi0 hz0 hz1 hz2 rfl (by decide) _ _ _ rfl (HO.out.alloc _) ⟨W1.heap.size, 0, none⟩ 1 1 [.int .i64 x, .int .i64 y] rfl rfl (World.news_of_block (Blk.new _ _ _)) ?c2 ?c3 ?c4 ?c5 ?_)
        case c2 => intro u hu; simp only [List.mem_cons, List.not_mem_nil, or_false] at hu; rcases hu with rfl | rfl <;> rfl
        case c3 => unfold maxLen; omega
        case c4 => omega
        case c5 => simp; have := HB.out.size; omega
        intro v' w7 hown' hgrow _
        have HB7 := Lib.hid ((HB.out.alloc HB.out.size _).grown hgrow (by simp; have := HB.out.size; omega) (own_low HO.out))
        have HO7 := Lib.hid hown'
        clear hown' hgrow HO
        go_wp2_with fail
        go_roundw
        case rel => exact ⟨j + 1, 0 + 1, by go_num, by omega, by rw [HD.out, List.length_append, HM.out]; rfl, by omega, by rw [HD.out, pts_app, HX.out]; exact HO7.out, HB7.out⟩
        case measure => simp [intOf]; omega
      · obtain ⟨k, rfl⟩ : ∃ k, m = k + 1 := ⟨m - 1, by omega⟩
        have hkl : k < (ddN l j).length := by omega
        have hla : (ddN l j).getLast? = some (ddN l j)[k] := last_at hm
        obtain ⟨ad', rfl, hadb'⟩ := (show PtR wr A' (ddN l j) by rw [← hm] at hrd; exact hrd).addr (by omega)
        have hrd' : PtR wr (some ad') (ddN l j) := by rw [← hm] at hrd; exact hrd
        obtain ⟨b0, b1⟩ := pt_cells hrd' k hkl
        obtain ⟨q, hq⟩ : ∃ q, (ddN l j)[k] = q := ⟨_, rfl⟩
        rw [hq] at b0 b1 hla
        have w1 : IntKind.i64.wrap (k : Int) = (k : Int) := IntWalk.i64_in _ (by omega)
        have z0 : ((k : Int) + 1 == 0) = false := by simp; omega
        have z1 : (k : Int) < (k : Int) + 1 := by omega
        by_cases he : (x, y) = q
        · subst he
          have q0 := neq_self (x, y)
          have HD : Hid (ddN l (j + 1) = ddN l j) := Lib.hid (dd_keep (by
            rw [HP.out, hla]
            rintro (h1 | h1)
            · rw [h1] at hm; cases hm
            · exact h1 rfl))
          clear hrd hrd' hb ho hla hq
          dsimp only at b0 b1 q0
          go_wp2_with fail
          go_quiet (fail)
          have HB := Lib.hid (drew_below (n := nq) HB0.out)
          have HO := Lib.hid (own_below HO0.out (drew_below (n := nq) (Below.refl _ _)))
          clear HO0 HB0 a0 a1 b0 b1 q0
          go_wp2_with fail
          go_roundw
          case rel => exact ⟨j + 1, k + 1, by go_num, by omega, by rw [HD.out, HM.out], by omega, by rw [HD.out]; exact HO.out, HB.out⟩
          case measure => simp [intOf]; omega
        · have q0 := neq_of (fun e => he e.symm)
          have HD : Hid (ddN l (j + 1) = ddN l j ++ [l.getD j (0, 0)]) := Lib.hid (dd_add (Or.inr (by
            rw [HP.out, hla]
            intro h1
            injection h1 with h1
            exact he h1.symm)))
          obtain ⟨u, v⟩ := q
          clear hrd hrd' hb ho hla hq he
          dsimp only at b0 b1 q0
          go_wp2_with fail
          go_quiet (fail)
          have HB := Lib.hid (drew_below (n := nq) HB0.out)
          have HO := Lib.hid (own_below HO0.out (drew_below (n := nq) (Below.refl _ _)))
          obtain ⟨W1, hW1⟩ : ∃ W, wr.drewN nq = W := ⟨_, rfl⟩
          have e0 : W1.cell? (ad.add (j * 2)) = some (.int .i64 x) ∧ W1.cell? ⟨(ad.add (j * 2)).block, (ad.add (j * 2)).off + 1, none⟩ = some (.int .i64 y) := by rw [← hW1]; exact ⟨a0, a1⟩
          rw [hW1] at HB HO ⊢
          obtain ⟨e0, e1⟩ := e0
          clear hW1 HO0 HB0 a0 a1 b0 b1 q0
          go_wp2_with (at_builtin; refine wpList_append_own _ rfl _ _ 36 rfl w.heap.size 30 t0 (.agg #[.int .i64 0, .int .i64 0]) 2 16 Tryd.underlying36 hi0 hz0 hz1 hz2 rfl (by decide) _ _ _ rfl (HO.out.alloc _) ⟨W1.heap.size, 0, none⟩ 1 1 [.int .i64 x, .int .i64 y] rfl rfl (World.news_of_block (Blk.new _ _ _)) ?c2 ?c3 ?c4 ?c5 ?_)
          case c2 => intro u hu; simp only [List.mem_cons, List.not_mem_nil, or_false] at hu; rcases hu with rfl | rfl <;> rfl
          case c3 => unfold maxLen; omega
          case c4 => omega
          case c5 => simp; have := HB.out.size; omega
          intro v' w7 hown' hgrow _
          have HB7 := Lib.hid ((HB.out.alloc HB.out.size _).grown hgrow (by simp; have := HB.out.size; omega) (own_low HO.out))
          have HO7 := Lib.hid hown'
          clear hown' hgrow HO
          go_wp2_with fail
          go_roundw
          case rel => exact ⟨j + 1, (k + 1) + 1, by go_num, by omega, by rw [HD.out, List.length_append, HM.out]; rfl, by omega, by rw [HD.out, pts_app, HX.out]; exact HO7.out, HB7.out⟩
          case measure => simp [intOf]; omega
    · obtain rfl : j = n := by omega
      have HL : Hid (trm o (ddN l j) m = red l o) := Lib.hid (by unfold red; rw [HN.out, hm])
      have HF : Hid (pts (ddN l j) = (pts (ddN l j)).take (m * 2)) := Lib.hid (by rw [List.take_of_length_le]; rw [pts_len, hm]; exact Nat.le_refl _)
      obtain ⟨D, hD⟩ : ∃ D, ddN l j = D := ⟨_, rfl⟩
      obtain ⟨A', cap, rfl, hcap, hrd⟩ := own_open ho
      rw [hD] at HL HF ho hm hrd
      have hrr : Reads wr wr.heap.size 2 A' m (pts D) := hrd
      have HO := Lib.hid ho
      have HB := Lib.hid hb
      have HM := Lib.hid hm
      have HRD : Hid (PtR wr A' D) := Lib.hid (by rw [← hm] at hrd; exact hrd)
      have HTK : Hid (pts D = pts (D.take m)) := Lib.hid (by rw [List.take_of_length_le (by omega)])
      clear ho hb hm hrd hrr hD
      go_wp2_with fail
      go_loopw [5] (fun v w9 => ∃ k : Nat, v = .slice A' k cap ∧ k ≤ m ∧ trm o D k = red l o ∧ w9.ownsRow w.heap.size 30 2 v k (pts (D.take k)) ∧ Below wr.heap.size wr w9) (fun v _ => match v with | .slice _ k _ => k | _ => 0)
      case atStart => exact ⟨m, rfl, Nat.le_refl _, HL.out, by rw [← HTK.out]; exact HO.out, Below.refl _ _⟩
      case round =>
        obtain ⟨k, rfl, hkm, ht, ho, hb2⟩ := hrel
        have HB2 := Lib.hid (HB.out.trans (hb2.mono HB.out.size))
        have HKL : Hid ((D.take k).length = k) := Lib.hid (by rw [List.length_take, HM.out]; omega)
        have HO2 := Lib.hid ho
        have HRD2 := Lib.hid (HRD.out.below hb2)
        have HT := Lib.hid ht
        clear ho ht
        by_cases hc : o = false ∧ 1 < k ∧ D.getD (k - 1) (0, 0) = D.getD 0 (0, 0)
        · obtain ⟨rfl, hk1, he⟩ := hc
          obtain ⟨q, rfl⟩ : ∃ q, k = q + 2 := ⟨k - 2, by omega⟩
          have h1 : q + 1 < D.length := by have := HM.out; omega
          have HG : Hid (trm false D (q + 1) = red l false) := Lib.hid (by rw [← trm_go (l := D) (k := q + 1) (by omega) he]; exact HT.out)
          rw [show q + 2 - 1 = q + 1 by omega, getD_at h1, getD_at (by omega)] at he
          obtain ⟨ad', rfl, _⟩ := HRD2.out.addr (by omega)
          obtain ⟨b0, b1⟩ := pt_cells HRD2.out (q + 1) h1
          obtain ⟨c0, c1⟩ := pt_cells HRD2.out 0 (by omega)
          rw [show ad'.add (0 * 2) = ad' by unfold Addr.add; simp] at c0 c1
          obtain ⟨⟨x, y⟩, hp⟩ : ∃ p, D[q + 1] = p := ⟨_, rfl⟩
          rw [hp] at b0 b1 he
          rw [← he] at c0 c1
          dsimp only at b0 b1 c0 c1
          have q0 := eql_self (x, y)
          dsimp only at q0
          have w1 : IntKind.i64.wrap ((q : Int) + 1) = (q : Int) + 1 := IntWalk.i64_in _ (by omega)
          have z0 : (1 : Int) < (q : Int) + 2 := by omega
          have HOF : Hid (wr.ownsRow w.heap.size 30 2 (.slice (some ad') (q + 1) cap) (q + 1) (pts (D.take (q + 1)))) := Lib.hid (by
            have := own_front HO2.out (fun e => by cases e) (show q + 1 ≤ q + 2 by omega)
            rwa [pts_take, List.take_take, Nat.min_eq_left (by omega)] at this)
          have HBB := Lib.hid hb2
          clear hp he HO2 HT hb2
          go_wp2_with fail
          go_quiet (fail)
          have HO3 := Lib.hid (own_below HOF.out (drew_below (n := nq) (Below.refl _ _)))
          have HB3 := Lib.hid (drew_below (n := nq) HBB.out)
          clear b0 b1 c0 c1 q0
          go_wp2_with fail
          go_roundw
          case rel => exact ⟨q + 1, rfl, by omega, HG.out, HO3.out, HB3.out⟩
          case measure => simp
        · have HE : Hid (red l o = D.take k) := Lib.hid (by rw [← HT.out, trm_stop hc])
          have HF : Hid (∀ q, OwC (red l o) w (.returned (.slice A' k cap)) (wr.drewN q)) := Lib.hid fun q => ⟨_, rfl, by rw [HE.out, HKL.out]; exact own_below HO2.out (drew_below (Below.refl _ _)), drew_below HB2.out⟩
          have HR2 := Lib.hid hc
          clear hc hb2 HO2 HB2 HE HT HKL
          cases o with
          | true =>
            clear HRD2 HR2
            go_wp2_with fail
            go_quiet (fail)
            go_wp2_with fail
            go_ret
            exact HF.out nq
          | false =>
            by_cases hk1 : k ≤ 1
            · have z0 : decide ((1 : Int) < (k : Int)) = false := by simp; omega
              clear HRD2 HR2
              go_wp2_with fail
              go_quiet (fail)
              go_wp2_with fail
              go_ret
              exact HF.out nq
            · obtain ⟨q, rfl⟩ : ∃ q, k = q + 2 := ⟨k - 2, by omega⟩
              have h1 : q + 1 < D.length := by have := HM.out; omega
              have he : D[q + 1] ≠ D[0] := fun e => HR2.out ⟨rfl, by omega, by rw [show q + 2 - 1 = q + 1 by omega, getD_at h1, getD_at (by omega), e]⟩
              obtain ⟨ad', rfl, _⟩ := HRD2.out.addr (by omega)
              obtain ⟨b0, b1⟩ := pt_cells HRD2.out (q + 1) h1
              obtain ⟨c0, c1⟩ := pt_cells HRD2.out 0 (by omega)
              rw [show ad'.add (0 * 2) = ad' by unfold Addr.add; simp] at c0 c1
              obtain ⟨⟨x, y⟩, hp⟩ : ∃ p, D[q + 1] = p := ⟨_, rfl⟩
              obtain ⟨⟨u, v⟩, hp'⟩ : ∃ p, D[0] = p := ⟨_, rfl⟩
              rw [hp, hp'] at he
              rw [hp] at b0 b1
              rw [hp'] at c0 c1
              have q0 := eql_not he
              dsimp only at b0 b1 c0 c1 q0
              have w1 : IntKind.i64.wrap ((q : Int) + 1) = (q : Int) + 1 := IntWalk.i64_in _ (by omega)
              have z0 : (1 : Int) < (q : Int) + 2 := by omega
              clear hp hp' he HR2 hk1 HRD2
              go_wp2_with fail
              go_quiet (fail)
              go_wp2_with fail
              go_ret
              exact HF.out nq
end Go.Proofs.YtflopcogalknhaaDoor.Str

/- StrC: Layer 21: normals and extensions of edges, both sides. -/
namespace Go.Proofs.YtflopcogalknhaaDoor.Str
open Go.RowKit Go.Proofs.YtflopcogalknhaaDoor Go.Proofs.YtflopcogalknhaaDoor.NumPure

theorem i64w {x : Int} (h0 : -9223372036854775808 ≤ x) (h1 : x ≤ 9223372036854775807) : IntKind.i64.wrap x = x := IntWalk.i64_in _ (by omega)
/-- What is worked out for an edge, and that nothing overflows. -/
theorem edge_nums {w : Int} {a b : P2} (w1 : 1 ≤ w) (w2 : w ≤ 4096) (ha : Inb 16777216 a) (hb : Inb 16777216 b) :
    (-33554432 ≤ b.1 - a.1 ∧ b.1 - a.1 ≤ 33554432) ∧ (-33554432 ≤ b.2 - a.2 ∧ b.2 - a.2 ≤ 33554432) ∧ (-1099511627776 ≤ 8 * w * (b.1 - a.1) ∧ 8 * w * (b.1 - a.1) ≤ 1099511627776) ∧ (-1099511627776 ≤ 8 * w * (b.2 - a.2) ∧ 8 * w * (b.2 - a.2) ≤ 1099511627776) ∧ (-1099511627776 ≤ -8 * w * (b.2 - a.2) ∧ -8 * w * (b.2 - a.2) ≤ 1099511627776) ∧ 0 ≤ hyp16 a b ∧ hyp16 a b ≤ 9223372036854775807 := by
  unfold Inb at ha hb
  have h := hyp_ge (x := 16 * (b.1 - a.1)) (y := 16 * (b.2 - a.2)) (by omega) (by omega)
  have h1 := mul_in (a := 8 * w) (b := b.1 - a.1) (A := 32768) (B := 33554432) (by omega) (by omega) (by omega) (by omega)
  have h2 := mul_in (a := 8 * w) (b := b.2 - a.2) (A := 32768) (B := 33554432) (by omega) (by omega) (by omega) (by omega)
  have h3 := mul_in (a := -8 * w) (b := b.2 - a.2) (A := 32768) (B := 33554432) (by omega) (by omega) (by omega) (by omega)
  unfold hyp16
  exact ⟨by omega, by omega, by omega, by omega, by omega, h.1, h.2.1⟩
set_option maxRecDepth 100000 in
set_option maxHeartbeats 8000000 in
theorem rnormal_any (a b : P2) (wd : Int) (w : World) (w1 : 1 ≤ wd) (w2 : wd ≤ 4096) (ha : Inb 16777216 a) (hb : Inb 16777216 b) : Calls Tryd.prog 39 #[.agg #[.int .i64 a.1, .int .i64 a.2], .agg #[.int .i64 b.1, .int .i64 b.2], .int .i64 wd] w (PtC (nrm wd a b) w) := by
  obtain ⟨d0, d1, d2, d3, d4, d5⟩ := edge_nums w1 w2 ha hb
  obtain ⟨h, hh⟩ : ∃ h, hyp16 a b = h := ⟨_, rfl⟩
  obtain ⟨u, hu⟩ : ∃ u, dvr (-8 * wd * (b.2 - a.2)) h = u := ⟨_, rfl⟩
  obtain ⟨v, hv⟩ : ∃ v, dvr (8 * wd * (b.1 - a.1)) h = v := ⟨_, rfl⟩
  have HN : Hid (nrm wd a b = (u, v)) := Lib.hid (by unfold nrm; rw [hh, hu, hv])
  unfold Inb at ha hb
  have C1 := fun W => Ref01.hypot_any (16 * (b.1 - a.1)) (16 * (b.2 - a.2)) (by omega) (by omega) (by omega) (by omega) W
  unfold hyp16 at hh
  rw [hh] at C1
  rw [show hyp16 a b = h from hh] at d5
  obtain ⟨x, y⟩ := a
  obtain ⟨p, q⟩ := b
  dsimp only at *
  obtain ⟨m8, hm8⟩ : ∃ z, -8 * wd = z := ⟨_, rfl⟩
  obtain ⟨p8, hp8⟩ : ∃ z, 8 * wd = z := ⟨_, rfl⟩
  obtain ⟨dy, hdy⟩ : ∃ z, q - y = z := ⟨_, rfl⟩
  obtain ⟨dx, hdx⟩ : ∃ z, p - x = z := ⟨_, rfl⟩
  obtain ⟨N1, hN1⟩ : ∃ z, m8 * dy = z := ⟨_, rfl⟩
  obtain ⟨N2, hN2⟩ : ∃ z, p8 * dx = z := ⟨_, rfl⟩
  rw [hm8, hdy, hN1] at hu d4
  rw [hp8, hdx, hN2] at hv d2
  have HC1 := Lib.hid C1
  have HC2 := Lib.hid (fun W => Ref01.div_is N1 h u hu.symm (by omega) (by omega) (by omega) (by omega) W)
  have HC3 := Lib.hid (fun W => Ref01.div_is N2 h v hv.symm (by omega) (by omega) (by omega) (by omega) W)
  have HB := Lib.hid (Bn.three w 30 30 30 #[.int .i64 x, .int .i64 y] #[.int .i64 p, .int .i64 q] (pcs (0, 0)))
  have E1 := Lib.hid hm8
  have E2 := Lib.hid hp8
  have E3 := Lib.hid hdy
  have E4 := Lib.hid hdx
  have E5 := Lib.hid hN1
  have E6 := Lib.hid hN2
  have D2 := Lib.hid d2
  have D4 := Lib.hid d4
  clear C1 hh hu hv hm8 hp8 hdy hdx hN1 hN2 d2 d3 d4
  go_enter Tryd.func39, Tryd.ntmps39
  go_wp2_with fail
  refine (HC1.out _).mono ?_
  rintro e w' ⟨rfl, rfl⟩
  have k1 : IntKind.i64.wrap (-8 * wd) = m8 := by rw [E1.out]; exact i64w (by have := E1.out; omega) (by have := E1.out; omega)
  have k2 : IntKind.i64.wrap (8 * wd) = p8 := by rw [E2.out]; exact i64w (by have := E2.out; omega) (by have := E2.out; omega)
  have k3 : IntKind.i64.wrap (q - y) = dy := by rw [E3.out]; exact i64w (by have := E3.out; omega) (by have := E3.out; omega)
  have k4 : IntKind.i64.wrap (p - x) = dx := by rw [E4.out]; exact i64w (by have := E4.out; omega) (by have := E4.out; omega)
  have k5 : IntKind.i64.wrap (m8 * dy) = N1 := by rw [E5.out]; exact i64w (by have := D4.out; omega) (by have := D4.out; omega)
  have k6 : IntKind.i64.wrap (p8 * dx) = N2 := by rw [E6.out]; exact i64w (by have := D2.out; omega) (by have := D2.out; omega)
  clear d0 d1 d5 ha hb HC1 E1 E2 E3 E4 E5 E6 D2 D4
  go_upto_region 2 with fail
  obtain ⟨W0, hW0⟩ : ∃ W, ((w.alloc (.cells #[.int .i64 x, .int .i64 y] 30)).alloc (.cells #[.int .i64 p, .int .i64 q] 30)).alloc (.cells #[.int .i64 0, .int .i64 0] 30) = W := ⟨_, rfl⟩
  have hW0' : ((w.alloc (.cells #[.int .i64 x, .int .i64 y] 30)).alloc (.cells #[.int .i64 p, .int .i64 q] 30)).alloc (.cells (pcs (0, 0)) 30) = W0 := hW0
  have h0 := HB.out.b.size
  rw [hW0'] at HB h0
  rw [hW0]
  obtain ⟨g0, hg0⟩ : ∃ g, w.heap.size = g := ⟨_, rfl⟩
  obtain ⟨g1, hg1⟩ : ∃ g, g0 + 1 = g := ⟨_, rfl⟩
  obtain ⟨g2, hg2⟩ : ∃ g, g1 + 1 = g := ⟨_, rfl⟩
  rw [hg0, hg1, hg2] at HB
  rw [hg0, hg1, hg2]
  have n1 : ¬ (g2 = g0) := by omega
  have n2 : ¬ (g2 = g1) := by omega
  have HGE : Hid (w.heap.size ≤ g2) := Lib.hid (by omega)
  clear hW0 hW0' h0 hg0 hg1 hg2
  obtain ⟨a0, a1, _⟩ := blk2 (HB.out.get 0 rfl)
  obtain ⟨b0, b1, _⟩ := blk2 (HB.out.get 1 rfl)
  obtain ⟨z0, z1, z2⟩ := blk2 (show Blk W0 g2 30 #[.int .i64 0, .int .i64 0] from HB.out.get 2 rfl)
  go_region_held3 (fun W => W.cell? ⟨g0, 0, none⟩ = some (.int .i64 x) ∧ W.cell? ⟨g0, 1, none⟩ = some (.int .i64 y) ∧ W.cell? ⟨g1, 0, none⟩ = some (.int .i64 p) ∧ W.cell? ⟨g1, 1, none⟩ = some (.int .i64 q))
    (go_keep)
    (first
      | (go_at_call_of 55 N1; refine (HC2.out _).mono ?_; rintro e w' ⟨rfl, n, rfl⟩)
      | (go_at_call_of 55 N2; refine (HC3.out _).mono ?_; rintro e w' ⟨rfl, n, rfl⟩))
  go_wp2_with fail
  rw [two_row (show Blk _ g2 30 #[.int .i64 0, .int .i64 0] from (HB.out.get 2 rfl).drewN _)]
  refine bodyPost_ret (v := .agg #[.int .i64 u, .int .i64 v]) (results_cell_row rfl _ _ g2 30 #[.int .i64 u, .int .i64 v] (0, 0) _ rfl (Blk.row ((HB.out.get 2 rfl).drewN _) _) Tryd.underlying30 rfl (infoPt (0, 0))) rfl ?_
  exact ⟨by rw [HN.out], below_setRow (drew_below HB.out.b) HGE.out _⟩
set_option maxRecDepth 100000 in
set_option maxHeartbeats 8000000 in
theorem rextension_any (a b : P2) (wd : Int) (w : World) (w1 : 1 ≤ wd) (w2 : wd ≤ 4096) (ha : Inb 16777216 a) (hb : Inb 16777216 b) : Calls Tryd.prog 44 #[.agg #[.int .i64 a.1, .int .i64 a.2], .agg #[.int .i64 b.1, .int .i64 b.2], .int .i64 wd] w (PtC (ext wd a b) w) := by
  obtain ⟨d0, d1, d2, d3, d4, d5⟩ := edge_nums w1 w2 ha hb
  obtain ⟨h, hh⟩ : ∃ h, hyp16 a b = h := ⟨_, rfl⟩
  obtain ⟨u, hu⟩ : ∃ u, dvr (8 * wd * (b.1 - a.1)) h = u := ⟨_, rfl⟩
  obtain ⟨v, hv⟩ : ∃ v, dvr (8 * wd * (b.2 - a.2)) h = v := ⟨_, rfl⟩
  have HN : Hid (ext wd a b = (u, v)) := Lib.hid (by unfold ext; rw [hh, hu, hv])
  unfold Inb at ha hb
  have C1 := fun W => Ref01.hypot_any (16 * (b.1 - a.1)) (16 * (b.2 - a.2)) (by omega) (by omega) (by omega) (by omega) W
  unfold hyp16 at hh
  rw [hh] at C1
  rw [show hyp16 a b = h from hh] at d5
  obtain ⟨x, y⟩ := a
  obtain ⟨p, q⟩ := b
  dsimp only at *
  obtain ⟨p8, hp8⟩ : ∃ z, 8 * wd = z := ⟨_, rfl⟩
  obtain ⟨dy, hdy⟩ : ∃ z, q - y = z := ⟨_, rfl⟩
  obtain ⟨dx, hdx⟩ : ∃ z, p - x = z := ⟨_, rfl⟩
  obtain ⟨N1, hN1⟩ : ∃ z, p8 * dx = z := ⟨_, rfl⟩
  obtain ⟨N2, hN2⟩ : ∃ z, p8 * dy = z := ⟨_, rfl⟩
  rw [hp8, hdx, hN1] at hu d2
  rw [hp8, hdy, hN2] at hv d3
  have HC1 := Lib.hid C1
  have HC2 := Lib.hid (fun W => Ref01.div_is N1 h u hu.symm (by omega) (by omega) (by omega) (by omega) W)
  have HC3 := Lib.hid (fun W => Ref01.div_is N2 h v hv.symm (by omega) (by omega) (by omega) (by omega) W)
  have HB := Lib.hid (Bn.three w 30 30 30 #[.int .i64 x, .int .i64 y] #[.int .i64 p, .int .i64 q] (pcs (0, 0)))
  have E2 := Lib.hid hp8
  have E3 := Lib.hid hdy
  have E4 := Lib.hid hdx
  have E5 := Lib.hid hN1
  have E6 := Lib.hid hN2
  have D2 := Lib.hid d2
  have D3 := Lib.hid d3
  clear C1 hh hu hv hp8 hdy hdx hN1 hN2 d2 d3 d4
  go_enter Tryd.func44, Tryd.ntmps44
  go_wp2_with fail
  refine (HC1.out _).mono ?_
  rintro e w' ⟨rfl, rfl⟩
  have k2 : IntKind.i64.wrap (8 * wd) = p8 := by rw [E2.out]; exact i64w (by have := E2.out; omega) (by have := E2.out; omega)
  have k3 : IntKind.i64.wrap (q - y) = dy := by rw [E3.out]; exact i64w (by have := E3.out; omega) (by have := E3.out; omega)
  have k4 : IntKind.i64.wrap (p - x) = dx := by rw [E4.out]; exact i64w (by have := E4.out; omega) (by have := E4.out; omega)
  have k5 : IntKind.i64.wrap (p8 * dx) = N1 := by rw [E5.out]; exact i64w (by have := D2.out; omega) (by have := D2.out; omega)
  have k6 : IntKind.i64.wrap (p8 * dy) = N2 := by rw [E6.out]; exact i64w (by have := D3.out; omega) (by have := D3.out; omega)
  clear d0 d1 d5 ha hb HC1 E2 E3 E4 E5 E6 D2 D3
  go_upto_region 2 with fail
  obtain ⟨W0, hW0⟩ : ∃ W, ((w.alloc (.cells #[.int .i64 x, .int .i64 y] 30)).alloc (.cells #[.int .i64 p, .int .i64 q] 30)).alloc (.cells #[.int .i64 0, .int .i64 0] 30) = W := ⟨_, rfl⟩
  have hW0' : ((w.alloc (.cells #[.int .i64 x, .int .i64 y] 30)).alloc (.cells #[.int .i64 p, .int .i64 q] 30)).alloc (.cells (pcs (0, 0)) 30) = W0 := hW0
  have h0 := HB.out.b.size
  rw [hW0'] at HB h0
  rw [hW0]
  obtain ⟨g0, hg0⟩ : ∃ g, w.heap.size = g := ⟨_, rfl⟩
  obtain ⟨g1, hg1⟩ : ∃ g, g0 + 1 = g := ⟨_, rfl⟩
  obtain ⟨g2, hg2⟩ : ∃ g, g1 + 1 = g := ⟨_, rfl⟩
  rw [hg0, hg1, hg2] at HB
  rw [hg0, hg1, hg2]
  have n1 : ¬ (g2 = g0) := by omega
  have n2 : ¬ (g2 = g1) := by omega
  have HGE : Hid (w.heap.size ≤ g2) := Lib.hid (by omega)
  clear hW0 hW0' h0 hg0 hg1 hg2
  obtain ⟨a0, a1, _⟩ := blk2 (HB.out.get 0 rfl)
  obtain ⟨b0, b1, _⟩ := blk2 (HB.out.get 1 rfl)
  obtain ⟨z0, z1, z2⟩ := blk2 (show Blk W0 g2 30 #[.int .i64 0, .int .i64 0] from HB.out.get 2 rfl)
  go_region_held3 (fun W => W.cell? ⟨g0, 0, none⟩ = some (.int .i64 x) ∧ W.cell? ⟨g0, 1, none⟩ = some (.int .i64 y) ∧ W.cell? ⟨g1, 0, none⟩ = some (.int .i64 p) ∧ W.cell? ⟨g1, 1, none⟩ = some (.int .i64 q))
    (go_keep)
    (first
      | (go_at_call_of 55 N1; refine (HC2.out _).mono ?_; rintro e w' ⟨rfl, n, rfl⟩)
      | (go_at_call_of 55 N2; refine (HC3.out _).mono ?_; rintro e w' ⟨rfl, n, rfl⟩))
  go_wp2_with fail
  rw [two_row (show Blk _ g2 30 #[.int .i64 0, .int .i64 0] from (HB.out.get 2 rfl).drewN _)]
  refine bodyPost_ret (v := .agg #[.int .i64 u, .int .i64 v]) (results_cell_row rfl _ _ g2 30 #[.int .i64 u, .int .i64 v] (0, 0) _ rfl (Blk.row ((HB.out.get 2 rfl).drewN _) _) Tryd.underlying30 rfl (infoPt (0, 0))) rfl ?_
  exact ⟨by rw [HN.out], below_setRow (drew_below HB.out.b) HGE.out _⟩
def edc (w : Int) (a b : P2) : Array Value := #[.int .i64 a.1, .int .i64 a.2, .int .i64 b.1, .int .i64 b.2, .int .i64 (mi b a).1, .int .i64 (mi b a).2, .int .i64 (nrm w a b).1, .int .i64 (nrm w a b).2, .int .i64 (ext w a b).1, .int .i64 (ext w a b).2]
def edz : Array Value := #[.int .i64 0, .int .i64 0, .int .i64 0, .int .i64 0, .int .i64 0, .int .i64 0, .int .i64 0, .int .i64 0, .int .i64 0, .int .i64 0]
theorem infoE (cs : Array Value) (h : cs.size = 10) : (Tryd.prog.info? 65).map (·.size) = some cs.size := by rw [h]; kernel_rfl
theorem runE (w : World) : (Instr.alloc 65 true (.tuple #[])).run Tryd.prog w = .ok (.pointer (some ⟨w.heap.size, 0, none⟩)) (w.alloc (.cells edz 65)) := by kernel_rfl
end Go.Proofs.YtflopcogalknhaaDoor.Str
