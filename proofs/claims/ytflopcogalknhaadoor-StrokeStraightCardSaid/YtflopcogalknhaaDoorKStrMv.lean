/-
  Layer 21, plain: moved polygons have moved outlines and moved dashes.
-/
import Derived.Test.YtflopcogalknhaaDoorKStrGd
import Derived.Test.YtflopcogalknhaaDoorKStrAl
import Derived.Test.YtflopcogalknhaaDoorKStrDq
set_option linter.unusedVariables false
set_option linter.unusedSimpArgs false
namespace Go.Proofs.YtflopcogalknhaaDoor.Str
open Go.RowKit Go.Proofs.YtflopcogalknhaaDoor Go.Proofs.YtflopcogalknhaaDoor.NumPure

def mvp (d p : P2) : P2 := (p.1 + d.1, p.2 + d.2)
theorem movP_eq (d : P2) (l : List P2) : movP d l = l.map (mvp d) := rfl
theorem movP_len (d : P2) (l : List P2) : (movP d l).length = l.length := by simp [movP]
theorem movP_app (d : P2) (a b : List P2) : movP d (a ++ b) = movP d a ++ movP d b := by simp [movP]
theorem mov_app (d : P2) (a b : List (List P2)) : mov d (a ++ b) = mov d a ++ mov d b := by simp [mov]
theorem movP_at {d : P2} {l : List P2} {i : Nat} (h : i < l.length) : (movP d l).getD i (0, 0) = mvp d (l.getD i (0, 0)) := by
  rw [List.getD_eq_getElem?_getD, movP_eq, List.getElem?_map, List.getD_eq_getElem?_getD, List.getElem?_eq_getElem h]
  rfl
theorem mov_at (d : P2) (ls : List (List P2)) (i : Nat) : (mov d ls).getD i [] = movP d (ls.getD i []) := by
  unfold mov
  rw [List.getD_eq_getElem?_getD, List.getElem?_map, List.getD_eq_getElem?_getD]
  cases ls[i]? <;> rfl
theorem mvp_inj {d a b : P2} (h : mvp d a = mvp d b) : a = b := by
  unfold mvp at h
  injection h with h1 h2
  exact Prod.ext (by omega) (by omega)
theorem nx_mov {d : P2} {l : List P2} (h : 0 < l.length) (i : Nat) : nx (movP d l) i = mvp d (nx l i) := by
  unfold nx
  rw [movP_len, movP_at (Nat.mod_lt _ h)]
theorem mvp_sub1 (d a b : P2) : (mvp d b).1 - (mvp d a).1 = b.1 - a.1 := by unfold mvp; dsimp only; omega
theorem mvp_sub2 (d a b : P2) : (mvp d b).2 - (mvp d a).2 = b.2 - a.2 := by unfold mvp; dsimp only; omega
theorem hyp16_mov (d a b : P2) : hyp16 (mvp d a) (mvp d b) = hyp16 a b := by unfold hyp16; rw [mvp_sub1, mvp_sub2]
theorem nrm_mov (w : Int) (d a b : P2) : nrm w (mvp d a) (mvp d b) = nrm w a b := by unfold nrm; rw [mvp_sub1, mvp_sub2, hyp16_mov]
theorem ext_mov (w : Int) (d a b : P2) : ext w (mvp d a) (mvp d b) = ext w a b := by unfold ext; rw [mvp_sub1, mvp_sub2, hyp16_mov]
theorem zV_mov (d a c b : P2) : zV (mvp d a) (mvp d c) (mvp d b) = zV a c b := by unfold zV; rw [mvp_sub1, mvp_sub2, mvp_sub1, mvp_sub2]
theorem cr_mov (d a b : P2) : cr (mvp d a) (mvp d b) = cr a b + (a.1 - b.1) * d.2 + d.1 * (b.2 - a.2) := by
  unfold cr mvp
  simp only [Int.mul_add, Int.add_mul, Int.sub_mul, Int.mul_sub]
  omega
theorem areaN_mov {d : P2} {l : List P2} (h : 0 < l.length) : ∀ n, areaN (movP d l) n = areaN l n + ((nx l 0).1 - (nx l n).1) * d.2 + d.1 * ((nx l n).2 - (nx l 0).2)
  | 0 => by rw [Int.sub_self, Int.sub_self, Int.zero_mul, Int.mul_zero]; rfl
  | n + 1 => by
    have ih := areaN_mov (d := d) h n
    unfold areaN at ih ⊢
    rw [sumN, ih, sumN, nx_mov h, nx_mov h, cr_mov]
    simp only [Int.sub_mul, Int.mul_sub]
    omega
theorem area_mov (d : P2) (l : List P2) : area (movP d l) = area l := by
  rcases Nat.eq_zero_or_pos l.length with h0 | h0
  · have h1 : l = [] := List.eq_nil_of_length_eq_zero h0
    subst h1
    rfl
  · unfold area
    have e : nx l l.length = nx l 0 := by have := nx_rot l 0; rwa [Nat.zero_add] at this
    rw [movP_len, areaN_mov h0, e, Int.sub_self, Int.sub_self, Int.zero_mul, Int.mul_zero, Int.add_zero, Int.add_zero]
theorem put_mov (d : P2) (L : List (List P2)) (l : List P2) : put (mov d L) (movP d l) = mov d (put L l) := by
  have e : (movP d l).reverse = movP d l.reverse := by rw [movP_eq, movP_eq, List.map_reverse]
  unfold put
  rw [area_mov, e]
  split
  · rfl
  · split
    · rw [mov_app]; rfl
    · rw [mov_app]; rfl
theorem pl_mov (d a v : P2) : pl (mvp d a) v = mvp d (pl a v) := by unfold pl mvp; dsimp only; exact Prod.ext (by dsimp only; omega) (by dsimp only; omega)
theorem mi_mov (d a v : P2) : mi (mvp d a) v = mvp d (mi a v) := by unfold mi mvp; dsimp only; exact Prod.ext (by dsimp only; omega) (by dsimp only; omega)
theorem crc_mov (w : Int) (d c : P2) : crc w (mvp d c) = movP d (crc w c) := by
  unfold crc crcN
  rw [movP_eq, List.map_map]
  apply List.map_congr_left
  intro k _
  unfold crcP mvp
  exact Prod.ext (by simp only [Function.comp]; omega) (by simp only [Function.comp]; omega)
theorem tri_mov (d c m n : P2) (up : Bool) : tri (mvp d c) m n up = movP d (tri c m n up) := by
  unfold tri
  rw [pl_mov, pl_mov, mi_mov, mi_mov]
  split <;> rfl
theorem mitre_mov (d c m t n : P2) (dn : Bool) : mitre (mvp d c) m t n dn = movP d (mitre c m t n dn) := by
  unfold mitre
  rw [pl_mov, pl_mov, pl_mov, mi_mov, mi_mov, mi_mov]
  split <;> rfl
theorem quad_mov (d a b v : P2) : quad (mvp d a) (mvp d b) v = movP d (quad a b v) := by
  unfold quad
  rw [pl_mov, pl_mov, mi_mov, mi_mov]
  rfl
theorem capA_mov (d a v e : P2) : capA (mvp d a) v e = movP d (capA a v e) := by
  unfold capA
  rw [mi_mov, pl_mov, pl_mov, mi_mov, mi_mov]
  rfl
theorem capB_mov (d b v e : P2) : capB (mvp d b) v e = movP d (capB b v e) := by
  unfold capB
  rw [pl_mov d b e, pl_mov, pl_mov, mi_mov, mi_mov]
  rfl
theorem sngB_mov (d c : P2) (r : Int) : sngB r (mvp d c) = movP d (sngB r c) := by
  have e1 : (mvp d c).1 - r = c.1 - r + d.1 := by unfold mvp; dsimp only; omega
  have e2 : (mvp d c).2 - r = c.2 - r + d.2 := by unfold mvp; dsimp only; omega
  have e3 : (mvp d c).1 + r = c.1 + r + d.1 := by unfold mvp; dsimp only; omega
  have e4 : (mvp d c).2 + r = c.2 + r + d.2 := by unfold mvp; dsimp only; omega
  unfold sngB
  rw [e1, e2, e3, e4]
  rfl
theorem crn_mov (w j : Int) (d : P2) (L : List (List P2)) (a c b : P2) : crn w j (mov d L) (mvp d a) (mvp d c) (mvp d b) = mov d (crn w j L a c b) := by
  unfold crn
  rw [nrm_mov, nrm_mov, zV_mov, crc_mov, put_mov, tri_mov, tri_mov, put_mov, put_mov, mitre_mov]
  dsimp only
  split
  · rfl
  · split
    · rfl
    · split
      · rfl
      · rw [put_mov]
theorem edgL_mov (w : Int) {d : P2} {l : List P2} (h : 0 < l.length) (L : List (List P2)) : ∀ n, edgL w (movP d l) (mov d L) n = mov d (edgL w l L n)
  | 0 => rfl
  | n + 1 => by rw [edgL, edgL, edgL_mov w h L n, nx_mov h, nx_mov h, nrm_mov, quad_mov, put_mov]
theorem crnL_mov (w j : Int) (o : Bool) {d : P2} {l : List P2} (h : 0 < l.length) (L : List (List P2)) : ∀ n, crnL w j o (movP d l) (mov d L) n = mov d (crnL w j o l L n)
  | 0 => rfl
  | n + 1 => by
    rw [crnL, crnL, crnL_mov w j o h L n, movP_len, nx_mov h, nx_mov h, nx_mov h, crn_mov]
    split <;> rfl
theorem sng_mov (w e : Int) (d : P2) (L : List (List P2)) (c : P2) : sng w e (mov d L) (mvp d c) = mov d (sng w e L c) := by
  unfold sng
  rw [crc_mov, sngB_mov, put_mov, put_mov]
  split
  · rfl
  · split <;> rfl
theorem cap_mov (w e : Int) (d : P2) (L : List (List P2)) (a s r b : P2) : cap w e (mov d L) (mvp d a) (mvp d s) (mvp d r) (mvp d b) = mov d (cap w e L a s r b) := by
  unfold cap
  rw [crc_mov, crc_mov, nrm_mov, nrm_mov, ext_mov, ext_mov, capA_mov, capB_mov, put_mov, put_mov, put_mov, put_mov]
  split
  · rfl
  · split <;> rfl
theorem one_mov (w j e : Int) (o : Bool) (d : P2) (L : List (List P2)) (l : List P2) : one w j e o (mov d L) (movP d l) = mov d (one w j e o L l) := by
  unfold one
  rw [movP_len]
  by_cases h0 : l.length = 0
  · rw [if_pos h0, if_pos h0]
  · have h : 0 < l.length := by omega
    rw [if_neg h0, if_neg h0, nx_mov h, nx_mov h, nx_mov h, nx_mov h, sng_mov, edgL_mov w h, crnL_mov w j o h]
    dsimp only
    rw [cap_mov]
    split
    · rfl
    · split <;> rfl

/-! the reduced polygon -/
theorem movP_last (d : P2) (l : List P2) : (movP d l).getLast? = l.getLast?.map (mvp d) := by rw [movP_eq, List.getLast?_map]
theorem some_mvp {d : P2} {x : Option P2} {p : P2} : x.map (mvp d) = some (mvp d p) ↔ x = some p := by
  constructor
  · intro h
    cases x with
    | none => cases h
    | some y =>
      simp only [Option.map_some, Option.some.injEq] at h
      rw [mvp_inj h]
  · intro h
    rw [h]
    rfl
theorem ddN_mov (d : P2) (l : List P2) : ∀ i, i ≤ l.length → ddN (movP d l) i = movP d (ddN l i)
  | 0, _ => rfl
  | i + 1, hi => by
    have ih := ddN_mov d l i (by omega)
    have e1 : movP d (ddN l i) = [] ↔ ddN l i = [] := by rw [movP_eq, List.map_eq_nil_iff]
    have c : (ddN (movP d l) i = [] ∨ (ddN (movP d l) i).getLast? ≠ some ((movP d l).getD i (0, 0))) ↔ (ddN l i = [] ∨ (ddN l i).getLast? ≠ some (l.getD i (0, 0))) := by
      rw [ih, e1, movP_last, movP_at (by omega), Ne, some_mvp]
    by_cases h : ddN l i = [] ∨ (ddN l i).getLast? ≠ some (l.getD i (0, 0))
    · rw [dd_add h, dd_add (c.2 h), ih, movP_at (by omega), movP_app]
      rfl
    · rw [dd_keep h, dd_keep (fun x => h (c.1 x)), ih]
theorem trm_mov (d : P2) (o : Bool) (l : List P2) : ∀ k, k ≤ l.length → trm o (movP d l) k = movP d (trm o l k)
  | 0, _ => by rw [trm, trm, movP_eq, movP_eq, List.map_take]
  | k + 1, hk => by
    have e : ((movP d l).getD k (0, 0) = (movP d l).getD 0 (0, 0)) ↔ (l.getD k (0, 0) = l.getD 0 (0, 0)) := by
      rw [movP_at (by omega), movP_at (by omega)]
      exact ⟨mvp_inj, fun h => by rw [h]⟩
    have et : (movP d l).take (k + 1) = movP d (l.take (k + 1)) := by rw [movP_eq, movP_eq, List.map_take]
    rw [trm, trm, trm_mov d o l k (by omega), et]
    by_cases h : o = false ∧ 1 < k + 1 ∧ l.getD k (0, 0) = l.getD 0 (0, 0)
    · rw [if_pos h, if_pos ⟨h.1, h.2.1, e.2 h.2.2⟩]
    · rw [if_neg h, if_neg (fun x => h ⟨x.1, x.2.1, e.1 x.2.2⟩)]
theorem red_mov (d : P2) (l : List P2) (o : Bool) : red (movP d l) o = movP d (red l o) := by
  unfold red
  rw [movP_len, ddN_mov d l l.length (Nat.le_refl _), movP_len, trm_mov d o _ _ (Nat.le_refl _)]
theorem ptsN_mov (d : P2) (L : List (List P2)) : ptsN (mov d L) = ptsN L := by
  unfold ptsN mov
  rw [List.map_map]
  congr 1
  apply List.map_congr_left
  intro l _
  exact movP_len d l

/-! outlines -/
theorem runL_mov (w j e : Int) (d : P2) (ls : List (List P2)) (ob : List Bool) : ∀ i, runL w j e (mov d ls) ob i = (runL w j e ls ob i).map (mov d)
  | 0 => rfl
  | i + 1 => by
    rw [runL, runL, runL_mov w j e d ls ob i]
    cases runL w j e ls ob i with
    | none => rfl
    | some L =>
      simp only [Option.map_some]
      rw [mov_at, red_mov, one_mov, ptsN_mov]
      split <;> rfl
theorem covE_ok {ls : List (List P2)} (h : ∀ l ∈ ls, AllB 16777216 l) : covE ls = if 4096 < ptsN ls then 3 else 0 := by
  unfold covE
  have e : (ls.all fun l => l.all okP) = true := List.all_eq_true.2 fun l hl => List.all_eq_true.2 fun p hp => by
    have := h l hl p hp
    unfold Inb at this
    unfold okP
    rw [decide_eq_true_eq]
    omega
  rw [if_pos e]
theorem mov_len (d : P2) (L : List (List P2)) : (mov d L).length = L.length := by simp [mov]
theorem outF_mov (w j e : Int) {d : P2} {ls : List (List P2)} (ob : List Bool) (h1 : ∀ l ∈ ls, AllB 16777216 l) (h2 : ∀ l ∈ mov d ls, AllB 16777216 l) : outF w j e (mov d ls) ob = ((outF w j e ls ob).1, mov d (outF w j e ls ob).2) := by
  unfold outF
  rw [covE_ok h1, covE_ok h2, ptsN_mov, runL_mov, mov_len]
  obtain ⟨E, hE⟩ : ∃ E : Int, (if 4096 < ptsN ls then (3 : Int) else 0) = E := ⟨_, rfl⟩
  rw [hE]
  split
  · rfl
  · split
    · rfl
    · split
      · rfl
      · cases runL w j e ls ob ls.length <;> rfl

/-! dashes -/
theorem gp_mov {d : P2} {l : List P2} {i : Nat} (h : i < l.length) : gp (movP d l) i = mvp d (gp l i) := movP_at h
theorem hypN_mov (d a b : P2) : hypN (mvp d a) (mvp d b) = hypN a b := by unfold hypN; rw [mvp_sub1, mvp_sub2]
theorem atN_mov (d : P2) (l : List P2) : ∀ i, i < l.length → atN (movP d l) i = atN l i
  | 0, _ => rfl
  | i + 1, h => by rw [atN, atN, atN_mov d l i (by omega), gp_mov (by omega), gp_mov h, hypN_mov]
theorem lenN_mov (d : P2) (l : List P2) : lenN (movP d l) = lenN l := by
  unfold lenN
  rw [movP_len]
  rcases Nat.eq_zero_or_pos l.length with h0 | h0
  · rw [h0]; rfl
  · exact atN_mov d l _ (by omega)
theorem plc_mov {d : P2} {l : List P2} {i : Nat} (h : i + 1 < l.length) (s : Nat) : plc (movP d l) i s = mvp d (plc l i s) := by
  unfold plc
  rw [gp_mov (by omega), gp_mov h, atN_mov d l i (by omega), hypN_mov, mvp_sub1, mvp_sub2]
  unfold mvp
  exact Prod.ext (by dsimp only; omega) (by dsimp only; omega)
theorem addp_mov (d : P2) (x : List P2) (p : P2) : addp (movP d x) (mvp d p) = movP d (addp x p) := by
  unfold addp
  have h := some_mvp (d := d) (x := x.getLast?) (p := p)
  rw [← movP_last] at h
  by_cases hl : x.getLast? = some p
  · rw [if_pos hl, if_pos (h.2 hl)]
  · rw [if_neg hl, if_neg (fun e => hl (h.1 e)), movP_app]; rfl
theorem pceN_mov (d : P2) (l : List P2) (a b : Nat) : ∀ i, i ≤ l.length - 1 → pceN (movP d l) a b i = movP d (pceN l a b i)
  | 0, _ => rfl
  | i + 1, h => by
    rw [pceN, pceN, pceN_mov d l a b i (by omega), atN_mov d l (i + 1) (by omega), atN_mov d l i (by omega), movP_len, plc_mov (by omega), plc_mov (by omega), addp_mov, addp_mov]
    split <;> rfl
theorem pce_mov (d : P2) (l : List P2) (a b : Nat) : pce (movP d l) a b = movP d (pce l a b) := by
  unfold pce
  rw [movP_len, pceN_mov d l a b _ (Nat.le_refl _)]
theorem addD_mov (d : P2) (L : List (List P2)) (x : List P2) : addD (mov d L) (movP d x) = mov d (addD L x) := by
  unfold addD
  rw [movP_len]
  split
  · rw [mov_app]; rfl
  · rfl
theorem nxt_mov (d : P2) (l : List P2) (p : List Nat) (o s : Nat) : nxt (movP d l) p o s = nxt l p o s := by unfold nxt; rw [lenN_mov]
theorem itr_mov (d : P2) (l : List P2) (p : List Nat) (o : Nat) (L : List (List P2)) : ∀ k, itr (movP d l) p o (mov d L) k = ((itr l p o L k).1, mov d (itr l p o L k).2)
  | 0 => rfl
  | k + 1 => by
    rw [itr, itr, itr_mov d l p o L k, stp, stp]
    dsimp only
    rw [lenN_mov, ptsN_mov, nxt_mov, pce_mov, addD_mov]
    split
    · split <;> rfl
    · rfl
theorem dsh_mov (d : P2) (L : List (List P2)) (l : List P2) (p : List Nat) (o : Nat) : dsh (mov d L) (movP d l) p o = mov d (dsh L l p o) := by
  unfold dsh
  rw [lenN_mov, itr_mov]
theorem lin_mov (d : P2) (l : List P2) (o : Bool) : lin (movP d l) o = movP d (lin l o) := by
  unfold lin
  rw [red_mov, movP_len]
  split
  · next h => rw [movP_at (by omega), movP_app]; rfl
  · rfl
theorem runD_mov (d : P2) (ls : List (List P2)) (ob : List Bool) (p : List Nat) (o : Nat) : ∀ i, runD (mov d ls) ob p o i = (runD ls ob p o i).map (mov d)
  | 0 => rfl
  | i + 1 => by
    rw [runD, runD, runD_mov d ls ob p o i]
    cases runD ls ob p o i with
    | none => rfl
    | some L =>
      simp only [Option.map_some]
      rw [mov_at, lin_mov, dsh_mov, ptsN_mov]
      split <;> rfl
theorem dasF_mov {d : P2} {ls : List (List P2)} (ob : List Bool) (p : List Int) (o : Int) (h1 : ∀ l ∈ ls, AllB 16777216 l) (h2 : ∀ l ∈ mov d ls, AllB 16777216 l) : dasF (mov d ls) ob p o = ((dasF ls ob p o).1, mov d (dasF ls ob p o).2) := by
  unfold dasF
  rw [covE_ok h1, covE_ok h2, ptsN_mov, runD_mov, mov_len]
  obtain ⟨E, hE⟩ : ∃ E : Int, (if 4096 < ptsN ls then (3 : Int) else 0) = E := ⟨_, rfl⟩
  rw [hE]
  split
  · rfl
  · split
    · rfl
    · split
      · rfl
      · cases runD ls ob (p.map Int.toNat) o.toNat ls.length <;> rfl

/-! bounds of dashes -/
theorem addp_all {B : Int} {l : List P2} {p : P2} (h : AllB B l) (hp : Inb B p) : AllB B (addp l p) := by
  unfold addp
  split
  · exact h
  · intro x hx
    rcases List.mem_append.1 hx with hx | hx
    · exact h x hx
    · simp only [List.mem_singleton] at hx
      rw [hx]; exact hp
theorem pceN_all {l : List P2} (h : Lin l) {a b : Nat} (ha : a < lenN l) : ∀ i, i ≤ l.length - 1 → AllB 50331648 (pceN l a b i)
  | 0, _ => fun x hx => by simp [pceN] at hx
  | i + 1, hi => by
    have ih := pceN_all h (b := b) ha i (by omega)
    rw [pceN]
    split
    · exact ih
    · next hc =>
      have hup := atN_up h (i := i) (by omega)
      have hal : a < atN l (i + 1) := by
        by_cases h2 : i + 2 < l.length
        · omega
        · have : lenN l = atN l (i + 1) := by unfold lenN; congr 1; omega
          omega
      exact addp_all (addp_all ih (plc_in h (by omega) (by omega) (by omega))) (plc_in h (by omega) (by omega) (by omega))
theorem itr_all {l : List P2} (h : Lin l) (p : List Nat) (o : Nat) {L : List (List P2)} (hL : ∀ x ∈ L, AllB 50331648 x) : ∀ k, ∀ x ∈ (itr l p o L k).2, AllB 50331648 x
  | 0 => hL
  | k + 1 => by
    have ih := itr_all h p o hL k
    rw [itr, stp]
    split
    · next hc =>
      dsimp only
      split
      · unfold addD
        split
        · intro x hx
          rcases List.mem_append.1 hx with hx | hx
          · exact ih x hx
          · simp only [List.mem_singleton] at hx
            rw [hx]
            exact pceN_all h hc.1 _ (Nat.le_refl _)
        · exact ih
      · exact ih
    · exact ih
theorem runD_all {ls : List (List P2)} (hl : ∀ l ∈ ls, AllB 16777216 l) (hn : ptsN ls ≤ 4096) {ob : List Bool} {p : List Nat} {o : Nat} : ∀ {i : Nat} {L : List (List P2)}, runD ls ob p o i = some L → ∀ x ∈ L, AllB 50331648 x
  | 0, L, h => by
    rw [runD] at h
    injection h with h
    subst h
    intro x hx
    simp at hx
  | i + 1, L, h => by
    rw [runD] at h
    split at h
    · cases h
    · rename_i L0 h0
      have g := runD_all hl hn h0
      split at h
      · cases h
      · injection h with h
        subst h
        refine itr_all (lin_of ?_ ?_ _) p o g _
        · by_cases hi : i < ls.length
          · rw [List.getD_eq_getElem?_getD, List.getElem?_eq_getElem hi]
            exact hl _ (List.getElem_mem hi)
          · rw [List.getD_eq_getElem?_getD, List.getElem?_eq_none (by omega)]
            intro x hx
            simp at hx
        · by_cases hi : i < ls.length
          · have := len_le (mem_getD hi)
            omega
          · rw [List.getD_eq_getElem?_getD, List.getElem?_eq_none (by omega)]
            simp
end Go.Proofs.YtflopcogalknhaaDoor.Str
