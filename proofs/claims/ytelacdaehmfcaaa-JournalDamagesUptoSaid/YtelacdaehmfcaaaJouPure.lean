/-
  Package journal, the plain side: headers, records, and what a journal begins with. No program in sight.
-/
import Derived.Test.YtelacdaehmfcaaaDigOpen
namespace Go.Proofs.Ytelacdaehmfcaaa.JouPure
open Go.Proofs.Ytelacdaehmfcaaa.WirePure Go.Proofs.Ytelacdaehmfcaaa.DigPure

def magic : List UInt8 := [73, 69, 74, 49]
theorem magic_len : magic.length = 4 := rfl

/-- The payload of a record. -/
def pay (k q : Nat) (d : List UInt8) : List UInt8 := Lib.uvarint k ++ (Lib.uvarint q ++ (Lib.uvarint d.length ++ d))
/-- Encode: the bytes and the error. -/
def encR (k q : Int) (d : List UInt8) : List UInt8 × Int :=
  if k < 1 ∨ 6 < k then ([], 8) else if q < 1 ∨ 1073741824 < q then ([], 2)
  else if 1048576 < (pay k.toNat q.toNat d).length then ([], 3) else (frame (pay k.toNat q.toNat d), 0)
/-- Head: the bytes and the error. -/
def headR (g : Int) : List UInt8 × Int := if g < 1 ∨ 1073741824 < g then ([], 2) else (magic ++ frame (Lib.uvarint g.toNat), 0)

/-- The three values of a payload, and what is left of it. -/
def kindA (p : List UInt8) : Nat × A := (A.ready p).uint
def numA (p : List UInt8) : Nat × A := (kindA p).2.uint
def dataA (p : List UInt8) : List UInt8 × A := (numA p).2.text 1048576
/-- The record at the beginning of s that has the number q: kind and data, its length, the error. -/
def recP (p : List UInt8) (n q : Nat) : (Nat × List UInt8) × Nat × Int :=
  if (dataA p).2.fin ≠ 0 then ((0, []), 0, (dataA p).2.fin)
  else if (kindA p).1 < 1 ∨ 6 < (kindA p).1 then ((0, []), 0, 8)
  else if (numA p).1 ≠ q then ((0, []), 0, 24) else (((kindA p).1, (dataA p).1), n, 0)
def recR (s : List UInt8) (q : Nat) : (Nat × List UInt8) × Nat × Int :=
  if (opn s).2.2 ≠ 0 then ((0, []), 0, (opn s).2.2) else recP (opn s).1 (opn s).2.1 q
/-- The header: the generation, its length, the error. -/
def headP (p : List UInt8) (n : Nat) : Nat × Nat × Int :=
  if (kindA p).2.fin ≠ 0 ∨ (kindA p).1 < 1 ∨ 1073741824 < (kindA p).1 then (0, 0, 4) else ((kindA p).1, 4 + n, 0)
def headS (j : List UInt8) : Nat × Nat × Int :=
  if j.take 4 = magic then (if (opn (j.drop 4)).2.2 ≠ 0 then (0, 0, (opn (j.drop 4)).2.2) else headP (opn (j.drop 4)).1 (opn (j.drop 4)).2.1) else (0, 0, 4)

/-- The records of s, of which the first has the number q: the records, their length, the error. -/
def scanL : Nat → List UInt8 → Nat → List (Nat × List UInt8) × Nat × Int
  | 0, _, _ => ([], 0, 0)
  | f + 1, s, q =>
    if s.length = 0 then ([], 0, 0)
    else if (recR s q).2.2 ≠ 0 then ([], 0, (recR s q).2.2)
    else ((recR s q).1 :: (scanL f (s.drop (recR s q).2.1) (q + 1)).1, (recR s q).2.1 + (scanL f (s.drop (recR s q).2.1) (q + 1)).2.1, (scanL f (s.drop (recR s q).2.1) (q + 1)).2.2)
def scanR (s : List UInt8) (q : Nat) : List (Nat × List UInt8) × Nat × Int := scanL s.length s q
/-- Scan: the generation, the records, their end, the error. -/
def scanJ (j : List UInt8) : Nat × List (Nat × List UInt8) × Nat × Int :=
  if (headS j).2.2 ≠ 0 then (0, [], 0, (headS j).2.2)
  else ((headS j).1, (scanR (j.drop (headS j).2.1) 1).1, (headS j).2.1 + (scanR (j.drop (headS j).2.1) 1).2.1, (scanR (j.drop (headS j).2.1) 1).2.2)
/-- Append: the journal and the error. -/
def appJ (j : List UInt8) (k q : Int) (d : List UInt8) : List UInt8 × Int :=
  if (scanJ j).2.2.2 ≠ 0 then ([], (scanJ j).2.2.2)
  else if q ≠ (scanJ j).2.1.length + 1 then ([], 24)
  else if (encR k q d).2 ≠ 0 then ([], (encR k q d).2)
  else if 1048576 < j.length + (encR k q d).1.length then ([], 22) else (j ++ (encR k q d).1, 0)

theorem frame_len (p : List UInt8) : (frame p).length = (Lib.uvarint p.length).length + p.length + 4 := by
  unfold frame enc
  rw [List.length_append, List.length_append, le4_length]
theorem uv_pos (x : Nat) : 0 < (Lib.uvarint x).length := by
  by_cases h : x < 128
  · rw [Lib.uvarint_small h]; simp
  · rw [Lib.uvarint_big (by omega)]; simp

theorem count_ne (a : A) (most : Int) (n : Nat) (e : Int) (h : a.count most = (n, .bad e)) (ha : ∀ x, a = .bad x → x ≠ 0) : e ≠ 0 := by
  unfold A.count at h
  split at h
  · rename_i n' e' hu
    simp only [Prod.mk.injEq, A.bad.injEq] at h
    obtain ⟨_, rfl⟩ := h
    cases a with
    | bad x =>
      simp only [A.uint, Prod.mk.injEq, A.bad.injEq] at hu
      rw [← hu.2]
      exact ha _ rfl
    | ready l =>
      simp only [A.uint] at hu
      split at hu
      · simp at hu
      · rename_i h0
        simp only [Prod.mk.injEq, A.bad.injEq] at hu
        rw [← hu.2]
        exact h0
  · split at h
    · simp only [Prod.mk.injEq, A.bad.injEq] at h
      omega
    · simp at h
theorem text_ne (l x : List UInt8) (most e : Int) (h : (A.ready l).text most = (x, .bad e)) : e ≠ 0 := by
  unfold A.text at h
  split at h
  · rename_i n' e' hu
    simp only [Prod.mk.injEq, A.bad.injEq] at h
    obtain ⟨_, rfl⟩ := h
    exact count_ne _ _ _ _ hu (fun x hx => by cases hx)
  · split at h
    · simp only [Prod.mk.injEq, A.bad.injEq] at h
      omega
    · simp at h
theorem text_most (a : A) (x l : List UInt8) (most : Int) (h : a.text most = (x, .ready l)) : (x.length : Int) ≤ max most 0 := by
  unfold A.text at h
  split at h
  · simp at h
  · rename_i n' t' hu
    split at h
    · simp at h
    · simp only [Prod.mk.injEq, A.ready.injEq] at h
      obtain ⟨rfl, _⟩ := h
      unfold A.count at hu
      split at hu
      · simp at hu
      · split at hu
        · simp at hu
        · simp only [Prod.mk.injEq] at hu
          obtain ⟨rfl, _⟩ := hu
          rw [List.length_take]
          omega

/-- What is opened was framed. -/
theorem opn_inv (s p : List UInt8) (n : Nat) (h : opn s = (p, n, 0)) : p.length ≤ 1048576 ∧ n = (frame p).length ∧ ∃ r, s = frame p ++ r := by
  unfold opn at h
  split at h
  · rename_i t e ht
    simp only [Prod.mk.injEq] at h
    exact absurd h.2.2 (text_ne _ _ _ _ ht)
  · rename_i t l ht
    split at h
    · simp at h
    · rename_i h4
      split at h
      · rename_i hs
        simp only [Prod.mk.injEq, and_true] at h
        obtain ⟨rfl, rfl⟩ := h
        have hd := text_dec _ _ _ _ ht
        have hm := text_most _ _ _ _ ht
        have e1 : s.take (s.length - l.length) = enc t := by
          rw [hd, List.length_append, Nat.add_sub_cancel, List.take_left']
          · rfl
          · rfl
        rw [e1] at hs
        refine ⟨by omega, ?_, l.drop 4, ?_⟩
        · unfold frame enc
          rw [hd]
          simp only [List.length_append, le4_length]
          omega
        · unfold frame
          rw [← hs, List.append_assoc, List.take_append_drop]
          exact hd
      · simp at h

theorem opn_app (s t p : List UInt8) (n : Nat) (h : opn s = (p, n, 0)) : opn (s ++ t) = (p, n, 0) := by
  obtain ⟨h1, rfl, r, rfl⟩ := opn_inv s p n h
  rw [List.append_assoc, opn_frame _ _ h1]

/-- A proper beginning of a frame is not opened. -/
theorem opn_cut (p : List UInt8) (k : Nat) (hp : p.length ≤ 1048576) (hk : k < (frame p).length) : (opn ((frame p).take k)).2.2 ≠ 0 := by
  intro h
  obtain ⟨t, n, e, ho⟩ : ∃ t n e, opn ((frame p).take k) = (t, n, e) := ⟨_, _, _, rfl⟩
  rw [ho] at h
  simp only at h
  subst h
  have h1 := opn_app _ ((frame p).drop k) _ _ ho
  rw [List.take_append_drop] at h1
  have h2 := opn_frame p [] hp
  rw [List.append_nil, h1] at h2
  simp only [Prod.mk.injEq, and_true] at h2
  obtain ⟨_, h3, r, h4⟩ := opn_inv _ _ _ ho
  have h5 := congrArg List.length h4
  rw [List.length_take, List.length_append] at h5
  omega

theorem frame_pos (p : List UInt8) : 5 ≤ (frame p).length := by
  have := uv_pos p.length
  rw [frame_len]
  omega

/-- The three values of a payload that was written. -/
theorem pay_read (k q : Nat) (d : List UInt8) (hk : k < 18446744073709551616) (hq : q < 18446744073709551616) (hd : d.length ≤ 1048576) : kindA (pay k q d) = (k, .ready (Lib.uvarint q ++ (Lib.uvarint d.length ++ d))) ∧ numA (pay k q d) = (q, .ready (Lib.uvarint d.length ++ d)) ∧ dataA (pay k q d) = (d, .ready []) := by
  have h1 : kindA (pay k q d) = (k, .ready (Lib.uvarint q ++ (Lib.uvarint d.length ++ d))) := uint_enc k _ hk
  have h2 : numA (pay k q d) = (q, .ready (Lib.uvarint d.length ++ d)) := by
    unfold numA
    rw [h1]
    exact uint_enc q _ hq
  refine ⟨h1, h2, ?_⟩
  unfold dataA
  rw [h2]
  have := text_enc d [] 1048576 (by omega) (by omega)
  rwa [List.append_nil] at this
theorem pay_data (k q : Nat) (d : List UInt8) (h : (pay k q d).length ≤ 1048576) : d.length ≤ 1048576 := by
  unfold pay at h
  simp only [List.length_append] at h
  omega

/-- A record that was written is read. -/
theorem recR_frame (k q : Nat) (d t : List UInt8) (h1 : 1 ≤ k) (h6 : k ≤ 6) (hq : q < 18446744073709551616) (hl : (pay k q d).length ≤ 1048576) : recR (frame (pay k q d) ++ t) q = ((k, d), (frame (pay k q d)).length, 0) := by
  obtain ⟨e1, e2, e3⟩ := pay_read k q d (by omega) hq (pay_data _ _ _ hl)
  unfold recR
  rw [opn_frame _ _ hl]
  simp only [ne_eq, not_true_eq_false, if_false]
  unfold recP
  rw [e1, e2, e3]
  simp only [A.fin, List.length_nil, if_true, ne_eq, not_true_eq_false, if_false]
  rw [if_neg (by omega)]

theorem recR_err (s : List UInt8) (q : Nat) (h : (opn s).2.2 ≠ 0) : recR s q = ((0, []), 0, (opn s).2.2) := by
  unfold recR
  rw [if_pos h]
theorem recR_ok (s : List UInt8) (q : Nat) (h : (recR s q).2.2 = 0) : ∃ p, opn s = (p, (recR s q).2.1, 0) := by
  unfold recR at h ⊢
  by_cases ho : (opn s).2.2 = 0
  · rw [if_neg (by simpa using ho)] at h ⊢
    unfold recP at h ⊢
    split at h
    · rename_i hf; exact absurd h hf
    · split at h
      · simp at h
      · split at h
        · simp at h
        · rename_i h1 h2 h3
          rw [if_neg h1, if_neg h2, if_neg h3]
          exact ⟨(opn s).1, by rw [← ho]⟩
  · rw [if_pos ho] at h
    exact absurd h ho
theorem recR_len (s : List UInt8) (q : Nat) (h : (recR s q).2.2 = 0) : 5 ≤ (recR s q).2.1 ∧ (recR s q).2.1 ≤ s.length := by
  obtain ⟨p, hp⟩ := recR_ok s q h
  obtain ⟨_, h2, r, h3⟩ := opn_inv _ _ _ hp
  have h5 := frame_pos p
  have h4 := congrArg List.length h3
  rw [List.length_append] at h4
  omega
theorem recR_app (s t : List UInt8) (q : Nat) (h : (recR s q).2.2 = 0) : recR (s ++ t) q = recR s q := by
  obtain ⟨p, hp⟩ := recR_ok s q h
  have h2 := opn_app _ t _ _ hp
  unfold recR
  rw [h2, hp]

theorem scanL_nil (f q : Nat) : scanL f [] q = ([], 0, 0) := by
  cases f with
  | zero => rfl
  | succ f => simp [scanL]
theorem scanL_err (f : Nat) (s : List UInt8) (q : Nat) (hs : s.length ≠ 0) (h : (recR s q).2.2 ≠ 0) : scanL (f + 1) s q = ([], 0, (recR s q).2.2) := by
  rw [scanL, if_neg hs, if_pos h]
theorem scanL_step (f : Nat) (s : List UInt8) (q : Nat) (hs : s.length ≠ 0) (r : Nat × List UInt8) (n : Nat) (h : recR s q = (r, n, 0)) :
    scanL (f + 1) s q = (r :: (scanL f (s.drop n) (q + 1)).1, n + (scanL f (s.drop n) (q + 1)).2.1, (scanL f (s.drop n) (q + 1)).2.2) := by
  rw [scanL, if_neg hs, if_neg (by rw [h]; simp), h]

/-- More fuel than bytes makes no odds. -/
theorem scanL_fuel (f : Nat) : ∀ (s : List UInt8) (q g : Nat), s.length ≤ f → s.length ≤ g → scanL f s q = scanL g s q := by
  induction f with
  | zero =>
    intro s q g h1 h2
    have : s = [] := List.eq_nil_of_length_eq_zero (by omega)
    subst this
    rw [scanL_nil, scanL_nil]
  | succ f ih =>
    intro s q g h1 h2
    by_cases h0 : s.length = 0
    · have : s = [] := List.eq_nil_of_length_eq_zero h0
      subst this
      rw [scanL_nil, scanL_nil]
    · obtain ⟨g', rfl⟩ : ∃ g', g = g' + 1 := ⟨g - 1, by omega⟩
      by_cases he : (recR s q).2.2 = 0
      · have hl := recR_len s q he
        obtain ⟨r, n, e, hr⟩ : ∃ r n e, recR s q = (r, n, e) := ⟨_, _, _, rfl⟩
        rw [hr] at he hl
        simp only at he hl
        subst he
        rw [scanL_step f s q h0 r n hr, scanL_step g' s q h0 r n hr, ih (s.drop n) (q + 1) g' (by rw [List.length_drop]; omega) (by rw [List.length_drop]; omega)]
      · rw [scanL_err f s q h0 he, scanL_err g' s q h0 he]

theorem scanR_nil (q : Nat) : scanR [] q = ([], 0, 0) := rfl
theorem scanR_err (s : List UInt8) (q : Nat) (hs : s.length ≠ 0) (h : (recR s q).2.2 ≠ 0) : scanR s q = ([], 0, (recR s q).2.2) := by
  unfold scanR
  obtain ⟨f, hf⟩ : ∃ f, s.length = f + 1 := ⟨s.length - 1, by omega⟩
  rw [hf]
  exact scanL_err f s q hs h
theorem scanR_step (s : List UInt8) (q : Nat) (r : Nat × List UInt8) (n : Nat) (h : recR s q = (r, n, 0)) :
    scanR s q = (r :: (scanR (s.drop n) (q + 1)).1, n + (scanR (s.drop n) (q + 1)).2.1, (scanR (s.drop n) (q + 1)).2.2) := by
  have hl := recR_len s q (by rw [h])
  rw [h] at hl
  simp only at hl
  unfold scanR
  obtain ⟨f, hf⟩ : ∃ f, s.length = f + 1 := ⟨s.length - 1, by omega⟩
  rw [hf, scanL_step f s q (by omega) r n h, scanL_fuel f (s.drop n) (q + 1) (s.drop n).length (by rw [List.length_drop]; omega) (Nat.le_refl _)]

/-- Records one behind the other. -/
def recs : Nat → List (Nat × List UInt8) → List UInt8
  | _, [] => []
  | q, r :: l => frame (pay r.1 q r.2) ++ recs (q + 1) l
def okR (q : Nat) (r : Nat × List UInt8) : Prop := 1 ≤ r.1 ∧ r.1 ≤ 6 ∧ (pay r.1 q r.2).length ≤ 1048576
def okL : Nat → List (Nat × List UInt8) → Prop
  | _, [] => True
  | q, r :: l => okR q r ∧ okL (q + 1) l

theorem scanR_recs (l : List (Nat × List UInt8)) : ∀ (q : Nat) (t : List UInt8), okL q l → q + l.length < 18446744073709551616 →
    scanR (recs q l ++ t) q = (l ++ (scanR t (q + l.length)).1, (recs q l).length + (scanR t (q + l.length)).2.1, (scanR t (q + l.length)).2.2) := by
  induction l with
  | nil => intro q t _ _; simp [recs]
  | cons r l ih =>
    intro q t hok hq
    rw [List.length_cons] at hq
    have hr := recR_frame r.1 q r.2 (recs (q + 1) l ++ t) hok.1.1 hok.1.2.1 (by omega) hok.1.2.2
    rw [recs, List.append_assoc, scanR_step _ _ _ _ hr, List.drop_left, ih (q + 1) t hok.2 (by omega), List.length_cons, List.length_append, show q + (l.length + 1) = q + 1 + l.length by omega]
    simp only [List.cons_append, Nat.add_assoc]

/-- What was scanned without an error goes on when more is appended. -/
theorem scanR_app (f : Nat) : ∀ (s t : List UInt8) (q : Nat), s.length ≤ f → (scanR s q).2.2 = 0 →
    (scanR s q).2.1 = s.length ∧ scanR (s ++ t) q = ((scanR s q).1 ++ (scanR t (q + (scanR s q).1.length)).1, (scanR s q).2.1 + (scanR t (q + (scanR s q).1.length)).2.1, (scanR t (q + (scanR s q).1.length)).2.2) := by
  induction f with
  | zero =>
    intro s t q h1 _
    have : s = [] := List.eq_nil_of_length_eq_zero (by omega)
    subst this
    simp [scanR_nil]
  | succ f ih =>
    intro s t q h1 h2
    by_cases h0 : s.length = 0
    · have : s = [] := List.eq_nil_of_length_eq_zero h0
      subst this
      simp [scanR_nil]
    · by_cases he : (recR s q).2.2 = 0
      · have hl := recR_len s q he
        have ha := recR_app s t q he
        obtain ⟨r, n, e, hr⟩ : ∃ r n e, recR s q = (r, n, e) := ⟨_, _, _, rfl⟩
        rw [hr] at he hl ha
        simp only at he hl
        subst he
        rw [scanR_step _ _ _ _ hr] at h2 ⊢
        rw [scanR_step _ _ _ _ ha, List.drop_append_of_le_length hl.2]
        simp only at h2 ⊢
        obtain ⟨i1, i2⟩ := ih (s.drop n) t (q + 1) (by rw [List.length_drop]; omega) h2
        rw [i2, i1, List.length_cons, List.length_drop, show q + ((scanR (s.drop n) (q + 1)).1.length + 1) = q + 1 + (scanR (s.drop n) (q + 1)).1.length by omega]
        refine ⟨by omega, ?_⟩
        simp only [List.cons_append]
        congr 2
        omega
      · rw [scanR_err s q h0 he] at h2
        exact absurd h2 he

/-- A header that was written is read. -/
theorem headS_head (g : Nat) (t : List UInt8) (h1 : 1 ≤ g) (h2 : g ≤ 1073741824) : headS (magic ++ frame (Lib.uvarint g) ++ t) = (g, (magic ++ frame (Lib.uvarint g)).length, 0) := by
  have hl := Lib.uvarint_length64 (x := g) (by omega)
  have e1 : kindA (Lib.uvarint g) = (g, .ready []) := by
    have := uint_enc g [] (by omega)
    rwa [List.append_nil] at this
  unfold headS
  rw [List.append_assoc, List.take_left' magic_len, if_pos rfl, List.drop_left' magic_len, opn_frame _ _ (by omega)]
  simp only [ne_eq, not_true_eq_false, if_false]
  unfold headP
  rw [e1]
  simp only [A.fin, List.length_nil, if_true, ne_eq, not_true_eq_false, false_or]
  rw [if_neg (by omega), List.length_append, magic_len]
theorem headS_ok (j : List UInt8) (h : (headS j).2.2 = 0) : ∃ p n, j.take 4 = magic ∧ opn (j.drop 4) = (p, n, 0) ∧ headS j = headP p n ∧ (headS j).2.1 = 4 + n ∧ 4 + n ≤ j.length := by
  unfold headS at h ⊢
  split at h
  · rename_i hm
    rw [if_pos hm]
    by_cases ho : (opn (j.drop 4)).2.2 = 0
    · obtain ⟨p, n, e, hp⟩ : ∃ p n e, opn (j.drop 4) = (p, n, e) := ⟨_, _, _, rfl⟩
      rw [hp] at ho h ⊢
      simp only at ho
      subst ho
      simp only [ne_eq, not_true_eq_false, if_false] at h ⊢
      obtain ⟨_, h2, r, h3⟩ := opn_inv _ _ _ hp
      have h4 := congrArg List.length h3
      have h5 := frame_pos p
      rw [List.length_append, List.length_drop] at h4
      refine ⟨p, n, hm, rfl, rfl, ?_, by omega⟩
      unfold headP at h ⊢
      split at h
      · simp at h
      · rename_i hc
        rw [if_neg hc]
    · rw [if_pos ho] at h
      exact absurd h ho
  · simp at h
theorem headS_app (j t : List UInt8) (h : (headS j).2.2 = 0) : headS (j ++ t) = headS j := by
  obtain ⟨p, n, h1, h2, h3, h4, h5⟩ := headS_ok j h
  have hl : 4 ≤ j.length := by omega
  rw [h3]
  unfold headS
  rw [List.take_append_of_le_length hl, if_pos h1, List.drop_append_of_le_length hl, opn_app _ t _ _ h2]
  simp only [ne_eq, not_true_eq_false, if_false]
theorem headS_cut (g k : Nat) (h2 : g ≤ 1073741824) (hk : k < (magic ++ frame (Lib.uvarint g)).length) : (headS ((magic ++ frame (Lib.uvarint g)).take k)).2.2 ≠ 0 := by
  have hl := Lib.uvarint_length64 (x := g) (by omega)
  rw [List.length_append, magic_len] at hk
  unfold headS
  by_cases h4 : k < 4
  · rw [if_neg]
    · simp
    · intro h
      have := congrArg List.length h
      rw [magic_len, List.length_take, List.length_take] at this
      omega
  · rw [List.take_append, List.take_of_length_le (l := magic) (i := k) (by rw [magic_len]; omega), magic_len, List.take_left' magic_len, if_pos rfl, List.drop_left' magic_len]
    have := opn_cut (Lib.uvarint g) (k - 4) (by omega) (by omega)
    rw [if_pos this]
    exact this

theorem scanJ_err (j : List UInt8) (h : (headS j).2.2 ≠ 0) : scanJ j = (0, [], 0, (headS j).2.2) := by unfold scanJ; rw [if_pos h]
theorem scanJ_of (j : List UInt8) (g n m : Nat) (e : Int) (l : List (Nat × List UInt8)) (h : headS j = (g, n, 0)) (hs : scanR (j.drop n) 1 = (l, m, e)) : scanJ j = (g, l, n + m, e) := by
  unfold scanJ
  rw [h]
  simp only [ne_eq, not_true_eq_false, if_false]
  rw [hs]

/-- A journal: its header and its records. -/
def jou (g : Nat) (l : List (Nat × List UInt8)) : List UInt8 := magic ++ frame (Lib.uvarint g) ++ recs 1 l

theorem scanJ_jou (g : Nat) (l : List (Nat × List UInt8)) (t : List UInt8) (h1 : 1 ≤ g) (h2 : g ≤ 1073741824) (hok : okL 1 l) (hl : 1 + l.length < 18446744073709551616) :
    scanJ (jou g l ++ t) = (g, l ++ (scanR t (1 + l.length)).1, (jou g l).length + (scanR t (1 + l.length)).2.1, (scanR t (1 + l.length)).2.2) := by
  unfold jou
  rw [List.append_assoc]
  have hs := scanR_recs l 1 t hok hl
  have e := scanJ_of (magic ++ frame (Lib.uvarint g) ++ (recs 1 l ++ t)) _ _ _ _ _ (headS_head g _ h1 h2) (by rw [List.drop_left, hs])
  rw [e, List.length_append (as := magic ++ frame (Lib.uvarint g)) (bs := recs 1 l), Nat.add_assoc]

theorem recs_app (l m : List (Nat × List UInt8)) : ∀ q, recs q (l ++ m) = recs q l ++ recs (q + l.length) m := by
  induction l with
  | nil => intro q; simp [recs]
  | cons r l ih => intro q; simp only [List.cons_append, recs, ih, List.append_assoc, List.length_cons]; rw [show q + 1 + l.length = q + (l.length + 1) by omega]
theorem okL_app (l m : List (Nat × List UInt8)) : ∀ q, okL q (l ++ m) ↔ okL q l ∧ okL (q + l.length) m := by
  induction l with
  | nil => intro q; simp [okL]
  | cons r l ih => intro q; simp only [List.cons_append, okL, ih, List.length_cons]; rw [show q + 1 + l.length = q + (l.length + 1) by omega, and_assoc]
theorem jou_snoc (g : Nat) (l : List (Nat × List UInt8)) (r : Nat × List UInt8) : jou g (l ++ [r]) = jou g l ++ frame (pay r.1 (l.length + 1) r.2) := by
  unfold jou
  rw [recs_app, recs, recs, List.append_nil, Nat.add_comm 1, ← List.append_assoc]

/-- A journal that was written is read. -/
theorem scan_returns (g : Nat) (l : List (Nat × List UInt8)) (h1 : 1 ≤ g) (h2 : g ≤ 1073741824) (hok : okL 1 l) (hl : 1 + l.length < 18446744073709551616) : scanJ (jou g l) = (g, l, (jou g l).length, 0) := by
  have := scanJ_jou g l [] h1 h2 hok hl
  rw [List.append_nil, scanR_nil] at this
  simpa using this

/-- The complete records in front of a part of one more. -/
theorem scan_part (g : Nat) (l : List (Nat × List UInt8)) (r : Nat × List UInt8) (k : Nat) (h1 : 1 ≤ g) (h2 : g ≤ 1073741824) (hok : okL 1 l) (hr : okR (l.length + 1) r) (hl : 1 + l.length < 18446744073709551616) (hk : k < (frame (pay r.1 (l.length + 1) r.2)).length) :
    ∃ e, scanJ (jou g l ++ (frame (pay r.1 (l.length + 1) r.2)).take k) = (g, l, (jou g l).length, e) ∧ (e = 0 ↔ k = 0) := by
  rw [scanJ_jou g l _ h1 h2 hok hl]
  by_cases h0 : k = 0
  · subst h0
    rw [List.take_zero, scanR_nil]
    exact ⟨0, by simp, by simp⟩
  · have hc := opn_cut _ k hr.2.2 hk
    have he := recR_err ((frame (pay r.1 (l.length + 1) r.2)).take k) (1 + l.length) hc
    have hs := scanR_err ((frame (pay r.1 (l.length + 1) r.2)).take k) (1 + l.length) (by rw [List.length_take]; omega) (by rw [he]; exact hc)
    rw [hs, he]
    exact ⟨(opn ((frame (pay r.1 (l.length + 1) r.2)).take k)).2.2, by simp, by simp [hc, h0]⟩

/-- The records in front of one of which a byte of the payload or of the checksum was changed. -/
theorem scan_told (g : Nat) (l : List (Nat × List UInt8)) (r : Nat × List UInt8) (k : Nat) (c : UInt8) (h1 : 1 ≤ g) (h2 : g ≤ 1073741824) (hok : okL 1 l) (hr : okR (l.length + 1) r) (hl : 1 + l.length < 18446744073709551616)
    (h0 : (Lib.uvarint (pay r.1 (l.length + 1) r.2).length).length ≤ k) (hk : k < (frame (pay r.1 (l.length + 1) r.2)).length) (hc : (frame (pay r.1 (l.length + 1) r.2))[k]? ≠ some c) :
    scanJ (jou g l ++ (frame (pay r.1 (l.length + 1) r.2)).set k c) = (g, l, (jou g l).length, 7) := by
  rw [scanJ_jou g l _ h1 h2 hok hl]
  have ht := opn_told _ k c hr.2.2 h0 hk hc
  have he := recR_err ((frame (pay r.1 (l.length + 1) r.2)).set k c) (1 + l.length) (by rw [ht]; decide)
  have hs := scanR_err ((frame (pay r.1 (l.length + 1) r.2)).set k c) (1 + l.length) (by rw [List.length_set]; omega) (by rw [he, ht]; decide)
  rw [hs, he, ht]
  simp

theorem encR_ok (k q : Int) (d : List UInt8) (h : (encR k q d).2 = 0) : 1 ≤ k ∧ k ≤ 6 ∧ 1 ≤ q ∧ q ≤ 1073741824 ∧ (pay k.toNat q.toNat d).length ≤ 1048576 ∧ (encR k q d).1 = frame (pay k.toNat q.toNat d) := by
  unfold encR at h ⊢
  split at h
  · simp at h
  · split at h
    · simp at h
    · split at h
      · simp at h
      · rename_i a b c
        rw [if_neg a, if_neg b, if_neg c]
        exact ⟨by omega, by omega, by omega, by omega, by omega, rfl⟩

/-- A journal to which a record was appended. -/
theorem scan_grows (j : List UInt8) (k q : Int) (d : List UInt8) (h : (appJ j k q d).2 = 0) : 1 ≤ k ∧ q = (scanJ j).2.1.length + 1 ∧ (scanJ j).2.2.2 = 0 ∧
    scanJ (appJ j k q d).1 = ((scanJ j).1, (scanJ j).2.1 ++ [(k.toNat, d)], (appJ j k q d).1.length, 0) := by
  unfold appJ at h ⊢
  split at h
  · rename_i he; exact absurd h he
  · rename_i hs
    split at h
    · simp at h
    · rename_i hq
      split at h
      · rename_i he; exact absurd h he
      · rename_i hen
        split at h
        · simp at h
        · rename_i hf
          rw [if_neg hs, if_neg hq, if_neg hen, if_neg hf]
          simp only [ne_eq, Decidable.not_not] at hs hq hen
          obtain ⟨a1, a2, a3, a4, a5, a6⟩ := encR_ok _ _ _ hen
          refine ⟨a1, hq, hs, ?_⟩
          simp only
          have hh : (headS j).2.2 = 0 := by
            by_cases hh : (headS j).2.2 = 0
            · exact hh
            · rw [scanJ_err j hh] at hs
              exact absurd hs hh
          obtain ⟨p, n, b1, b2, b3, b4, b5⟩ := headS_ok j hh
          obtain ⟨g, n', e, hg⟩ : ∃ g n e, headS j = (g, n, e) := ⟨_, _, _, rfl⟩
          rw [hg] at hh b4
          simp only at hh b4
          subst hh
          obtain ⟨l, m, e, hl⟩ : ∃ l m e, scanR (j.drop n') 1 = (l, m, e) := ⟨_, _, _, rfl⟩
          have hj := scanJ_of j _ _ _ _ _ hg hl
          rw [hj] at hs hq ⊢
          simp only at hs hq ⊢
          subst hs
          have ha := scanR_app (j.drop n').length (j.drop n') (encR k q d).1 1 (Nat.le_refl _) (by rw [hl])
          rw [hl, a6] at ha
          simp only at ha
          have eq : q.toNat = 1 + l.length := by omega
          have hr := recR_frame k.toNat q.toNat d [] (by omega) (by omega) (by omega) a5
          rw [List.append_nil] at hr
          have h1 := scanR_step _ _ _ _ hr
          rw [List.drop_length, scanR_nil] at h1
          rw [eq] at h1 ha
          rw [h1] at ha
          have hd : (j ++ (encR k q d).1).drop n' = j.drop n' ++ frame (pay k.toNat (1 + l.length) d) := by rw [List.drop_append_of_le_length (by omega), a6, eq]
          have := scanJ_of (j ++ (encR k q d).1) g n' _ _ _ ((headS_app j _ (by rw [hg])).trans hg) ((congrArg (fun x => scanR x 1) hd).trans ha.2)
          rw [this, List.length_append, a6, eq]
          have hm : m = j.length - n' := by rw [ha.1, List.length_drop]
          have e2 : n' + (m + ((frame (pay k.toNat (1 + l.length) d)).length + 0)) = j.length + (frame (pay k.toNat (1 + l.length) d)).length := by omega
          exact congrArg (fun x => (g, l ++ [(k.toNat, d)], x, (0 : Int))) e2

end Go.Proofs.Ytelacdaehmfcaaa.JouPure
