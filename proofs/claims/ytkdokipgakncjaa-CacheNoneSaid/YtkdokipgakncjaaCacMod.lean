/-
  Layer 36: what a cache holds, as plain data.
-/
import Derived.Test.YtkdokipgakncjaaCacPure
namespace Go.Proofs.Ytkdokipgakncjaa.Cac
open Go.RowKit Go.Proofs.Ytkdokipgakncjaa

/-- A pixel: four numbers. -/
abbrev P4 := Int × Int × Int × Int
def pc (k : P4) : List Value := [.int .i64 k.1, .int .i64 k.2.1, .int .i64 k.2.2.1, .int .i64 k.2.2.2]
def pcs : List P4 → List Value
  | [] => []
  | k :: l => pc k ++ pcs l
theorem pc_len (k : P4) : (pc k).length = 4 := rfl
theorem pcs_len (l : List P4) : (pcs l).length = l.length * 4 := by
  induction l with
  | nil => rfl
  | cons k l ih => simp only [pcs, List.length_append, pc_len, ih, List.length_cons]; omega
theorem pcs_app (l m : List P4) : pcs (l ++ m) = pcs l ++ pcs m := by
  induction l with
  | nil => rfl
  | cons k l ih => simp only [List.cons_append, pcs, ih, List.append_assoc]
theorem pcs_take (l : List P4) (i : Nat) (h : i ≤ l.length) : (pcs l).take (i * 4) = pcs (l.take i) := by
  have e : pcs l = pcs (l.take i) ++ pcs (l.drop i) := by rw [← pcs_app, List.take_append_drop]
  rw [e, List.take_left' (by rw [pcs_len, List.length_take]; omega)]
theorem pcs_one (l : List P4) : ∀ u ∈ pcs l, u.oneCell' = true := by
  induction l with
  | nil => intro u hu; simp [pcs] at hu
  | cons k l ih =>
    intro u hu
    rcases List.mem_append.1 hu with h | h
    · simp only [pc, List.mem_cons, List.not_mem_nil, or_false] at h
      rcases h with rfl | rfl | rfl | rfl <;> rfl
    · exact ih u h
theorem pcs_at (l : List P4) (i : Nat) (h : i < l.length) (c : Nat) (hc : c < 4) : (pcs l)[i * 4 + c]? = (pc l[i])[c]? := by
  have e : pcs l = pcs (l.take i) ++ (pc l[i] ++ pcs (l.drop (i + 1))) := by
    rw [← pcs, ← pcs_app, ← List.drop_eq_getElem_cons h, List.take_append_drop]
  have hl : (pcs (l.take i)).length = i * 4 := by rw [pcs_len, List.length_take, Nat.min_eq_left (by omega)]
  rw [e, List.getElem?_append_right (by omega), hl, Nat.add_sub_cancel_left, List.getElem?_append_left (by rw [pc_len]; exact hc)]
theorem pc_inj (a b : P4) (h : pc a = pc b) : a = b := by
  obtain ⟨a0, a1, a2, a3⟩ := a
  obtain ⟨b0, b1, b2, b3⟩ := b
  simp only [pc, List.cons.injEq, Value.int.injEq, true_and, and_true] at h
  obtain ⟨rfl, rfl, rfl, rfl⟩ := h
  rfl

/-- An image. -/
structure Img where
  W : Int
  H : Int
  px : List P4
def img0 : Img := ⟨0, 0, []⟩
abbrev Ent := K5 × Img
def keys (l : List Ent) : List K5 := l.map (·.1)
def look (l : List Ent) (k : K5) : Option Img := (l.find? fun p => decide (p.1 = k)).map (·.2)
def rem (l : List Ent) (k : K5) : List Ent := l.filter fun p => decide (p.1 ≠ k)
theorem keys_len (l : List Ent) : (keys l).length = l.length := List.length_map _
theorem keys_app (l m : List Ent) : keys (l ++ m) = keys l ++ keys m := List.map_append
theorem keys_drop (l : List Ent) (n : Nat) : keys (l.drop n) = (keys l).drop n := (List.map_drop ..)
theorem mem_keys {l : List Ent} {k : K5} : k ∈ keys l ↔ ∃ i, (k, i) ∈ l := by simp [keys]
theorem keys_rem (l : List Ent) (k : K5) (h : (keys l).Nodup) : keys (rem l k) = (keys l).erase k := by
  rw [h.erase_eq_filter]
  unfold keys rem
  rw [List.filter_map]
  congr 1
  apply List.filter_congr
  intro p _
  rcases h : p.1 == k with _ | _ <;> simp_all [bne]
theorem look_none {l : List Ent} {k : K5} : look l k = none ↔ k ∉ keys l := by
  unfold look keys
  simp only [Option.map_eq_none_iff, List.find?_eq_none, List.mem_map, decide_eq_true_eq, not_exists, not_and]
theorem look_mem {l : List Ent} {k : K5} {i : Img} (h : look l k = some i) : (k, i) ∈ l := by
  unfold look at h
  obtain ⟨p, hp, rfl⟩ := Option.map_eq_some_iff.1 h
  have h1 := List.find?_some hp
  have h2 := List.mem_of_find?_eq_some hp
  simp only [decide_eq_true_eq] at h1
  subst h1
  exact h2
theorem nodup_inj {l : List Ent} (h : (keys l).Nodup) {k : K5} {i j : Img} (h1 : (k, i) ∈ l) (h2 : (k, j) ∈ l) : i = j := by
  induction l with
  | nil => simp at h1
  | cons p l ih =>
    unfold keys at h
    rw [List.map_cons, List.nodup_cons] at h
    rcases List.mem_cons.1 h1 with e1 | h1 <;> rcases List.mem_cons.1 h2 with e2 | h2
    · rw [← e1] at e2; injection e2 with _ e; exact e.symm
    · exact absurd (List.mem_map.2 ⟨_, h2, rfl⟩) (by rw [← e1] at h; exact h.1)
    · exact absurd (List.mem_map.2 ⟨_, h1, rfl⟩) (by rw [← e2] at h; exact h.1)
    · exact ih h.2 h1 h2
theorem look_of_mem {l : List Ent} (h : (keys l).Nodup) {k : K5} {i : Img} (h1 : (k, i) ∈ l) : look l k = some i := by
  cases hl : look l k with
  | none => exact absurd (mem_keys.2 ⟨i, h1⟩) (look_none.1 hl)
  | some j => rw [nodup_inj h (look_mem hl) h1]
theorem mem_rem {l : List Ent} {k : K5} {p : Ent} : p ∈ rem l k ↔ p ∈ l ∧ p.1 ≠ k := by simp [rem]
theorem rem_none {l : List Ent} {k : K5} (h : k ∉ keys l) : rem l k = l := by
  unfold rem
  rw [List.filter_eq_self]
  intro p hp
  have : p.1 ≠ k := fun e => h (by rw [← e]; exact List.mem_map.2 ⟨p, hp, rfl⟩)
  simpa using this
theorem not_mem_rem {l : List Ent} {k : K5} : k ∉ keys (rem l k) := fun h => by
  obtain ⟨i, hi⟩ := mem_keys.1 h
  exact (mem_rem.1 hi).2 rfl
theorem nodup_rem {l : List Ent} (k : K5) (h : (keys l).Nodup) : (keys (rem l k)).Nodup := by
  rw [keys_rem l k h]; exact h.erase k
theorem nodup_back {l : List Ent} {k : K5} (i : Img) (h : (keys l).Nodup) : (keys (rem l k ++ [(k, i)])).Nodup := by
  rw [keys_app]
  refine List.nodup_append.2 ⟨nodup_rem k h, by simp [keys], fun a ha b hb e => ?_⟩
  simp [keys] at hb
  subst hb e
  exact not_mem_rem ha
theorem rem_len (l : List Ent) (k : K5) : (rem l k).length ≤ l.length := List.length_filter_le ..
theorem rem_len' {l : List Ent} {k : K5} (h : k ∈ keys l) : (rem l k).length + 1 ≤ l.length := by
  induction l with
  | nil => simp [keys] at h
  | cons p l ih =>
    unfold rem
    by_cases e : p.1 = k
    · rw [List.filter_cons_of_neg (by simpa using e), List.length_cons]
      have := rem_len l k
      unfold rem at this
      omega
    · rw [List.filter_cons_of_pos (by simpa using e), List.length_cons, List.length_cons]
      have := ih (by
        obtain ⟨i, hi⟩ := mem_keys.1 h
        rcases List.mem_cons.1 hi with e2 | hi
        · exact absurd (by rw [← e2]) e
        · exact mem_keys.2 ⟨i, hi⟩)
      unfold rem at this
      omega

/-- What a cache holds: its budget, its entries, the least recently used one first, and how many were evicted. -/
structure St where
  b : Nat
  l : List Ent
  e : Nat
def St.shrink (s : St) : St := { s with l := s.l.drop (s.l.length - s.b), e := s.e + (s.l.length - s.b) }
def St.over (s : St) : Nat := s.l.length - s.b
def St.get (s : St) (k : K5) : St := match look s.l k with | none => s | some i => { s with l := rem s.l k ++ [(k, i)] }
def St.put (s : St) (k : K5) (i : Img) : St := if s.b = 0 then s else St.shrink { s with l := rem s.l k ++ [(k, i)] }
def dropE (l : List Ent) (n : Int) : List Ent := l.filter fun p => decide (p.1.1 ≠ n)
def St.drop (s : St) (n : Int) : St := { s with l := dropE s.l n }
def St.remove (s : St) (k : K5) : St := { s with l := rem s.l k }
def clampN (n : Int) : Nat := (min 1024 (max n 0)).toNat
def St.resize (s : St) (n : Int) : St := St.shrink { s with b := clampN n }
/-- A call, as data. -/
structure CallV where
  kind : Int
  n : Int
  k : K5
  i : Img
def St.step (s : St) (x : CallV) : St :=
  if x.kind = 0 then s.get x.k else if x.kind = 1 then s.put x.k x.i else if x.kind = 2 then s.drop x.n else if x.kind = 3 then s.remove x.k else if x.kind = 4 then s.resize x.n else s
/-- The states that occur after m calls. -/
structure St.ok (s : St) (m : Nat) : Prop where
  nodup : (keys s.l).Nodup
  len : s.l.length ≤ s.b
  most : s.b ≤ 1024
  evict : s.e + s.l.length ≤ m
  px : ∀ p ∈ s.l, p.2.px.length ≤ 4398046511104
theorem clampN_le (n : Int) : clampN n ≤ 1024 := by unfold clampN; omega
theorem St.ok.more {s : St} {m m' : Nat} (h : s.ok m) (hm : m ≤ m') : s.ok m' := ⟨h.1, h.2, h.3, by have := h.4; omega, h.5⟩
theorem St.shrink_len (s : St) : s.shrink.l.length ≤ s.b := by unfold St.shrink; simp only [List.length_drop]; omega
theorem St.shrink_ok {s : St} {m : Nat} (h1 : (keys s.l).Nodup) (h3 : s.b ≤ 1024) (h4 : s.e + s.l.length ≤ m) (h5 : ∀ p ∈ s.l, p.2.px.length ≤ 4398046511104) : s.shrink.ok m := by
  refine ⟨?_, s.shrink_len, h3, ?_, fun p hp => h5 p (List.mem_of_mem_drop hp)⟩
  · show (keys (s.l.drop _)).Nodup
    rw [keys_drop]
    exact h1.sublist (List.drop_sublist ..)
  · show s.e + (s.l.length - s.b) + (s.l.drop (s.l.length - s.b)).length ≤ m
    rw [List.length_drop]
    omega
theorem St.ok.get_ok {s : St} {m : Nat} (h : s.ok m) (k : K5) : (s.get k).ok m := by
  unfold St.get
  cases hl : look s.l k with
  | none => exact h
  | some i =>
    have hm := look_mem hl
    have hlen := rem_len' (mem_keys.2 ⟨i, hm⟩)
    have h2 := h.len
    have h4 := h.evict
    refine ⟨nodup_back i h.nodup, ?_, h.most, ?_, fun p hp => ?_⟩
    · simp only [List.length_append, List.length_singleton]; omega
    · simp only [List.length_append, List.length_singleton]; omega
    · rcases List.mem_append.1 hp with hp | hp
      · exact h.px p (mem_rem.1 hp).1
      · simp only [List.mem_singleton] at hp; subst hp; exact h.px _ hm
theorem St.ok.put_ok {s : St} {m : Nat} (h : s.ok m) (k : K5) (i : Img) (hi : i.px.length ≤ 4398046511104) : (s.put k i).ok (m + 1) := by
  unfold St.put
  split
  · exact h.more (by omega)
  · have h4 := h.evict
    have h5 := rem_len s.l k
    refine St.shrink_ok (nodup_back i h.nodup) h.most ?_ (fun p hp => ?_)
    · simp only [List.length_append, List.length_singleton]; omega
    · rcases List.mem_append.1 hp with hp | hp
      · exact h.px p (mem_rem.1 hp).1
      · simp only [List.mem_singleton] at hp; subst hp; exact hi
theorem St.ok.part_ok {s : St} {m : Nat} (h : s.ok m) {l : List Ent} (hl : l.Sublist s.l) : St.ok { s with l := l } m := by
  have h2 := h.len
  have h4 := h.evict
  have h5 := hl.length_le
  exact ⟨h.nodup.sublist (hl.map _), by show l.length ≤ s.b; omega, h.most, by show s.e + l.length ≤ m; omega, fun p hp => h.px p (hl.subset hp)⟩
theorem St.ok.drop_ok {s : St} {m : Nat} (h : s.ok m) (n : Int) : (s.drop n).ok m := h.part_ok List.filter_sublist
theorem St.ok.remove_ok {s : St} {m : Nat} (h : s.ok m) (k : K5) : (s.remove k).ok m := h.part_ok List.filter_sublist
theorem St.ok.resize_ok {s : St} {m : Nat} (h : s.ok m) (n : Int) : (s.resize n).ok m := St.shrink_ok h.nodup (clampN_le n) h.evict h.px
theorem St.ok.step_ok {s : St} {m : Nat} (h : s.ok m) (x : CallV) (hx : x.i.px.length ≤ 4398046511104) : (s.step x).ok (m + 1) := by
  unfold St.step
  split
  · exact (h.get_ok _).more (by omega)
  · split
    · exact h.put_ok _ _ hx
    · split
      · exact (h.drop_ok _).more (by omega)
      · split
        · exact (h.remove_ok _).more (by omega)
        · split
          · exact (h.resize_ok _).more (by omega)
          · exact h.more (by omega)
def St.new (n : Int) : St := ⟨clampN n, [], 0⟩
theorem St.new_ok (n : Int) : (St.new n).ok 0 := ⟨by simp [St.new, keys], by simp [St.new], clampN_le n, by simp [St.new], by simp [St.new]⟩

end Go.Proofs.Ytkdokipgakncjaa.Cac
