/-
  Layer 36: a cache in memory, whole.
-/
import Derived.Test.YtkdokipgakncjaaCacUse
namespace Go.Proofs.Ytkdokipgakncjaa.Cac
open Go.RowKit Go.Proofs.Ytkdokipgakncjaa

abbrev RI : Value → Option (DataW Value × List MemPlace) := fun v => some (.held v, [])
/-- The map's entries are the images of the list. -/
structure Tiles (w : World) (B : Nat) (D : DataW Value) (l : List Ent) : Prop where
  has : ∀ k, K5ok k → Maps.has D (kl k) = decide (k ∈ keys l)
  at_ : ∀ p ∈ l, ∃ v, (∀ z, D.atKey (kl p.1) z = .held v) ∧ ImgV w B v p.2
  isMap : Maps.IsMap D
  kok : ∀ k ∈ keys l, K5ok k
def NoPix (w : World) (M : List Nat) : Prop := ∀ k ∈ M, ∀ cur fz, w.heap[k]? ≠ some (.cells cur 63 fz)
theorem NoPix.cells {w : World} {g : Nat} {t : TypeId} {cs : Array Value} {fz : Nat × Nat} (h : w.heap[g]? = some (.cells cs t fz)) (ht : t ≠ 63) : ∀ cur fz, w.heap[g]? ≠ some (.cells cur 63 fz) := fun cur fz e => by
  rw [h] at e; injection e with e; injection e with _ e; exact ht e
theorem NoPix.row {w : World} {base e size n : Nat} {v : Value} {xs : List Value} (h : w.ownsRow base e size v n xs) (he : e ≠ 63) : NoPix w (bl v) := fun k hk => by
  rcases h.2 with ⟨rfl, _⟩ | ⟨g, cap, cur, rfl, _, hh, _⟩
  · simp [bl, Value.ownBlock] at hk
  · obtain rfl : k = g := by simpa [bl, Value.ownBlock] using hk
    exact NoPix.cells hh he
theorem NoPix.map {w : World} {b n : Nat} {D : DataW Value} {kt : TypeId} {R : Value → Option (DataW Value × List MemPlace)} (h : w.ownsMap Try.prog kt R b n D) : ∀ cur fz, w.heap[b]? ≠ some (.cells cur 63 fz) := fun cur fz e => by
  obtain ⟨es, clock, h0, _⟩ := h
  rw [h0] at e; cases e
theorem Tiles.tch {w w' : World} {B : Nat} {D : DataW Value} {l : List Ent} {M : List Nat} (h : Tiles w B D l) (ht : Tch M w w') (hM : NoPix w M) : Tiles w' B D l :=
  ⟨h.has, fun p hp => by obtain ⟨v, h1, h2⟩ := h.at_ p hp; exact ⟨v, h1, h2.tch ht hM⟩, h.isMap, h.kok⟩
theorem isKey (k : K5) : WideAt.IsKeyLit (kl k) := by unfold kl; trivial
theorem Tiles.same {w : World} {B : Nat} {D : DataW Value} {l l' : List Ent} (h : Tiles w B D l) (hm : ∀ p, p ∈ l' ↔ p ∈ l) : Tiles w B D l' := by
  have hk : ∀ k, k ∈ keys l' ↔ k ∈ keys l := fun k => by simp only [mem_keys, hm]
  exact ⟨fun k ho => by rw [h.has k ho]; exact decide_eq_decide.2 (hk k).symm, fun p hp => h.at_ p ((hm p).1 hp), h.isMap, fun k hk' => h.kok k ((hk k).1 hk')⟩
theorem mem_keys_rem {l : List Ent} {k j : K5} : j ∈ keys (rem l k) ↔ j ∈ keys l ∧ j ≠ k := by
  simp only [mem_keys, mem_rem]
  exact ⟨fun ⟨i, h1, h2⟩ => ⟨⟨i, h1⟩, h2⟩, fun ⟨⟨i, h1⟩, h2⟩ => ⟨i, h1, h2⟩⟩
theorem Tiles.rem {w : World} {B : Nat} {D : DataW Value} {l : List Ent} (h : Tiles w B D l) (k : K5) (hk : K5ok k) : Tiles w B (D.del (kl k)) (Cac.rem l k) := by
  refine ⟨fun j hj => ?_, fun p hp => ?_, h.isMap.del _, fun j hj => h.kok j (mem_keys_rem.1 hj).1⟩
  · by_cases e : j = k
    · subst e
      rw [Maps.has_del_same, decide_eq_false not_mem_rem]
    · rw [Maps.has_del_other (fun he => e (kl_inj hj hk he)), h.has j hj]
      exact decide_eq_decide.2 ⟨fun hm => mem_keys_rem.2 ⟨hm, e⟩, fun hm => (mem_keys_rem.1 hm).1⟩
  · obtain ⟨hp1, hp2⟩ := mem_rem.1 hp
    obtain ⟨v, h1, h2⟩ := h.at_ p hp1
    have hpk := h.kok p.1 (mem_keys.2 ⟨p.2, hp1⟩)
    exact ⟨v, fun z => (Maps.atKey_del_other (fun he => hp2 (kl_inj hpk hk he)) z).trans (h1 z), h2⟩
theorem Tiles.put {w : World} {B : Nat} {D : DataW Value} {l : List Ent} (h : Tiles w B D l) (k : K5) (hk : K5ok k) {v : Value} {i : Img} (hv : ImgV w B v i) : Tiles w B (D.put (kl k) (.held v)) (Cac.rem l k ++ [(k, i)]) := by
  have hmem : ∀ j, j ∈ keys (Cac.rem l k ++ [(k, i)]) ↔ j ∈ keys l ∧ j ≠ k ∨ j = k := fun j => by
    rw [keys_app, List.mem_append, mem_keys_rem]; simp [keys]
  refine ⟨fun j hj => ?_, fun p hp => ?_, h.isMap.put _ _, fun j hj => ?_⟩
  · by_cases e : j = k
    · subst e
      rw [Maps.has_put_same h.isMap (isKey _), decide_eq_true ((hmem j).2 (.inr rfl))]
    · rw [Maps.has_put_other (fun he => e (kl_inj hj hk he)), h.has j hj]
      exact decide_eq_decide.2 ⟨fun hm => (hmem j).2 (.inl ⟨hm, e⟩), fun hm => by rcases (hmem j).1 hm with h1 | h1; exact h1.1; exact absurd h1 e⟩
  · rcases List.mem_append.1 hp with hp | hp
    · obtain ⟨hp1, hp2⟩ := mem_rem.1 hp
      obtain ⟨v', h1, h2⟩ := h.at_ p hp1
      have hpk := h.kok p.1 (mem_keys.2 ⟨p.2, hp1⟩)
      exact ⟨v', fun z => (Maps.atKey_put_other (fun he => hp2 (kl_inj hpk hk he)) _ z).trans (h1 z), h2⟩
    · simp only [List.mem_singleton] at hp
      subst hp
      exact ⟨v, fun z => Maps.atKey_put_same h.isMap (isKey _) _ z, hv⟩
  · rcases (hmem j).1 hj with h1 | rfl
    · exact h.kok j h1.1
    · exact hk
theorem rem_head {p : Ent} {r : List Ent} (h : (keys (p :: r)).Nodup) : rem (p :: r) p.1 = r := by
  have h1 : p.1 ∉ keys r := by
    unfold keys at h ⊢
    rw [List.map_cons, List.nodup_cons] at h
    exact h.1
  have := rem_none h1
  unfold rem at this ⊢
  rw [List.filter_cons_of_neg (by simp), this]
theorem mem_back {l : List Ent} (h : (keys l).Nodup) {k : K5} {i : Img} (hi : (k, i) ∈ l) (p : Ent) : p ∈ rem l k ++ [(k, i)] ↔ p ∈ l := by
  rw [List.mem_append, mem_rem, List.mem_singleton]
  constructor
  · rintro (h1 | rfl)
    · exact h1.1
    · exact hi
  · intro hp
    by_cases e : p.1 = k
    · refine .inr ?_
      obtain ⟨pk, pi⟩ := p
      simp only at e
      subst e
      rw [nodup_inj h hp hi]
    · exact .inl ⟨hp, e⟩

/-- A cache in memory: its block, its map, its order, its images. -/
structure Cch (w : World) (B g b : Nat) (ov : Value) (n : Nat) (D : DataW Value) (bud : Nat) (l : List Ent) (e : Nat) : Prop where
  ord : Ord w B g (.int .i64 bud) (.map (some b)) ov (.int .i64 e) (keys l)
  map : w.ownsMap Try.prog 29 RI b n D
  til : Tiles w B D l
  low : B ≤ b
  nodup : (keys l).Nodup
section
variable {w w' : World} {B g b n bud e : Nat} {ov : Value} {D : DataW Value} {l : List Ent}
/-- The blocks that a cache's calls write. -/
def foot (g b : Nat) (ov : Value) : List Nat := g :: b :: bl ov
theorem Cch.noPix (h : Cch w B g b ov n D bud l e) : NoPix w (foot g b ov) := fun k hk => by
  unfold foot at hk
  simp only [List.mem_cons] at hk
  rcases hk with rfl | rfl | hk
  · exact NoPix.cells h.ord.box (by decide)
  · exact NoPix.map h.map
  · exact NoPix.row h.ord.row (by decide) k hk
theorem Cch.size (h : Cch w B g b ov n D bud l e) : ∀ k ∈ foot g b ov, k < w.heap.size := fun k hk => by
  unfold foot at hk
  simp only [List.mem_cons] at hk
  rcases hk with rfl | rfl | hk
  · exact h.ord.box.lt
  · exact h.map.lt
  · exact own_lt h.ord.row k (mem_bl.1 hk)
theorem Cch.lows (h : Cch w B g b ov n D bud l e) : ∀ k ∈ foot g b ov, B ≤ k := fun k hk => by
  unfold foot at hk
  simp only [List.mem_cons] at hk
  rcases hk with rfl | rfl | hk
  · exact h.ord.low
  · exact h.low
  · exact own_low h.ord.row k (mem_bl.1 hk)
theorem Cch.tch {M : List Nat} (h : Cch w B g b ov n D bud l e) (ht : Tch M w w') (hM : NoPix w M) (hd : ∀ k ∈ foot g b ov, k ∉ M) : Cch w' B g b ov n D bud l e := by
  unfold foot at hd
  exact ⟨h.ord.tch ht (hd g (by simp)) (fun k hk => hd k (by simp [mem_bl, hk])), ht.map h.map (hd b (by simp)), h.til.tch ht hM, h.low, h.nodup⟩
theorem Cch.gb (h : Cch w B g b ov n D bud l e) : b ≠ g := map_ne_blk h.map h.ord.box
theorem Cch.og (h : Cch w B g b ov n D bud l e) : ∀ k, ov.ownBlock = some k → k ≠ g := own_ne_blk h.ord.row h.ord.box (by decide)
theorem Cch.ob (h : Cch w B g b ov n D bud l e) : ∀ k, ov.ownBlock = some k → k ≠ b := own_ne_map h.ord.row h.map
end
/-- A cache in some state, at most m entries ever stored; M: the blocks that are its own. -/
def IsC (w : World) (B g m : Nat) (s : St) (M : List Nat) : Prop := ∃ b ov n D, n ≤ m ∧ M = foot g b ov ∧ Cch w B g b ov n D s.b s.l s.e
/-- What a call of a cache leaves: the cache in another state; nothing else of what there was has turned. -/
def Left (B g m : Nat) (s : St) (M : List Nat) (w w' : World) : Prop := ∃ M', IsC w' B g m s M' ∧ Tch M w w' ∧ ∀ k ∈ M', k ∈ M ∨ w.heap.size ≤ k

end Go.Proofs.Ytkdokipgakncjaa.Cac
