/-
  CacheValues: a key has the image that it was given most recently.
-/
import Derived.Test.YtkdokipgakncjaaCacSame
namespace Go.Proofs.Ytkdokipgakncjaa.CacheValues
open Go.RowKit Go.Proofs.Ytkdokipgakncjaa Go.Proofs.Ytkdokipgakncjaa.Cac

/-- The state behind j calls, each Get and Put followed by a Get. -/
def vS (b : Int) (f : Nat → CallV × Value) : Nat → St
  | 0 => St.new b
  | j + 1 => if (f j).1.kind = 0 ∨ (f j).1.kind = 1 then ((vS b f j).step (f j).1).get (f j).1.k else (vS b f j).step (f j).1
/-- The last call of the first j that put an image at a key. -/
def lastP (f : Nat → CallV × Value) (k : K5) : Nat → Int
  | 0 => -1
  | j + 1 => if (f j).1.kind = 1 ∧ (f j).1.k = k then (j : Int) else lastP f k j
def Inv (f : Nat → CallV × Value) (j : Nat) (s : St) : Prop := ∀ p ∈ s.l, ∃ a : Nat, lastP f p.1 j = a ∧ (f a).1.i = p.2 ∧ a < j
theorem shrink_sub (s : St) {p : Ent} (h : p ∈ s.shrink.l) : p ∈ s.l := List.mem_of_mem_drop h
theorem get_sub (s : St) (k : K5) {p : Ent} (h : p ∈ (s.get k).l) : p ∈ s.l := by
  unfold St.get at h
  cases hl : Cac.look s.l k with
  | none => rw [hl] at h; exact h
  | some i =>
    rw [hl] at h
    rcases List.mem_append.1 h with h | h
    · exact (mem_rem.1 h).1
    · simp only [List.mem_singleton] at h
      subst h
      exact look_mem hl
theorem step_mem (s : St) (m : Nat) (hok : s.ok m) (x : CallV) {p : Ent} (h : p ∈ (s.step x).l) : (p ∈ s.l ∧ ¬ (x.kind = 1 ∧ x.k = p.1)) ∨ (x.kind = 1 ∧ p = (x.k, x.i)) := by
  unfold St.step at h
  by_cases h0 : x.kind = 0
  · rw [if_pos h0] at h
    exact .inl ⟨get_sub _ _ h, fun e => by omega⟩
  rw [if_neg h0] at h
  by_cases h1 : x.kind = 1
  · rw [if_pos h1] at h
    unfold St.put at h
    split at h
    · rename_i hb
      have := hok.len
      rw [hb] at this
      rw [List.eq_nil_of_length_eq_zero (by omega : s.l.length = 0)] at h
      cases h
    · have h := shrink_sub _ h
      rcases List.mem_append.1 h with h | h
      · exact .inl ⟨(mem_rem.1 h).1, fun e => (mem_rem.1 h).2 e.2.symm⟩
      · simp only [List.mem_singleton] at h
        exact .inr ⟨h1, h⟩
  rw [if_neg h1] at h
  refine .inl ⟨?_, fun e => h1 e.1⟩
  by_cases h2 : x.kind = 2
  · rw [if_pos h2] at h
    exact (List.mem_filter.1 h).1
  rw [if_neg h2] at h
  by_cases h3 : x.kind = 3
  · rw [if_pos h3] at h
    exact (mem_rem.1 h).1
  rw [if_neg h3] at h
  by_cases h4 : x.kind = 4
  · rw [if_pos h4] at h
    exact shrink_sub { s with b := clampN x.n } h
  rw [if_neg h4] at h
  exact h
theorem Inv.step {f : Nat → CallV × Value} {j m : Nat} {s : St} (h : Inv f j s) (hok : s.ok m) : Inv f (j + 1) (s.step (f j).1) := fun p hp => by
  rcases step_mem s m hok (f j).1 hp with ⟨h1, h2⟩ | ⟨h1, h2⟩
  · obtain ⟨a, e1, e2, e3⟩ := h p h1
    exact ⟨a, by unfold lastP; rw [if_neg h2, e1], e2, by omega⟩
  · refine ⟨j, ?_, by rw [h2], by omega⟩
    unfold lastP
    rw [if_pos ⟨h1, by rw [h2]⟩]
theorem Inv.get {f : Nat → CallV × Value} {j : Nat} {s : St} (h : Inv f j s) (k : K5) : Inv f j (s.get k) := fun p hp => h p (get_sub s k hp)
theorem get_b (s : St) (k : K5) : (s.get k).b = s.b := by unfold St.get; split <;> rfl
theorem put_look (s : St) (m : Nat) (hok : s.ok m) (k : K5) (i : Img) (hb : s.b ≠ 0) : Cac.look (s.put k i).l k = some i := by
  have hmem : (k, i) ∈ (s.put k i).l := by
    unfold St.put
    rw [if_neg hb]
    show (k, i) ∈ (rem s.l k ++ [(k, i)]).drop _
    rw [List.drop_append_of_le_length (by simp only [List.length_append, List.length_singleton]; omega)]
    simp
  have hn : (keys (s.put k i).l).Nodup := by
    unfold St.put
    rw [if_neg hb]
    show (keys ((rem s.l k ++ [(k, i)]).drop _)).Nodup
    rw [keys_drop]
    exact (nodup_back i hok.nodup).sublist (List.drop_sublist ..)
  exact look_of_mem hn hmem
theorem put_look0 (s : St) (m : Nat) (hok : s.ok m) (k : K5) (i : Img) (hb : s.b = 0) : Cac.look (s.put k i).l k = none := by
  have := hok.len
  unfold St.put
  rw [if_pos hb, List.eq_nil_of_length_eq_zero (by omega : s.l.length = 0)]
  rfl

theorem cp_get {B g m : Nat} {s : St} {M : List Nat} {W : World} (h : CP B g m s W M) (k : K5) (hk : K5ok k) (i : Img) (hi : (Cac.look s.l k).getD img0 = i) :
    Calls Try.prog 19 #[.pointer (some ⟨g, 0, none⟩), kagg k] W fun e w' => (∃ A c, e = .returned (.tuple #[.agg #[.int .i64 i.W, .int .i64 i.H, .slice A i.px.length c], .bool (Cac.look s.l k).isSome]) ∧ ImgR w' w'.heap.size (.agg #[.int .i64 i.W, .int .i64 i.H, .slice A i.px.length c]) i) ∧ Out (CP B g m (s.get k)) M W w' := by
  have h1 := h.2.len
  have h2 := h.2.most
  refine (get_any B g m s k hk M W h.1 (by omega) (fun p hp => by have := h.2.px p hp; omega)).mono ?_
  rintro e w' ⟨v, rfl, hI, M', k1, k2, k3⟩
  rw [hi] at hI
  have hR := hI.read
  obtain ⟨A, c, rfl, hr, hA⟩ := hI.read
  exact ⟨⟨A, c, rfl, hR⟩, M', ⟨k1, h.2.get_ok k⟩, k2, k3⟩
theorem wpList_load_key {ops : Array Oper} {rest : List Oper} {o : Oper} {a : Act} {w : World} {Q : Exit → Act → World → Prop} (hg : o.guard = none) (x : Operand) (ho : o.op = .load 29 x) (ad : Addr) (hx : a.eval x = .pointer (some ad)) (k : K5)
    (h : ∀ c u, (kc k)[c]? = some u → w.cell? (ad.add c) = some u) (hK : wpList Try.prog ops Q rest (a.put o.dst (kagg k)) w) : wpList Try.prog ops Q (o :: rest) a w := by
  refine wpList_plain hg fun K hK' => ?_
  have hr := run_loadVar_at (P := Try.prog) w ad 29 (kc k) _ h Try.underlying29 rfl (by kernel_rfl)
  unfold Oper.wp execOp
  simp only [ho, hx, Instr.loadAt, Instr.sureAddr, Sem.run_bind, Sem.run_pure, Result.andThen_ok, hr]
  exact hK' _ _ hK
theorem mid_add (a : Addr) (i c : Nat) (hi : 0 < i) : (⟨a.block, a.off + i, none⟩ : Addr).add c = a.add (i + c) := by
  have : (⟨a.block, a.off + i, none⟩ : Addr) = a.add i := by
    unfold Addr.add
    rw [if_neg (by omega)]
  rw [this, add_of_add]
theorem call_key {w : World} {a : Addr} {x : CallV} {r : Value} (h : ∀ c u, (xcs x r)[c]? = some u → w.cell? (a.add c) = some u) : ∀ c u, (kc x.k)[c]? = some u → w.cell? ((⟨a.block, a.off + 2, none⟩ : Addr).add c) = some u := fun c u hu => by
  rw [mid_add _ _ _ (by omega)]
  refine h _ _ ?_
  match c, hu with
  | 0, hu => exact hu
  | 1, hu => exact hu
  | 2, hu => exact hu
  | 3, hu => exact hu
  | 4, hu => exact hu
theorem call_cell {w : World} {a : Addr} {x : CallV} {r : Value} (h : ∀ c u, (xcs x r)[c]? = some u → w.cell? (a.add c) = some u) (c : Nat) (hc : 0 < c) (u : Value) (hu : (xcs x r)[c]? = some u) : w.cell? ⟨a.block, a.off + c, none⟩ = some u := by
  have := h c u hu
  unfold Addr.add at this
  rwa [if_neg (by omega)] at this
theorem call_img {w : World} {a : Addr} {x : CallV} {r : Value} (h : ∀ c u, (xcs x r)[c]? = some u → w.cell? (a.add c) = some u) : w.cell? ⟨a.block, a.off + 7, none⟩ = some (.int .i64 x.i.W) ∧ w.cell? ⟨a.block, a.off + 7 + 1, none⟩ = some (.int .i64 x.i.H) ∧ w.cell? ⟨a.block, a.off + 7 + 2, none⟩ = some r :=
  ⟨call_cell h 7 (by omega) _ rfl, call_cell h 8 (by omega) _ rfl, call_cell h 9 (by omega) _ rfl⟩
theorem call_key5 {w : World} {a : Addr} {x : CallV} {r : Value} (h : ∀ c u, (xcs x r)[c]? = some u → w.cell? (a.add c) = some u) : w.cell? a = some (.int .i64 x.kind) ∧ w.cell? ⟨a.block, a.off + 2, none⟩ = some (.int .i64 x.k.1) ∧ w.cell? ⟨a.block, a.off + 2 + 1, none⟩ = some (.int .i64 x.k.2.1) ∧ w.cell? ⟨a.block, a.off + 2 + 2, none⟩ = some (.int .i64 x.k.2.2.1) ∧ w.cell? ⟨a.block, a.off + 2 + 3, none⟩ = some (.int .i64 x.k.2.2.2.1) ∧ w.cell? ⟨a.block, a.off + 2 + 4, none⟩ = some (.int .i64 x.k.2.2.2.2) :=
  ⟨(call_cells h).1, call_cell h 2 (by omega) _ rfl, call_cell h 3 (by omega) _ rfl, call_cell h 4 (by omega) _ rfl, call_cell h 5 (by omega) _ rfl, call_cell h 6 (by omega) _ rfl⟩
theorem lastP_lt (f : Nat → CallV × Value) (k : K5) : ∀ j : Nat, lastP f k j < j
  | 0 => by unfold lastP; omega
  | j + 1 => by
    have := lastP_lt f k j
    unfold lastP
    split <;> omega
theorem clamp_pos {z : Int} {b : Nat} (h : b = clampN z) : b ≠ 0 ↔ 1 ≤ z := by unfold clampN at h; omega

set_option maxRecDepth 100000 in
set_option maxHeartbeats 8000000 in
theorem walk (b : Int) (A : Option Addr) (n c : Nat) (f : Nat → CallV × Value) (w : World) (hC : Calls_ w w.heap.size A n f) (hn : n ≤ 1759218604441) :
    Calls Try.prog 5 #[.int .i64 b, .slice A n c] w (Yes w) := by
  obtain ⟨B, hBw⟩ : ∃ B, w.heap.size = B := ⟨_, rfl⟩
  rw [hBw] at hC
  have hnew := hold_new B b w w (Below.refl _ _) (by omega)
  have HC := Lib.hid hC
  have HB := Lib.hid hBw
  clear hC hBw
  go_enter Try.func5, Try.ntmps5
  go_wp2_with fail
  refine hnew.mono ?_
  rintro e w1 ⟨g, rfl, h1⟩
  clear hnew
  go_wp2_with fail
  go_loopw [0, 6] (fun z i wr => ∃ (j : Nat) (zz : Int), i = .int .i64 j ∧ j ≤ n ∧ z = .int .i64 zz ∧ (vS b f j).b = clampN zz ∧ Inv f j (vS b f j) ∧ Hold (CP B g j (vS b f j)) B w wr) (fun _ i _ => n - (intOf i).toNat)
  case atStart => exact ⟨0, b, rfl, by omega, rfl, rfl, (fun p hp => by simp [vS, St.new] at hp), h1⟩
  case round =>
    clear h1
    obtain ⟨j, zz, rfl, hj, rfl, hz, hinv, h⟩ := hrel
    by_cases hlt : j < n
    · obtain ⟨ad, rfl, hlb, hcell, hcr⟩ := (HC.out.below h.below).at_ j hlt
      have hdo := h.call (obC _ _ _ _) (fun M hM => cp_do hM (f j).1 (f j).2 (hcr.more h.size) (by omega) h.size)
      have hcl := fun (W : World) (hb : Below B w W) (i : Nat) (hi : i < n) => (HC.out.below hb).cells i hi
      have hok : (vS b f j).ok j := by obtain ⟨M, hM⟩ := h.st; exact hM.2
      have hinv1 := hinv.step hok
      have hb1 := step_b (vS b f j) (f j).1
      have hdef : vS b f (j + 1) = if (f j).1.kind = 0 ∨ (f j).1.kind = 1 then ((vS b f j).step (f j).1).get (f j).1.k else (vS b f j).step (f j).1 := rfl
      have hput : (f j).1.kind = 1 → (vS b f j).step (f j).1 = (vS b f j).put (f j).1.k (f j).1.i := fun h => step1 h
      have hlast : ∀ k, lastP f k (j + 1) = if (f j).1.kind = 1 ∧ (f j).1.k = k then (j : Int) else lastP f k j := fun k => rfl
      have hxi : (f j).1.i.px.length ≤ 4398046511104 := hcr.2.2
      have hko : K5ok (f j).1.k := hcr.2.1
      have hlook : (f j).1.kind = 1 → Cac.look ((vS b f j).step (f j).1).l (f j).1.k = if (vS b f j).b = 0 then none else some (f j).1.i := fun h1 => by
        rw [hput h1]
        split
        · rename_i h0; exact put_look0 _ j hok _ _ h0
        · rename_i h0; exact put_look _ j hok _ _ h0
      obtain ⟨s0, hs0⟩ : ∃ s, vS b f j = s := ⟨_, rfl⟩
      obtain ⟨s1, hs1⟩ : ∃ s, (vS b f j).step (f j).1 = s := ⟨_, rfl⟩
      obtain ⟨x, hx⟩ : ∃ x, (f j).1 = x := ⟨_, rfl⟩
      obtain ⟨r, hr⟩ : ∃ r, (f j).2 = r := ⟨_, rfl⟩
      rw [hs1] at hdo hinv1 hb1 hdef hlook
      rw [hs0] at hz hb1 hlook
      rw [hx] at hcell hdo hb1 hdef hko hlook hxi
      rw [hr] at hcell hdo
      have hcj := fun (W : World) (hb : Below B w W) => call_cells (by have := (hcl W hb j hlt).1; rw [hx, hr] at this; exact this)
      have hcx := fun (W : World) (hb : Below B w W) => by have := (hcl W hb j hlt).1; rw [hx, hr] at this; exact this
      have hlast2 : ∀ k, lastP f k (j + 1) = if x.kind = 1 ∧ x.k = k then (j : Int) else lastP f k j := fun k => by rw [← hx]; exact hlast k
      have hrx := fun (W : World) (hb : Below B w W) => by have := (hcl W hb j hlt).2; rw [hx, hr] at this; exact this
      have HZ := Lib.hid hz
      have HX := Lib.hid hx
      have HLA := Lib.hid hlast2
      have HLO := Lib.hid hlook
      have HINV := Lib.hid hinv1
      have HB1 := Lib.hid hb1
      have HDEF := Lib.hid hdef
      have HKO := Lib.hid hko
      have HCL := Lib.hid hcl
      have HCJ := Lib.hid hcj
      have HCX := Lib.hid hcx
      have HRX := Lib.hid hrx
      clear hz hx hlast hlast2 hlook hinv1 hb1 hdef hko hcl hcj hcx hrx hr hput hok hinv hs0 hs1 h hcr
      go_wp2_with (refine wpList_load_call rfl _ rfl (ad.add (j * 10)) rfl x r hcell ?_)
      refine hdo.mono ?_
      rintro e w3 ⟨rfl, h3⟩
      clear hdo hcell
      obtain ⟨d0, d1⟩ := HCJ.out w3 h3.below
      have H3 := Lib.hid h3
      clear h3
      by_cases k1 : x.kind = 1
      · have q4 : (x.kind == 4) = false := by simp [k1]
        have q1 : (x.kind == 1) = true := by simp [k1]
        have q0 : (x.kind == 0) = false := by simp [k1]
        have hdf : vS b f (j + 1) = s1.get x.k := by rw [HDEF.out, if_pos (.inr k1)]
        have hbz : s1.b = clampN zz := by rw [HB1.out, if_neg (by omega), HZ.out]
        have HFIN : Hid ((vS b f (j + 1)).b = clampN zz ∧ Inv f (j + 1) (vS b f (j + 1))) := Lib.hid ⟨by rw [hdf, get_b]; exact hbz, by rw [hdf]; exact HINV.out.get _⟩
        have hl1 := HLO.out k1
        have HDF := Lib.hid hdf
        have hck := call_key (HCX.out w3 H3.out.below)
        clear k1 hdf hbz
        by_cases hb0 : s0.b = 0
        · rw [if_pos hb0] at hl1
          have hzz : (decide (1 ≤ zz)) = false := by
            have := clamp_pos (HZ.out)
            simpa using (by omega : ¬ 1 ≤ zz)
          have hget := H3.out.call (obC _ _ _ _) (fun M hM => cp_get hM x.k HKO.out img0 (by rw [hl1]; rfl))
          rw [hl1] at hget
          clear hl1 hb0
          go_wp2_with (refine wpList_load_key rfl _ rfl ⟨(ad.add (j * 10)).block, (ad.add (j * 10)).off + 2, none⟩ rfl x.k hck ?_)
          refine hget.mono ?_
          rintro e w4 ⟨⟨A5, c5, rfl, hI⟩, h4⟩
          clear hget hck
          have h5 := h4.later (obC _ _ _ _) (W' := w4.alloc (.cells #[.int .i64 img0.W, .int .i64 img0.H, .slice A5 img0.px.length c5] 32)) ((Below.refl _ _).alloc (Nat.le_refl _) _)
          have H5 := Lib.hid h5
          obtain ⟨d0, d1⟩ := HCJ.out _ h5.below
          rw [← HDF.out] at H5
          clear h4 h5 hI
          go_wp2_with fail
          go_quiet (fail)
          go_wp2_with fail
          go_roundw
          case rel => exact ⟨j + 1, zz, by go_num, by omega, rfl, HFIN.out.1, HFIN.out.2, (H5.out.later (obC _ _ _ _) ⟨rfl, rfl, rfl, Nat.le_refl _, fun _ _ => rfl⟩)⟩
          case measure => simp [intOf]; omega
        · rw [if_neg hb0] at hl1
          have hzz : (1 : Int) ≤ zz := by
            have := clamp_pos (HZ.out)
            omega
          have hget := H3.out.call (obC _ _ _ _) (fun M hM => cp_get hM x.k HKO.out x.i (by rw [hl1]; rfl))
          rw [hl1] at hget
          clear hl1 hb0
          have hrx := HRX.out
          obtain ⟨im, him⟩ : ∃ im, x.i = im := ⟨_, rfl⟩
          obtain ⟨iW, hiW⟩ : ∃ z, im.W = z := ⟨_, rfl⟩
          obtain ⟨iH, hiH⟩ : ∃ z, im.H = z := ⟨_, rfl⟩
          obtain ⟨q5, hq5⟩ : ∃ z, im.px.length = z := ⟨_, rfl⟩
          obtain ⟨r2, hr2⟩ : ∃ z, r = z := ⟨_, rfl⟩
          rw [him, hq5, hiW, hiH] at hget
          have CI0 : Hid (∀ W, Below B w W → W.cell? ⟨(ad.add (j * 10)).block, (ad.add (j * 10)).off + 7, none⟩ = some (.int .i64 iW) ∧ W.cell? ⟨(ad.add (j * 10)).block, (ad.add (j * 10)).off + 7 + 1, none⟩ = some (.int .i64 iH) ∧ W.cell? ⟨(ad.add (j * 10)).block, (ad.add (j * 10)).off + 7 + 2, none⟩ = some r2) := Lib.hid (fun W hW => by
            have := call_img (HCX.out W hW)
            rw [him, hiW, hiH, hr2] at this
            exact this)
          have HR2 : Hid (∀ W, Below B w W → B ≤ W.heap.size → ImgR W W.heap.size (.agg #[.int .i64 iW, .int .i64 iH, r2]) im) := Lib.hid (fun W hW hs => by
            have := (hrx W hW).1
            rw [him, hiW, hiH, hr2] at this
            exact this.more hs)
          have HQ5 := Lib.hid hq5
          have hq5m : q5 ≤ 4398046511104 := by rw [← hq5, ← him]; exact hxi
          clear him hiW hiH hq5 hr2 hrx
          go_wp2_with (refine wpList_load_key rfl _ rfl ⟨(ad.add (j * 10)).block, (ad.add (j * 10)).off + 2, none⟩ rfl x.k hck ?_)
          refine hget.mono ?_
          rintro e w4 ⟨⟨A5, c5, rfl, hI⟩, h4⟩
          clear hget hck
          have bA : Below w4.heap.size w4 (w4.alloc (.cells #[.int .i64 iW, .int .i64 iH, .slice A5 q5 c5] 32)) := (Below.refl _ _).alloc (Nat.le_refl _) _
          have h5 := h4.later (obC _ _ _ _) bA
          have hI5 := (hI.below bA).more bA.size
          have bx := Blk.new w4 32 #[.int .i64 iW, .int .i64 iH, .slice A5 q5 c5]
          rw [← HDF.out] at h5
          have HH5 := Lib.hid h5
          have HI5 := Lib.hid hI5
          have HBX := Lib.hid bx
          clear h4 h5 hI bA hI5 bx
          go_wp2_with fail
          obtain ⟨g5, hg5⟩ : ∃ g, w4.heap.size = g := ⟨_, rfl⟩
          obtain ⟨w5, hw5⟩ : ∃ w5, w4.alloc (.cells #[.int .i64 iW, .int .i64 iH, .slice A5 q5 c5] 32) = w5 := ⟨_, rfl⟩
          rw [hw5] at HH5 HI5 HBX ⊢
          rw [hg5] at HBX ⊢
          clear hg5 hw5
          have h5 := HH5.out
          have BX : Hid (∀ W1, Below w5.heap.size w5 W1 → W1.cell? ⟨g5, 0, none⟩ = some (.int .i64 iW) ∧ W1.cell? ⟨g5, 1, none⟩ = some (.int .i64 iH) ∧ W1.cell? ⟨g5, 2, none⟩ = some (.slice A5 q5 c5)) := Lib.hid (fun W1 hb => by
            obtain ⟨z0, z1, z2, _⟩ := blk3 (HBX.out.below hb HBX.out.lt)
            exact ⟨z0, z1, z2⟩)
          have CI : Hid (∀ W1, Below w5.heap.size w5 W1 → W1.cell? ⟨(ad.add (j * 10)).block, (ad.add (j * 10)).off + 7, none⟩ = some (.int .i64 iW) ∧ W1.cell? ⟨(ad.add (j * 10)).block, (ad.add (j * 10)).off + 7 + 1, none⟩ = some (.int .i64 iH) ∧ W1.cell? ⟨(ad.add (j * 10)).block, (ad.add (j * 10)).off + 7 + 2, none⟩ = some r2) := Lib.hid (fun W1 hb => CI0.out W1 (h5.below.trans (hb.mono h5.size)))
          have CS : Hid (∀ W1, Below w5.heap.size w5 W1 → Calls Try.prog 20 #[.agg #[.int .i64 iW, .int .i64 iH, .slice A5 q5 c5], .agg #[.int .i64 iW, .int .i64 iH, r2]] W1 fun e w' => e = .returned (.bool true) ∧ Below W1.heap.size W1 w') := Lib.hid (fun W1 hb =>
            same_img _ _ im W1 ((HI5.out.below hb).more hb.size) (HR2.out W1 (h5.below.trans (hb.mono h5.size)) (Nat.le_trans h5.size hb.size)) (by rw [HQ5.out]; exact hq5m))
          have CK : Hid (∀ W1, Below w5.heap.size w5 W1 → W1.cell? (ad.add (j * 10)) = some (.int .i64 x.kind)) := Lib.hid (fun W1 hb => (HCJ.out W1 (h5.below.trans (hb.mono h5.size))).1)
          have h5m := h5
          clear h5
          have H5M := Lib.hid h5m
          clear h5m
          refine wp_region_held_drew (S := fun W => Below w5.heap.size w5 W) (by kernel_rfl) (Below.refl _ _).drew (fun hHeld => ?_)
          refine wpAnyH_take (i := 0) (oi := _) (v := .bool true) rfl (by kernel_rfl) (by kernel_rfl) (by kernel_rfl) (fun _ _ _ h => h) (Or.inl ⟨by rfl, fun W1 _ => by go_simp⟩) (by assumption) ?_
          go_simp
          refine wpAnyH_take (i := 1) (oi := _) (v := .int .i64 zz) rfl (by kernel_rfl) (by kernel_rfl) (by kernel_rfl) (fun _ _ _ h => h) (Or.inl ⟨by rfl, fun W1 _ => by go_simp⟩) (by assumption) ?_
          go_simp
          refine wpAnyH_take (i := 2) (oi := _) (v := .bool true) rfl (by kernel_rfl) (by kernel_rfl) (by kernel_rfl) (fun _ _ _ h => h) (Or.inl ⟨by rfl, fun W1 _ => by go_simp⟩) (by assumption) ?_
          go_simp
          refine wpAnyH_take (i := 3) (oi := _) (v := .bool false) rfl (by kernel_rfl) (by kernel_rfl) (by kernel_rfl) (fun _ _ _ h => h) (Or.inl ⟨by rfl, fun W1 _ => by go_simp⟩) (by assumption) ?_
          go_simp
          refine wpAnyH_take (i := 4) (oi := _) (v := .bool false) rfl (by kernel_rfl) (by kernel_rfl) (by kernel_rfl) (fun _ _ _ h => h) (Or.inl ⟨by rfl, fun W1 _ => by go_simp⟩) (by assumption) ?_
          go_simp
          refine wpAnyH_take (i := 5) (oi := _) (v := .bool true) rfl (by kernel_rfl) (by kernel_rfl) (by kernel_rfl) (fun _ _ _ h => h) (Or.inl ⟨by rfl, fun W1 _ => by go_simp⟩) (by assumption) ?_
          go_simp
          refine wpAnyH_take (i := 6) (oi := _) (v := .bool true) rfl (by kernel_rfl) (by kernel_rfl) (by kernel_rfl) (fun _ _ _ h => h) (Or.inl ⟨by rfl, fun W1 _ => by go_simp⟩) (by assumption) ?_
          go_simp
          refine wpAnyH_take (i := 7) (oi := _) (v := .agg #[.int .i64 iW, .int .i64 iH, .slice A5 q5 c5]) rfl (by kernel_rfl) (by kernel_rfl) (by kernel_rfl) (fun _ _ _ h => h) (Or.inl ⟨by rfl, fun W1 hS => by (have z := BX.out W1 hS; obtain ⟨z0, z1, z2⟩ := z; go_simp)⟩) (by assumption) ?_
          go_simp
          refine wpAnyH_take (i := 8) (oi := _) (v := .slice (some ad) n c) rfl (by kernel_rfl) (by kernel_rfl) (by kernel_rfl) (fun _ _ _ h => h) (Or.inl ⟨by rfl, fun W1 _ => by go_simp⟩) (by assumption) ?_
          go_simp
          refine wpAnyH_take (i := 9) (oi := _) (v := .int .i64 (j : Int)) rfl (by kernel_rfl) (by kernel_rfl) (by kernel_rfl) (fun _ _ _ h => h) (Or.inl ⟨by rfl, fun W1 _ => by go_simp⟩) (by assumption) ?_
          go_simp
          refine wpAnyH_take (i := 10) (oi := _) (v := .pointer (some (ad.add (j * 10)))) rfl (by kernel_rfl) (by kernel_rfl) (by kernel_rfl) (fun _ _ _ h => h) (Or.inl ⟨by rfl, fun W1 _ => by go_simp⟩) (by assumption) ?_
          go_simp
          refine wpAnyH_take (i := 11) (oi := _) (v := .pointer (some ⟨(ad.add (j * 10)).block, (ad.add (j * 10)).off + 7, none⟩)) rfl (by kernel_rfl) (by kernel_rfl) (by kernel_rfl) (fun _ _ _ h => h) (Or.inl ⟨by rfl, fun W1 _ => by go_simp⟩) (by assumption) ?_
          go_simp
          refine wpAnyH_take (i := 12) (oi := _) (v := .agg #[.int .i64 iW, .int .i64 iH, r2]) rfl (by kernel_rfl) (by kernel_rfl) (by kernel_rfl) (fun _ _ _ h => h) (Or.inl ⟨by rfl, fun W1 hS => by (have z := CI.out W1 hS; obtain ⟨z0, z1, z2⟩ := z; go_simp)⟩) (by assumption) ?_
          go_simp
          refine wpAnyH_ready (rs := [13]) (by kernel_rfl) (by simp) ?_
          refine AllReadyH.cons (o := _) rfl (fun K hK => ?_) AllReadyH.nil
          go_simp
          go_at_call 20
          refine (CS.out _ hHeld).mono ?_
          rintro e w7 ⟨rfl, b7⟩
          go_wp2_with fail
          refine hK.out _ _ (hHeld.trans (b7.mono hHeld.size)) (fun hHeld => ?_)
          clear hK b7
          try simp only [Act.put, List.setIfInBounds_toArray, List.set_cons_zero, List.set_cons_succ]
          refine wpAnyH_take (i := 14) (oi := _) (v := .bool false) rfl (by kernel_rfl) (by kernel_rfl) (by kernel_rfl) (fun _ _ _ h => h) (Or.inl ⟨by rfl, fun W1 _ => by go_simp⟩) (by assumption) ?_
          go_simp
          refine wpAnyH_take (i := 15) (oi := _) (v := .bool false) rfl (by kernel_rfl) (by kernel_rfl) (by kernel_rfl) (fun _ _ _ h => h) (Or.inl ⟨by rfl, fun W1 _ => by go_simp⟩) (by assumption) ?_
          go_simp
          refine wpAnyH_take (i := 16) (oi := _) (v := .bool false) rfl (by kernel_rfl) (by kernel_rfl) (by kernel_rfl) (fun _ _ _ h => h) (Or.inl ⟨by rfl, fun W1 _ => by go_simp⟩) (by assumption) ?_
          go_simp
          refine wpAnyH_done (by kernel_rfl) ?_ _
          have d0' := CK.out _ hHeld
          have HBL := Lib.hid hHeld
          clear hHeld
          go_wp2_with fail
          go_roundw
          case rel => exact ⟨j + 1, zz, by go_num, by omega, rfl, HFIN.out.1, HFIN.out.2, (H5M.out.later (obC _ _ _ _) HBL.out)⟩
          case measure => simp [intOf]; omega
      by_cases k4 : x.kind = 4
      · have q4 : (x.kind == 4) = true := by simp [k4]
        have q1 : (x.kind == 1) = false := by simp [k4]
        have q0 : (x.kind == 0) = false := by simp [k4]
        have hdf : vS b f (j + 1) = s1 := by rw [HDEF.out, if_neg (by omega)]
        have HFIN : Hid ((vS b f (j + 1)).b = clampN x.n ∧ Inv f (j + 1) (vS b f (j + 1))) := Lib.hid ⟨by rw [hdf, HB1.out, if_pos k4], by rw [hdf]; exact HINV.out⟩
        rw [← hdf] at H3
        clear k1 k4 hdf
        go_wp2_with fail
        go_roundw
        case rel => exact ⟨j + 1, x.n, by go_num, by omega, rfl, HFIN.out.1, HFIN.out.2, H3.out⟩
        case measure => simp [intOf]; omega
      by_cases k0 : x.kind = 0
      rotate_left
      · have q4 : (x.kind == 4) = false := by simpa using k4
        have q1 : (x.kind == 1) = false := by simpa using k1
        have q0 : (x.kind == 0) = false := by simpa using k0
        have hdf : vS b f (j + 1) = s1 := by rw [HDEF.out, if_neg (by omega)]
        have HFIN : Hid ((vS b f (j + 1)).b = clampN zz ∧ Inv f (j + 1) (vS b f (j + 1))) := Lib.hid ⟨by rw [hdf, HB1.out, if_neg k4, HZ.out], by rw [hdf]; exact HINV.out⟩
        rw [← hdf] at H3
        clear k0 k1 k4 hdf
        go_wp2_with fail
        go_roundw
        case rel => exact ⟨j + 1, zz, by go_num, by omega, rfl, HFIN.out.1, HFIN.out.2, H3.out⟩
        case measure => simp [intOf]; omega
      · have q4 : (x.kind == 4) = false := by simp [k0]
        have q1 : (x.kind == 1) = false := by simp [k0]
        have q0 : (x.kind == 0) = true := by simp [k0]
        have hdf : vS b f (j + 1) = s1.get x.k := by rw [HDEF.out, if_pos (.inl k0)]
        have hbz : s1.b = clampN zz := by rw [HB1.out, if_neg (by omega), HZ.out]
        have HFIN : Hid ((vS b f (j + 1)).b = clampN zz ∧ Inv f (j + 1) (vS b f (j + 1))) := Lib.hid ⟨by rw [hdf, get_b]; exact hbz, by rw [hdf]; exact HINV.out.get _⟩
        have HDF := Lib.hid hdf
        have hck := call_key (HCX.out w3 H3.out.below)
        have hpl : ∀ i, Cac.look s1.l x.k = some i → ∃ a : Nat, lastP f x.k j = a ∧ (f a).1.i = i ∧ a < j := fun i hi => by
          obtain ⟨a, e1, e2, _⟩ := HINV.out _ (look_mem hi)
          rw [HLA.out, if_neg (by omega)] at e1
          have := lastP_lt f x.k j
          simp only at e1
          exact ⟨a, e1, e2, by omega⟩
        have hpx : ∀ i, Cac.look s1.l x.k = some i → i.px.length ≤ 4398046511104 := fun i hi => by
          obtain ⟨M, hM⟩ := H3.out.st
          exact hM.2.px _ (look_mem hi)
        obtain ⟨o, ho⟩ : ∃ o, Cac.look s1.l x.k = o := ⟨_, rfl⟩
        obtain ⟨im, him⟩ : ∃ im, o.getD img0 = im := ⟨_, rfl⟩
        have hget := H3.out.call (obC _ _ _ _) (fun M hM => cp_get hM x.k HKO.out im (by rw [ho]; exact him))
        rw [ho] at hget hpl hpx
        obtain ⟨bo, hbo⟩ : ∃ bo, o.isSome = bo := ⟨_, rfl⟩
        obtain ⟨iW, hiW⟩ : ∃ z, im.W = z := ⟨_, rfl⟩
        obtain ⟨iH, hiH⟩ : ∃ z, im.H = z := ⟨_, rfl⟩
        obtain ⟨q5, hq5⟩ : ∃ z, im.px.length = z := ⟨_, rfl⟩
        rw [hbo, hiW, hiH, hq5] at hget
        have HIM := Lib.hid him
        have HBO := Lib.hid hbo
        have HIW := Lib.hid hiW
        have HIH := Lib.hid hiH
        have HQ5 := Lib.hid hq5
        have HPL := Lib.hid hpl
        have HPX := Lib.hid hpx
        clear k0 k1 k4 hdf hbz hpl hpx ho him hbo hiW hiH hq5
        go_wp2_with (refine wpList_load_key rfl _ rfl ⟨(ad.add (j * 10)).block, (ad.add (j * 10)).off + 2, none⟩ rfl x.k hck ?_)
        refine hget.mono ?_
        rintro e w4 ⟨⟨A5, c5, rfl, hI⟩, h4⟩
        clear hget hck
        have bA : Below w4.heap.size w4 (w4.alloc (.cells #[.int .i64 iW, .int .i64 iH, .slice A5 q5 c5] 32)) := (Below.refl _ _).alloc (Nat.le_refl _) _
        have h5 := h4.later (obC _ _ _ _) bA
        have hI5 := (hI.below bA).more bA.size
        have bx := Blk.new w4 32 #[.int .i64 iW, .int .i64 iH, .slice A5 q5 c5]
        rw [← HDF.out] at h5
        have HH5 := Lib.hid h5
        have HI5 := Lib.hid hI5
        have HBX := Lib.hid bx
        obtain ⟨d0', _⟩ := HCJ.out _ h5.below
        clear h4 h5 hI bA hI5 bx
        go_wp2_with fail
        obtain ⟨g5, hg5⟩ : ∃ g, w4.heap.size = g := ⟨_, rfl⟩
        obtain ⟨w5, hw5⟩ : ∃ w5, w4.alloc (.cells #[.int .i64 iW, .int .i64 iH, .slice A5 q5 c5] 32) = w5 := ⟨_, rfl⟩
        rw [hw5] at HH5 HI5 HBX d0' ⊢
        rw [hg5] at HBX ⊢
        clear hg5 hw5
        have h5 := HH5.out
        have BX : Hid (∀ W1, Below w5.heap.size w5 W1 → W1.cell? ⟨g5, 0, none⟩ = some (.int .i64 iW) ∧ W1.cell? ⟨g5, 1, none⟩ = some (.int .i64 iH) ∧ W1.cell? ⟨g5, 2, none⟩ = some (.slice A5 q5 c5)) := Lib.hid (fun W1 hb => by
          obtain ⟨z0, z1, z2, _⟩ := blk3 (HBX.out.below hb HBX.out.lt)
          exact ⟨z0, z1, z2⟩)
        have HCC : Hid (∀ W1, Below w5.heap.size w5 W1 → ∀ i, i < n → (∀ c u, (xcs (f i).1 (f i).2)[c]? = some u → W1.cell? ((ad.add (i * 10)).add c) = some u) ∧ CallR W1 B (f i).2 (f i).1) := Lib.hid (fun W1 hb i hi => HCL.out W1 (h5.below.trans (hb.mono h5.size)) i hi)
        have HCK : Hid (∀ W1, Below w5.heap.size w5 W1 → ∀ c u, (xcs x r)[c]? = some u → W1.cell? ((ad.add (j * 10)).add c) = some u) := Lib.hid (fun W1 hb => HCX.out W1 (h5.below.trans (hb.mono h5.size)))
        have hBs : B ≤ w5.heap.size := h5.size
        clear h5 d0 d1 d0'
        go_loopw [11, 12] (fun la k wr => ∃ (kk : Nat) (z : Int), lastP f x.k kk = z ∧ la = .int .i64 z ∧ k = .int .i64 kk ∧ kk ≤ j ∧ Below w5.heap.size w5 wr) (fun _ k _ => j - (intOf k).toNat)
        case atStart => exact ⟨0, -1, rfl, rfl, rfl, by omega, Below.refl _ _⟩
        case round =>
          obtain ⟨kk, z, hz, rfl, rfl, hkk, hb6⟩ := hrel
          have HZ6 := Lib.hid hz
          have HB6 := Lib.hid hb6
          clear hz hb6
          by_cases hlk : kk < j
          · have hyc := call_key5 (HCC.out _ HB6.out kk (by omega)).1
            have hxc := call_key5 (HCK.out _ HB6.out)
            have hkn : kk < n := by omega
            have hls : ∀ k, lastP f k (kk + 1) = if (f kk).1.kind = 1 ∧ (f kk).1.k = k then (kk : Int) else lastP f k kk := fun k => rfl
            obtain ⟨y, hy⟩ : ∃ y, (f kk).1 = y := ⟨_, rfl⟩
            rw [hy] at hyc hls
            have HLS := Lib.hid hls
            obtain ⟨y0, y1, y2, y3, y4, y5⟩ := hyc
            obtain ⟨x0, x1, x2, x3, x4, x5⟩ := hxc
            clear hy hls x0
            by_cases hk1 : y.kind = 1
            · have hq := fun W => eqlKey y.k x.k W
              unfold kagg at hq
              have p1 : (y.kind == 1) = true := by simp [hk1]
              by_cases hkq : y.k = x.k
              · rw [decide_eq_true hkq] at hq
                have hl2 : lastP f x.k (kk + 1) = kk := by rw [HLS.out, if_pos ⟨hk1, hkq⟩]
                have HL2 := Lib.hid hl2
                clear hk1 hkq hl2
                go_wp2_with fail
                go_quiet (fail)
                go_wp2_with fail
                go_roundw
                case rel => exact ⟨kk + 1, _, HL2.out, by go_num, by go_num, by omega, HB6.out.trans ⟨rfl, rfl, rfl, Nat.le_refl _, fun _ _ => rfl⟩⟩
                case measure => simp [intOf]; omega
              · rw [decide_eq_false hkq] at hq
                have hl2 : lastP f x.k (kk + 1) = z := by rw [HLS.out, if_neg (fun e => hkq e.2), HZ6.out]
                have HL2 := Lib.hid hl2
                clear hk1 hkq hl2
                go_wp2_with fail
                go_quiet (fail)
                go_wp2_with fail
                go_roundw
                case rel => exact ⟨kk + 1, _, HL2.out, by go_num, by go_num, by omega, HB6.out.trans ⟨rfl, rfl, rfl, Nat.le_refl _, fun _ _ => rfl⟩⟩
                case measure => simp [intOf]; omega
            · have p1 : (decide (y.kind = 1)) = false := by simpa using hk1
              have p2 : (y.kind == 1) = false := by simpa using hk1
              have hl2 : lastP f x.k (kk + 1) = z := by rw [HLS.out, if_neg (fun e => hk1 e.1), HZ6.out]
              have HL2 := Lib.hid hl2
              clear hk1 hl2
              go_wp2_with fail
              go_quiet (fail)
              go_wp2_with fail
              go_roundw
              case rel => exact ⟨kk + 1, _, HL2.out, by go_num, by go_num, by omega, HB6.out.trans ⟨rfl, rfl, rfl, Nat.le_refl _, fun _ _ => rfl⟩⟩
              case measure => simp [intOf]; omega
          · obtain rfl : kk = j := by omega
            cases o with
            | none =>
              obtain rfl : false = bo := HBO.out
              go_wp2_with fail
              go_quiet (fail)
              go_wp2_with fail
              go_roundw
              case rel => exact ⟨kk + 1, zz, by go_num, by omega, rfl, HFIN.out.1, HFIN.out.2, HH5.out.later (obC _ _ _ _) (HB6.out.trans ⟨rfl, rfl, rfl, Nat.le_refl _, fun _ _ => rfl⟩)⟩
              case measure => simp [intOf]; omega
            | some i0 =>
              obtain rfl : true = bo := HBO.out
              obtain rfl : i0 = im := HIM.out
              obtain ⟨a, ha, hai, haj⟩ := HPL.out i0 rfl
              rw [HZ6.out] at ha
              subst ha
              have hpx := HPX.out i0 rfl
              have han : a < n := by omega
              obtain ⟨r2, hr2⟩ : ∃ z, (f a).2 = z := ⟨_, rfl⟩
              have h5 := HH5.out
              have CI : Hid (∀ W1, Below w5.heap.size w5 W1 → W1.cell? ⟨(ad.add (a * 10)).block, (ad.add (a * 10)).off + 7, none⟩ = some (.int .i64 iW) ∧ W1.cell? ⟨(ad.add (a * 10)).block, (ad.add (a * 10)).off + 7 + 1, none⟩ = some (.int .i64 iH) ∧ W1.cell? ⟨(ad.add (a * 10)).block, (ad.add (a * 10)).off + 7 + 2, none⟩ = some r2) := Lib.hid (fun W1 hb => by
                have := call_img (HCC.out W1 hb a (by omega)).1
                rw [hai, HIW.out, HIH.out, hr2] at this
                exact this)
              have CS : Hid (∀ W1, Below w5.heap.size w5 W1 → Calls Try.prog 20 #[.agg #[.int .i64 iW, .int .i64 iH, .slice A5 q5 c5], .agg #[.int .i64 iW, .int .i64 iH, r2]] W1 fun e w' => e = .returned (.bool true) ∧ Below W1.heap.size W1 w') := Lib.hid (fun W1 hb => by
                have h2 := (HCC.out W1 hb a (by omega)).2.1
                rw [hai, HIW.out, HIH.out, hr2] at h2
                exact same_img _ _ i0 W1 ((HI5.out.below hb).more hb.size) (h2.more (Nat.le_trans hBs hb.size)) hpx)
              have HPX2 := Lib.hid hpx
              clear hai hr2 h5 hpx
              go_wp2_with fail
              refine wp_region_held_drew (S := fun W => Below w5.heap.size w5 W) (by kernel_rfl) HB6.out.drew (fun hHeld => ?_)
              refine wpAnyH_take (i := 0) (oi := _) (v := .bool true) rfl (by kernel_rfl) (by kernel_rfl) (by kernel_rfl) (fun _ _ _ h => h) (Or.inl ⟨by rfl, fun W1 _ => by go_simp⟩) (by assumption) ?_
              go_simp
              refine wpAnyH_take (i := 1) (oi := _) (v := .bool true) rfl (by kernel_rfl) (by kernel_rfl) (by kernel_rfl) (fun _ _ _ h => h) (Or.inl ⟨by rfl, fun W1 _ => by go_simp⟩) (by assumption) ?_
              go_simp
              refine wpAnyH_take (i := 2) (oi := _) (v := .int .i64 (a : Int)) rfl (by kernel_rfl) (by kernel_rfl) (by kernel_rfl) (fun _ _ _ h => h) (Or.inl ⟨by rfl, fun W1 _ => by go_simp⟩) (by assumption) ?_
              go_simp
              refine wpAnyH_take (i := 3) (oi := _) (v := .bool false) rfl (by kernel_rfl) (by kernel_rfl) (by kernel_rfl) (fun _ _ _ h => h) (Or.inl ⟨by rfl, fun W1 _ => by go_simp⟩) (by assumption) ?_
              go_simp
              refine wpAnyH_take (i := 4) (oi := _) (v := .bool false) rfl (by kernel_rfl) (by kernel_rfl) (by kernel_rfl) (fun _ _ _ h => h) (Or.inl ⟨by rfl, fun W1 _ => by go_simp⟩) (by assumption) ?_
              go_simp
              refine wpAnyH_take (i := 5) (oi := _) (v := .agg #[.int .i64 iW, .int .i64 iH, .slice A5 q5 c5]) rfl (by kernel_rfl) (by kernel_rfl) (by kernel_rfl) (fun _ _ _ h => h) (Or.inl ⟨by rfl, fun W1 hS => by (have z := BX.out W1 hS; obtain ⟨z0, z1, z2⟩ := z; go_simp)⟩) (by assumption) ?_
              go_simp
              refine wpAnyH_take (i := 6) (oi := _) (v := .slice (some ad) n c) rfl (by kernel_rfl) (by kernel_rfl) (by kernel_rfl) (fun _ _ _ h => h) (Or.inl ⟨by rfl, fun W1 _ => by go_simp⟩) (by assumption) ?_
              go_simp
              refine wpAnyH_take (i := 7) (oi := _) (v := .int .i64 (a : Int)) rfl (by kernel_rfl) (by kernel_rfl) (by kernel_rfl) (fun _ _ _ h => h) (Or.inl ⟨by rfl, fun W1 _ => by go_simp⟩) (by assumption) ?_
              go_simp
              refine wpAnyH_take (i := 8) (oi := _) (v := .pointer (some (ad.add (a * 10)))) rfl (by kernel_rfl) (by kernel_rfl) (by kernel_rfl) (fun _ _ _ h => h) (Or.inl ⟨by rfl, fun W1 _ => by go_simp⟩) (by assumption) ?_
              go_simp
              refine wpAnyH_take (i := 9) (oi := _) (v := .pointer (some ⟨(ad.add (a * 10)).block, (ad.add (a * 10)).off + 7, none⟩)) rfl (by kernel_rfl) (by kernel_rfl) (by kernel_rfl) (fun _ _ _ h => h) (Or.inl ⟨by rfl, fun W1 _ => by go_simp⟩) (by assumption) ?_
              go_simp
              refine wpAnyH_take (i := 10) (oi := _) (v := .agg #[.int .i64 iW, .int .i64 iH, r2]) rfl (by kernel_rfl) (by kernel_rfl) (by kernel_rfl) (fun _ _ _ h => h) (Or.inl ⟨by rfl, fun W1 hS => by (have z := CI.out W1 hS; obtain ⟨z0, z1, z2⟩ := z; go_simp)⟩) (by assumption) ?_
              go_simp
              refine wpAnyH_ready (rs := [11]) (by kernel_rfl) (by simp) ?_
              refine AllReadyH.cons (o := _) rfl (fun K hK => ?_) AllReadyH.nil
              go_simp
              go_at_call 20
              refine (CS.out _ hHeld).mono ?_
              rintro e w7 ⟨rfl, b7⟩
              go_wp2_with fail
              refine hK.out _ _ (hHeld.trans (b7.mono hHeld.size)) (fun hHeld => ?_)
              clear hK b7
              try simp only [Act.put, List.setIfInBounds_toArray, List.set_cons_zero, List.set_cons_succ]
              refine wpAnyH_take (i := 12) (oi := _) (v := .bool false) rfl (by kernel_rfl) (by kernel_rfl) (by kernel_rfl) (fun _ _ _ h => h) (Or.inl ⟨by rfl, fun W1 _ => by go_simp⟩) (by assumption) ?_
              go_simp
              refine wpAnyH_take (i := 13) (oi := _) (v := .bool false) rfl (by kernel_rfl) (by kernel_rfl) (by kernel_rfl) (fun _ _ _ h => h) (Or.inl ⟨by rfl, fun W1 _ => by go_simp⟩) (by assumption) ?_
              go_simp
              refine wpAnyH_take (i := 14) (oi := _) (v := .bool false) rfl (by kernel_rfl) (by kernel_rfl) (by kernel_rfl) (fun _ _ _ h => h) (Or.inl ⟨by rfl, fun W1 _ => by go_simp⟩) (by assumption) ?_
              go_simp
              refine wpAnyH_done (by kernel_rfl) ?_ _
              have HBL := Lib.hid hHeld
              clear hHeld
              go_wp2_with fail
              go_roundw
              case rel => exact ⟨kk + 1, zz, by go_num, by omega, rfl, HFIN.out.1, HFIN.out.2, HH5.out.later (obC _ _ _ _) HBL.out⟩
              case measure => simp [intOf]; omega
    · obtain rfl : j = n := by omega
      have hb := h.below
      clear h
      go_wp2_with (go_at_call 17; refine (example_any wr).mono ?_; rintro e w3 ⟨rfl, hb3⟩)
      go_ret
      exact ⟨rfl, by have := HB.out; exact (hb.trans (hb3.mono (by have := hb.size; omega))).mono (by omega)⟩

open Go.ChangeShapes Go.WideShapes Go.ChangeAt Go.Joins Go.Deep

theorem contract (H : Type) (enc : TypeId × Value → H) (W : World) (base : Nat) (args : Array Value) (ds gs : List (DataW H)) (before : List MemPlace)
    (hval : ∀ (j : Nat) t v, Try.f5.params[j]? = some t → args[j]? = some v → Value.okWide Try.prog W .any base t v)
    (hW : DataW.Whole enc Try.prog Try.f5.params.toList Rows.cacheValuesSpec.vars false W args.toList ds gs before) (hsz : (DataW.weightsEach Try.prog (Try.f5.params.toList ++ Rows.cacheValuesSpec.plain.varTypes Try.prog) (ds ++ gs)).all (· ≤ reachBytes) = true) :
    Calls Try.prog 5 args W fun e W' => ∃ v, e = .returned v ∧ Rows.cacheValuesSpec.post enc Try.prog Try.f5 false true false false W args v W' := by
  have hW' := hW
  obtain ⟨p, q, hA0, hV, rfl, hfz, hnd⟩ := hW
  have hA : DataW.TrodAll enc Try.prog W 0 (fun _ => true) true Try.f5.params.toList args.toList ds p := hA0
  rw [Try.params5] at hA hval
  obtain ⟨v0, vs0, d0, ds0, p0, q0, hargs, rfl, rfl, g0, r0⟩ := trodAll_cons hA
  obtain ⟨v1, vs1, d1, ds1, p1, q1, rfl, rfl, rfl, g1, r1⟩ := trodAll_cons r0
  obtain ⟨rfl, rfl, rfl⟩ := trodAll_nil r1
  obtain rfl : args = #[v0, v1] := by cases args; simp_all
  obtain ⟨rfl, rfl⟩ := trodVars_none hV
  obtain ⟨z0, rfl, rfl, rfl, w0⟩ := open_int Try.underlying3 (hval 0 3 v0 rfl rfl) g0
  clear hA0
  simp only [List.append_nil] at hsz
  have s1 : Small 22 d1 := fun n hn => by simpa using List.all_eq_true.1 hsz n (DataW.weights_mem_each (j := 1) (t := 22) rfl rfl n hn)
  obtain ⟨A1, n1, c1, f1, rfl, hC1, hn1⟩ := open_calls (hval 1 22 v1 rfl rfl) g1 s1
  refine (walk z0 A1 n1 c1 f1 W hC1 hn1).mono fun e W' ⟨he, hb⟩ => ?_
  subst he
  exact ⟨_, rfl, Frame.law_post Frame.laidOut (by kernel_rfl) Try.underlying4 (by kernel_rfl) rfl rfl hW' hb⟩

set_option maxRecDepth 100000 in
theorem lifted (os : Os) (started : os.Started) (H : Type) (enc : TypeId × Value → H) :
    ReturnsInHanded {} Try.checked os 5 .any (Rows.cacheValuesSpec.pre6 enc Try.prog Try.f5 Rows.cacheValuesRow.domain false) (Rows.cacheValuesSpec.post enc Try.prog Try.f5 false true false false) := by
  refine returnsInHanded_of_change_sized (C := Try.checked) Frame.own started (by kernel_rfl) Try.func5
    (ChangeSpec.witness6 (enc := enc) (C := Try.checked) false ⟨#[], #[.int .i64 0, .slice none 0 0], []⟩ 8 (by kernel_rfl) (by kernel_rfl) (by kernel_rfl) (by kernel_rfl)) ?_
  intro W base args ds gs before hval hW _ hsz _
  exact contract H enc W base args ds gs before hval hW hsz

theorem proved : Rows.CacheValuesSaid :=
  OpenClaim.holds_of_wide 5 Try.f5 rfl rfl rfl rfl rfl rfl rfl ⟨rfl, rfl, rfl, rfl, rfl⟩ rfl rfl rfl rfl rfl (by kernel_rfl) Try.func5 (by kernel_rfl)
    (of_decide_eq_true (by kernel_rfl)) (by unfold Func.isWrapper; first | (rw [if_pos (by decide +kernel)]; kernel_rfl) | (rw [if_neg (by decide +kernel)]; exact ⟨rfl, rfl⟩))
    (fun os started H enc _ => lifted os started H enc)


end Go.Proofs.Ytkdokipgakncjaa.CacheValues
