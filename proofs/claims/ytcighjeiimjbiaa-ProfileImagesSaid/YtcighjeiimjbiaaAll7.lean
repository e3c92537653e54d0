/-
  Texts of this claim, joined (7 of 8): ProZb, ProZc, ProZd, ProZe, ProZf, ProZg, ProEx.
-/
import Derived.Test.YtcighjeiimjbiaaAll6
import Derived.Laws.Concat
import Derived.IntWalk
import Derived.KernelRfl

/- ProZb: Layer 9, both sides: Bytes. -/
namespace Go.Proofs.Ytcighjeiimjbiaa.Pro
open Go.RowKit Go.Proofs.Ytcighjeiimjbiaa Go.Proofs.Ytcighjeiimjbiaa.NumPure
open Go.Proofs.Ytcighjeiimjbiaa.Mat (al ac invM invX appM info9 info3)

/-- A signed number's bytes. -/
def zz (z : Int) : List UInt8 := Lib.uvarint (Lib.zigzag z)
def eKn (l : List K2) : List UInt8 := l.flatMap fun k => zz k.1 ++ zz k.2
def eMt (m : Nat → Int) : Nat → List UInt8
  | 0 => []
  | j + 1 => eMt m j ++ zz (m j)
/-- The beginning of an encoding. -/
def T0 (s : ByteArray) (n : Nat) : List UInt8 := WireEnc.encText s ++ Lib.uvarint n
def encP (s : ByteArray) (k : List K2) (m : Nat → Int) : List UInt8 := T0 s k.length ++ eKn k ++ eMt m 9
def bs (l : List UInt8) : ByteArray := ⟨l.toArray⟩
theorem bs_size (l : List UInt8) : (bs l).size = l.length := by simp [bs, ByteArray.size]
theorem bs_add (a b : List UInt8) : bs a ++ bs b = bs (a ++ b) := ByteArray.mk_append_mk _ _
theorem bs_run (a b : List UInt8) (h : a.length + b.length ≤ 100000) (W : World) : (Op.stringOp .add (bs a) (bs b)).run Try.prog W = .ok (.string (bs (a ++ b))) W := by
  rw [run_string_add_sum W _ _ (by rw [bs_size, bs_size]; omega), bs_add]
def in6 (z : Int) : Prop := -9223372036854775808 ≤ z ∧ z ≤ 9223372036854775807
theorem zz_len {z : Int} (h : in6 z) : (zz z).length ≤ 10 := Lib.uvarint_length64 (WireEnc.zigzag_lt z h.1 h.2)
theorem eKn_len (l : List K2) (h : ∀ k ∈ l, in6 k.1 ∧ in6 k.2) : (eKn l).length ≤ 20 * l.length := by
  induction l with
  | nil => simp [eKn]
  | cons k l ih =>
    have h1 := zz_len (h k (by simp)).1
    have h2 := zz_len (h k (by simp)).2
    have h3 := ih (fun k hk => h k (by simp [hk]))
    have e : eKn (k :: l) = zz k.1 ++ zz k.2 ++ eKn l := by simp [eKn]
    rw [e, List.length_append, List.length_append, List.length_cons]
    omega
theorem eKn_snoc (l : List K2) (j : Nat) (h : j < l.length) : eKn (l.take (j + 1)) = eKn (l.take j) ++ (zz l[j].1 ++ zz l[j].2) := by
  rw [List.take_succ_eq_append_getElem h]
  unfold eKn
  rw [List.flatMap_append, List.flatMap_cons, List.flatMap_nil, List.append_nil]
theorem eMt_len (m : Nat → Int) (n : Nat) (h : ∀ j, j < n → in6 (m j)) : ∀ j, j ≤ n → (eMt m j).length ≤ 10 * j := by
  intro j
  induction j with
  | zero => intro _; simp [eMt]
  | succ j ih =>
    intro hj
    have h1 := zz_len (h j (by omega))
    have h2 := ih (by omega)
    simp only [eMt, List.length_append]
    omega
theorem T0_len (s : ByteArray) (n : Nat) (hs : s.size ≤ 32) (hn : n ≤ 16) : (T0 s n).length ≤ 52 := by
  have h1 := Lib.uvarint_length64 (x := s.size) (by omega)
  have h2 := Lib.uvarint_length64 (x := n) (by omega)
  have h3 : s.data.toList.length = s.size := by simp
  simp only [T0, WireEnc.encText, List.length_append]
  omega
def encB (p : Pf) : List UInt8 := if pErr p = 0 then encP p.nm p.k p.m else []
def BytC (p : Pf) (w : World) (e : Ending) (w' : World) : Prop := e = .returned (.tuple #[.string (bs (encB p)), .int .i64 (pErr p)]) ∧ Below w.heap.size w w'
theorem BytC.no {p : Pf} {z : Int} {w w' : World} (h : pErr p = z) (hz : z ≠ 0) (hb : Below w.heap.size w w') : BytC p w (.returned (.tuple #[.string ⟨#[]⟩, .int .i64 z])) w' := ⟨by unfold encB; rw [h, if_neg hz]; rfl, hb⟩
theorem BytC.yes {p : Pf} {l : List UInt8} {w w' : World} (h : pErr p = 0) (hl : l = encP p.nm p.k p.m) (hb : Below w.heap.size w w') : BytC p w (.returned (.tuple #[.string (bs l), .int .i64 0])) w' := ⟨by unfold encB; rw [h, if_pos rfl, hl], hb⟩
/-- What a profile without a fault holds. -/
theorem pErr_in {p : Pf} (h : pErr p = 0) : p.nm.size ≤ 32 ∧ 2 ≤ p.k.length ∧ p.k.length ≤ 16 ∧ (∀ k ∈ p.k, in6 k.1 ∧ in6 k.2) ∧ ∀ j, j < 9 → in6 (p.m j) := by
  obtain ⟨hn, hr, hi⟩ := pErr_zero h
  have hn := (nmB_iff _).1 hn
  unfold kRis at hr
  simp only [Bool.and_eq_true, decide_eq_true_eq] at hr
  have hg := kErr_good hr.1.1.1
  refine ⟨hn.2.1, hg.two, hg.max, fun k hk => ?_, fun j hj => ?_⟩
  · obtain ⟨i, hi, rfl⟩ := List.getElem_of_mem hk
    have := hg.px i hi
    unfold in6
    omega
  · unfold Mat.invX at hi
    cases ho : Mat.okM p.m with
    | false => rw [ho, if_neg (by simp)] at hi; omega
    | true =>
      have := Mat.okM_iff.1 ho j hj
      unfold in6
      omega

theorem Bn.of1 {w W : World} {a : Ent} (hb : Below w.heap.size w W) (h1 : Blk W a.1 a.2.1 a.2.2) : Bn w W [a] := ⟨hb, fun i x hx => by
  rcases i with _ | i
  · injection hx with hx; subst hx; exact h1
  · simp at hx⟩

set_option maxRecDepth 100000 in
set_option maxHeartbeats 8000000 in
theorem Bytes_any (p : Pf) (w : World) (h : PfR w p) : Calls Try.prog 19 #[p.val] w (BytC p w) := by
  have HB0 := Bn.one w 27 p.cells
  obtain ⟨W, hW⟩ : ∃ W, w.alloc (.cells p.cells 27) = W := ⟨_, rfl⟩
  rw [hW] at HB0
  have HB := Lib.hid HB0
  have C1 := Check_any p W (h.below HB0.b)
  obtain ⟨z, hz⟩ : ∃ z, pErr p = z := ⟨_, rfl⟩
  unfold ChkC at C1
  rw [hz] at C1
  have HZ := Lib.hid hz
  have HR := Lib.hid h
  clear h HB0 hz
  unfold Pf.val at C1 ⊢
  go_enter Try.func19, Try.ntmps19
  go_wp2_with (refine wpList_load_row rfl _ _ rfl w.heap.size rfl 27 p.cells (0, 0) _ (HB.out.get 0 rfl) Try.underlying27 rfl p.info ?_)
  refine C1.mono ?_
  rintro e w1 ⟨rfl, hb⟩
  have HB1 := Lib.hid (HB.out.below hb)
  clear C1 hb HB hW
  by_cases h0 : z = 0
  rotate_left
  · have h1 : (z != 0) = true := by simpa using h0
    go_wp2_with fail
    refine bodyPost_ret (results_tmp2 rfl _ _ _) rfl ?_
    exact BytC.no HZ.out h0 HB1.out.b
  subst h0
  obtain ⟨hnm, hn2, hn16, hk6, hm6⟩ := pErr_in HZ.out
  obtain ⟨n, hn⟩ : ∃ n, p.k.length = n := ⟨_, rfl⟩
  rw [hn] at hn2 hn16
  have HN := Lib.hid hn
  have hT := T0_len p.nm n hnm hn16
  have HK6 := Lib.hid hk6
  have HM6 := Lib.hid hm6
  have k1 := fun W => bs_run (WireEnc.encText p.nm) (Lib.uvarint n) (by rw [← List.length_append]; show (T0 p.nm n).length ≤ 100000; omega) W
  have k1 : ∀ W : World, (Op.stringOp .add ⟨(WireEnc.encText p.nm).toArray⟩ ⟨(Lib.uvarint n).toArray⟩).run Try.prog W = .ok (.string (bs (T0 p.nm n))) W := k1
  have i1 : IntKind.u64.wrap (n : Int) = n := by rw [IntKind.wrap_u64]; omega
  clear hk6 hm6 hn
  go_upto_region 4 with fail
  refine wp_region_held_drew (S := fun W => Bn w W [(w.heap.size, 27, p.cells)]) (by kernel_rfl) HB1.out.drew (fun hHeld => ?_)
  refine wpAnyH_take (i := 0) (oi := _) (v := .pointer (some ⟨w.heap.size, 0, none⟩)) rfl (by kernel_rfl) (by kernel_rfl) (by kernel_rfl) (fun _ _ _ h => h) (Or.inl ⟨by rfl, fun W1 hS => by go_simp⟩) (by assumption) ?_
  go_simp
  refine wpAnyH_take (i := 1) (oi := _) (v := .string p.nm) rfl (by kernel_rfl) (by kernel_rfl) (by kernel_rfl) (fun _ _ _ h => h) (Or.inl ⟨by rfl, fun W1 hS => by (obtain ⟨z0, z1, _⟩ := blkP (hS.get 0 rfl); go_simp)⟩) (by assumption) ?_
  go_simp
  refine wpAnyH_take (i := 3) (oi := _) (v := .pointer (some ⟨w.heap.size, 1, none⟩)) rfl (by kernel_rfl) (by kernel_rfl) (by kernel_rfl) (fun _ _ _ h => h) (Or.inl ⟨by rfl, fun W1 hS => by go_simp⟩) (by assumption) ?_
  go_simp
  refine wpAnyH_take (i := 4) (oi := _) (v := .slice p.A n p.c) rfl (by kernel_rfl) (by kernel_rfl) (by kernel_rfl) (fun _ _ _ h => h) (Or.inl ⟨by rfl, fun W1 hS => by (obtain ⟨z0, z1, _⟩ := blkP (hS.get 0 rfl); rw [HN.out] at z1; go_simp)⟩) (by assumption) ?_
  go_simp
  refine wpAnyH_take (i := 5) (oi := _) (v := .int .i64 n) rfl (by kernel_rfl) (by kernel_rfl) (by kernel_rfl) (fun _ _ _ h => h) (Or.inl ⟨by rfl, fun W1 hS => by go_simp⟩) (by assumption) ?_
  go_simp
  refine wpAnyH_take (i := 6) (oi := _) (v := .int .u64 n) rfl (by kernel_rfl) (by kernel_rfl) (by kernel_rfl) (fun _ _ _ h => h) (Or.inl ⟨by rfl, fun W1 hS => by go_simp⟩) (by assumption) ?_
  go_simp
  have HL0 := Lib.hid HB1.out.drew
  clear hHeld HB1
  refine wpAnyH_ready (rs := [2]) (by kernel_rfl) (by simp) ?_
  refine AllReadyH.cons (o := _) rfl (fun K hK => ?_) AllReadyH.nil
  go_simp
  go_at_call 41
  refine (WireEnc.text_any p.nm (by omega) _).mono ?_
  rintro e v1 ⟨rfl, hb⟩
  go_wp2_with fail
  have HL1 := Lib.hid (HL0.out.below hb)
  clear hb HL0
  refine hK.out _ _ (HL1.out) (fun hHeld => ?_)
  clear hK
  try simp only [Act.put, List.setIfInBounds_toArray, List.set_cons_zero, List.set_cons_succ]
  clear hHeld
  refine wpAnyH_ready (rs := [7]) (by kernel_rfl) (by simp) ?_
  refine AllReadyH.cons (o := _) rfl (fun K hK => ?_) AllReadyH.nil
  go_simp
  go_at_call 42
  refine (WireEnc.uint_any n (by omega) _).mono ?_
  rintro e v2 ⟨rfl, hb⟩
  go_wp2_with fail
  have HL2 := Lib.hid (HL1.out.below hb)
  clear hb HL1
  refine hK.out _ _ (HL2.out) (fun hHeld => ?_)
  clear hK
  try simp only [Act.put, List.setIfInBounds_toArray, List.set_cons_zero, List.set_cons_succ]
  refine wpAnyH_take (i := 8) (oi := _) (v := .string (bs (T0 p.nm n))) rfl (by kernel_rfl) (by kernel_rfl) (by kernel_rfl) (fun _ _ _ h => h) (Or.inl ⟨by rfl, fun W1 _ => by (have q := k1 W1; go_simp)⟩) (by assumption) ?_
  go_simp
  clear hHeld
  refine wpAnyH_ready (rs := [9]) (by kernel_rfl) (by simp) ?_
  refine AllReadyH.cons (o := _) rfl (fun K hK => ?_) AllReadyH.nil
  rw [if_pos (by rfl)]
  go_simp
  refine hK.out _ _ HL2.out (fun hHeld => ?_)
  clear hK hHeld
  try simp only [Act.put, List.setIfInBounds_toArray]
  refine wpAnyH_done (by kernel_rfl) ?_ _
  clear k1 i1
  obtain ⟨f0, f1, fr⟩ := blkP (HL2.out.get 0 rfl)
  rw [HN.out] at f1
  go_wp2_with fail
  clear f0 f1 fr
  go_loopw [5, 27] (fun s i wr => ∃ j : Nat, i = .int .i64 j ∧ j ≤ n ∧ s = .string (bs (T0 p.nm n ++ eKn (p.k.take j))) ∧ Bn w wr [(w.heap.size, 27, p.cells)]) (fun _ i _ => n - (intOf i).toNat)
  case atStart => exact ⟨0, rfl, by omega, by simp [eKn], HL2.out⟩
  case round =>
    clear HL2
    obtain ⟨j, rfl, hj, rfl, hb⟩ := hrel
    by_cases hlt : j < n
    · have hjl : j < p.k.length := by have := HN.out; omega
      have hr := (HR.out.below hb.b).kn
      obtain ⟨ad, hA, _⟩ := hr.addr (by omega)
      rw [hA] at hr ⊢
      obtain ⟨q0, q1⟩ := kn_cells hr j hjl
      obtain ⟨x, hx⟩ : ∃ x, p.k[j].1 = x := ⟨_, rfl⟩
      obtain ⟨y, hy⟩ : ∃ x, p.k[j].2 = x := ⟨_, rfl⟩
      have h6 := HK6.out p.k[j] (List.getElem_mem _)
      have hsn := eKn_snoc p.k j hjl
      have hln := eKn_len (p.k.take (j + 1)) (fun k hk => HK6.out k (List.mem_of_mem_take hk))
      rw [hsn, List.length_take] at hln
      rw [hx, hy] at h6 hsn hln
      obtain ⟨⟨x0, x1⟩, y0, y1⟩ := h6
      have hzx := zz_len ⟨x0, x1⟩
      have hzy := zz_len ⟨y0, y1⟩
      obtain ⟨S, hS⟩ : ∃ S, T0 p.nm n ++ eKn (p.k.take j) = S := ⟨_, rfl⟩
      have hSl : S.length ≤ 1000 := by rw [← hS, List.length_append]; simp only [List.length_append] at hln; omega
      have hsx : S ++ (zz x ++ zz y) = T0 p.nm n ++ eKn (p.k.take (j + 1)) := by rw [hsn, ← hS, List.append_assoc]
      have k1 : ∀ W : World, (Op.stringOp .add ⟨(Lib.uvarint (Lib.zigzag x)).toArray⟩ ⟨(Lib.uvarint (Lib.zigzag y)).toArray⟩).run Try.prog W = .ok (.string (bs (zz x ++ zz y))) W := fun W => bs_run (zz x) (zz y) (by omega) W
      have k2 : ∀ W : World, (Op.stringOp .add (bs S) (bs (zz x ++ zz y))).run Try.prog W = .ok (.string (bs (S ++ (zz x ++ zz y)))) W := fun W => bs_run S (zz x ++ zz y) (by rw [List.length_append]; omega) W
      have HS := Lib.hid hsx
      rw [hx] at q0
      rw [hy] at q1
      have HB := Lib.hid (hb.push _ rfl 72 #[.int .i64 x, .int .i64 y])
      rw [hS]
      clear hA hr hb hx hy hsn hln hzx hzy hS hSl hsx
      go_upto_region 8 with fail
      obtain ⟨W1, hW1⟩ : ∃ W1, wr.alloc (.cells #[.int .i64 x, .int .i64 y] 72) = W1 := ⟨_, rfl⟩
      obtain ⟨gb, hgb⟩ : ∃ gb, wr.heap.size = gb := ⟨_, rfl⟩
      have HB : Hid (Bn w W1 [(w.heap.size, 27, p.cells), (gb, 72, #[.int .i64 x, .int .i64 y])]) := Lib.hid (by rw [← hW1, ← hgb]; exact HB.out)
      rw [hW1, hgb]
      clear hW1 hgb q0 q1
      refine wp_region_held_drew (S := fun W => Bn w W [(w.heap.size, 27, p.cells), (gb, 72, #[.int .i64 x, .int .i64 y])]) (by kernel_rfl) HB.out.drew (fun hHeld => ?_)
      refine wpAnyH_take (i := 0) (oi := _) (v := .string (bs S)) rfl (by kernel_rfl) (by kernel_rfl) (by kernel_rfl) (fun _ _ _ h => h) (Or.inl ⟨by rfl, fun W1 hS => by go_simp⟩) (by assumption) ?_
      go_simp
      refine wpAnyH_take (i := 1) (oi := _) (v := .pointer (some ⟨gb, 0, none⟩)) rfl (by kernel_rfl) (by kernel_rfl) (by kernel_rfl) (fun _ _ _ h => h) (Or.inl ⟨by rfl, fun W1 hS => by go_simp⟩) (by assumption) ?_
      go_simp
      refine wpAnyH_take (i := 2) (oi := _) (v := .int .i64 x) rfl (by kernel_rfl) (by kernel_rfl) (by kernel_rfl) (fun _ _ _ h => h) (Or.inl ⟨by rfl, fun W1 hS => by (obtain ⟨z0, z1, _⟩ := blk2 (hS.get 1 rfl); go_simp)⟩) (by assumption) ?_
      go_simp
      refine wpAnyH_take (i := 4) (oi := _) (v := .pointer (some ⟨gb, 1, none⟩)) rfl (by kernel_rfl) (by kernel_rfl) (by kernel_rfl) (fun _ _ _ h => h) (Or.inl ⟨by rfl, fun W1 hS => by go_simp⟩) (by assumption) ?_
      go_simp
      refine wpAnyH_take (i := 5) (oi := _) (v := .int .i64 y) rfl (by kernel_rfl) (by kernel_rfl) (by kernel_rfl) (fun _ _ _ h => h) (Or.inl ⟨by rfl, fun W1 hS => by (obtain ⟨z0, z1, _⟩ := blk2 (hS.get 1 rfl); go_simp)⟩) (by assumption) ?_
      go_simp
      have HL0 := Lib.hid HB.out.drew
      clear hHeld HB
      refine wpAnyH_ready (rs := [3]) (by kernel_rfl) (by simp) ?_
      refine AllReadyH.cons (o := _) rfl (fun K hK => ?_) AllReadyH.nil
      go_simp
      go_at_call 43
      refine (WireEnc.int_any x (by omega) (by omega) _).mono ?_
      rintro e v1 ⟨rfl, hb⟩
      go_wp2_with fail
      have HL1 := Lib.hid (HL0.out.below hb)
      clear hb HL0
      refine hK.out _ _ (HL1.out) (fun hHeld => ?_)
      clear hK
      try simp only [Act.put, List.setIfInBounds_toArray, List.set_cons_zero, List.set_cons_succ]
      clear hHeld
      refine wpAnyH_ready (rs := [6]) (by kernel_rfl) (by simp) ?_
      refine AllReadyH.cons (o := _) rfl (fun K hK => ?_) AllReadyH.nil
      go_simp
      go_at_call 43
      refine (WireEnc.int_any y (by omega) (by omega) _).mono ?_
      rintro e v2 ⟨rfl, hb⟩
      go_wp2_with fail
      have HL2 := Lib.hid (HL1.out.below hb)
      clear hb HL1
      refine hK.out _ _ (HL2.out) (fun hHeld => ?_)
      clear hK
      try simp only [Act.put, List.setIfInBounds_toArray, List.set_cons_zero, List.set_cons_succ]
      refine wpAnyH_take (i := 7) (oi := _) (v := .string (bs (zz x ++ zz y))) rfl (by kernel_rfl) (by kernel_rfl) (by kernel_rfl) (fun _ _ _ h => h) (Or.inl ⟨by rfl, fun W1 _ => by (have q := k1 W1; go_simp)⟩) (by assumption) ?_
      go_simp
      refine wpAnyH_take (i := 8) (oi := _) (v := .string (bs (S ++ (zz x ++ zz y)))) rfl (by kernel_rfl) (by kernel_rfl) (by kernel_rfl) (fun _ _ _ h => h) (Or.inl ⟨by rfl, fun W1 _ => by (have q := k2 W1; go_simp)⟩) (by assumption) ?_
      go_simp
      clear hHeld
      refine wpAnyH_ready (rs := [9]) (by kernel_rfl) (by simp) ?_
      refine AllReadyH.cons (o := _) rfl (fun K hK => ?_) AllReadyH.nil
      rw [if_pos (by rfl)]
      go_simp
      refine hK.out _ _ HL2.out (fun hHeld => ?_)
      clear hK hHeld
      try simp only [Act.put, List.setIfInBounds_toArray]
      refine wpAnyH_done (by kernel_rfl) ?_ _
      clear k1 k2
      go_wp2_with fail
      go_roundw
      case rel => exact ⟨j + 1, by go_num, by omega, by rw [HS.out], Bn.of1 (a := (w.heap.size, 27, p.cells)) HL2.out.b (HL2.out.get 0 rfl)⟩
      case measure => simp [intOf]; omega
    · obtain rfl : j = n := by omega
      have hall : p.k.take j = p.k := List.take_of_length_le (by rw [HN.out]; exact Nat.le_refl _)
      rw [hall]
      have hln := eKn_len p.k HK6.out
      rw [HN.out] at hln
      obtain ⟨S, hS⟩ : ∃ S, T0 p.nm j ++ eKn p.k = S := ⟨_, rfl⟩
      have hSl : S.length ≤ 400 := by rw [← hS, List.length_append]; omega
      rw [hS]
      have HS := Lib.hid hS
      have HB := Lib.hid hb
      obtain ⟨f0, f1, fr⟩ := blkP (hb.get 0 rfl)
      clear hall hln hS hb
      go_wp2_with (refine wpList_load_mid rfl _ _ rfl w.heap.size 2 rfl (al 9 p.m) _ fr Try.underlying25 rfl info9l ?_)
      clear f0 f1 fr
      go_loopw [5, 43] (fun s i wr => ∃ q : Nat, i = .int .i64 q ∧ q ≤ 9 ∧ s = .string (bs (S ++ eMt p.m q)) ∧ Bn w wr [(w.heap.size, 27, p.cells)]) (fun _ i _ => 9 - (intOf i).toNat)
      case atStart => exact ⟨0, rfl, by omega, by simp [eMt], HB.out⟩
      case round =>
        clear HB
        obtain ⟨q, rfl, hq, rfl, hb⟩ := hrel
        by_cases hlt : q < 9
        · have h6 := HM6.out q hlt
          have hml := eMt_len p.m 9 HM6.out q (by omega)
          have hzl := zz_len h6
          have hidx : ∀ W : World, (Instr.index 25 (.agg (al 9 p.m).toArray) (.int .i64 (q : Int))).run Try.prog W = .ok (.int .i64 (p.m q)) W := fun W => Mat.run_index9 p.m q hlt W
          obtain ⟨v, hv⟩ : ∃ v, p.m q = v := ⟨_, rfl⟩
          rw [hv] at h6 hzl hidx
          obtain ⟨U, hU⟩ : ∃ U, S ++ eMt p.m q = U := ⟨_, rfl⟩
          have hUl : U.length ≤ 500 := by rw [← hU, List.length_append]; omega
          have k1 : ∀ W : World, (Op.stringOp .add (bs U) ⟨(Lib.uvarint (Lib.zigzag v)).toArray⟩).run Try.prog W = .ok (.string (bs (U ++ zz v))) W := fun W => bs_run U (zz v) (by omega) W
          have hn2 : U ++ zz v = S ++ eMt p.m (q + 1) := by rw [← hU, List.append_assoc, ← hv]; rfl
          have HN2 := Lib.hid hn2
          have HB := Lib.hid hb
          have h60 := h6.1
          have h61 := h6.2
          rw [hU]
          clear h6 hml hv hU hUl hzl hn2 hb
          go_wp2_with fail
          refine (WireEnc.int_any v h60 h61 _).mono ?_
          rintro e w2 ⟨rfl, hb⟩
          have HL2 := Lib.hid (HB.out.below hb)
          clear hb HB
          go_wp2_with fail
          go_roundw
          case rel => exact ⟨q + 1, by go_num, by omega, by rw [HN2.out], HL2.out⟩
          case measure => simp [intOf]; omega
        · obtain rfl : q = 9 := by omega
          have HB := Lib.hid hb
          have he : S ++ eMt p.m 9 = encP p.nm p.k p.m := by rw [← HS.out, ← HN.out]; rfl
          have HE := Lib.hid he
          clear hb he
          go_wp2_with fail
          refine bodyPost_ret (results_tmp2 rfl _ _ _) rfl ?_
          exact BytC.yes HZ.out HE.out HB.out.b

set_option maxRecDepth 100000 in
set_option maxHeartbeats 8000000 in
theorem rBytes_any (p : Pf) (w : World) (h : PfR w p) : Calls Try.prog 20 #[p.val] w (BytC p w) := by
  have HB0 := Bn.one w 27 p.cells
  obtain ⟨W, hW⟩ : ∃ W, w.alloc (.cells p.cells 27) = W := ⟨_, rfl⟩
  rw [hW] at HB0
  have HB := Lib.hid HB0
  have C1 := rCheck_any p W (h.below HB0.b)
  obtain ⟨z, hz⟩ : ∃ z, pErr p = z := ⟨_, rfl⟩
  unfold ChkC at C1
  rw [hz] at C1
  have HZ := Lib.hid hz
  have HR := Lib.hid h
  clear h HB0 hz
  unfold Pf.val at C1 ⊢
  go_enter Try.func20, Try.ntmps20
  go_wp2_with (refine wpList_load_row rfl _ _ rfl w.heap.size rfl 27 p.cells (0, 0) _ (HB.out.get 0 rfl) Try.underlying27 rfl p.info ?_)
  refine C1.mono ?_
  rintro e w1 ⟨rfl, hb⟩
  have HB1 := Lib.hid (HB.out.below hb)
  clear C1 hb HB hW
  by_cases h0 : z = 0
  rotate_left
  · have h1 : (z != 0) = true := by simpa using h0
    go_wp2_with fail
    refine bodyPost_ret (results_tmp2 rfl _ _ _) rfl ?_
    exact BytC.no HZ.out h0 HB1.out.b
  subst h0
  obtain ⟨hnm, hn2, hn16, hk6, hm6⟩ := pErr_in HZ.out
  obtain ⟨n, hn⟩ : ∃ n, p.k.length = n := ⟨_, rfl⟩
  rw [hn] at hn2 hn16
  have HN := Lib.hid hn
  have hT := T0_len p.nm n hnm hn16
  have HK6 := Lib.hid hk6
  have HM6 := Lib.hid hm6
  have k1 := fun W => bs_run (WireEnc.encText p.nm) (Lib.uvarint n) (by rw [← List.length_append]; show (T0 p.nm n).length ≤ 100000; omega) W
  have k1 : ∀ W : World, (Op.stringOp .add ⟨(WireEnc.encText p.nm).toArray⟩ ⟨(Lib.uvarint n).toArray⟩).run Try.prog W = .ok (.string (bs (T0 p.nm n))) W := k1
  have i1 : IntKind.u64.wrap (n : Int) = n := by rw [IntKind.wrap_u64]; omega
  clear hk6 hm6 hn
  go_upto_region 4 with fail
  refine wp_region_held_drew (S := fun W => Bn w W [(w.heap.size, 27, p.cells)]) (by kernel_rfl) HB1.out.drew (fun hHeld => ?_)
  refine wpAnyH_take (i := 0) (oi := _) (v := .pointer (some ⟨w.heap.size, 0, none⟩)) rfl (by kernel_rfl) (by kernel_rfl) (by kernel_rfl) (fun _ _ _ h => h) (Or.inl ⟨by rfl, fun W1 hS => by go_simp⟩) (by assumption) ?_
  go_simp
  refine wpAnyH_take (i := 1) (oi := _) (v := .string p.nm) rfl (by kernel_rfl) (by kernel_rfl) (by kernel_rfl) (fun _ _ _ h => h) (Or.inl ⟨by rfl, fun W1 hS => by (obtain ⟨z0, z1, _⟩ := blkP (hS.get 0 rfl); go_simp)⟩) (by assumption) ?_
  go_simp
  refine wpAnyH_take (i := 3) (oi := _) (v := .pointer (some ⟨w.heap.size, 1, none⟩)) rfl (by kernel_rfl) (by kernel_rfl) (by kernel_rfl) (fun _ _ _ h => h) (Or.inl ⟨by rfl, fun W1 hS => by go_simp⟩) (by assumption) ?_
  go_simp
  refine wpAnyH_take (i := 4) (oi := _) (v := .slice p.A n p.c) rfl (by kernel_rfl) (by kernel_rfl) (by kernel_rfl) (fun _ _ _ h => h) (Or.inl ⟨by rfl, fun W1 hS => by (obtain ⟨z0, z1, _⟩ := blkP (hS.get 0 rfl); rw [HN.out] at z1; go_simp)⟩) (by assumption) ?_
  go_simp
  refine wpAnyH_take (i := 5) (oi := _) (v := .int .i64 n) rfl (by kernel_rfl) (by kernel_rfl) (by kernel_rfl) (fun _ _ _ h => h) (Or.inl ⟨by rfl, fun W1 hS => by go_simp⟩) (by assumption) ?_
  go_simp
  refine wpAnyH_take (i := 6) (oi := _) (v := .int .u64 n) rfl (by kernel_rfl) (by kernel_rfl) (by kernel_rfl) (fun _ _ _ h => h) (Or.inl ⟨by rfl, fun W1 hS => by go_simp⟩) (by assumption) ?_
  go_simp
  have HL0 := Lib.hid HB1.out.drew
  clear hHeld HB1
  refine wpAnyH_ready (rs := [2]) (by kernel_rfl) (by simp) ?_
  refine AllReadyH.cons (o := _) rfl (fun K hK => ?_) AllReadyH.nil
  go_simp
  go_at_call 44
  refine (Ref04Enc.rText_any p.nm (by omega) _).mono ?_
  rintro e v1 ⟨rfl, hb⟩
  go_wp2_with fail
  have HL1 := Lib.hid (HL0.out.below hb)
  clear hb HL0
  refine hK.out _ _ (HL1.out) (fun hHeld => ?_)
  clear hK
  try simp only [Act.put, List.setIfInBounds_toArray, List.set_cons_zero, List.set_cons_succ]
  clear hHeld
  refine wpAnyH_ready (rs := [7]) (by kernel_rfl) (by simp) ?_
  refine AllReadyH.cons (o := _) rfl (fun K hK => ?_) AllReadyH.nil
  go_simp
  go_at_call 45
  refine (Ref04Enc.rUint_any n (by omega) _).mono ?_
  rintro e v2 ⟨rfl, hb⟩
  go_wp2_with fail
  have HL2 := Lib.hid (HL1.out.below hb)
  clear hb HL1
  refine hK.out _ _ (HL2.out) (fun hHeld => ?_)
  clear hK
  try simp only [Act.put, List.setIfInBounds_toArray, List.set_cons_zero, List.set_cons_succ]
  refine wpAnyH_take (i := 8) (oi := _) (v := .string (bs (T0 p.nm n))) rfl (by kernel_rfl) (by kernel_rfl) (by kernel_rfl) (fun _ _ _ h => h) (Or.inl ⟨by rfl, fun W1 _ => by (have q := k1 W1; go_simp)⟩) (by assumption) ?_
  go_simp
  clear hHeld
  refine wpAnyH_ready (rs := [9]) (by kernel_rfl) (by simp) ?_
  refine AllReadyH.cons (o := _) rfl (fun K hK => ?_) AllReadyH.nil
  rw [if_pos (by rfl)]
  go_simp
  refine hK.out _ _ HL2.out (fun hHeld => ?_)
  clear hK hHeld
  try simp only [Act.put, List.setIfInBounds_toArray]
  refine wpAnyH_done (by kernel_rfl) ?_ _
  clear k1 i1
  obtain ⟨f0, f1, fr⟩ := blkP (HL2.out.get 0 rfl)
  rw [HN.out] at f1
  go_wp2_with fail
  clear f0 f1 fr
  go_loopw [5, 25] (fun s i wr => ∃ j : Nat, i = .int .i64 j ∧ j ≤ n ∧ s = .string (bs (T0 p.nm n ++ eKn (p.k.take j))) ∧ Bn w wr [(w.heap.size, 27, p.cells)]) (fun _ i _ => n - (intOf i).toNat)
  case atStart => exact ⟨0, rfl, by omega, by simp [eKn], HL2.out⟩
  case round =>
    clear HL2
    obtain ⟨j, rfl, hj, rfl, hb⟩ := hrel
    by_cases hlt : j < n
    · have hjl : j < p.k.length := by have := HN.out; omega
      have hr := (HR.out.below hb.b).kn
      obtain ⟨ad, hA, _⟩ := hr.addr (by omega)
      rw [hA] at hr
      have qc := fun (W1 : World) (hS : Bn w W1 [(w.heap.size, 27, p.cells)]) => kn_cells (show KnR W1 (some ad) p.k by have := (HR.out.below hS.b).kn; rwa [hA] at this) j hjl
      obtain ⟨x, hx⟩ : ∃ x, p.k[j].1 = x := ⟨_, rfl⟩
      obtain ⟨y, hy⟩ : ∃ x, p.k[j].2 = x := ⟨_, rfl⟩
      have h6 := HK6.out p.k[j] (List.getElem_mem _)
      have hsn := eKn_snoc p.k j hjl
      have hln := eKn_len (p.k.take (j + 1)) (fun k hk => HK6.out k (List.mem_of_mem_take hk))
      rw [hsn, List.length_take] at hln
      rw [hx, hy] at h6 hsn hln
      obtain ⟨⟨x0, x1⟩, y0, y1⟩ := h6
      have hzx := zz_len ⟨x0, x1⟩
      have hzy := zz_len ⟨y0, y1⟩
      obtain ⟨S, hS⟩ : ∃ S, T0 p.nm n ++ eKn (p.k.take j) = S := ⟨_, rfl⟩
      have hSl : S.length ≤ 1000 := by rw [← hS, List.length_append]; simp only [List.length_append] at hln; omega
      have hsx : S ++ (zz x ++ zz y) = T0 p.nm n ++ eKn (p.k.take (j + 1)) := by rw [hsn, ← hS, List.append_assoc]
      have k1 : ∀ W : World, (Op.stringOp .add ⟨(Lib.uvarint (Lib.zigzag x)).toArray⟩ ⟨(Lib.uvarint (Lib.zigzag y)).toArray⟩).run Try.prog W = .ok (.string (bs (zz x ++ zz y))) W := fun W => bs_run (zz x) (zz y) (by omega) W
      have k2 : ∀ W : World, (Op.stringOp .add (bs S) (bs (zz x ++ zz y))).run Try.prog W = .ok (.string (bs (S ++ (zz x ++ zz y)))) W := fun W => bs_run S (zz x ++ zz y) (by rw [List.length_append]; omega) W
      have HS := Lib.hid hsx
      rw [hx, hy] at qc
      have QC := Lib.hid qc
      have HB := Lib.hid hb
      have HA := Lib.hid hA
      rw [hS]
      clear hA hr hb hx hy hsn hln hzx hzy hS hSl hsx qc
      go_upto_region 8 with fail
      refine wp_region_held_drew (S := fun W => Bn w W [(w.heap.size, 27, p.cells)]) (by kernel_rfl) HB.out.drew (fun hHeld => ?_)
      refine wpAnyH_take (i := 0) (oi := _) (v := .string (bs S)) rfl (by kernel_rfl) (by kernel_rfl) (by kernel_rfl) (fun _ _ _ h => h) (Or.inl ⟨by rfl, fun W1 hS => by go_simp⟩) (by assumption) ?_
      go_simp
      refine wpAnyH_take (i := 1) (oi := _) (v := .pointer (some ⟨w.heap.size, 1, none⟩)) rfl (by kernel_rfl) (by kernel_rfl) (by kernel_rfl) (fun _ _ _ h => h) (Or.inl ⟨by rfl, fun W1 hS => by go_simp⟩) (by assumption) ?_
      go_simp
      refine wpAnyH_take (i := 2) (oi := _) (v := .slice (some ad) n p.c) rfl (by kernel_rfl) (by kernel_rfl) (by kernel_rfl) (fun _ _ _ h => h) (Or.inl ⟨by rfl, fun W1 hS => by (obtain ⟨z0, z1, _⟩ := blkP (hS.get 0 rfl); rw [HN.out, HA.out] at z1; go_simp)⟩) (by assumption) ?_
      go_simp
      refine wpAnyH_take (i := 3) (oi := _) (v := .int .i64 (j : Int)) rfl (by kernel_rfl) (by kernel_rfl) (by kernel_rfl) (fun _ _ _ h => h) (Or.inl ⟨by rfl, fun W1 hS => by go_simp⟩) (by assumption) ?_
      go_simp
      refine wpAnyH_take (i := 4) (oi := _) (v := .pointer (some (ad.add (j * 2)))) rfl (by kernel_rfl) (by kernel_rfl) (by kernel_rfl) (fun _ _ _ h => h) (Or.inl ⟨by rfl, fun W1 hS => by go_simp⟩) (by assumption) ?_
      go_simp
      refine wpAnyH_take (i := 5) (oi := _) (v := .pointer (some (ad.add (j * 2)))) rfl (by kernel_rfl) (by kernel_rfl) (by kernel_rfl) (fun _ _ _ h => h) (Or.inl ⟨by rfl, fun W1 hS => by go_simp⟩) (by assumption) ?_
      go_simp
      refine wpAnyH_take (i := 6) (oi := _) (v := .int .i64 x) rfl (by kernel_rfl) (by kernel_rfl) (by kernel_rfl) (fun _ _ _ h => h) (Or.inl ⟨by rfl, fun W1 hS => by (obtain ⟨q0, q1⟩ := QC.out W1 hS; go_simp)⟩) (by assumption) ?_
      go_simp
      refine wpAnyH_take (i := 8) (oi := _) (v := .pointer (some ⟨w.heap.size, 1, none⟩)) rfl (by kernel_rfl) (by kernel_rfl) (by kernel_rfl) (fun _ _ _ h => h) (Or.inl ⟨by rfl, fun W1 hS => by go_simp⟩) (by assumption) ?_
      go_simp
      refine wpAnyH_take (i := 9) (oi := _) (v := .slice (some ad) n p.c) rfl (by kernel_rfl) (by kernel_rfl) (by kernel_rfl) (fun _ _ _ h => h) (Or.inl ⟨by rfl, fun W1 hS => by (obtain ⟨z0, z1, _⟩ := blkP (hS.get 0 rfl); rw [HN.out, HA.out] at z1; go_simp)⟩) (by assumption) ?_
      go_simp
      refine wpAnyH_take (i := 10) (oi := _) (v := .int .i64 (j : Int)) rfl (by kernel_rfl) (by kernel_rfl) (by kernel_rfl) (fun _ _ _ h => h) (Or.inl ⟨by rfl, fun W1 hS => by go_simp⟩) (by assumption) ?_
      go_simp
      refine wpAnyH_take (i := 11) (oi := _) (v := .pointer (some (ad.add (j * 2)))) rfl (by kernel_rfl) (by kernel_rfl) (by kernel_rfl) (fun _ _ _ h => h) (Or.inl ⟨by rfl, fun W1 hS => by go_simp⟩) (by assumption) ?_
      go_simp
      refine wpAnyH_take (i := 12) (oi := _) (v := .pointer (some ⟨(ad.add (j * 2)).block, (ad.add (j * 2)).off + 1, none⟩)) rfl (by kernel_rfl) (by kernel_rfl) (by kernel_rfl) (fun _ _ _ h => h) (Or.inl ⟨by rfl, fun W1 hS => by go_simp⟩) (by assumption) ?_
      go_simp
      refine wpAnyH_take (i := 13) (oi := _) (v := .int .i64 y) rfl (by kernel_rfl) (by kernel_rfl) (by kernel_rfl) (fun _ _ _ h => h) (Or.inl ⟨by rfl, fun W1 hS => by (obtain ⟨q0, q1⟩ := QC.out W1 hS; go_simp)⟩) (by assumption) ?_
      go_simp
      have HL0 := Lib.hid HB.out.drew
      clear hHeld HB
      refine wpAnyH_ready (rs := [7]) (by kernel_rfl) (by simp) ?_
      refine AllReadyH.cons (o := _) rfl (fun K hK => ?_) AllReadyH.nil
      go_simp
      go_at_call 46
      refine (Ref04Enc.rInt_any x (by omega) (by omega) _).mono ?_
      rintro e v1 ⟨rfl, hb⟩
      go_wp2_with fail
      have HL1 := Lib.hid (HL0.out.below hb)
      clear hb HL0
      refine hK.out _ _ (HL1.out) (fun hHeld => ?_)
      clear hK
      try simp only [Act.put, List.setIfInBounds_toArray, List.set_cons_zero, List.set_cons_succ]
      clear hHeld
      refine wpAnyH_ready (rs := [14]) (by kernel_rfl) (by simp) ?_
      refine AllReadyH.cons (o := _) rfl (fun K hK => ?_) AllReadyH.nil
      go_simp
      go_at_call 46
      refine (Ref04Enc.rInt_any y (by omega) (by omega) _).mono ?_
      rintro e v2 ⟨rfl, hb⟩
      go_wp2_with fail
      have HL2 := Lib.hid (HL1.out.below hb)
      clear hb HL1
      refine hK.out _ _ (HL2.out) (fun hHeld => ?_)
      clear hK
      try simp only [Act.put, List.setIfInBounds_toArray, List.set_cons_zero, List.set_cons_succ]
      refine wpAnyH_take (i := 15) (oi := _) (v := .string (bs (zz x ++ zz y))) rfl (by kernel_rfl) (by kernel_rfl) (by kernel_rfl) (fun _ _ _ h => h) (Or.inl ⟨by rfl, fun W1 _ => by (have q := k1 W1; go_simp)⟩) (by assumption) ?_
      go_simp
      refine wpAnyH_take (i := 16) (oi := _) (v := .string (bs (S ++ (zz x ++ zz y)))) rfl (by kernel_rfl) (by kernel_rfl) (by kernel_rfl) (fun _ _ _ h => h) (Or.inl ⟨by rfl, fun W1 _ => by (have q := k2 W1; go_simp)⟩) (by assumption) ?_
      go_simp
      clear hHeld
      refine wpAnyH_ready (rs := [17]) (by kernel_rfl) (by simp) ?_
      refine AllReadyH.cons (o := _) rfl (fun K hK => ?_) AllReadyH.nil
      rw [if_pos (by rfl)]
      go_simp
      refine hK.out _ _ HL2.out (fun hHeld => ?_)
      clear hK hHeld
      try simp only [Act.put, List.setIfInBounds_toArray]
      refine wpAnyH_done (by kernel_rfl) ?_ _
      clear k1 k2
      go_wp2_with fail
      go_roundw
      case rel => exact ⟨j + 1, by go_num, by omega, by rw [HS.out], Bn.of1 (a := (w.heap.size, 27, p.cells)) HL2.out.b (HL2.out.get 0 rfl)⟩
      case measure => simp [intOf]; omega
    · obtain rfl : j = n := by omega
      have hall : p.k.take j = p.k := List.take_of_length_le (by rw [HN.out]; exact Nat.le_refl _)
      rw [hall]
      have hln := eKn_len p.k HK6.out
      rw [HN.out] at hln
      obtain ⟨S, hS⟩ : ∃ S, T0 p.nm j ++ eKn p.k = S := ⟨_, rfl⟩
      have hSl : S.length ≤ 400 := by rw [← hS, List.length_append]; omega
      rw [hS]
      have HS := Lib.hid hS
      have HB := Lib.hid hb
      clear hall hln hS hb
      go_wp2_with fail
      go_loopw [5, 46] (fun s i wr => ∃ q : Nat, i = .int .i64 q ∧ q ≤ 9 ∧ s = .string (bs (S ++ eMt p.m q)) ∧ Bn w wr [(w.heap.size, 27, p.cells)]) (fun _ i _ => 9 - (intOf i).toNat)
      case atStart => exact ⟨0, rfl, by omega, by simp [eMt], HB.out⟩
      case round =>
        clear HB
        obtain ⟨q, rfl, hq, rfl, hb⟩ := hrel
        by_cases hlt : q < 9
        · have h6 := HM6.out q hlt
          have hml := eMt_len p.m 9 HM6.out q (by omega)
          have hzl := zz_len h6
          have hc := (blkP (hb.get 0 rfl)).2.2 q (.int .i64 (p.m q)) (by simp [al, hlt])
          obtain ⟨v, hv⟩ : ∃ v, p.m q = v := ⟨_, rfl⟩
          rw [hv] at h6 hzl hc
          obtain ⟨U, hU⟩ : ∃ U, S ++ eMt p.m q = U := ⟨_, rfl⟩
          have hUl : U.length ≤ 500 := by rw [← hU, List.length_append]; omega
          have k1 : ∀ W : World, (Op.stringOp .add (bs U) ⟨(Lib.uvarint (Lib.zigzag v)).toArray⟩).run Try.prog W = .ok (.string (bs (U ++ zz v))) W := fun W => bs_run U (zz v) (by omega) W
          have hn2 : U ++ zz v = S ++ eMt p.m (q + 1) := by rw [← hU, List.append_assoc, ← hv]; rfl
          have HN2 := Lib.hid hn2
          have HB := Lib.hid hb
          have h60 := h6.1
          have h61 := h6.2
          rw [hU]
          clear h6 hml hv hU hUl hzl hn2 hb
          go_wp2_with fail
          refine (Ref04Enc.rInt_any v h60 h61 _).mono ?_
          rintro e w2 ⟨rfl, hb⟩
          have HL2 := Lib.hid (HB.out.below hb)
          clear hb HB
          go_wp2_with fail
          go_roundw
          case rel => exact ⟨q + 1, by go_num, by omega, by rw [HN2.out], HL2.out⟩
          case measure => simp [intOf]; omega
        · obtain rfl : q = 9 := by omega
          have HB := Lib.hid hb
          have he : S ++ eMt p.m 9 = encP p.nm p.k p.m := by rw [← HS.out, ← HN.out]; rfl
          have HE := Lib.hid he
          clear hb he
          go_wp2_with fail
          refine bodyPost_ret (results_tmp2 rfl _ _ _) rfl ?_
          exact BytC.yes HZ.out HE.out HB.out.b

end Go.Proofs.Ytcighjeiimjbiaa.Pro

/- ProZc: Layer 9, the document's answer: Number and Signed. -/
namespace Go.Proofs.Ytcighjeiimjbiaa.Pro
open Go.RowKit Go.Proofs.Ytcighjeiimjbiaa Go.Proofs.Ytcighjeiimjbiaa.WirePure

def NbC (s : ByteArray) (p : Nat) (w : World) (e : Ending) (w' : World) : Prop :=
  ∃ q : Nat, e = .returned (.tuple #[.int .u64 (uv 0 0 (s.data.toList.drop p)).2.1, .int .i64 q, .int .i64 (uv 0 0 (s.data.toList.drop p)).1]) ∧ q ≤ s.size ∧ ((uv 0 0 (s.data.toList.drop p)).1 = 0 → s.data.toList.drop q = (uv 0 0 (s.data.toList.drop p)).2.2) ∧ w = w'
theorem NbC.no {s : ByteArray} {p : Nat} {x : Int} {w : World} (hp : p ≤ s.size) (hx : x ≠ 0) (h : uv 0 0 (s.data.toList.drop p) = (x, 0, [])) : NbC s p w (.returned (.tuple #[.int .u64 0, .int .i64 p, .int .i64 x])) w :=
  ⟨p, by rw [h]; rfl, hp, fun h0 => by rw [h] at h0; exact absurd h0 hx, rfl⟩
theorem NbC.yes {s : ByteArray} {p i : Nat} {v : Int} {n : Nat} {w : World} (hq : p + i < s.size) (hv : v = n) (h : uv 0 0 (s.data.toList.drop p) = (0, n, s.data.toList.drop (p + i + 1))) : NbC s p w (.returned (.tuple #[.int .u64 v, .int .i64 (p + i + 1), .int .i64 0])) w := by
  subst hv
  exact ⟨p + i + 1, by rw [h]; rfl, hq, fun _ => by rw [h], rfl⟩
set_option maxHeartbeats 1000000 in
set_option maxRecDepth 100000 in
theorem number_any (s : ByteArray) (p : Nat) (w : World) (hs : s.size ≤ 140737488355328) (hp : p ≤ s.size) : Calls Try.prog 62 #[.string s, .int .i64 p] w (NbC s p w) := by
  go_enter Try.func62, Try.ntmps62
  go_wp2_with fail
  go_loop [7, 8] (fun vn vi => ∃ i acc : Nat, vi = .int .i64 i ∧ vn = .int .u64 acc ∧ i ≤ 9 ∧ acc < 2 ^ (7 * i) ∧ p + i ≤ s.size ∧ uv 0 0 (s.data.toList.drop p) = uv i acc (s.data.toList.drop (p + i)))
    (fun _ vi => 10 - (intOf vi).toNat)
  case atStart => exact ⟨0, 0, rfl, rfl, by omega, by simp, hp, rfl⟩
  case round =>
    obtain ⟨i, acc, rfl, rfl, hi, hacc, hq, huv⟩ := hrel
    have HU := Lib.hid huv
    clear huv
    have HA := Lib.hid hacc
    clear hacc
    have w1 : IntKind.i64.wrap ((p : Int) + i) = (p : Int) + i := IntWalk.i64_in _ (by omega)
    have w2 : (0 : Int) ≤ (p : Int) + i := by omega
    have w3 : ((p : Int) + i).toNat = p + i := by omega
    rcases Nat.lt_or_ge (p + i) s.size with hlt | hge
    · have hdr : s.data.toList.drop (p + i) = s[p + i] :: s.data.toList.drop (p + i + 1) := List.drop_eq_getElem_cons (by simpa using hlt)
      have HD := Lib.hid hdr
      clear hdr
      have hc256 : s[p + i].toNat < 256 := s[p + i].toNat_lt
      by_cases hform : (i = 9 ∧ 1 < s[p + i].toNat) ∨ (0 < i ∧ s[p + i].toNat = 0)
      · have HE : Hid (uv 0 0 (s.data.toList.drop p) = (4, 0, [])) := by
          rw [HU.out, HD.out, uv_form _ _ _ _ hform]
          exact rfl
        rcases hform with ⟨h9, h1⟩ | ⟨h9, h1⟩
        · have t1 : ((i : Int) == 9) = true := by simp; omega
          clear h9
          go_wp2_with fail
          refine bodyPost_ret (results_tmp3 rfl _ _ _) rfl ?_
          exact NbC.no hp (by decide) HE.out
        · have t0 : ((s[p + i].toNat : Int) == 0) = true := by simp; omega
          have hle : s[p + i].toNat ≤ 1 := by omega
          clear h1
          by_cases h9' : i = 9
          · have t1 : ((i : Int) == 9) = true := by simp; omega
            clear h9'
            go_wp2_with fail
            refine bodyPost_ret (results_tmp3 rfl _ _ _) rfl ?_
            exact NbC.no hp (by decide) HE.out
          · have t1 : ((i : Int) == 9) = false := by simp; omega
            go_wp2_with fail
            refine bodyPost_ret (results_tmp3 rfl _ _ _) rfl ?_
            exact NbC.no hp (by decide) HE.out
      · have HF := Lib.hid hform
        clear hform
        by_cases h128 : s[p + i].toNat < 128
        · have HE : Hid (uv 0 0 (s.data.toList.drop p) = (0, acc + s[p + i].toNat * 2 ^ (7 * i), s.data.toList.drop (p + i + 1))) := by
            rw [HU.out, HD.out, uv_last _ _ _ _ HF.out h128]
            exact rfl
          have hF := HF.out
          have HL : i = 9 → s[p + i].toNat % 128 ≤ 1 := by omega
          by_cases h9 : i = 9
          · have t1 : ((i : Int) == 9) = true := by simp; omega
            have t0 : ((s[p + i].toNat : Int) == 0) = false := by simp; omega
            have hle : s[p + i].toNat ≤ 1 := by omega
            have hi0 : 0 < i := by omega
            clear h9 hF
            go_wp2_with fail
            refine bodyPost_ret (results_tmp3 rfl _ _ _) rfl ?_
            exact NbC.yes hlt (orb i acc _ hi HA.out hc256 HL) (by rw [HE.out, Nat.mod_eq_of_lt h128])
          · have t1 : ((i : Int) == 9) = false := by simp; omega
            by_cases hi0 : 0 < i
            · have t0 : ((s[p + i].toNat : Int) == 0) = false := by simp; omega
              clear h9 hF
              go_wp2_with fail
              refine bodyPost_ret (results_tmp3 rfl _ _ _) rfl ?_
              exact NbC.yes hlt (orb i acc _ hi HA.out hc256 HL) (by rw [HE.out, Nat.mod_eq_of_lt h128])
            · clear h9 hF
              go_wp2_with fail
              refine bodyPost_ret (results_tmp3 rfl _ _ _) rfl ?_
              exact NbC.yes hlt (orb i acc _ hi HA.out hc256 HL) (by rw [HE.out, Nat.mod_eq_of_lt h128])
        · have HE : Hid (uv 0 0 (s.data.toList.drop p) = uv (i + 1) (acc + s[p + i].toNat % 128 * 2 ^ (7 * i)) (s.data.toList.drop (p + i + 1))) := by
            rw [HU.out, HD.out, uv_more _ _ _ _ HF.out (by omega)]
            exact rfl
          have hF := HF.out
          have h9 : i < 9 := by omega
          have HL : i = 9 → s[p + i].toNat % 128 ≤ 1 := by omega
          have t1 : ((i : Int) == 9) = false := by simp; omega
          have t0 : ((s[p + i].toNat : Int) == 0) = false := by simp; omega
          clear hF
          by_cases hi0 : 0 < i
          · clear HF
            go_wp2_with fail
            go_round
            case rel => exact ⟨i + 1, _, by go_num, congrArg (Value.int .u64) (orb i acc _ hi HA.out hc256 HL), by omega, orb_lt _ _ _ HA.out, by omega, HE.out⟩
            case measure => simp [intOf]; omega
          · clear HF
            go_wp2_with fail
            go_round
            case rel => exact ⟨i + 1, _, by go_num, congrArg (Value.int .u64) (orb i acc _ hi HA.out hc256 HL), by omega, orb_lt _ _ _ HA.out, by omega, HE.out⟩
            case measure => simp [intOf]; omega
    · go_wp2_with fail
      refine bodyPost_ret (results_tmp3 rfl _ _ _) rfl ?_
      exact NbC.no hp (by decide) (by rw [HU.out, List.drop_eq_nil_of_le (by simpa using hge)]; rfl)
theorem signed_any (n : Nat) (w : World) (hn : n < 18446744073709551616) : Calls Try.prog 63 #[.int .u64 n] w fun e w' => e = .returned (.int .i64 (Lib.unzigzag n)) ∧ w = w' := by
  by_cases h : n % 2 = 0
  · have e : Lib.unzigzag n = ((n / 2 : Nat) : Int) := by unfold Lib.unzigzag; rw [if_pos h]
    have t : (((n : Int) % 2) == 0) = true := by simp; omega
    rw [e]
    clear e h
    go_enter Try.func63, Try.ntmps63
    go_wp2_with fail
    go_ret
    exact ⟨rfl, rfl⟩
  · have e : Lib.unzigzag n = -((n / 2 : Nat) : Int) - 1 := by unfold Lib.unzigzag; rw [if_neg h]
    have t : (((n : Int) % 2) == 0) = false := by simp; omega
    rw [e]
    clear e h
    go_enter Try.func63, Try.ntmps63
    go_wp2_with fail
    go_ret
    exact ⟨rfl, rfl⟩

end Go.Proofs.Ytcighjeiimjbiaa.Pro

/- ProZd: Layer 9, plain: what Parse makes of a text, and that it is the inverse of Bytes. No program in sight. -/
namespace Go.Proofs.Ytcighjeiimjbiaa.Pro
open Go.RowKit Go.Proofs.Ytcighjeiimjbiaa Go.Proofs.Ytcighjeiimjbiaa.NumPure Go.Proofs.Ytcighjeiimjbiaa.WirePure

/-- The reader behind n numbers, and the number that it reads there. -/
def sI (a : A) : Nat → A
  | 0 => a
  | n + 1 => (sI a n).int.2
def vI (a : A) (n : Nat) : Int := (sI a n).int.1
theorem int_bad (e : Int) : (A.bad e).int = (0, .bad e) := by simp [A.int, A.uint, Lib.unzigzag]
theorem sI_bad (e : Int) (n : Nat) : sI (.bad e) n = .bad e := by
  induction n with
  | zero => rfl
  | succ n ih => rw [sI, ih, int_bad]
theorem sI_add (a : A) (i j : Nat) : sI a (i + j) = sI (sI a i) j := by
  induction j with
  | zero => rfl
  | succ j ih => rw [← Nat.add_assoc, sI, sI, ih]
theorem vI_add (a : A) (i j : Nat) : vI a (i + j) = vI (sI a i) j := by unfold vI; rw [sI_add]
theorem vI_in (a : A) (n : Nat) : in6 (vI a n) := by
  have h := (sI a n).uint_lt
  have e : vI a n = Lib.unzigzag (sI a n).uint.1 := rfl
  rw [e]
  unfold in6 Lib.unzigzag
  split <;> constructor <;> omega
theorem sI_dec (l : List UInt8) (n : Nat) : ∀ t, sI (.ready l) n = .ready t → l = (List.range n).flatMap (fun j => zz (vI (.ready l) j)) ++ t := by
  induction n with
  | zero => intro t h; simp only [sI] at h; cases h; simp
  | succ n ih =>
    intro t h
    rw [sI] at h
    obtain ⟨a, ha⟩ : ∃ a, sI (.ready l) n = a := ⟨_, rfl⟩
    cases a with
    | bad e => rw [ha, int_bad] at h; cases h
    | ready u =>
      have h1 := ih u ha
      have h2 : vI (.ready l) n = (A.ready u).int.1 := by unfold vI; rw [ha]
      rw [ha] at h
      have h3 := int_dec u t (A.ready u).int.1 (by rw [← h])
      rw [List.range_succ, List.flatMap_append, List.flatMap_cons, List.flatMap_nil, List.append_nil, List.append_assoc, h2]
      unfold zz
      rw [← h3]
      exact h1
theorem sI_enc (zs : List Int) : ∀ t, (∀ z ∈ zs, in6 z) → sI (.ready (zs.flatMap zz ++ t)) zs.length = .ready t ∧ ∀ j (h : j < zs.length), vI (.ready (zs.flatMap zz ++ t)) j = zs[j] := by
  induction zs with
  | nil => intro t _; exact ⟨by simp [sI], fun j h => by simp at h⟩
  | cons z zs ih =>
    intro t hz
    obtain ⟨a, b⟩ := ih t fun z h => hz z (by simp [h])
    have h0 := hz z (by simp)
    have e : (A.ready ((z :: zs).flatMap zz ++ t)).int = (z, .ready (zs.flatMap zz ++ t)) := by
      rw [List.flatMap_cons, List.append_assoc]
      exact int_enc z _ h0.1 h0.2
    have e1 : sI (.ready ((z :: zs).flatMap zz ++ t)) 1 = .ready (zs.flatMap zz ++ t) := by
      show (A.ready ((z :: zs).flatMap zz ++ t)).int.2 = _
      rw [e]
    refine ⟨?_, fun j h => ?_⟩
    · rw [List.length_cons, Nat.add_comm, sI_add, e1, a]
    · cases j with
      | zero => show (A.ready ((z :: zs).flatMap zz ++ t)).int.1 = _; rw [e]; rfl
      | succ j =>
        have q := vI_add (.ready ((z :: zs).flatMap zz ++ t)) 1 j
        rw [Nat.add_comm 1 j, e1] at q
        rw [q]
        simpa using b j (by simpa using h)
theorem sI_cut (zs : List Int) : ∀ k, (∀ z ∈ zs, in6 z) → k < (zs.flatMap zz).length → sI (.ready ((zs.flatMap zz).take k)) zs.length = .bad 5 := by
  induction zs with
  | nil => intro k _ hk; simp at hk
  | cons z zs ih =>
    intro k hz hk
    have h0 := hz z (by simp)
    rw [List.flatMap_cons] at hk ⊢
    rw [List.length_append] at hk
    rw [List.length_cons, Nat.add_comm, sI_add]
    by_cases h : k < (zz z).length
    · have e : sI (.ready ((zz z ++ zs.flatMap zz).take k)) 1 = .bad 5 := by
        show (A.ready ((zz z ++ zs.flatMap zz).take k)).int.2 = _
        rw [List.take_append_of_le_length (by omega)]
        exact int_cut z k h0.1 h0.2 h
      rw [e, sI_bad]
    · have e : sI (.ready ((zz z ++ zs.flatMap zz).take k)) 1 = .ready ((zs.flatMap zz).take (k - (zz z).length)) := by
        show (A.ready ((zz z ++ zs.flatMap zz).take k)).int.2 = _
        rw [List.take_append, List.take_of_length_le (by omega)]
        have := int_enc z ((zs.flatMap zz).take (k - (zz z).length)) h0.1 h0.2
        unfold zz at this ⊢
        rw [this]
      rw [e, ih _ (fun z h => hz z (by simp [h])) (by omega)]

/-- The parts of a text. -/
def paA (l : List UInt8) : A := ((A.ready l).text 32).2
def paN (l : List UInt8) : List UInt8 := ((A.ready l).text 32).1
def paC (l : List UInt8) : Nat := ((paA l).count 16).1
def paB (l : List UInt8) : A := ((paA l).count 16).2
def knI (a : A) (n : Nat) : List K2 := (List.range n).map fun i => (vI a (2 * i), vI a (2 * i + 1))
def paK (l : List UInt8) : List K2 := knI (paB l) (paC l)
def paM (l : List UInt8) : Nat → Int := fun j => vI (paB l) (2 * paC l + j)
def paE (l : List UInt8) : Int := (sI (paB l) (2 * paC l + 9)).fin
def paP (l : List UInt8) : Pf := ⟨bs (paN l), none, 0, paK l, paM l⟩
def paZ (l : List UInt8) : Int := if paE l = 0 then pErr (paP l) else paE l
theorem text_le (a : A) : ((a.text 32).1).length ≤ 32 := by
  unfold A.text
  have hc : ∀ n b, a.count 32 = (n, b) → n ≤ 32 := by
    intro n b h
    unfold A.count at h
    split at h
    · cases h; omega
    · split at h
      · cases h; omega
      · cases h; omega
  split
  · simp
  · next n l h =>
    split
    · simp
    · have := hc n _ h
      simp only [List.length_take]
      omega
theorem paN_le (l : List UInt8) : (paN l).length ≤ 32 := text_le _
theorem count_le (a : A) : (a.count 16).1 ≤ 16 := by
  unfold A.count
  split
  · exact Nat.zero_le _
  · split
    · exact Nat.zero_le _
    · show _ ≤ _; omega
theorem paC_le (l : List UInt8) : paC l ≤ 16 := count_le _
theorem knI_len (a : A) (n : Nat) : (knI a n).length = n := by simp [knI]
theorem fin_zero {a : A} (h : a.fin = 0) (hn : a ≠ .bad 0) : a = .ready [] := by
  cases a with
  | bad e => exact absurd (by rw [show e = 0 from h]) hn
  | ready l =>
    change (if l.length = 0 then 0 else 6 : Int) = 0 at h
    by_cases h0 : l.length = 0
    · rw [List.length_eq_zero_iff] at h0; rw [h0]
    · rw [if_neg h0] at h; omega

/-- The numbers of a profile, in their order. -/
def nums (k : List K2) (m : Nat → Int) : List Int := (k.flatMap fun k => [k.1, k.2]) ++ (List.range 9).map m
theorem flat_len (k : List K2) : (k.flatMap fun k => [k.1, k.2]).length = 2 * k.length := by
  induction k with
  | nil => rfl
  | cons a k ih => rw [List.flatMap_cons, List.length_append, ih]; simp; omega
theorem nums_len (k : List K2) (m : Nat → Int) : (nums k m).length = 2 * k.length + 9 := by
  rw [nums, List.length_append, flat_len, List.length_map, List.length_range]
theorem eMt_nums (m : Nat → Int) (n : Nat) : eMt m n = ((List.range n).map m).flatMap zz := by
  induction n with
  | zero => rfl
  | succ n ih => rw [eMt, ih, List.range_succ, List.map_append, List.flatMap_append]; simp
theorem eKn_nums (k : List K2) : eKn k = (k.flatMap fun k => [k.1, k.2]).flatMap zz := by
  induction k with
  | nil => rfl
  | cons a k ih => 
    have : eKn (a :: k) = zz a.1 ++ zz a.2 ++ eKn k := by simp [eKn]
    rw [this, ih]; simp
theorem encP_nums (s : ByteArray) (k : List K2) (m : Nat → Int) : encP s k m = (Lib.uvarint s.data.toList.length ++ s.data.toList) ++ (Lib.uvarint k.length ++ (nums k m).flatMap zz) := by
  have : s.data.toList.length = s.size := by simp
  rw [encP, T0, eKn_nums, eMt_nums, nums, List.flatMap_append, WireEnc.encText, this]
  simp only [List.append_assoc]
theorem nums_in {k : List K2} {m : Nat → Int} (hk : ∀ x ∈ k, in6 x.1 ∧ in6 x.2) (hm : ∀ j, j < 9 → in6 (m j)) : ∀ z ∈ nums k m, in6 z := by
  intro z hz
  rw [nums, List.mem_append, List.mem_flatMap, List.mem_map] at hz
  rcases hz with ⟨x, hx, hz⟩ | ⟨j, hj, rfl⟩
  · simp at hz
    rcases hz with rfl | rfl
    · exact (hk x hx).1
    · exact (hk x hx).2
  · exact hm j (by simpa using hj)
theorem nums_k (k : List K2) (m : Nat → Int) (i : Nat) (h : i < k.length) : (nums k m)[2 * i]? = some k[i].1 ∧ (nums k m)[2 * i + 1]? = some k[i].2 := by
  induction k generalizing i with
  | nil => simp at h
  | cons a k ih =>
    have e : nums (a :: k) m = a.1 :: a.2 :: nums k m := by simp [nums]
    cases i with
    | zero => rw [e]; simp
    | succ i =>
      have := ih i (by simpa using h)
      rw [e, show 2 * (i + 1) = 2 * i + 1 + 1 by omega]
      simpa using this
theorem nums_m (k : List K2) (m : Nat → Int) (j : Nat) (h : j < 9) : (nums k m)[2 * k.length + j]? = some (m j) := by
  have e := flat_len k
  rw [nums, List.getElem?_append_right (by omega), e, Nat.add_sub_cancel_left]
  simp [h]
theorem getE {l : List Int} {i : Nat} {x : Int} (h : l[i]? = some x) : ∃ h' : i < l.length, l[i] = x := by
  rwa [List.getElem?_eq_some_iff] at h

/-- What is parsed without a fault is what the text encodes. -/
theorem pa_dec (l : List UInt8) (h : paE l = 0) (hb : sI (paB l) (2 * paC l + 9) ≠ .bad 0) : encP (bs (paN l)) (paK l) (paM l) = l := by
  have h1 := fin_zero h hb
  obtain ⟨a, ha⟩ : ∃ a, paB l = a := ⟨_, rfl⟩
  cases a with
  | bad e => rw [ha, sI_bad] at h1; cases h1
  | ready u =>
    obtain ⟨b, hb'⟩ : ∃ b, paA l = b := ⟨_, rfl⟩
    cases b with
    | bad e => unfold paB at ha; rw [hb'] at ha; simp [A.count, A.uint] at ha
    | ready v =>
      have h2 := text_dec l v (paN l) 32 (by rw [← hb']; rfl)
      have h3 := count_dec v u (paC l) 16 (by rw [← ha]; unfold paC paB; rw [hb'])
      rw [ha] at h1
      have h4 := sI_dec u _ [] h1
      rw [List.append_nil] at h4
      have h5 : nums (paK l) (paM l) = (List.range (2 * paC l + 9)).map (vI (.ready u)) := by
        apply List.ext_getElem?
        intro i
        have hk : (paK l).length = paC l := knI_len _ _
        rcases Nat.lt_or_ge i (2 * paC l) with hi | hi
        · have e1 := nums_k (paK l) (paM l) (i / 2) (by omega)
          have e2 : (paK l)[i / 2]'(by omega) = (vI (.ready u) (2 * (i / 2)), vI (.ready u) (2 * (i / 2) + 1)) := by simp [paK, knI, ha]
          rw [e2] at e1
          rcases Nat.mod_two_eq_zero_or_one i with h0 | h0
          · have : 2 * (i / 2) = i := by omega
            rw [this] at e1
            rw [e1.1, List.getElem?_map, List.getElem?_range (by omega)]; rfl
          · have : 2 * (i / 2) + 1 = i := by omega
            rw [this] at e1
            rw [e1.2, List.getElem?_map, List.getElem?_range (by omega)]; rfl
        · rcases Nat.lt_or_ge i (2 * paC l + 9) with hj | hj
          · have e1 := nums_m (paK l) (paM l) (i - 2 * paC l) (by omega)
            rw [hk, show 2 * paC l + (i - 2 * paC l) = i by omega] at e1
            rw [e1, List.getElem?_map, List.getElem?_range (by omega)]
            simp only [paM, ha, Option.map_some]
            rw [show 2 * paC l + (i - 2 * paC l) = i by omega]
          · rw [List.getElem?_eq_none (by rw [nums_len, hk]; exact hj), List.getElem?_eq_none (by simpa using hj)]
      rw [encP_nums, h5, List.flatMap_map, ← h4, show (paK l).length = paC l from knI_len _ _, ← h3]
      exact h2.symm

/-- The text of a profile is parsed, part by part. -/
theorem pa_enc (s : ByteArray) (k : List K2) (m : Nat → Int) (hs : s.size ≤ 32) (hk : k.length ≤ 16) (hk2 : ∀ x ∈ k, in6 x.1 ∧ in6 x.2) (hm : ∀ j, j < 9 → in6 (m j)) :
    bs (paN (encP s k m)) = s ∧ paK (encP s k m) = k ∧ (∀ j, j < 9 → paM (encP s k m) j = m j) ∧ paE (encP s k m) = 0 := by
  have hsz : s.data.toList.length = s.size := by simp
  obtain ⟨L, hL⟩ : ∃ L, encP s k m = L := ⟨_, rfl⟩
  rw [hL]
  rw [encP_nums] at hL
  have h1 : (A.ready L).text 32 = (s.data.toList, .ready (Lib.uvarint k.length ++ (nums k m).flatMap zz)) := by
    rw [← hL, List.append_assoc]
    exact text_enc _ _ 32 (by omega) (by omega)
  have h2 : (A.ready (Lib.uvarint k.length ++ (nums k m).flatMap zz)).count 16 = (k.length, .ready ((nums k m).flatMap zz)) := count_enc _ _ 16 (by omega) (by omega)
  have hA : paA L = .ready (Lib.uvarint k.length ++ (nums k m).flatMap zz) := by unfold paA; rw [h1]
  have hN : paN L = s.data.toList := by unfold paN; rw [h1]
  have hB : paB L = .ready ((nums k m).flatMap zz) := by unfold paB; rw [hA, h2]
  have hC : paC L = k.length := by unfold paC; rw [hA, h2]
  obtain ⟨e1, e2⟩ := sI_enc (nums k m) [] (nums_in hk2 hm)
  rw [List.append_nil] at e1 e2
  refine ⟨?_, ?_, ?_, ?_⟩
  · rw [hN]; unfold bs; simp
  · unfold paK knI
    rw [hB, hC]
    apply List.ext_getElem (by simp)
    intro i h3 h4
    obtain ⟨f1, f2⟩ := nums_k k m i h4
    obtain ⟨g1, g2⟩ := getE f1
    obtain ⟨g3, g4⟩ := getE f2
    simp only [List.getElem_map, List.getElem_range]
    rw [e2 _ g1, e2 _ g3, g2, g4]
  · intro j hj
    unfold paM
    rw [hB, hC]
    obtain ⟨g1, g2⟩ := getE (nums_m k m j hj)
    rw [e2 _ g1, g2]
  · unfold paE
    rw [hB, hC, ← nums_len k m, e1]
    rfl
/-- A beginning of the text of a profile is too short. -/
theorem pa_cut (s : ByteArray) (k : List K2) (m : Nat → Int) (hs : s.size ≤ 32) (hk : k.length ≤ 16) (hk2 : ∀ x ∈ k, in6 x.1 ∧ in6 x.2) (hm : ∀ j, j < 9 → in6 (m j)) (n : Nat) (hn : n < (encP s k m).length) :
    paE ((encP s k m).take n) = 5 := by
  have hsz : s.data.toList.length = s.size := by simp
  obtain ⟨L, hL⟩ : ∃ L, (encP s k m).take n = L := ⟨_, rfl⟩
  rw [hL]
  rw [encP_nums] at hL hn
  have hn2 : (Lib.uvarint k.length ++ (nums k m).flatMap zz).length = (Lib.uvarint k.length).length + ((nums k m).flatMap zz).length := List.length_append
  rw [List.length_append, hn2] at hn
  have fin5 : ∀ c, sI (.bad 5) c = .bad 5 := sI_bad 5
  have bad5 : ∀ a : A, a = .bad 5 → a.count 16 = (0, .bad 5) := fun a e => by rw [e]; rfl
  rcases Nat.lt_or_ge n (Lib.uvarint s.data.toList.length ++ s.data.toList).length with h | h
  · have hA : paA L = .bad 5 := by
      unfold paA
      rw [← hL, List.take_append_of_le_length (by omega)]
      exact text_cut _ _ 32 (by omega) (by omega) h
    have hB : paB L = .bad 5 := by unfold paB; rw [bad5 _ hA]
    unfold paE
    rw [hB, fin5]; rfl
  · have hA : paA L = .ready ((Lib.uvarint k.length ++ (nums k m).flatMap zz).take (n - (Lib.uvarint s.data.toList.length ++ s.data.toList).length)) := by
      unfold paA
      rw [← hL, List.take_append, List.take_of_length_le h, List.append_assoc, text_enc _ _ 32 (by omega) (by omega)]
    obtain ⟨q, hq⟩ : ∃ q, n - (Lib.uvarint s.data.toList.length ++ s.data.toList).length = q := ⟨_, rfl⟩
    rw [hq] at hA
    rcases Nat.lt_or_ge q (Lib.uvarint k.length).length with h' | h'
    · have hB : paB L = .bad 5 := by
        unfold paB
        rw [hA, List.take_append_of_le_length (by omega), count_cut _ _ 16 (by omega) h']
      unfold paE
      rw [hB, fin5]; rfl
    · have e : (A.ready ((Lib.uvarint k.length ++ (nums k m).flatMap zz).take q)).count 16 = (k.length, .ready (((nums k m).flatMap zz).take (q - (Lib.uvarint k.length).length))) := by
        rw [List.take_append, List.take_of_length_le h']
        exact count_enc _ _ 16 (by omega) (by omega)
      have hB : paB L = .ready (((nums k m).flatMap zz).take (q - (Lib.uvarint k.length).length)) := by unfold paB; rw [hA, e]
      have hC : paC L = k.length := by unfold paC; rw [hA, e]
      unfold paE
      rw [hB, hC, ← nums_len k m, sI_cut _ _ (nums_in hk2 hm) (by omega)]
      rfl

/-- A check looks at nine numbers of the matrix. -/
theorem pErr_congr {p q : Pf} (h1 : p.nm = q.nm) (h2 : p.k = q.k) (h3 : ∀ j, j < 9 → p.m j = q.m j) : pErr p = pErr q := by
  have h := h3
  have e : Mat.invX p.m = Mat.invX q.m := by
    have hc : ∀ i j, Mat.cof p.m i j = Mat.cof q.m i j := fun i j => by
      unfold Mat.cof
      rw [h _ (by omega), h (3 * ((i + 2) % 3) + (j + 2) % 3) (by omega), h (3 * ((i + 1) % 3) + (j + 2) % 3) (by omega), h (3 * ((i + 2) % 3) + (j + 1) % 3) (by omega)]
    have hd : Mat.det9 p.m = Mat.det9 q.m := by
      simp only [Mat.det9, Mat.esum, hc, h 0 (by omega), h 1 (by omega), h 2 (by omega)]
    have hv : Mat.invE p.m = Mat.invE q.m := funext fun n => by simp only [Mat.invE, hc, hd]
    have ho : Mat.okM p.m = Mat.okM q.m := by
      rw [Bool.eq_iff_iff, Mat.okM_iff, Mat.okM_iff]
      exact ⟨fun a j hj => by rw [← h j hj]; exact a j hj, fun a j hj => by rw [h j hj]; exact a j hj⟩
    unfold Mat.invX
    rw [ho, hd, hv]
  unfold pErr
  rw [h1, h2, e]
end Go.Proofs.Ytcighjeiimjbiaa.Pro

/- ProZe: Layer 9: Parse. -/
namespace Go.Proofs.Ytcighjeiimjbiaa.Pro
open Go.RowKit Go.Proofs.Ytcighjeiimjbiaa Go.Proofs.Ytcighjeiimjbiaa.NumPure Go.Proofs.Ytcighjeiimjbiaa.WirePure
open Go.Proofs.Ytcighjeiimjbiaa.Mat (al ac invM invX appM info9 info3)

theorem al_ext {n : Nat} {m f : Nat → Int} (h : ∀ j, j < n → m j = f j) : al n m = al n f := by
  have := Mat.ac_ext h
  exact congrArg Array.toList this
/-- The cells of a profile in the making. -/
def pcl (nm : ByteArray) (v : Value) (m : Nat → Int) : Array Value := (Value.string nm :: v :: al 9 m).toArray
theorem pcl_v (nm : ByteArray) (v v' : Value) (m : Nat → Int) : (pcl nm v m).setIfInBounds 1 v' = pcl nm v' m := by
  unfold pcl
  rw [List.setIfInBounds_toArray]
  rfl
theorem pcl_m (nm : ByteArray) (v : Value) (m : Nat → Int) (i : Nat) (x : Int) : (pcl nm v m).setIfInBounds (2 + i) (.int .i64 x) = pcl nm v fun n => if n = i then x else m n := by
  unfold pcl
  rw [List.setIfInBounds_toArray, Nat.add_comm, List.set_cons_succ, List.set_cons_succ]
  have h := congrArg Array.toList (Mat.ac_set 9 m i x)
  have e : (al 9 m).set i (.int .i64 x) = al 9 fun j => if j = i then x else m j := by
    simpa [ac] using h
  rw [e]
/-- What stands while a text is parsed. -/
structure PS (w : World) (g0 gr gp : Nat) (nm : ByteArray) (a : A) (v : Value) (k : List K2) (m : Nat → Int) (W : World) : Prop where
  b : Below w.heap.size w W
  z : Blk W g0 27 Pf.zero.cells
  r : WireRd.Is W (some gr) a
  p : Blk W gp 27 (pcl nm v m)
  o : W.ownsRow (gp + 1) 72 2 v k.length (kns k)
  o0 : w.heap.size ≤ g0
  o1 : g0 < gr
  o2 : gr < gp
theorem PS.read {w W W' : World} {g0 gr gp : Nat} {nm : ByteArray} {a a' : A} {v : Value} {k : List K2} {m : Nat → Int} (h : PS w g0 gr gp nm a v k m W) (hg : W.grownBy W' (some gr)) (hi : WireRd.Is W' (some gr) a') : PS w g0 gr gp nm a' v k m W' := by
  have h0 := h.o0
  have h1 := h.o1
  have h2 := h.o2
  refine ⟨h.b.grown hg h.b.size (fun j hj => by cases hj; omega), h.z.grown hg (by simp; omega), hi, h.p.grown hg (by simp; omega), h.o.kept hg (.inr fun e => ?_), h0, h1, h2⟩
  have := own_low h.o _ e
  omega
theorem PS.app {w W W' : World} {g0 gr gp : Nat} {nm : ByteArray} {a : A} {v v' : Value} {k : List K2} {m : Nat → Int} {x y : Int} {n : Nat} {o : Obj} (h : PS w g0 gr gp nm a v k m W) (hn : n = k.length + 1) (ho : W'.ownsRow (gp + 1) 72 2 v' n (kns k ++ [.int .i64 x, .int .i64 y])) (hg : (W.alloc o).grownBy W' v.ownBlock) :
    PS w g0 gr gp nm a v' (k ++ [(x, y)]) m (W'.setCell ⟨gp, 1, none⟩ v') := by
  have h0 := h.o0
  have h1 := h.o1
  have h2 := h.o2
  have hlow := own_low h.o
  have hs : W'.grownBy (W'.setCell ⟨gp, 1, none⟩ v') (some gp) := WireRd.grown_set (World.grownBy.refl _ _) 1 v'
  subst hn
  refine ⟨?_, ?_, ?_, ?_, ?_, h0, h1, h2⟩
  · exact ((h.b.alloc h.b.size _).grown hg (by have := h.b.size; rw [← size_alloc1]; omega) (fun j hj => by have := hlow j hj; omega)).setCell (by show _ ≤ gp; omega) _
  · exact ((h.z.alloc _).grown hg (fun e => by have := hlow _ e.symm; omega)).far (by show g0 ≠ gp; omega) _
  · exact ((h.r.grown (World.grownBy_alloc W o none) (fun _ _ => by simp)).grown hg (fun b hb e => by cases hb; have := hlow _ e.symm; omega)).grown hs (fun b hb => by cases hb; simp; omega)
  · have := ((h.p.alloc o).grown hg (fun e => by have := hlow _ e.symm; omega)).set_ 1 v'
    rwa [pcl_v] at this
  · have e : kns (k ++ [(x, y)]) = kns k ++ [.int .i64 x, .int .i64 y] := by rw [kns_app]; rfl
    rw [e, List.length_append]
    refine ho.kept hs (.inr fun e => ?_)
    have := own_low ho _ e
    omega
theorem PS.put {w W : World} {g0 gr gp : Nat} {nm : ByteArray} {a : A} {v : Value} {k : List K2} {m : Nat → Int} (h : PS w g0 gr gp nm a v k m W) (i : Nat) (x : Int) : PS w g0 gr gp nm a v k (fun n => if n = i then x else m n) (W.setCell ⟨gp, 2 + i, none⟩ (.int .i64 x)) := by
  have h0 := h.o0
  have h1 := h.o1
  have h2 := h.o2
  have hs : W.grownBy (W.setCell ⟨gp, 2 + i, none⟩ (.int .i64 x)) (some gp) := WireRd.grown_set (World.grownBy.refl _ _) _ _
  refine ⟨h.b.setCell (by show _ ≤ gp; omega) _, h.z.far (by show g0 ≠ gp; omega) _, h.r.grown hs (fun b hb => by cases hb; simp; omega), ?_, h.o.kept hs (.inr fun e => ?_), h0, h1, h2⟩
  · have := h.p.set_ (2 + i) (.int .i64 x)
    rwa [pcl_m] at this
  · have := own_low h.o _ e
    omega
theorem PS.cap {w W : World} {g0 gr gp : Nat} {nm : ByteArray} {a : A} {v : Value} {k : List K2} {m : Nat → Int} (h : PS w g0 gr gp nm a v k m W) : ∃ A c, v = .slice A k.length c ∧ KnR W A k := by
  obtain ⟨A, c, e, _, hr⟩ := own_open h.o
  exact ⟨A, c, e, hr⟩
theorem PS.far {w W W' : World} {g0 gr gp : Nat} {nm : ByteArray} {a : A} {v : Value} {k : List K2} {m : Nat → Int} {o : Obj} (h : PS w g0 gr gp nm a v k m W) (hg : (W.alloc o).grownBy W' v.ownBlock) : Blk W' gp 27 (pcl nm v m) :=
  (h.p.alloc o).grown hg (fun e => by have := own_low h.o _ e.symm; omega)
theorem PS.drewN {w W : World} {g0 gr gp : Nat} {nm : ByteArray} {a : A} {v : Value} {k : List K2} {m : Nat → Int} (h : PS w g0 gr gp nm a v k m W) (n : Nat) : PS w g0 gr gp nm a v k m (W.drewN n) :=
  ⟨WireRd.bdN h.b n, h.z.drewN n, h.r.drewN n, h.p.drewN n, h.o, h.o0, h.o1, h.o2⟩
theorem PS.below {w W W' : World} {g0 gr gp : Nat} {nm : ByteArray} {a : A} {v : Value} {k : List K2} {m : Nat → Int} (h : PS w g0 gr gp nm a v k m W) (hb : Below W.heap.size W W') : Below w.heap.size w W' ∧ Blk W' g0 27 Pf.zero.cells ∧ Blk W' gp 27 (pcl nm v m) ∧ W'.ownsRow (gp + 1) 72 2 v k.length (kns k) :=
  ⟨h.b.trans (hb.mono h.b.size), h.z.below hb h.z.lt, h.p.below hb h.p.lt, own_below h.o hb⟩
def paR (l : List UInt8) : Pf := if paZ l = 0 then paP l else Pf.zero
def ParC (l : List UInt8) (w : World) (e : Ending) (w' : World) : Prop := StC (paR l).nm (paR l).k (paR l).m (paZ l) w e w'
theorem ParC.no {l : List UInt8} {w w' : World} {z : Int} (h : paZ l = z) (hz : z ≠ 0) (hb : Below w.heap.size w w') : ParC l w (.returned (.tuple #[.agg Pf.zero.cells, .int .i64 z])) w' := by
  unfold ParC paR
  rw [h, if_neg hz]
  exact StC.mk Pf.zero Reads.none_ hb
theorem ParC.yes {l : List UInt8} {w w' : World} {A : Option Addr} {c : Nat} {k : List K2} (h : paZ l = 0) (hk : k = paK l) (hr : KnR w' A k) (hb : Below w.heap.size w w') : ParC l w (.returned (.tuple #[.agg (Pf.mk (bs (paN l)) A c k (paM l)).cells, .int .i64 0])) w' := by
  unfold ParC paR
  rw [h, if_pos rfl]
  subst hk
  exact StC.mk (Pf.mk (bs (paN l)) A c (paK l) (paM l)) hr hb
theorem paZ_fin {l : List UInt8} {z : Int} (h : paE l = z) (hz : z ≠ 0) : paZ l = z := by unfold paZ; rw [h, if_neg hz]
theorem paZ_chk {l : List UInt8} {z : Int} {p : Pf} (h : paE l = 0) (h1 : p.nm = bs (paN l)) (h2 : p.k = paK l) (h3 : ∀ j, j < 9 → p.m j = paM l j) (hp : pErr p = z) : paZ l = z := by
  unfold paZ
  rw [if_pos h, ← hp]
  exact (pErr_congr h1 h2 h3).symm
theorem knI_snoc (a : A) (n : Nat) : knI a (n + 1) = knI a n ++ [(vI a (2 * n), vI a (2 * n + 1))] := by
  unfold knI
  rw [List.range_succ, List.map_append]
  rfl
theorem builtN (s : ByteArray) : Try.prog.built 27 [(0, .string s)] = some (pcl s (.slice none 0 0) fun _ => 0) := by kernel_rfl
theorem pcl_size (nm : ByteArray) (v : Value) (m : Nat → Int) : (pcl nm v m).size = 11 := by simp [pcl, Mat.al_len]
theorem pcl_info (nm : ByteArray) (v : Value) (m : Nat → Int) : (Try.prog.info? 27).map (·.size) = some (pcl nm v m).size := by rw [pcl_size]; kernel_rfl
theorem pcl_one (nm : ByteArray) (A : Option Addr) (n c : Nat) (m : Nat → Int) : (pcl nm (.slice A n c) m).all (·.oneCell') = true := by simp [pcl, al, Value.oneCell']
/-- A loop reads numbers into a row. -/
def mI (a : A) (n : Nat) (i : Nat) : Nat → Int := fun j => if j < i then vI a (n + j) else 0
theorem mI_step (a : A) (n i : Nat) : (fun j => if j = i then vI a (n + i) else mI a n i j) = mI a n (i + 1) := by
  funext j
  unfold mI
  by_cases h : j = i
  · subst h; simp
  · rw [if_neg h]
    by_cases h2 : j < i
    · rw [if_pos h2, if_pos (by omega)]
    · rw [if_neg h2, if_neg (by omega)]
theorem PS.start {w W : World} {g0 gr : Nat} {a : A} (hb : Below w.heap.size w W) (hz : Blk W g0 27 Pf.zero.cells) (hr : WireRd.Is W (some gr) a) (h0 : w.heap.size ≤ g0) (h1 : g0 < gr) (nm : ByteArray) :
    PS w g0 gr W.heap.size nm a (.slice none 0 0) [] (fun _ => 0) (W.alloc (.cells (pcl nm (.slice none 0 0) fun _ => 0) 27)) :=
  ⟨hb.alloc hb.size _, hz.alloc _, hr.grown (World.grownBy_alloc W _ none) (fun _ _ => by simp), Blk.new _ _ _, World.ownsRow_nil _ _ _ _, h0, h1, hr.lt gr rfl⟩
set_option maxRecDepth 100000 in
set_option maxHeartbeats 8000000 in
theorem Parse_any (s : ByteArray) (w : World) (hs : s.size ≤ 140737488355328) : Calls Try.prog 29 #[.string s] w (ParC s.data.toList w) := by
  obtain ⟨l, hl⟩ : ∃ l, s.data.toList = l := ⟨_, rfl⟩
  have HL := Lib.hid hl
  have hB := Bn.one w 27 Pf.zero.cells
  have C1 := WireRd.new_any s (w.alloc (.cells Pf.zero.cells 27)) hs
  rw [hl]
  have HB := Lib.hid hB
  clear hl hB
  go_enter Try.func29, Try.ntmps29
  go_wp2_with (refine wpList_allocC runP rfl rfl ?_)
  refine C1.mono ?_
  rintro e w1 ⟨rfl, hb, hi⟩
  rw [← size_alloc1] at hi hb ⊢
  have HB1 := Lib.hid (HB.out.below (by rw [← size_alloc1]; exact hb))
  rw [HL.out] at hi
  have HI := Lib.hid hi
  clear HB hb hi C1
  go_wp2_with fail
  have C2 : Calls Try.prog 58 #[WireRd.pt (some (w.heap.size + 1)), .int .i64 32] w1 (WireRd.RP (some (w.heap.size + 1)) (.string (bs (paN l))) (paA l) w1) := WireRd.text_is HI.out 32 (by omega) (paN l) (paA l) rfl
  refine C2.mono ?_
  rintro e w2 ⟨rfl, hg, hi⟩
  have P0 := PS.start (WireRd.below_grown HB1.out.b hg (by have := HB1.out.b.size; omega) (by omega)) ((HB1.out.get 0 rfl).grown hg (by simp)) hi (Nat.le_refl _) (by omega) (bs (paN l))
  have HP := Lib.hid P0
  clear C2 hg hi HI HB1 P0
  go_wp2_with (first
    | (refine wpList_buildC (cs := pcl (bs (paN l)) (.slice none 0 0) fun _ => 0) (T := 27) rfl _ rfl (builtN _) ?_)
    | (refine wpList_allocC runP rfl rfl ?_)
    | (refine wpList_store_row rfl _ _ _ rfl w2.heap.size (pcl (bs (paN l)) (.slice none 0 0) fun _ => 0) rfl rfl 27 Pf.zero.cells (heap_alloc_new _ _) (pcl_info _ _ _) (by rw [pcl_size, Pf.size]) (pcl_one _ _ _ _ _) ?_; rw [World.setRow_alloc_new]))
  obtain ⟨gp, hgp⟩ : ∃ g, w2.heap.size = g := ⟨_, rfl⟩
  obtain ⟨W3, hW3⟩ : ∃ W, w2.alloc (.cells (pcl (bs (paN l)) (.slice none 0 0) fun _ => 0) 27) = W := ⟨_, rfl⟩
  rw [hW3, hgp] at HP
  rw [hW3, hgp]
  clear hW3 hgp
  have C3 : Calls Try.prog 59 #[WireRd.pt (some (w.heap.size + 1)), .int .i64 16] W3 (WireRd.RP (some (w.heap.size + 1)) (.int .i64 (paC l)) (paB l) W3) := WireRd.count_any _ _ 16 _ HP.out.r (by omega)
  refine C3.mono ?_
  rintro e w4 ⟨rfl, hg, hi⟩
  have HP1 := Lib.hid (HP.out.read hg hi)
  clear C3 HP hg hi
  have hn16 := paC_le l
  obtain ⟨n, hn⟩ : ∃ n, paC l = n := ⟨_, rfl⟩
  obtain ⟨B, hB⟩ : ∃ B, paB l = B := ⟨_, rfl⟩
  obtain ⟨nm, hnm⟩ : ∃ nm, bs (paN l) = nm := ⟨_, rfl⟩
  rw [hn] at hn16 ⊢
  rw [hB, hnm] at HP1
  have HN := Lib.hid hn
  have HBB := Lib.hid hB
  have HNM := Lib.hid hnm
  clear hn hB hnm
  obtain ⟨t0, hi0, hz0, hz1, hz2⟩ := info_parts infoK
  go_wp2_with fail
  go_loopw [18] (fun i wr => ∃ (j : Nat) (v : Value), i = .int .i64 j ∧ j ≤ n ∧ PS w w.heap.size (w.heap.size + 1) gp nm (sI B (2 * j)) v (knI B j) (fun _ => 0) wr) (fun i _ => n - (intOf i).toNat)
  case atStart => exact ⟨0, _, rfl, by omega, HP1.out⟩
  case round =>
    clear HP1
    obtain ⟨j, v, rfl, hj, hp⟩ := hrel
    have HP := Lib.hid hp
    clear hp
    by_cases hlt : j < n
    · go_wp2_with fail
      refine (WireRd.int_is HP.out.r (vI B (2 * j)) (sI B (2 * j + 1)) rfl).mono ?_
      rintro e w5 ⟨rfl, hg, hi⟩
      have HP2 := Lib.hid (HP.out.read hg hi)
      clear HP hg hi
      go_wp2_with fail
      refine (WireRd.int_is HP2.out.r (vI B (2 * j + 1)) (sI B (2 * j + 2)) rfl).mono ?_
      rintro e w6 ⟨rfl, hg, hi⟩
      have HP3 := Lib.hid (HP2.out.read hg hi)
      clear HP2 hg hi
      have hkl := knI_len B j
      obtain ⟨A, c, hv, _⟩ := HP3.out.cap
      rw [hkl] at hv
      subst hv
      have c1 : w6.cell? ⟨gp, 1, none⟩ = some (.slice A j c) := HP3.out.p.cell 1
      have c2 : ∀ o, w6.frozen? ⟨gp, o, none⟩ = false := HP3.out.p.frozen
      have ho := HP3.out.o
      rw [hkl] at ho
      have HO := Lib.hid ho
      have hgpl := HP3.out.p.lt
      clear hkl ho
      go_wp2_with (at_builtin; refine wpList_append_own _ rfl _ _ 24 rfl (gp + 1) 72 t0 (.agg #[.int .i64 0, .int .i64 0]) 2 16 Try.underlying24 hi0 hz0 hz1 hz2 rfl (by decide) _ _ _ rfl (HO.out.alloc _) ⟨w6.heap.size, 0, none⟩ 1 1 [.int .i64 (vI B (2 * j)), .int .i64 (vI B (2 * j + 1))] rfl rfl (World.news_of_block (Blk.new _ _ _)) ?c2 ?c3 ?c4 ?c5 ?_)
      case c2 => intro u hu; simp only [List.mem_cons, List.not_mem_nil, or_false] at hu; rcases hu with rfl | rfl <;> rfl
      case c3 => unfold maxLen; omega
      case c4 => omega
      case c5 => simp; omega
      intro v' w7 hown' hgrow _
      obtain ⟨A', c', rfl, _⟩ := own_open hown'
      have HP4 := Lib.hid (HP3.out.app (by rw [knI_len]) hown' hgrow)
      rw [← knI_snoc] at HP4
      have d0 := HP3.out.far hgrow
      have d1 : w7.cell? ⟨gp, 1, none⟩ = some (.slice A j c) := d0.cell 1
      have d2 : ∀ o, w7.frozen? ⟨gp, o, none⟩ = false := d0.frozen
      clear d0 hgrow hown' HP3 HO c1 c2
      go_wp2_with fail
      go_roundw
      case rel => exact ⟨j + 1, .slice A' (j + 1) c', by go_num, by omega, HP4.out⟩
      case measure => simp [intOf]; omega
    · obtain rfl : j = n := by omega
      obtain ⟨A, c, hv, _⟩ := HP.out.cap
      rw [knI_len] at hv
      subst hv
      go_wp2_with fail
      go_loopw [33] (fun i wr => ∃ q : Nat, i = .int .i64 q ∧ q ≤ 9 ∧ PS w w.heap.size (w.heap.size + 1) gp nm (sI B (2 * j + q)) (.slice A j c) (knI B j) (mI B (2 * j) q) wr) (fun i _ => 9 - (intOf i).toNat)
      case atStart => exact ⟨0, rfl, by omega, HP.out⟩
      case round =>
        clear HP
        obtain ⟨q, rfl, hq, hp⟩ := hrel
        have HP := Lib.hid hp
        clear hp
        by_cases hq9 : q < 9
        · go_wp2_with fail
          refine (WireRd.int_is HP.out.r (vI B (2 * j + q)) (sI B (2 * j + q + 1)) rfl).mono ?_
          rintro e w5 ⟨rfl, hg, hi⟩
          have HP2 := Lib.hid (HP.out.read hg hi)
          have HP3 := Lib.hid (HP2.out.put q (vI B (2 * j + q)))
          rw [mI_step] at HP3
          have d1 : w5.cell? ⟨gp, 2 + q, none⟩ = some (.int .i64 (mI B (2 * j) q q)) := by
            have h := HP2.out.p.cell (2 + q)
            rw [h]
            simp [pcl, al, Nat.add_comm 2 q, hq9]
          have d2 : ∀ o, w5.frozen? ⟨gp, o, none⟩ = false := HP2.out.p.frozen
          clear HP hg hi HP2
          go_wp2_with fail
          go_roundw
          case rel => exact ⟨q + 1, by go_num, by omega, HP3.out⟩
          case measure => simp [intOf]; omega
        · obtain rfl : q = 9 := by omega
          have he : paE l = (sI B (2 * j + 9)).fin := by unfold paE; rw [HN.out, HBB.out]
          obtain ⟨f, hf⟩ : ∃ f, (sI B (2 * j + 9)).fin = f := ⟨_, rfl⟩
          have C9 := WireRd.fin_is HP.out.r f hf
          rw [hf] at he
          have HE := Lib.hid he
          clear he hf
          go_wp2_with fail
          refine C9.mono ?_
          rintro e w5 ⟨rfl, t, rfl⟩
          have HP2 := Lib.hid (HP.out.drewN t)
          obtain ⟨W5, hW5⟩ : ∃ W, wr.drewN t = W := ⟨_, rfl⟩
          rw [hW5] at HP2 ⊢
          clear HP C9 hW5
          by_cases hf0 : f = 0
          rotate_left
          · have h1 : (f != 0) = true := by simpa using hf0
            go_wp2_with (first
              | (refine wpList_buildC (cs := Pf.zero.cells) (T := 27) rfl _ rfl builtP0 ?_)
              | (refine wpList_store_row rfl _ _ _ rfl w.heap.size Pf.zero.cells rfl rfl 27 Pf.zero.cells HP2.out.z Pf.zero.info rfl Pf.zero.one ?_))
            refine bodyPost_ret (v := .tuple #[.agg Pf.zero.cells, .int .i64 f]) (results_row_tmp rfl _ _ w.heap.size 27 Pf.zero.cells _ rfl _ rfl (Blk.row HP2.out.z _) Try.underlying27 rfl Pf.zero.info) rfl ?_
            exact ParC.no (paZ_fin HE.out hf0) hf0 (Mat.below_setRow HP2.out.b (Nat.le_refl _) _)
          subst hf0
          obtain ⟨p, hp⟩ : ∃ p : Pf, Pf.mk nm A c (knI B j) (mI B (2 * j) 9) = p := ⟨_, rfl⟩
          have hpl : p.k.length = j := by rw [← hp]; exact knI_len _ _
          have hpc : pcl nm (.slice A j c) (mI B (2 * j) 9) = p.cells := by
            rw [← hp]
            unfold Pf.cells Pf.lst
            rw [knI_len]
            rfl
          have hpr : PfR W5 p := by
            obtain ⟨A1, c1, e, hk⟩ := HP2.out.cap
            rw [knI_len] at e
            injection e with e1 _ e2
            rw [← hp]
            refine ⟨by rw [e1]; exact hk, ?_⟩
            show nm.size ≤ _
            rw [← HNM.out, bs_size]
            have := paN_le l
            omega
          have hb2 := HP2.out.p
          rw [hpc] at hb2
          have HB2 := Lib.hid hb2
          have HPC := Lib.hid hpc
          have HPP := Lib.hid hp
          have CC := Check_any p W5 hpr
          obtain ⟨z, hz⟩ : ∃ z, pErr p = z := ⟨_, rfl⟩
          unfold ChkC at CC
          rw [hz] at CC
          unfold Pf.val at CC
          have hpz : paZ l = z := by
            refine paZ_chk (p := p) HE.out (by rw [← HPP.out]; exact HNM.out.symm) (by rw [← HPP.out]; unfold paK; rw [HBB.out, HN.out]) (fun i hi => ?_) hz
            rw [← HPP.out]
            show mI B (2 * j) 9 i = _
            unfold mI paM
            rw [if_pos hi, HBB.out, HN.out]
          have HZ := Lib.hid hpz
          have HR := Lib.hid hpr.kn
          clear hpz hpr hb2 hpc hp hz hpl
          go_wp2_with (refine wpList_load_row rfl _ _ rfl gp rfl 27 p.cells (0, 0) _ HB2.out Try.underlying27 rfl p.info ?_)
          refine CC.mono ?_
          rintro e w6 ⟨rfl, hb⟩
          obtain ⟨b1, b2, b3, b4⟩ := HP2.out.below hb
          have hgp : w.heap.size < gp + 1 := by have := HP2.out.o1; have := HP2.out.o2; omega
          rw [HPC.out] at b3
          have B1 := Lib.hid b1
          have B2 := Lib.hid b2
          have B3 := Lib.hid b3
          have B4 := Lib.hid (own_new b4)
          have HR2 := Lib.hid (HR.out.below hb)
          clear b1 b2 b3 b4 HB2 HR CC hb HP2
          by_cases hz0 : z = 0
          rotate_left
          · have h1 : (z != 0) = true := by simpa using hz0
            go_wp2_with (first
              | (refine wpList_buildC (cs := Pf.zero.cells) (T := 27) rfl _ rfl builtP0 ?_)
              | (refine wpList_store_row rfl _ _ _ rfl w.heap.size Pf.zero.cells rfl rfl 27 Pf.zero.cells B2.out Pf.zero.info rfl Pf.zero.one ?_))
            refine bodyPost_ret (v := .tuple #[.agg Pf.zero.cells, .int .i64 z]) (results_row_tmp rfl _ _ w.heap.size 27 Pf.zero.cells _ rfl _ rfl (Blk.row B2.out _) Try.underlying27 rfl Pf.zero.info) rfl ?_
            exact ParC.no HZ.out hz0 (Mat.below_setRow B1.out (Nat.le_refl _) _)
          subst hz0
          go_wp2_with (first
            | (refine wpList_load_row rfl _ _ rfl gp rfl 27 p.cells (0, 0) _ B3.out Try.underlying27 rfl p.info ?_)
            | (refine wpList_store_row rfl _ _ _ rfl w.heap.size p.cells rfl rfl 27 Pf.zero.cells B2.out p.info (by rw [Pf.size, Pf.size]) p.one ?_))
          refine bodyPost_ret (v := .tuple #[.agg p.cells, .int .i64 0]) (results_row_tmp rfl _ _ w.heap.size 27 p.cells _ rfl _ rfl (Blk.row B2.out _) Try.underlying27 rfl p.info) rfl ?_
          have hq : p.cells = (Pf.mk (bs (paN l)) A c (knI B j) (paM l)).cells := by
            rw [← HPP.out]
            unfold Pf.cells Pf.lst
            rw [← HNM.out]
            show (_ :: _ :: al 9 (mI B (2 * j) 9)).toArray = (_ :: _ :: al 9 (paM l)).toArray
            rw [al_ext (f := paM l) fun i hi => by unfold mI paM; rw [if_pos hi, HBB.out, HN.out]]
          rw [hq]
          have hkk : p.A = A ∧ p.k = knI B j := by rw [← HPP.out]; exact ⟨rfl, rfl⟩
          have hkr := KnR.setRow (g := w.heap.size) HR2.out (hkk.1 ▸ B4.out) hgp (Pf.mk (bs (paN l)) A c (knI B j) (paM l)).cells
          rw [hkk.1, hkk.2] at hkr
          exact ParC.yes HZ.out (by unfold paK; rw [HBB.out, HN.out]) hkr (Mat.below_setRow B1.out (Nat.le_refl _) _)
end Go.Proofs.Ytcighjeiimjbiaa.Pro

/- ProZf: Layer 9, plain: how a text is parsed number by number. No program in sight. -/
namespace Go.Proofs.Ytcighjeiimjbiaa.Pro
open Go.RowKit Go.Proofs.Ytcighjeiimjbiaa Go.Proofs.Ytcighjeiimjbiaa.NumPure Go.Proofs.Ytcighjeiimjbiaa.WirePure

theorem uint_no {l r : List UInt8} {x : Int} {n : Nat} (h : uv 0 0 l = (x, n, r)) (hx : x ≠ 0) : (A.ready l).uint = (0, .bad x) := by
  simp only [A.uint, h]
  rw [if_neg hx]
theorem uint_yes {l r : List UInt8} {n : Nat} (h : uv 0 0 l = (0, n, r)) : (A.ready l).uint = (n, .ready r) := by
  simp [A.uint, h]
theorem cnt_no {l r : List UInt8} {x : Int} {n : Nat} (most : Int) (h : uv 0 0 l = (x, n, r)) (hx : x ≠ 0) : (A.ready l).count most = (0, .bad x) := by
  unfold A.count
  rw [uint_no h hx]
theorem cnt_big {l r : List UInt8} {n : Nat} (most : Int) (h : uv 0 0 l = (0, n, r)) (hn : max most 0 < (n : Int)) : (A.ready l).count most = (0, .bad 3) := by
  unfold A.count
  rw [uint_yes h]
  exact if_pos hn
theorem cnt_yes {l r : List UInt8} {n : Nat} (most : Int) (h : uv 0 0 l = (0, n, r)) (hn : ¬ max most 0 < (n : Int)) : (A.ready l).count most = (n, .ready r) := by
  unfold A.count
  rw [uint_yes h]
  exact if_neg hn
theorem pa_u {l r : List UInt8} {x : Int} {n : Nat} (h : uv 0 0 l = (x, n, r)) (hx : x ≠ 0) : paA l = .bad x := by
  unfold paA A.text
  rw [cnt_no 32 h hx]
theorem pa_big {l r : List UInt8} {n : Nat} (h : uv 0 0 l = (0, n, r)) (hn : 32 < n) : paA l = .bad 3 := by
  unfold paA A.text
  rw [cnt_big 32 h (by omega)]
theorem pa_short {l r : List UInt8} {n : Nat} (h : uv 0 0 l = (0, n, r)) (hn : n ≤ 32) (hr : r.length < n) : paA l = .bad 5 := by
  unfold paA A.text
  rw [cnt_yes 32 h (by omega)]
  show (if r.length < n then _ else _ : List UInt8 × A).2 = _
  rw [if_pos hr]
theorem pa_ok {l r : List UInt8} {n : Nat} (h : uv 0 0 l = (0, n, r)) (hn : n ≤ 32) (hr : n ≤ r.length) : paN l = r.take n ∧ paA l = .ready (r.drop n) := by
  unfold paN paA A.text
  rw [cnt_yes 32 h (by omega)]
  show (if r.length < n then _ else _ : List UInt8 × A).1 = _ ∧ (if r.length < n then _ else _ : List UInt8 × A).2 = _
  rw [if_neg (by omega)]
  exact ⟨rfl, rfl⟩
theorem pb_u {l s r : List UInt8} {x : Int} {n : Nat} (ha : paA l = .ready s) (h : uv 0 0 s = (x, n, r)) (hx : x ≠ 0) : paB l = .bad x := by
  unfold paB
  rw [ha, cnt_no 16 h hx]
theorem pb_big {l s r : List UInt8} {n : Nat} (ha : paA l = .ready s) (h : uv 0 0 s = (0, n, r)) (hn : 16 < n) : paB l = .bad 3 := by
  unfold paB
  rw [ha, cnt_big 16 h (by omega)]
theorem pb_ok {l s r : List UInt8} {n : Nat} (ha : paA l = .ready s) (h : uv 0 0 s = (0, n, r)) (hn : n ≤ 16) : paC l = n ∧ paB l = .ready r := by
  unfold paC paB
  rw [ha, cnt_yes 16 h (by omega)]
  exact ⟨rfl, rfl⟩
theorem si_no {a : A} {i : Nat} {s r : List UInt8} {x : Int} {n : Nat} (ha : sI a i = .ready s) (h : uv 0 0 s = (x, n, r)) (hx : x ≠ 0) : sI a (i + 1) = .bad x := by
  rw [sI, ha]
  unfold A.int
  rw [uint_no h hx]
theorem si_yes {a : A} {i : Nat} {s r : List UInt8} {n : Nat} (ha : sI a i = .ready s) (h : uv 0 0 s = (0, n, r)) : sI a (i + 1) = .ready r ∧ vI a i = Lib.unzigzag n := by
  unfold vI
  rw [sI, ha]
  unfold A.int
  rw [uint_yes h]
  exact ⟨rfl, rfl⟩
theorem pe_i {l : List UInt8} {i : Nat} {x : Int} (h : sI (paB l) i = .bad x) (hi : i ≤ 2 * paC l + 9) : paE l = x := by
  unfold paE
  obtain ⟨j, hj⟩ : ∃ j, 2 * paC l + 9 = i + j := ⟨2 * paC l + 9 - i, by omega⟩
  rw [hj, sI_add, h, sI_bad]
  rfl
theorem pe_b {l : List UInt8} {x : Int} (h : paB l = .bad x) : paE l = x := pe_i (i := 0) h (by omega)
theorem pe_a {l : List UInt8} {x : Int} (h : paA l = .bad x) : paE l = x := by
  refine pe_b ?_
  unfold paB
  rw [h]
  rfl
theorem pe_end {l r : List UInt8} (h : sI (paB l) (2 * paC l + 9) = .ready r) : paE l = if r.length = 0 then 0 else 6 := by
  unfold paE
  rw [h]
  rfl
/-- The numbers behind the first ones. -/
def rI (a : A) (n : Nat) : List Int := (List.range n).map (vI a)
theorem rI_len (a : A) (n : Nat) : (rI a n).length = n := by simp [rI]
theorem rI_snoc (a : A) (n : Nat) : rI a (n + 1) = rI a n ++ [vI a n] := by
  unfold rI
  rw [List.range_succ, List.map_append]
  rfl
theorem rI_at (a : A) (n i : Nat) (h : i < n) : (rI a n)[i]? = some (vI a i) := by
  unfold rI
  rw [List.getElem?_map, List.getElem?_range h]
  rfl
theorem pairs_rI (a : A) (n q : Nat) (h : 2 * q ≤ n) : pairs ((rI a n).take (2 * q)) = knI a q := by
  have e : ∀ q, pairs (rI a (2 * q)) = knI a q := by
    intro q
    apply List.ext_getElem
    · rw [pairs_len, rI_len, knI_len]; omega
    · intro i h1 h2
      rw [knI_len] at h2
      have := pairs_at (rI a (2 * q)) i h1 (by rw [rI_len]; omega) (by rw [rI_len]; omega)
      rw [this]
      simp [rI, knI]
  rw [← e q]
  congr 1
  unfold rI
  rw [← List.map_take, List.take_range, Nat.min_eq_left h]
end Go.Proofs.Ytcighjeiimjbiaa.Pro

/- ProZg: Layer 9, the reference: Parse. -/
namespace Go.Proofs.Ytcighjeiimjbiaa.Pro
open Go.RowKit Go.Proofs.Ytcighjeiimjbiaa Go.Proofs.Ytcighjeiimjbiaa.NumPure Go.Proofs.Ytcighjeiimjbiaa.WirePure
open Go.Proofs.Ytcighjeiimjbiaa.Mat (al ac invM invX appM info9 info3)

theorem info64' : (Try.prog.info? 3).map (fun i => (i.zero, i.size, i.bytes)) = some (some (.int .i64 0), 1, 8) := by kernel_rfl
theorem Reads.setRow {w : World} {A : Option Addr} {n e : Nat} {xs : List Value} {B g : Nat} (h : Reads w w.heap.size e A n xs) (hn : New B A) (hg : g < B) (cs : Array Value) : Reads (w.setRow g cs) (w.setRow g cs).heap.size e A n xs := by
  refine ⟨h.1, fun h0 => ?_⟩
  obtain ⟨ad, e, hb, hc⟩ := h.2 h0
  refine ⟨ad, e, by rw [setRow_size]; exact hb, fun i u hu => ?_⟩
  have h1 := hn ad e
  exact (cell_setRow_other _ _ _ _ (by rw [block_of_add]; omega)).trans (hc i u hu)
theorem number_is {s : ByteArray} {p n : Nat} {x : Int} {r : List UInt8} (h : uv 0 0 (s.data.toList.drop p) = (x, n, r)) (w : World) (hs : s.size ≤ 140737488355328) (hp : p ≤ s.size) :
    Calls Try.prog 62 #[.string s, .int .i64 p] w fun e w' => ∃ q : Nat, e = .returned (.tuple #[.int .u64 n, .int .i64 q, .int .i64 x]) ∧ q ≤ s.size ∧ (x = 0 → s.data.toList.drop q = r) ∧ w = w' := by
  refine (number_any s p w hs hp).mono fun e w' hn => ?_
  unfold NbC at hn
  rw [h] at hn
  exact hn
theorem pcl_s (nm nm' : ByteArray) (v : Value) (m : Nat → Int) : (pcl nm v m).setIfInBounds 0 (.string nm') = pcl nm' v m := by
  unfold pcl
  rw [List.setIfInBounds_toArray]
  rfl
theorem pcl_zero : Pf.zero.cells = pcl ⟨#[]⟩ (.slice none 0 0) fun _ => 0 := rfl
/-- What stands while the reference fills its profile. -/
structure RS (w : World) (gp : Nat) (nm : ByteArray) (v : Value) (m : Nat → Int) (W : World) : Prop where
  b : Below w.heap.size w W
  z : Blk W w.heap.size 27 Pf.zero.cells
  p : Blk W gp 27 (pcl nm v m)
  o1 : w.heap.size < gp
theorem RS.below {w W W' : World} {gp : Nat} {nm : ByteArray} {v : Value} {m : Nat → Int} (h : RS w gp nm v m W) (hb : Below W.heap.size W W') : RS w gp nm v m W' :=
  ⟨h.b.trans (hb.mono h.b.size), h.z.below hb h.z.lt, h.p.below hb h.p.lt, h.o1⟩
theorem RS.grown {w W W' : World} {gp : Nat} {nm : ByteArray} {v : Value} {m : Nat → Int} {r : Option Nat} (h : RS w gp nm v m W) (hg : W.grownBy W' r) (hr : ∀ k, r = some k → gp < k) : RS w gp nm v m W' := by
  have := h.o1
  exact ⟨h.b.grown hg h.b.size (fun k hk => by have := hr k hk; omega), h.z.grown hg (fun e => by have := hr _ e.symm; omega), h.p.grown hg (fun e => by have := hr _ e.symm; omega), h.o1⟩
theorem RS.set {w W : World} {gp : Nat} {nm nm' : ByteArray} {v v' : Value} {m m' : Nat → Int} (h : RS w gp nm v m W) (i : Nat) (u : Value) (e : (pcl nm v m).setIfInBounds i u = pcl nm' v' m') : RS w gp nm' v' m' (W.setCell ⟨gp, i, none⟩ u) := by
  have := h.o1
  refine ⟨h.b.setCell (by show _ ≤ gp; omega) _, h.z.far (by show w.heap.size ≠ gp; omega) _, ?_, h.o1⟩
  have := h.p.set_ i u
  rwa [e] at this
theorem Reads.setc {w : World} {A : Option Addr} {n e : Nat} {xs : List Value} {g : Nat} {t : TypeId} {cs : Array Value} (h : Reads w w.heap.size e A n xs) (hn : New (g + 1) A) (hb : Blk w g t cs) (i : Nat) (u : Value) : Reads (w.setCell ⟨g, i, none⟩ u) (w.setCell ⟨g, i, none⟩ u).heap.size e A n xs := by
  rw [setCell_eq_setRow w g i _ _ _ _ hb]
  exact Reads.setRow h hn (Nat.lt_succ_self g) _

set_option maxRecDepth 100000 in
set_option maxHeartbeats 8000000 in
theorem rParse_any (s : ByteArray) (w : World) (hs : s.size ≤ 140737488355328) : Calls Try.prog 30 #[.string s] w (ParC s.data.toList w) := by
  obtain ⟨l, hl⟩ : ∃ l, s.data.toList = l := ⟨_, rfl⟩
  have hll : l.length = s.size := by rw [← hl]; simp
  have HL := Lib.hid hl
  have HLL := Lib.hid hll
  have hR : RS w (w.heap.size + 1) ⟨#[]⟩ (.slice none 0 0) (fun _ => 0) ((w.alloc (.cells Pf.zero.cells 27)).alloc (.cells Pf.zero.cells 27)) := by
    have hb := Bn.two w 27 27 Pf.zero.cells Pf.zero.cells
    exact ⟨hb.b, hb.get 0 rfl, hb.get 1 rfl, by omega⟩
  have HR := Lib.hid hR
  obtain ⟨x, n, r, hu⟩ : ∃ x n r, uv 0 0 (l.drop 0) = (x, n, r) := ⟨_, _, _, rfl⟩
  rw [List.drop_zero] at hu
  have hn64 : n < 18446744073709551616 := by have := uv_lt l 0 0 (by omega) (by simp); rw [hu] at this; exact this
  have C1 := fun W => number_is (s := s) (p := 0) (x := x) (n := n) (r := r) (by rw [hl, List.drop_zero]; exact hu) W hs (Nat.zero_le _)
  rw [hl]
  have HU := Lib.hid hu
  clear hl hll hR hu
  go_enter Try.func30, Try.ntmps30
  go_wp2_with (refine wpList_allocC runP rfl rfl ?_)
  refine (C1 _).mono ?_
  rintro e w1 ⟨q, rfl, hq, hqr, rfl⟩
  obtain ⟨W0, hW0⟩ : ∃ W, (w.alloc (.cells Pf.zero.cells 27)).alloc (.cells Pf.zero.cells 27) = W := ⟨_, rfl⟩
  rw [hW0] at HR ⊢
  clear C1 hW0
  obtain ⟨gp, hgp⟩ : ∃ g, w.heap.size + 1 = g := ⟨_, rfl⟩
  have hsz : (w.alloc (.cells Pf.zero.cells 27)).heap.size = gp := by rw [← hgp]; exact (size_alloc1 _ _).symm
  rw [hgp] at HR
  rw [hgp]
  clear hgp hsz
  by_cases hx : x = 0
  rotate_left
  · have h1 : (x != 0) = true := by simpa using hx
    go_wp2_with (first
      | (refine wpList_buildC (cs := Pf.zero.cells) (T := 27) rfl _ rfl builtP0 ?_)
      | (refine wpList_store_row rfl _ _ _ rfl w.heap.size Pf.zero.cells rfl rfl 27 Pf.zero.cells HR.out.z Pf.zero.info rfl Pf.zero.one ?_))
    refine bodyPost_ret (v := .tuple #[.agg Pf.zero.cells, .int .i64 x]) (results_row_tmp rfl _ _ w.heap.size 27 Pf.zero.cells _ rfl _ rfl (Blk.row HR.out.z _) Try.underlying27 rfl Pf.zero.info) rfl ?_
    exact ParC.no (paZ_fin (pe_a (pa_u HU.out hx)) hx) hx (Mat.below_setRow HR.out.b (Nat.le_refl _) _)
  subst hx
  have hqr := hqr rfl
  rw [HL.out] at hqr
  have hrl : r.length = s.size - q := by rw [← hqr, List.length_drop, HLL.out]
  have HQ := Lib.hid hqr
  clear hqr
  by_cases h32 : 32 < n
  · have h1 : (32 : Int) < n := by omega
    go_wp2_with (first
      | (refine wpList_buildC (cs := Pf.zero.cells) (T := 27) rfl _ rfl builtP0 ?_)
      | (refine wpList_store_row rfl _ _ _ rfl w.heap.size Pf.zero.cells rfl rfl 27 Pf.zero.cells HR.out.z Pf.zero.info rfl Pf.zero.one ?_))
    refine bodyPost_ret (v := .tuple #[.agg Pf.zero.cells, .int .i64 3]) (results_row_tmp rfl _ _ w.heap.size 27 Pf.zero.cells _ rfl _ rfl (Blk.row HR.out.z _) Try.underlying27 rfl Pf.zero.info) rfl ?_
    exact ParC.no (paZ_fin (pe_a (pa_big HU.out h32)) (by decide)) (by decide) (Mat.below_setRow HR.out.b (Nat.le_refl _) _)
  have v1 : ¬ (32 : Int) < n := by omega
  have v2 : IntKind.i64.wrap (n : Int) = n := IntWalk.i64_in _ (by omega)
  have v3 : IntKind.i64.wrap ((s.size : Int) - q) = (s.size : Int) - q := IntWalk.i64_in _ (by omega)
  by_cases hsh : r.length < n
  · have h1 : (s.size : Int) - q < n := by omega
    have HSH := Lib.hid hsh
    clear hrl hsh
    go_wp2_with (first
      | (refine wpList_buildC (cs := Pf.zero.cells) (T := 27) rfl _ rfl builtP0 ?_)
      | (refine wpList_store_row rfl _ _ _ rfl w.heap.size Pf.zero.cells rfl rfl 27 Pf.zero.cells HR.out.z Pf.zero.info rfl Pf.zero.one ?_))
    refine bodyPost_ret (v := .tuple #[.agg Pf.zero.cells, .int .i64 5]) (results_row_tmp rfl _ _ w.heap.size 27 Pf.zero.cells _ rfl _ rfl (Blk.row HR.out.z _) Try.underlying27 rfl Pf.zero.info) rfl ?_
    exact ParC.no (paZ_fin (pe_a (pa_short HU.out (by omega) HSH.out)) (by decide)) (by decide) (Mat.below_setRow HR.out.b (Nat.le_refl _) _)
  have h1 : ¬ (s.size : Int) - q < n := by omega
  have v4 : IntKind.i64.wrap ((q : Int) + n) = (q : Int) + n := IntWalk.i64_in _ (by omega)
  have hqn : q + n ≤ s.size := by omega
  obtain ⟨hN, hA⟩ := pa_ok HU.out (by omega) (by omega : n ≤ r.length)
  have hext : s.extract q (q + n) = bs (paN l) := by
    rw [WireRd.extract_eq, HL.out, HQ.out, hN]
    rfl
  have hrd : r.drop n = l.drop (q + n) := by rw [← HQ.out, List.drop_drop]
  rw [hrd] at hA
  obtain ⟨y, c, r2, hu2⟩ : ∃ a b d, uv 0 0 (l.drop (q + n)) = (a, b, d) := ⟨_, _, _, rfl⟩
  have hc64 : c < 18446744073709551616 := by have := uv_lt (l.drop (q + n)) 0 0 (by omega) (by simp); rw [hu2] at this; exact this
  have C2 := fun W => number_is (s := s) (p := q + n) (x := y) (n := c) (r := r2) (by rw [HL.out]; exact hu2) W hs hqn
  have HR1 := Lib.hid (HR.out.set 0 (.string (bs (paN l))) (pcl_s _ (bs (paN l)) _ _))
  have d1 : W0.cell? ⟨gp, 0, none⟩ = some (.string ⟨#[]⟩) := HR.out.p.cell 0
  have d2 : ∀ o, W0.frozen? ⟨gp, o, none⟩ = false := HR.out.p.frozen
  have HA := Lib.hid hA
  have HU2 := Lib.hid hu2
  clear hN hA hrd hu2 hrl hsh HR
  go_wp2_with fail
  obtain ⟨W1, hW1⟩ : ∃ W, W0.setCell ⟨gp, 0, none⟩ (.string (bs (paN l))) = W := ⟨_, rfl⟩
  rw [hW1] at HR1 ⊢
  have C3 := C2 W1
  rw [Int.natCast_add] at C3
  refine C3.mono ?_
  rintro e w2 ⟨p, rfl, hp, hpr, rfl⟩
  clear C2 C3 hW1 d1 d2 hext v2 v3 v4 v1 h1 hqr
  by_cases hy : y = 0
  rotate_left
  · have h1 : (y != 0) = true := by simpa using hy
    have HR := HR1
    go_wp2_with (first
      | (refine wpList_buildC (cs := Pf.zero.cells) (T := 27) rfl _ rfl builtP0 ?_)
      | (refine wpList_store_row rfl _ _ _ rfl w.heap.size Pf.zero.cells rfl rfl 27 Pf.zero.cells HR.out.z Pf.zero.info rfl Pf.zero.one ?_))
    refine bodyPost_ret (v := .tuple #[.agg Pf.zero.cells, .int .i64 y]) (results_row_tmp rfl _ _ w.heap.size 27 Pf.zero.cells _ rfl _ rfl (Blk.row HR.out.z _) Try.underlying27 rfl Pf.zero.info) rfl ?_
    exact ParC.no (paZ_fin (pe_b (pb_u HA.out HU2.out hy)) hy) hy (Mat.below_setRow HR.out.b (Nat.le_refl _) _)
  subst hy
  have hpr := hpr rfl
  rw [HL.out] at hpr
  by_cases h16 : 16 < c
  · have h1 : (16 : Int) < c := by omega
    have HR := HR1
    clear hpr
    go_wp2_with (first
      | (refine wpList_buildC (cs := Pf.zero.cells) (T := 27) rfl _ rfl builtP0 ?_)
      | (refine wpList_store_row rfl _ _ _ rfl w.heap.size Pf.zero.cells rfl rfl 27 Pf.zero.cells HR.out.z Pf.zero.info rfl Pf.zero.one ?_))
    refine bodyPost_ret (v := .tuple #[.agg Pf.zero.cells, .int .i64 3]) (results_row_tmp rfl _ _ w.heap.size 27 Pf.zero.cells _ rfl _ rfl (Blk.row HR.out.z _) Try.underlying27 rfl Pf.zero.info) rfl ?_
    exact ParC.no (paZ_fin (pe_b (pb_big HA.out HU2.out h16)) (by decide)) (by decide) (Mat.below_setRow HR.out.b (Nat.le_refl _) _)
  have v1 : ¬ (16 : Int) < c := by omega
  have v2 : IntKind.i64.wrap (c : Int) = c := IntWalk.i64_in _ (by omega)
  have v3 : IntKind.i64.wrap (2 * (c : Int)) = 2 * (c : Int) := IntWalk.i64_in _ (by omega)
  have v4 : IntKind.i64.wrap (2 * (c : Int) + 9) = 2 * (c : Int) + 9 := IntWalk.i64_in _ (by omega)
  obtain ⟨hC, hB⟩ := pb_ok HA.out HU2.out (by omega)
  obtain ⟨B, hBB⟩ : ∃ B, paB l = B := ⟨_, rfl⟩
  have hb0 : sI B 0 = .ready (l.drop p) := by rw [← hBB, hpr]; exact hB
  have HC := Lib.hid hC
  have HB := Lib.hid hBB
  have HB0 := Lib.hid hb0
  have hW1 := HR1.out.p.lt
  clear hC hB hBB hb0 hpr
  obtain ⟨t0, hi0, hz0, hz1, hz2⟩ := info_parts info64'
  go_wp2_with fail
  go_loopw [6, 9, 10] (fun va vl vi wr => ∃ (i p : Nat), va = .int .i64 p ∧ vi = .int .i64 i ∧ i ≤ 2 * c + 9 ∧ p ≤ s.size ∧ sI B i = .ready (l.drop p) ∧ wr.ownsRow W1.heap.size 3 1 vl i ((rI B i).map (Value.int .i64)) ∧ RS w gp (bs (paN l)) (.slice none 0 0) (fun _ => 0) wr ∧ W1.heap.size ≤ wr.heap.size) (fun _ _ vi _ => 2 * c + 9 - (intOf vi).toNat)
  case atStart => exact ⟨0, p, rfl, rfl, by omega, hp, HB0.out, World.ownsRow_nil _ _ _ _, HR1.out, Nat.le_refl _⟩
  case round =>
    clear HB0 HR1
    obtain ⟨i, p, rfl, rfl, hi, hp, hsi, hown, hrs, hsz⟩ := hrel
    have HR := Lib.hid hrs
    have HS := Lib.hid hsi
    have HO := Lib.hid hown
    clear hrs hsi hown
    by_cases hlt : i < 2 * c + 9
    · have h1 : (i : Int) < 2 * (c : Int) + 9 := by omega
      obtain ⟨y, n, r, hu⟩ : ∃ a b d, uv 0 0 (l.drop p) = (a, b, d) := ⟨_, _, _, rfl⟩
      have hn64 : n < 18446744073709551616 := by have := uv_lt (l.drop p) 0 0 (by omega) (by simp); rw [hu] at this; exact this
      have C2 := number_is (s := s) (p := p) (x := y) (n := n) (r := r) (by rw [HL.out]; exact hu) wr hs hp
      have HU := Lib.hid hu
      clear hu
      go_wp2_with fail
      refine C2.mono ?_
      rintro e w3 ⟨p', rfl, hp', hpr', rfl⟩
      clear C2
      by_cases hy : y = 0
      rotate_left
      · have h1 : (y != 0) = true := by simpa using hy
        go_wp2_with (first
          | (refine wpList_buildC (cs := Pf.zero.cells) (T := 27) rfl _ rfl builtP0 ?_)
          | (refine wpList_store_row rfl _ _ _ rfl w.heap.size Pf.zero.cells rfl rfl 27 Pf.zero.cells HR.out.z Pf.zero.info rfl Pf.zero.one ?_))
        refine bodyPost_ret (v := .tuple #[.agg Pf.zero.cells, .int .i64 y]) (results_row_tmp rfl _ _ w.heap.size 27 Pf.zero.cells _ rfl _ rfl (Blk.row HR.out.z _) Try.underlying27 rfl Pf.zero.info) rfl ?_
        exact ParC.no (paZ_fin (pe_i (by rw [HB.out]; exact si_no HS.out HU.out hy) (by rw [HC.out]; omega)) hy) hy (Mat.below_setRow HR.out.b (Nat.le_refl _) _)
      subst hy
      have hpr' := hpr' rfl
      rw [HL.out] at hpr'
      obtain ⟨hs1, hv1⟩ := si_yes HS.out HU.out
      rw [← hpr'] at hs1
      have HS1 := Lib.hid hs1
      have HV1 := Lib.hid hv1
      clear hs1 hv1 hpr' HS
      go_wp2_with fail
      refine (signed_any n _ hn64).mono ?_
      rintro e w4 ⟨rfl, rfl⟩
      rw [← HV1.out]
      obtain ⟨A, cp, rfl, _⟩ := own_open HO.out
      go_wp2_with (at_builtin; refine wpList_append_own _ rfl _ _ 67 rfl W1.heap.size 3 t0 (.int .i64 0) 1 8 Try.underlying67 hi0 hz0 hz1 hz2 rfl (by decide) _ _ _ rfl (HO.out.alloc _) ⟨wr.heap.size, 0, none⟩ 1 1 [.int .i64 (vI B i)] rfl rfl (World.news_of_block (Blk.new _ _ _)) ?c2 ?c3 ?c4 ?c5 ?_)
      case c2 => intro u hu; simp at hu; subst hu; rfl
      case c3 => unfold maxLen; omega
      case c4 => omega
      case c5 => simp; omega
      intro v' w5 hown' hgrow _
      have HR5 := Lib.hid ((HR.out.grown (World.grownBy_alloc wr (.cells #[.int .i64 (vI B i)] 3) none) (fun _ h => by cases h)).grown hgrow (fun k hk => by have := own_low HO.out k hk; omega))
      have hsz5 := hgrow.size
      have e : (rI B i).map (Value.int .i64) ++ [Value.int .i64 (vI B i)] = (rI B (i + 1)).map (Value.int .i64) := by rw [rI_snoc, List.map_append]; rfl
      rw [e] at hown'
      obtain ⟨A', cp', rfl, _⟩ := own_open hown'
      have HO5 := Lib.hid hown'
      have hsz6 : W1.heap.size ≤ w5.heap.size := by simp at hsz5; omega
      clear hown' hgrow hsz5 e HO HR
      go_wp2_with fail
      go_roundw
      case rel => exact ⟨i + 1, p', rfl, by go_num, by omega, hp', HS1.out, HO5.out, HR5.out, hsz6⟩
      case measure => simp [intOf]; omega
    · obtain rfl : i = 2 * c + 9 := by omega
      have h1 : ¬ (((2 * c + 9 : Nat) : Int) < 2 * (c : Int) + 9) := by omega
      have h2 : (0 : Int) ≤ 2 * (c : Int) := by omega
      have h3 : (2 * (c : Int)).toNat = 2 * c := by omega
      obtain ⟨A, cp, rfl, hcp, _⟩ := own_open HO.out
      have h4 : 2 * c ≤ cp := by omega
      by_cases hend : p < s.size
      · have HE : Hid (paE l = 6) := Lib.hid (by
          rw [pe_end (by rw [HB.out, HC.out]; exact HS.out), if_neg (by rw [List.length_drop, HLL.out]; omega)])
        have h5 : (p : Int) < s.size := by omega
        go_wp2_with (first
          | (refine wpList_buildC (cs := Pf.zero.cells) (T := 27) rfl _ rfl builtP0 ?_)
          | (refine wpList_store_row rfl _ _ _ rfl w.heap.size Pf.zero.cells rfl rfl 27 Pf.zero.cells HR.out.z Pf.zero.info rfl Pf.zero.one ?_))
        refine bodyPost_ret (v := .tuple #[.agg Pf.zero.cells, .int .i64 6]) (results_row_tmp rfl _ _ w.heap.size 27 Pf.zero.cells _ rfl _ rfl (Blk.row HR.out.z _) Try.underlying27 rfl Pf.zero.info) rfl ?_
        exact ParC.no (paZ_fin HE.out (by decide)) (by decide) (Mat.below_setRow HR.out.b (Nat.le_refl _) _)
      have HE : Hid (paE l = 0) := Lib.hid (by
        rw [pe_end (by rw [HB.out, HC.out]; exact HS.out), if_pos (by rw [List.length_drop, HLL.out]; omega)])
      have h5 : ¬ (p : Int) < s.size := by omega
      clear HS
      have hfull : IntR wr A (rI B (2 * c + 9)) := by
        obtain ⟨A1, c1, e, _, hr⟩ := own_open HO.out
        injection e with e1 _ _
        rw [← e1] at hr
        unfold IntR
        rw [rI_len]
        exact hr
      obtain ⟨xs, hxs⟩ : ∃ xs, (rI B (2 * c + 9)).take (2 * c) = xs := ⟨_, rfl⟩
      have hxl : xs.length = 2 * c := by rw [← hxs, List.length_take, rI_len]; omega
      have hpx : pairs xs = knI B c := by rw [← hxs]; exact pairs_rI _ _ _ (by omega)
      have hpart : IntR wr A xs := by
        refine ⟨by simp, fun h0 => ?_⟩
        obtain ⟨ad, e, hb, hc⟩ := hfull.2 (by rw [rI_len]; omega)
        refine ⟨ad, e, hb, fun i u hu => hc i u ?_⟩
        rw [← hxs, List.getElem?_map] at hu
        rw [List.getElem?_map]
        have hi : i < 2 * c := by
          rcases Nat.lt_or_ge i (2 * c) with h | h
          · exact h
          · rw [List.getElem?_eq_none (by rw [List.length_take, rI_len]; omega)] at hu; cases hu
        rwa [List.getElem?_take_of_lt hi] at hu
      have C4 := rknots_any A xs cp wr hpart (by omega)
      rw [hxl] at C4
      unfold KnC at C4
      rw [hpx, knI_len] at C4
      have NA : Hid (New (gp + 1) A) := Lib.hid ((own_new HO.out).of_le (by omega))
      have HF := Lib.hid hfull
      have HGW : gp + 1 ≤ wr.heap.size := HR.out.p.lt
      clear hfull hxs hxl hpx hpart HO
      go_wp2_with fail
      refine C4.mono ?_
      rintro e w4 ⟨A2, cp2, rfl, hk, hnw, hb⟩
      have d1 : w4.cell? ⟨gp, 1, none⟩ = some (.slice none 0 0) := (HR.out.below hb).p.cell 1
      have d2 : ∀ o, w4.frozen? ⟨gp, o, none⟩ = false := (HR.out.below hb).p.frozen
      have HR6 := Lib.hid ((HR.out.below hb).set 1 (.slice A2 c cp2) (pcl_v _ _ _ _))
      have NA2 : Hid (New (gp + 1) A2) := Lib.hid (hnw.of_le HGW)
      have HF6 := Lib.hid (Reads.setc (HF.out.below hb) NA.out (HR.out.below hb).p 1 (.slice A2 c cp2))
      have HK6 := Lib.hid (Reads.setc hk NA2.out (HR.out.below hb).p 1 (.slice A2 c cp2))
      clear C4 hk hnw hb HR HF
      go_wp2_with fail
      clear d1 d2
      go_loopw [98] (fun vi W => ∃ q : Nat, vi = .int .i64 q ∧ q ≤ 9 ∧ RS w gp (bs (paN l)) (.slice A2 c cp2) (mI B (2 * c) q) W ∧ IntR W A (rI B (2 * c + 9)) ∧ KnR W A2 (knI B c)) (fun vi _ => 9 - (intOf vi).toNat)
      case atStart => exact ⟨0, rfl, by omega, HR6.out, HF6.out, HK6.out⟩
      case round =>
        clear HR6 HF6 HK6
        obtain ⟨q, rfl, hq, hrs, hfr, hkr⟩ := hrel
        by_cases hq9 : q < 9
        · have v5 : IntKind.i64.wrap (2 * (c : Int) + q) = 2 * (c : Int) + q := IntWalk.i64_in _ (by omega)
          have g1 : (0 : Int) ≤ 2 * (c : Int) + q := by omega
          have g2 : (2 * (c : Int) + q).toNat = 2 * c + q := by omega
          have g3 : 2 * (c : Int) + q < ((2 * c + 9 : Nat) : Int) := by omega
          obtain ⟨ad, e, hab, hc⟩ := hfr.2 (by rw [rI_len]; omega)
          have hcell := hc (2 * c + q) (.int .i64 (vI B (2 * c + q))) (by rw [List.getElem?_map, rI_at _ _ _ (by omega)]; rfl)
          have d1 : wr.cell? ⟨gp, 2 + q, none⟩ = some (.int .i64 (mI B (2 * c) q q)) := by
            have h := hrs.p.cell (2 + q)
            rw [h]
            simp [pcl, al, Nat.add_comm 2 q, hq9]
          have d2 : ∀ o, wr.frozen? ⟨gp, o, none⟩ = false := hrs.p.frozen
          have HR7 := Lib.hid (hrs.set (2 + q) (.int .i64 (vI B (2 * c + q))) (pcl_m _ _ _ _ _))
          rw [mI_step] at HR7
          have HF7 := Lib.hid (Reads.setc hfr NA.out hrs.p (2 + q) (.int .i64 (vI B (2 * c + q))))
          have HK7 := Lib.hid (Reads.setc hkr NA2.out hrs.p (2 + q) (.int .i64 (vI B (2 * c + q))))
          rw [e] at HF7 ⊢
          clear hc hfr hkr hrs hab
          go_wp2_with fail
          go_roundw
          case rel => exact ⟨q + 1, by go_num, by omega, HR7.out, HF7.out, HK7.out⟩
          case measure => simp [intOf]; omega
        · obtain rfl : q = 9 := by omega
          obtain ⟨pf, hpf⟩ : ∃ p : Pf, Pf.mk (bs (paN l)) A2 cp2 (knI B c) (mI B (2 * c) 9) = p := ⟨_, rfl⟩
          have hpc : pcl (bs (paN l)) (.slice A2 c cp2) (mI B (2 * c) 9) = pf.cells := by
            rw [← hpf]
            unfold Pf.cells Pf.lst
            rw [knI_len]
            rfl
          have hpr : PfR wr pf := by
            rw [← hpf]
            refine ⟨hkr, ?_⟩
            show (bs (paN l)).size ≤ _
            rw [bs_size]
            have := paN_le l
            omega
          have hb2 := hrs.p
          rw [hpc] at hb2
          have HB2 := Lib.hid hb2
          have HRS := Lib.hid hrs
          have HPC := Lib.hid hpc
          have HPP := Lib.hid hpf
          have CC := rCheck_any pf wr hpr
          obtain ⟨z, hz⟩ : ∃ z, pErr pf = z := ⟨_, rfl⟩
          unfold ChkC at CC
          rw [hz] at CC
          unfold Pf.val at CC
          have hpz : paZ l = z := by
            refine paZ_chk (p := pf) HE.out (by rw [← HPP.out]) (by rw [← HPP.out]; unfold paK; rw [HB.out, HC.out]) (fun i hi => ?_) hz
            rw [← HPP.out]
            show mI B (2 * c) 9 i = _
            unfold mI paM
            rw [if_pos hi, HB.out, HC.out]
          have HZ := Lib.hid hpz
          have HKR := Lib.hid hpr.kn
          clear hpz hpr hb2 hpc hpf hz hfr hkr hrs
          go_wp2_with (refine wpList_load_row rfl _ _ rfl gp rfl 27 pf.cells (0, 0) _ HB2.out Try.underlying27 rfl pf.info ?_)
          refine CC.mono ?_
          rintro e w6 ⟨rfl, hb⟩
          have HR := Lib.hid (HRS.out.below hb)
          have b3 := HR.out.p
          rw [HPC.out] at b3
          have B3 := Lib.hid b3
          have HKR2 := Lib.hid (HKR.out.below hb)
          have hgp := HR.out.o1
          clear b3 HB2 HRS HKR CC hb
          by_cases hz0 : z = 0
          rotate_left
          · have h1 : (z != 0) = true := by simpa using hz0
            go_wp2_with (first
              | (refine wpList_buildC (cs := Pf.zero.cells) (T := 27) rfl _ rfl builtP0 ?_)
              | (refine wpList_store_row rfl _ _ _ rfl w.heap.size Pf.zero.cells rfl rfl 27 Pf.zero.cells HR.out.z Pf.zero.info rfl Pf.zero.one ?_))
            refine bodyPost_ret (v := .tuple #[.agg Pf.zero.cells, .int .i64 z]) (results_row_tmp rfl _ _ w.heap.size 27 Pf.zero.cells _ rfl _ rfl (Blk.row HR.out.z _) Try.underlying27 rfl Pf.zero.info) rfl ?_
            exact ParC.no HZ.out hz0 (Mat.below_setRow HR.out.b (Nat.le_refl _) _)
          subst hz0
          go_wp2_with (first
            | (refine wpList_load_row rfl _ _ rfl gp rfl 27 pf.cells (0, 0) _ B3.out Try.underlying27 rfl pf.info ?_)
            | (refine wpList_store_row rfl _ _ _ rfl w.heap.size pf.cells rfl rfl 27 Pf.zero.cells HR.out.z pf.info (by rw [Pf.size, Pf.size]) pf.one ?_))
          refine bodyPost_ret (v := .tuple #[.agg pf.cells, .int .i64 0]) (results_row_tmp rfl _ _ w.heap.size 27 pf.cells _ rfl _ rfl (Blk.row HR.out.z _) Try.underlying27 rfl pf.info) rfl ?_
          have hq : pf.cells = (Pf.mk (bs (paN l)) A2 cp2 (knI B c) (paM l)).cells := by
            rw [← HPP.out]
            unfold Pf.cells Pf.lst
            show (_ :: _ :: al 9 (mI B (2 * c) 9)).toArray = (_ :: _ :: al 9 (paM l)).toArray
            rw [al_ext (f := paM l) fun i hi => by unfold mI paM; rw [if_pos hi, HB.out, HC.out]]
          rw [hq]
          have hkk : pf.A = A2 ∧ pf.k = knI B c := by rw [← HPP.out]; exact ⟨rfl, rfl⟩
          have hkr := KnR.setRow (g := w.heap.size) HKR2.out (hkk.1 ▸ NA2.out) (by omega) (Pf.mk (bs (paN l)) A2 cp2 (knI B c) (paM l)).cells
          rw [hkk.1, hkk.2] at hkr
          exact ParC.yes HZ.out (by unfold paK; rw [HB.out, HC.out]) hkr (Mat.below_setRow HR.out.b (Nat.le_refl _) _)
end Go.Proofs.Ytcighjeiimjbiaa.Pro

/- ProEx: Layer 9, plain: the examples of the chapter. -/
namespace Go.Proofs.Ytcighjeiimjbiaa.Pro
open Go.RowKit Go.Proofs.Ytcighjeiimjbiaa Go.Proofs.Ytcighjeiimjbiaa.NumPure Go.Proofs.Ytcighjeiimjbiaa.WirePure

def pf0 (A : Option Addr) (c : Nat) : Pf := ⟨stN0, A, c, stK0, stM0⟩
def pf1 (A : Option Addr) (c : Nat) : Pf := ⟨stN1, A, c, stK1, stM1⟩
def pf3 (A : Option Addr) (c : Nat) : Pf := ⟨stN3, A, c, stK3, stM3⟩
theorem nm0 : nmB stN0 = true := by decide +kernel
theorem nm3 : nmB stN3 = true := by decide +kernel
theorem ris0 : kRis stK0 = true := by decide +kernel
theorem ris3 : kRis stK3 = true := by decide +kernel
theorem inv0 : Mat.invX stM0 = 0 := by decide +kernel
theorem inv3 : Mat.invX stM3 = 0 := by decide +kernel
theorem ok0 (A : Option Addr) (c : Nat) : pErr (pf0 A c) = 0 := pErr_ok nm0 ris0 inv0
theorem ok3 (A : Option Addr) (c : Nat) : pErr (pf3 A c) = 0 := pErr_ok nm3 ris3 inv3
theorem invM0 : ∀ j, j < 9 → Mat.invM stM0 j = stM0 j := by decide +kernel
theorem enc0 : pixV (Mat.invM stM0) (kInv stK0) (l3 70000 (-1) 5) 65535 = (65535, 0, 5, 65535) := by decide +kernel
theorem ex_enc (A : Option Addr) (c : Nat) : encV (pf0 A c) (l3 70000 (-1) 5) 65535 = (65535, 0, 5, 65535) := by rw [← encV_ok (ok0 A c)]; exact enc0
theorem same_self (p : Pf) : sameB p p = true := by
  unfold sameB
  rw [(eqS_iff _ _).2 rfl, (eqM_iff _ _).2 fun _ _ => rfl]
  simp
theorem c00 (A B : Option Addr) (c d : Nat) : cErr (pf0 A c) (pf0 B d) = 0 := by unfold cErr; rw [ok0, ok0]; rfl
theorem c03 (A B : Option Addr) (c d : Nat) : cErr (pf0 A c) (pf3 B d) = 0 := by unfold cErr; rw [ok0, ok3]; rfl
theorem ex_cnv (A : Option Addr) (c : Nat) : cnvV (pf0 A c) (pf0 A c) (5, 6, 7, 0) = (5, 6, 7, 0) := by
  rw [← cnvV_ok (c00 A A c c), ← cnv0_same (same_self _)]
  decide
theorem s03 (A B : Option Addr) (c d : Nat) : sameB (pf0 A c) (pf3 B d) = false := by
  have h : eqS stN0 stN3 = false := by
    rw [Bool.eq_false_iff, ne_eq, eqS_iff]
    decide
  unfold sameB
  show (eqS stN0 stN3 && _ && _) = false
  rw [h]; rfl
theorem ex_cnv3 (A B : Option Addr) (c d : Nat) : cnvV (pf0 A c) (pf3 B d) (5, 6, 7, 0) = (0, 0, 0, 0) := by
  rw [← cnvV_ok (c03 A B c d)]
  unfold cnv0
  rw [if_neg (by simp [s03])]
  unfold pixV
  rw [if_pos (by decide)]
theorem lin3 : ∀ j, j < 3 → Mat.appM stM3 (l3 (kAt stK3 (unt 16384)) (kAt stK3 (unt 0)) (kAt stK3 (unt 0))) j = l3 7500 250 0 j := by decide +kernel
theorem ex_lin (A : Option Addr) (c : Nat) : ∀ j, j < 3 → linV (pf3 A c) (16384, 0, 0, 65535) j = l3 7500 250 0 j := by
  unfold linV
  rw [if_pos (ok3 A c)]
  exact lin3
theorem zz0 : zz 0 = [0] := by unfold zz; rw [show Lib.zigzag 0 = 0 from rfl, Lib.uvarint_small (by decide)]; rfl
theorem zzU : zz 65535 = [254, 255, 7] := by unfold zz; rw [show Lib.zigzag 65535 = 131070 from rfl, Lib.uvarint_big (by decide), Lib.uvarint_big (by decide), Lib.uvarint_small (by decide)]; rfl
theorem zzO : zz 65536 = [128, 128, 8] := by unfold zz; rw [show Lib.zigzag 65536 = 131072 from rfl, Lib.uvarint_big (by decide), Lib.uvarint_big (by decide), Lib.uvarint_small (by decide)]; rfl
theorem m0 : (List.range 9).map stM0 = [65536, 0, 0, 0, 65536, 0, 0, 0, 65536] := by decide
theorem len0 : (encP stN0 stK0 stM0).length = 31 := by
  rw [encP_nums, nums, m0]
  simp only [stK0, List.flatMap_cons, List.flatMap_nil, List.append_nil, List.cons_append, List.nil_append, zz0, zzU, zzO]
  rw [Lib.uvarint_small (by decide), Lib.uvarint_small (by decide)]
  rfl
def eb0 : List UInt8 := encP stN0 stK0 stM0
theorem ex_enb (A : Option Addr) (c : Nat) : encB (pf0 A c) = eb0 := by unfold encB; rw [if_pos (ok0 A c)]; rfl
theorem ex_none : paZ [] = 5 := by
  have h : paE [] = 5 := by
    unfold paE
    have : paB [] = .bad 5 := rfl
    rw [this, sI_bad]; rfl
  unfold paZ
  rw [h, if_neg (by decide)]
/-- A text with bytes behind it. -/
theorem pa_more (s : ByteArray) (k : List K2) (m : Nat → Int) (t : List UInt8) (hs : s.size ≤ 32) (hk : k.length ≤ 16) (hk2 : ∀ x ∈ k, in6 x.1 ∧ in6 x.2) (hm : ∀ j, j < 9 → in6 (m j)) (ht : t ≠ []) : paZ (encP s k m ++ t) = 6 := by
  have hsz : s.data.toList.length = s.size := by simp
  obtain ⟨L, hL⟩ : ∃ L, encP s k m ++ t = L := ⟨_, rfl⟩
  rw [hL]
  rw [encP_nums] at hL
  have h1 : (A.ready L).text 32 = (s.data.toList, .ready (Lib.uvarint k.length ++ ((nums k m).flatMap zz ++ t))) := by
    rw [← hL]
    simp only [List.append_assoc]
    exact text_enc _ _ 32 (by omega) (by omega)
  have h2 : (A.ready (Lib.uvarint k.length ++ ((nums k m).flatMap zz ++ t))).count 16 = (k.length, .ready ((nums k m).flatMap zz ++ t)) := count_enc _ _ 16 (by omega) (by omega)
  have hA : paA L = .ready (Lib.uvarint k.length ++ ((nums k m).flatMap zz ++ t)) := by unfold paA; rw [h1]
  have hB : paB L = .ready ((nums k m).flatMap zz ++ t) := by unfold paB; rw [hA, h2]
  have hC : paC L = k.length := by unfold paC; rw [hA, h2]
  have h3 : paE L = 6 := by
    unfold paE
    rw [hB, hC, ← nums_len k m, (sI_enc _ t (nums_in hk2 hm)).1]
    show (if t.length = 0 then 0 else 6 : Int) = 6
    rw [if_neg (by simpa using ht)]
  unfold paZ
  rw [h3, if_neg (by decide)]
theorem ex_more : paZ (eb0 ++ [120]) = 6 := by
  obtain ⟨h1, h2, h3, h4, h5⟩ := pErr_in (ok0 none 0)
  exact pa_more stN0 stK0 stM0 [120] h1 h3 h4 h5 (by simp)
theorem ex_bad1 : pErr Pf.zero = 13 := pErr_name (by decide +kernel)
def pfx : Pf := ⟨⟨#[120]⟩, none, 0, [], fun _ => 0⟩
theorem ex_bad2 : pErr pfx = 16 := pErr_ris (by decide +kernel) (by decide +kernel)
end Go.Proofs.Ytcighjeiimjbiaa.Pro
