/-
  Layer 21: the pattern's errors; the length of a line (program).
-/
import Derived.Test.YtflopcogalknhaaDoorKStrDq
set_option linter.unusedVariables false
set_option linter.unusedSimpArgs false
namespace Go.Proofs.YtflopcogalknhaaDoor.Str
open Go.RowKit Go.Proofs.YtflopcogalknhaaDoor Go.Proofs.YtflopcogalknhaaDoor.NumPure

/-- Numbers that are read. -/
abbrev InR (w : World) (A : Option Addr) (l : List Int) : Prop := Reads w w.heap.size 1 A l.length (l.map (Value.int .i64))
theorem InR.below {w w' : World} {A : Option Addr} {l : List Int} (h : InR w A l) (hb : Below w.heap.size w w') : InR w' A l := (Reads.below h hb).more hb.size
theorem InR.addr {w : World} {A : Option Addr} {l : List Int} (h : InR w A l) (h0 : 0 < l.length) : ∃ ad, A = some ad ∧ ad.block < w.heap.size := by
  obtain ⟨ad, e, hb, _⟩ := h.2 h0
  exact ⟨ad, e, hb⟩
theorem InR.cell {w : World} {ad : Addr} {l : List Int} (h : InR w (some ad) l) (i : Nat) (hi : i < l.length) : w.cell? (ad.add i) = some (.int .i64 (l.getD i 0)) := by
  obtain ⟨a, e, _, hc⟩ := h.2 (by omega)
  injection e with e
  subst e
  exact hc i _ (by rw [List.getElem?_map, List.getD_eq_getElem?_getD, List.getElem?_eq_getElem hi]; rfl)
theorem ptn_bad {p : List Int} {o : Int} (h0 : p.length ≠ 0) (h1 : p.length ≤ 16) {k : Nat} (hk : k < p.length) (hb : p.getD k 0 < 1 ∨ 1048576 < p.getD k 0) : ptnE p o = 2 := by
  unfold ptnE
  rw [if_neg (by omega), if_pos]
  rw [List.any_eq_true]
  refine ⟨p[k], List.getElem_mem hk, ?_⟩
  rw [List.getD_eq_getElem?_getD, List.getElem?_eq_getElem hk] at hb
  simp only [Option.getD_some] at hb
  simp only [Bool.or_eq_true, decide_eq_true_eq]
  exact hb
theorem ptn_good {p : List Int} {o : Int} (h0 : p.length ≠ 0) (h1 : p.length ≤ 16) (hb : ∀ k, k < p.length → ¬ (p.getD k 0 < 1 ∨ 1048576 < p.getD k 0)) : ptnE p o = if o < 0 ∨ 1048576 < o then 2 else 0 := by
  unfold ptnE
  rw [if_neg (by omega), if_neg]
  rw [List.any_eq_true]
  rintro ⟨x, hx, hd⟩
  obtain ⟨k, hk, rfl⟩ := List.getElem_of_mem hx
  have := hb k hk
  rw [List.getD_eq_getElem?_getD, List.getElem?_eq_getElem hk] at this
  simp only [Option.getD_some] at this
  simp only [Bool.or_eq_true, decide_eq_true_eq] at hd
  exact this hd
set_option maxRecDepth 100000 in
set_option maxHeartbeats 2000000 in
theorem checkPattern_any (A : Option Addr) (p : List Int) (c : Nat) (o : Int) (w : World) (h : InR w A p) (hl : p.length ≤ 4611686018427387904) : Calls Tryd.prog 26 #[.slice A p.length c, .int .i64 o] w fun e w' => e = .returned (.int .i64 (ptnE p o)) ∧ w = w' := by
  obtain ⟨n, hn⟩ : ∃ n, p.length = n := ⟨_, rfl⟩
  rw [hn] at hl ⊢
  have HN := Lib.hid hn
  have HR := Lib.hid h
  clear h hn
  by_cases h0 : n = 0
  · subst h0
    have HE : Hid (ptnE p o = 1) := Lib.hid (by unfold ptnE; rw [if_pos (Or.inl HN.out)])
    go_enter Tryd.func26, Tryd.ntmps26
    go_wp2_with fail
    go_ret
    exact ⟨by rw [HE.out]; rfl, rfl⟩
  have z0 : ((n : Int) == 0) = false := beq_eq_false_iff_ne.2 (by omega)
  by_cases h1 : 16 < n
  · have HE : Hid (ptnE p o = 1) := Lib.hid (by unfold ptnE; rw [if_pos (Or.inr (by rw [HN.out]; exact h1))])
    have z1 : decide ((16 : Int) < (n : Int)) = true := decide_eq_true (by omega)
    go_enter Tryd.func26, Tryd.ntmps26
    go_wp2_with fail
    go_ret
    exact ⟨by rw [HE.out]; rfl, rfl⟩
  have z1 : decide ((16 : Int) < (n : Int)) = false := decide_eq_false (by omega)
  have HBAD : Hid (∀ k, k < n → (p.getD k 0 < 1 ∨ 1048576 < p.getD k 0) → ptnE p o = 2) := Lib.hid fun k hk hb => ptn_bad (by have := HN.out; omega) (by have := HN.out; omega) (by have := HN.out; omega) hb
  have HGOOD : Hid ((∀ k, k < n → ¬ (p.getD k 0 < 1 ∨ 1048576 < p.getD k 0)) → ptnE p o = if o < 0 ∨ 1048576 < o then 2 else 0) := Lib.hid fun hb => ptn_good (by have := HN.out; omega) (by have := HN.out; omega) (fun k hk => hb k (by have := HN.out; omega))
  obtain ⟨ad, rfl, _⟩ := HR.out.addr (by have := HN.out; omega)
  go_enter Tryd.func26, Tryd.ntmps26
  go_wp2_with fail
  clear z0 z1
  go_loopw [17] (fun i wr => ∃ k : Nat, i = .int .i64 (k : Int) ∧ k ≤ n ∧ (∀ j, j < k → ¬ (p.getD j 0 < 1 ∨ 1048576 < p.getD j 0)) ∧ w = wr) (fun i _ => n - (intOf i).toNat)
  case atStart => exact ⟨0, rfl, by omega, fun j hj => absurd hj (Nat.not_lt_zero j), rfl⟩
  case round =>
    obtain ⟨k, rfl, hk, hall, rfl⟩ := hrel
    have HALL := Lib.hid hall
    clear hall
    by_cases hlt : k < n
    · have hc := HR.out.cell k (by have := HN.out; omega)
      have HB2 := Lib.hid (HBAD.out k hlt)
      obtain ⟨x, hx⟩ : ∃ x, p.getD k 0 = x := ⟨_, rfl⟩
      rw [hx] at hc HB2
      have HX := Lib.hid hx
      have k2 : (k : Int) < (n : Int) := by omega
      have k3 : (0 : Int) ≤ (k : Int) := by omega
      clear hx
      by_cases h2 : x < 1
      · have HE := Lib.hid (HB2.out (Or.inl h2))
        have h2' : decide (x < 1) = true := decide_eq_true h2
        clear h2
        go_wp2_with fail
        go_ret
        exact ⟨by rw [HE.out]; rfl, rfl⟩
      have h2' : decide (x < 1) = false := decide_eq_false h2
      by_cases h3 : 1048576 < x
      · have HE := Lib.hid (HB2.out (Or.inr h3))
        have h3' : decide (1048576 < x) = true := decide_eq_true h3
        clear h2 h3
        go_wp2_with fail
        go_ret
        exact ⟨by rw [HE.out]; rfl, rfl⟩
      have h3' : decide (1048576 < x) = false := decide_eq_false h3
      have HNX : Hid (∀ j, j < k + 1 → ¬ (p.getD j 0 < 1 ∨ 1048576 < p.getD j 0)) := Lib.hid fun j hj => by
        rcases Nat.lt_or_ge j k with hjk | hjk
        · exact HALL.out j hjk
        · obtain rfl : j = k := by omega
          rw [HX.out]; omega
      have k4 : IntKind.i64.wrap ((k : Int) + 1) = (k : Int) + 1 := i64w (by omega) (by omega)
      clear h2 h3
      go_wp2_with fail
      go_roundw
      case rel => exact ⟨k + 1, by go_num, by omega, HNX.out, trivial⟩
      case measure => first | (simp [intOf]; done) | (simp [intOf]; omega)
    · have k2 : ¬ (k : Int) < (n : Int) := by omega
      obtain rfl : k = n := by omega
      have HE := Lib.hid (HGOOD.out HALL.out)
      by_cases h2 : o < 0
      · have h2' : decide (o < 0) = true := decide_eq_true h2
        have HE2 : Hid (ptnE p o = 2) := Lib.hid (by rw [HE.out, if_pos (Or.inl h2)])
        clear h2
        go_wp2_with fail
        go_ret
        exact ⟨by rw [HE2.out]; rfl, rfl⟩
      have h2' : decide (o < 0) = false := decide_eq_false h2
      by_cases h3 : 1048576 < o
      · have h3' : decide (1048576 < o) = true := decide_eq_true h3
        have HE2 : Hid (ptnE p o = 2) := Lib.hid (by rw [HE.out, if_pos (Or.inr h3)])
        clear h2 h3
        go_wp2_with fail
        go_ret
        exact ⟨by rw [HE2.out]; rfl, rfl⟩
      have h3' : decide (1048576 < o) = false := decide_eq_false h3
      have HE2 : Hid (ptnE p o = 0) := Lib.hid (by rw [HE.out, if_neg (by omega)])
      clear h2 h3
      go_wp2_with fail
      go_ret
      exact ⟨by rw [HE2.out]; rfl, rfl⟩

/-! lines -/
def atL (l : List P2) : List Value := (List.range l.length).map fun i => .int .i64 (atN l i : Nat)
theorem atL_len (l : List P2) : (atL l).length = l.length := by simp [atL]
/-- A line that is read. -/
structure LnR (w : World) (pb ab : Nat) (l : List P2) : Prop where
  p : PtR w (some ⟨pb, 0, none⟩) l
  a : Reads w w.heap.size 1 (some ⟨ab, 0, none⟩) l.length (atL l)
theorem LnR.below {w w' : World} {pb ab : Nat} {l : List P2} (h : LnR w pb ab l) (hb : Below w.heap.size w w') : LnR w' pb ab l := ⟨h.p.below hb, (Reads.below h.a hb).more hb.size⟩
theorem LnR.at_ {w : World} {pb ab : Nat} {l : List P2} (h : LnR w pb ab l) (i : Nat) (hi : i < l.length) : w.cell? ⟨ab, i, none⟩ = some (.int .i64 (atN l i : Nat)) := by
  obtain ⟨a, e, _, hc⟩ := h.a.2 (by omega)
  injection e with e
  subst e
  have := hc i (.int .i64 (atN l i : Nat)) (by unfold atL; rw [List.getElem?_map, List.getElem?_range hi]; rfl)
  rw [Addr.add_mid, Nat.zero_add] at this
  exact this
theorem LnR.pt_ {w : World} {pb ab : Nat} {l : List P2} (h : LnR w pb ab l) (i : Nat) (hi : i < l.length) : w.cell? ⟨pb, i * 2, none⟩ = some (.int .i64 (gp l i).1) ∧ w.cell? ⟨pb, i * 2 + 1, none⟩ = some (.int .i64 (gp l i).2) := by
  have e : gp l i = l[i] := getD_at hi
  have hp := pt_cells h.p i hi
  rw [Addr.add_mid, Nat.zero_add] at hp
  rw [e]
  exact hp
theorem length_any (pb ab cp ca : Nat) (l : List P2) (w : World) (h : LnR w pb ab l) (hl : l.length ≤ 65537) (h0 : 0 < l.length) : Calls Tryd.prog 45 #[.agg #[.slice (some ⟨pb, 0, none⟩) l.length cp, .slice (some ⟨ab, 0, none⟩) l.length ca]] w (NmC (lenN l : Nat) w) := by
  have hA := h.at_ (l.length - 1) (by omega)
  have hB0 : Below w.heap.size w (w.alloc (.cells #[.slice (some ⟨pb, 0, none⟩) l.length cp, .slice (some ⟨ab, 0, none⟩) l.length ca] 58)) := (Below.refl _ _).alloc (Nat.le_refl _) _
  have hA2 := (h.below hB0).at_ (l.length - 1) (by omega)
  have HK : Hid (Blk (w.alloc (.cells #[.slice (some ⟨pb, 0, none⟩) l.length cp, .slice (some ⟨ab, 0, none⟩) l.length ca] 58)) w.heap.size 58 #[.slice (some ⟨pb, 0, none⟩) l.length cp, .slice (some ⟨ab, 0, none⟩) l.length ca]) := Lib.hid (Blk.new _ _ _)
  have HLN : Hid (atN l (l.length - 1) = lenN l) := Lib.hid rfl
  obtain ⟨q, hq⟩ : ∃ q, l.length = q + 1 := ⟨l.length - 1, by omega⟩
  rw [hq, Nat.add_sub_cancel] at hA hA2 HLN
  rw [hq] at HK hB0 ⊢
  obtain ⟨u, hu⟩ : ∃ u, atN l q = u := ⟨_, rfl⟩
  rw [hu] at hA hA2 HLN
  have HB0 := Lib.hid hB0
  have z0 : ((q : Int) + 1 == 0) = false := beq_eq_false_iff_ne.2 (by omega)
  have k1 : IntKind.i64.wrap (q : Int) = (q : Int) := i64w (by omega) (by omega)
  have k2 : (q : Int) < (q : Int) + 1 := by omega
  have k3 : (0 : Int) ≤ (q : Int) := by omega
  clear hq hu hB0 hA
  go_enter Tryd.func45, Tryd.ntmps45
  go_wp2_with fail
  go_ret
  exact ⟨by rw [HLN.out]; rfl, HB0.out⟩
end Go.Proofs.YtflopcogalknhaaDoor.Str
