/-
  Layer 36, the document's answer: Remove, Resize, Drop.
-/
import Derived.Test.YtkdokipgakncjaaRCacE
namespace Go.Proofs.Ytkdokipgakncjaa.Cac
open Go.RowKit Go.Proofs.Ytkdokipgakncjaa Go.Proofs.Ytkdokipgakncjaa.RegG

theorem RT.boxed {B g b e : Nat} {M : List Nat} {w wr : World} {L : List E3} (h : RT B g b e M w L wr) (o : Go.Obj) : RT B g b e M w L (wr.alloc o) := h.sameM ((Tch.refl _ _).alloc o)

set_option maxHeartbeats 2000000 in
theorem rremove_rt (B g b e : Nat) (M : List Nat) (w0 : World) (L : List E3) (k : K5) (w : World) (h : RT B g b e M w0 L w) (hmax : L.length ≤ 1048576) (hnd : (keys (ents L)).Nodup) :
    Calls Try.prog 31 #[.pointer (some ⟨g, 0, none⟩), kagg k] w fun en w' => en = .returned (.bool (look (ents L) k).isSome) ∧ ∃ L', ents L' = rem (ents L) k ∧ RT B g b e M w0 L' w' := by
  have h1 := h.boxed (.cells #[.int .i64 k.1, .int .i64 k.2.1, .int .i64 k.2.2.1, .int .i64 k.2.2.2.1, .int .i64 k.2.2.2.2] 29)
  have hm := h1.made
  have hp := h1.place k hmax
  have H1 := Lib.hid h1
  have HND := Lib.hid hnd
  clear h h1 hnd
  unfold kagg at hp ⊢
  go_enter Try.func31, Try.ntmps31
  go_wp2_with fail
  refine hm.mono ?_
  rintro en w1 ⟨rfl, rfl⟩
  clear hm
  go_wp2_with fail
  refine hp.mono ?_
  rintro en w2 ⟨hpl, hb⟩
  have h2 := H1.out.later hb
  rcases hpl with ⟨j, hj, hjk, _, rfl⟩ | ⟨hno, rfl⟩
  · have hjL : j < L.length := by rw [kys_len] at hj; exact hj
    have hje : j < (ents L).length := by rw [ents_len]; exact hjL
    have hkk : (ents L)[j].1 = k := by rw [ents_at L j hjL, ← kys_at L j hjL]; exact hjk
    have htk := h2.take j hjL hmax
    have hl : look (ents L) k = some (ents L)[j].2 := look_at j hje HND.out hkk
    have hr : ents (L.eraseIdx j) = rem (ents L) k := by rw [ents_erase, rem_at j hje HND.out hkk]
    have HL := Lib.hid hl
    have HR := Lib.hid hr
    clear h2 hb hl hr hkk hjk
    go_wp2_with fail
    refine htk.mono ?_
    rintro en w3 ⟨rfl, h3⟩
    have H3 := Lib.hid h3
    clear h3 htk
    go_wp2_with fail
    go_ret
    exact ⟨by rw [HL.out]; rfl, _, HR.out, H3.out⟩
  · have hno2 : k ∉ keys (ents L) := by rw [kys_ents]; exact hno
    have hl := look_none.2 hno2
    have hr := rem_none hno2
    have HL := Lib.hid hl
    have HR := Lib.hid hr
    have H2 := Lib.hid h2
    clear h2 hb hl hr hno hno2
    go_wp2_with fail
    go_ret
    exact ⟨by rw [HL.out]; rfl, L, HR.out.symm, H2.out⟩
theorem isR_rt {w : World} {B g : Nat} {s : St} {M : List Nat} (h : IsR w B g s M) (hB : B ≤ w.heap.size) : ∃ L, ents L = s.l ∧ RT B g s.b s.e M w L w := by
  obtain ⟨kv, iv, L, rfl, hL, h1⟩ := h
  exact ⟨L, hL, RT.start h1 hB⟩
theorem rremove_any (B g : Nat) (s : St) (k : K5) (M : List Nat) (w : World) (h : IsR w B g s M) (hmax : s.l.length ≤ 1048576) (hnd : (keys s.l).Nodup) (hB : B ≤ w.heap.size) :
    Calls Try.prog 31 #[.pointer (some ⟨g, 0, none⟩), kagg k] w fun en w' => en = .returned (.bool (look s.l k).isSome) ∧ ROut B g (s.remove k) M w w' := by
  obtain ⟨L, hL, h1⟩ := isR_rt h hB
  refine (rremove_rt B g s.b s.e M w L k w h1 (by rw [← ents_len, hL]; exact hmax) (by rw [hL]; exact hnd)).mono ?_
  rintro en w' ⟨rfl, L', k1, k2⟩
  rw [hL] at k1 ⊢
  have := k2.out
  rw [k1] at this
  exact ⟨rfl, this⟩
theorem ents_drop (L : List E3) (n : Nat) : ents (L.drop n) = (ents L).drop n := List.map_drop ..
set_option maxHeartbeats 1000000 in
theorem rresize_any (B g : Nat) (s : St) (z : Int) (M : List Nat) (w : World) (h : IsR w B g s M) (hmax : s.l.length ≤ 1048576) (he : s.e ≤ 4398046511106) (hB : B ≤ w.heap.size) :
    Calls Try.prog 33 #[.pointer (some ⟨g, 0, none⟩), .int .i64 z] w fun en w' => en = .returned (.int .i64 (({ s with b := clampN z } : St).over : Int)) ∧ ROut B g (s.resize z) M w w' := by
  obtain ⟨L, hL, h1⟩ := isR_rt h hB
  have hLl : L.length = s.l.length := by rw [← ents_len, hL]
  have hm := h1.made
  obtain ⟨A, cap, A2, cap2, x0, x1, x2, x3, xf, hgl, _, _⟩ := h1.cells L.length rfl
  have hsh := rshrink_rt B g (clampN z) s.e M w L _ (h1.put0 _ (clampN z) (clp_n z)) (by omega) he
  have HL := Lib.hid hL
  have HLL := Lib.hid hLl
  clear h hL h1 hLl
  go_enter Try.func33, Try.ntmps33
  go_wp2_with fail
  refine hm.mono ?_
  rintro en w1 ⟨rfl, rfl⟩
  clear hm
  go_wp2_with (go_at_call 24; refine (Ref01.clamp_any _ _ _ _).mono ?_; rintro e w' ⟨rfl, rfl⟩)
  refine hsh.mono ?_
  rintro en w2 ⟨rfl, h2⟩
  have H2 := Lib.hid h2
  clear h2 hsh
  go_wp2_with fail
  go_ret
  refine ⟨by rw [HLL.out]; rfl, ?_⟩
  have := H2.out.out
  rw [ents_drop, HL.out, HLL.out] at this
  exact this

/-- What is left when the entries from j on are gone through. -/
def tailD (L : List E3) (z : Int) (j : Nat) : List E3 := L.take j ++ (L.drop j).filter fun p => decide (p.1.1 ≠ z)
theorem tailD_all (L : List E3) (z : Int) : tailD L z L.length = L := by simp [tailD]
theorem tailD_zero (L : List E3) (z : Int) : tailD L z 0 = L.filter fun p => decide (p.1.1 ≠ z) := by simp [tailD]
theorem tailD_no (L : List E3) (z : Int) (j : Nat) (hj : j < L.length) (h : ¬ L[j].1.1 = z) : tailD L z (j + 1) = tailD L z j := by
  unfold tailD
  rw [List.drop_eq_getElem_cons hj, List.filter_cons_of_pos (by simpa using h), List.take_succ_eq_append_getElem hj, List.append_assoc]
  rfl
theorem tailD_yes (L : List E3) (z : Int) (j : Nat) (hj : j < L.length) (h : L[j].1.1 = z) : (tailD L z (j + 1)).eraseIdx j = tailD L z j := by
  unfold tailD
  have hl : (L.take j).length = j := by rw [List.length_take]; omega
  rw [List.drop_eq_getElem_cons hj, List.filter_cons_of_neg (by simpa using h), List.take_succ_eq_append_getElem hj, List.append_assoc, List.eraseIdx_append_of_length_le (by omega), hl, Nat.sub_self]
  rfl
theorem tailD_len (L : List E3) (z : Int) (j : Nat) : (tailD L z j).length ≤ L.length := by
  unfold tailD
  have := List.length_filter_le (fun p : E3 => decide (p.1.1 ≠ z)) (L.drop j)
  rw [List.length_append, List.length_take]
  rw [List.length_drop] at this
  omega
theorem tailD_at (L : List E3) (z : Int) (j : Nat) (hj : j < L.length) : ∃ h : j < (tailD L z (j + 1)).length, (tailD L z (j + 1))[j] = L[j] := by
  have hl : (L.take (j + 1)).length = j + 1 := by rw [List.length_take]; omega
  refine ⟨by unfold tailD; rw [List.length_append]; omega, ?_⟩
  unfold tailD
  rw [List.getElem_append_left (by omega), List.getElem_take]
theorem tailD_len2 (L : List E3) (z : Int) (j : Nat) (hj : j < L.length) (h : L[j].1.1 = z) : (tailD L z j).length + 1 = (tailD L z (j + 1)).length := by
  obtain ⟨h1, _⟩ := tailD_at L z j hj
  rw [← tailD_yes L z j hj h, List.length_eraseIdx_of_lt h1]
  omega
theorem ents_filter (L : List E3) (z : Int) : ents (L.filter fun p => decide (p.1.1 ≠ z)) = dropE (ents L) z := by
  unfold ents dropE
  rw [List.filter_map]
  rfl
set_option maxHeartbeats 2000000 in
theorem rdrop_any (B g : Nat) (s : St) (z : Int) (M : List Nat) (w : World) (h : IsR w B g s M) (hmax : s.l.length ≤ 1048576) (hB : B ≤ w.heap.size) :
    Calls Try.prog 29 #[.pointer (some ⟨g, 0, none⟩), .int .i64 z] w fun en w' => en = .returned (.int .i64 ((s.l.length - (dropE s.l z).length : Nat) : Int)) ∧ ROut B g (s.drop z) M w w' := by
  obtain ⟨L, hL, h1⟩ := isR_rt h hB
  obtain ⟨n, hn⟩ : ∃ n, L.length = n := ⟨_, rfl⟩
  have hmx : n ≤ 1048576 := by rw [← hn, ← ents_len, hL]; exact hmax
  have hm := h1.made
  obtain ⟨A, cap, A2, cap2, x0, x1, x2, x3, xf, hgl, _, _⟩ := h1.cells n hn
  have hSL : s.l.length = n := by rw [← hL, ents_len, hn]
  have hdl : dropE s.l z = ents (tailD L z 0) := by rw [tailD_zero, ents_filter, hL]
  have HL := Lib.hid hL
  have HN := Lib.hid hn
  have HS := Lib.hid hSL
  have HD := Lib.hid hdl
  have H1 := Lib.hid h1
  clear h hL h1 hn hSL hdl hmax
  go_enter Try.func29, Try.ntmps29
  go_wp2_with fail
  refine hm.mono ?_
  rintro en w1 ⟨rfl, rfl⟩
  clear hm
  have w0 : IntKind.i64.wrap ((n : Int) - 1) = (n : Int) - 1 := IntWalk.i64_in _ (by omega)
  go_wp2_with fail
  clear w0
  go_loopw [5, 6] (fun c i wr => ∃ (j cn : Nat), i = .int .i64 ((j : Int) - 1) ∧ j ≤ n ∧ c = .int .i64 cn ∧ cn + (tailD L z j).length = n ∧ RT B g s.b s.e M w (tailD L z j) wr) (fun _ i _ => (intOf i + 1).toNat)
  case atStart => exact ⟨n, 0, by go_num, Nat.le_refl _, rfl, by rw [← HN.out, tailD_all]; omega, by rw [← HN.out, tailD_all]; exact H1.out⟩
  case round =>
    clear x0 x1 x2 x3 xf hgl
    obtain ⟨j, cn, rfl, hj, rfl, hcn, h⟩ := hrel
    cases j with
    | zero =>
      have H := Lib.hid h
      have HCN := Lib.hid hcn
      clear h hcn
      go_wp2_with fail
      go_ret
      refine ⟨?_, ?_⟩
      · have := HCN.out
        rw [HS.out, HD.out, ents_len, ← HCN.out]
        simp
      · have := H.out.out
        rw [← HD.out] at this
        exact this
    | succ j =>
      have hjl : j < L.length := by have := HN.out; omega
      obtain ⟨ht1, ht2⟩ := tailD_at L z j hjl
      have htl := tailD_len L z (j + 1)
      obtain ⟨q, hq⟩ : ∃ q, (tailD L z (j + 1)).length = q := ⟨_, rfl⟩
      obtain ⟨A, cap, A2, cap2, x0, x1, x2, x3, xf, hgl, hrk, _⟩ := h.cells q hq
      have hjq : j < q := by omega
      obtain ⟨o, rfl⟩ := own_some hrk (by omega)
      obtain ⟨k0, _, _, _, _⟩ := key_cells hrk j (by rw [kys_len]; exact ht1)
      rw [kys_at _ j ht1, ht2] at k0
      have hol : o < wr.heap.size := own_lt hrk o rfl
      have htk := h.take j ht1 (by have := HN.out; omega)
      have hi1 : (((j + 1 : Nat) : Int) - 1) = (j : Int) := by omega
      rw [hi1]
      obtain ⟨kz, hkz⟩ : ∃ kz, L[j].1.1 = kz := ⟨_, rfl⟩
      rw [hkz] at k0
      have hqn : cn + q = n := by omega
      by_cases hz : kz = z
      · subst hz
        rw [tailD_yes L kz j hjl hkz] at htk
        have hl2 := tailD_len2 L kz j hjl hkz
        have HL2 : Hid (cn + 1 + (tailD L kz j).length = n) := Lib.hid (by omega)
        clear h hcn htl ht2 hkz hrk hl2 hq
        go_wp2_with fail
        refine htk.mono ?_
        rintro en w2 ⟨rfl, h2⟩
        have H2 := Lib.hid h2
        clear h2 htk
        go_wp2_with fail
        go_roundw
        case rel => exact ⟨j, cn + 1, by go_num, by omega, by go_num, HL2.out, H2.out⟩
        case measure => simp [intOf]
      · have hne : (kz == z) = false := by simpa using hz
        have hno := tailD_no L z j hjl (by rw [hkz]; exact hz)
        rw [hno] at h hcn
        have H := Lib.hid h
        have HCN := Lib.hid hcn
        clear h hcn htl ht2 hkz hrk hq hno hz htk
        go_wp2_with fail
        go_roundw
        case rel => exact ⟨j, cn, by go_num, by omega, by go_num, HCN.out, H.out⟩
        case measure => simp [intOf]

end Go.Proofs.Ytkdokipgakncjaa.Cac
