/-
  Layer 36: Drop of package cache.
-/
import Derived.Test.YtkdokipgakncjaaCacPut
namespace Go.Proofs.Ytkdokipgakncjaa.Cac
open Go.RowKit Go.Proofs.Ytkdokipgakncjaa

theorem put_any (B g m : Nat) (s : St) (k : K5) (hk : K5ok k) (i : Img) (v : Value) (M : List Nat) (w : World) (h : IsC w B g m s M) (hv : ImgR w w.heap.size v i) (hmax : s.l.length ≤ 1048575) (hpx : i.px.length ≤ 4398046511104) (hm31 : m ≤ 4398046511104) (he : s.e ≤ 4398046511105) (hb : s.b ≤ 1024) (hB : B ≤ w.heap.size) :
    Calls Try.prog 26 #[.pointer (some ⟨g, 0, none⟩), kagg k, v] w (PutC B g m s k i M w) := by
  by_cases h0 : s.b = 0
  · exact put_zero B g m s k i v M w h h0 hv
  · exact put_some B g m s k hk i v M w h h0 hv hmax hpx hm31 he hb hB

/-! plain -/
def dropL (l : List Ent) (n : Int) (j : Nat) : List Ent := dropE (l.take j) n ++ l.drop j
theorem dropL_zero (l : List Ent) (n : Int) : dropL l n 0 = l := by simp [dropL, dropE]
theorem dropL_all (l : List Ent) (n : Int) : dropL l n l.length = dropE l n := by simp [dropL]
theorem dropE_snoc (l : List Ent) (n : Int) (j : Nat) (h : j < l.length) : dropE (l.take (j + 1)) n = dropE (l.take j) n ++ (if l[j].1.1 = n then [] else [l[j]]) := by
  unfold dropE
  rw [List.take_succ_eq_append_getElem h, List.filter_append]
  congr 1
  by_cases e : l[j].1.1 = n
  · rw [if_pos e, List.filter_cons_of_neg (by simpa using e), List.filter_nil]
  · rw [if_neg e, List.filter_cons_of_pos (by simpa using e), List.filter_nil]
theorem dropL_no (l : List Ent) (n : Int) (j : Nat) (h : j < l.length) (hn : ¬ l[j].1.1 = n) : dropL l n (j + 1) = dropL l n j := by
  unfold dropL
  rw [dropE_snoc l n j h, if_neg hn, List.append_assoc, List.drop_eq_getElem_cons h]
  rfl
theorem keys_sub {l l' : List Ent} (h : l'.Sublist l) : (keys l').Sublist (keys l) := h.map _
theorem dropL_sub (l : List Ent) (n : Int) (j : Nat) : (dropL l n j).Sublist l := by
  have h := List.filter_sublist (p := fun p : Ent => decide (p.1.1 ≠ n)) (l := l.take j)
  have := h.append (List.Sublist.refl (l.drop j))
  rw [List.take_append_drop] at this
  exact this
theorem dropL_mem (l : List Ent) (n : Int) (j : Nat) (h : j < l.length) : l[j] ∈ dropL l n j := by
  unfold dropL
  exact List.mem_append_right _ (by rw [List.drop_eq_getElem_cons h]; exact List.mem_cons_self)
theorem rem_app (a b : List Ent) (k : K5) : rem (a ++ b) k = rem a k ++ rem b k := List.filter_append ..
theorem dropL_yes (l : List Ent) (n : Int) (j : Nat) (h : j < l.length) (hd : (keys l).Nodup) (hn : l[j].1.1 = n) : rem (dropL l n j) l[j].1 = dropL l n (j + 1) := by
  have e1 : l = l.take j ++ l[j] :: l.drop (j + 1) := by rw [← List.drop_eq_getElem_cons h, List.take_append_drop]
  have hk : keys l = keys (l.take j) ++ l[j].1 :: keys (l.drop (j + 1)) := by
    have := congrArg keys e1
    rw [keys_app] at this
    exact this
  rw [hk, List.nodup_append] at hd
  obtain ⟨_, d2, d3⟩ := hd
  rw [List.nodup_cons] at d2
  have n1 : l[j].1 ∉ keys (dropE (l.take j) n) := fun hm => d3 _ ((keys_sub List.filter_sublist).subset hm) _ (by simp) rfl
  unfold dropL
  rw [rem_app, rem_none n1, dropE_snoc l n j h, if_pos hn, List.append_nil, List.drop_eq_getElem_cons h]
  congr 1
  have := rem_none d2.1
  unfold rem at this ⊢
  rw [List.filter_cons_of_neg (by simp), this]
theorem dropL_len (l : List Ent) (n : Int) (j : Nat) (h : j < l.length) (hd : (keys l).Nodup) (hn : l[j].1.1 = n) : (dropL l n (j + 1)).length + 1 = (dropL l n j).length := by
  unfold dropL
  rw [dropE_snoc l n j h, if_pos hn, List.append_nil, List.length_append, List.length_append, List.length_drop, List.length_drop]
  have := hd
  omega

def DroppedC (B g m : Nat) (s : St) (z : Int) (M : List Nat) (w : World) (e : Ending) (w' : World) : Prop :=
  e = .returned (.int .i64 ((s.l.length - (dropE s.l z).length : Nat) : Int)) ∧ Left B g m (s.drop z) M w w'

theorem own_some {w : World} {base e size n cap : Nat} {A : Option Addr} {xs : List Value} (h : w.ownsRow base e size (.slice A n cap) n xs) (h0 : 0 < n) : ∃ o, A = some ⟨o, 0, none⟩ := by
  rcases h.2 with ⟨_, h1⟩ | ⟨g, cap, cur, he, _⟩
  · omega
  · injection he with he; exact ⟨g, he⟩

theorem keys_q (B g m q : Nat) (s : St) (M : List Nat) (w : World) (h : IsC w B g m s M) (hs : s.l.length ≤ 1048576) (hq : q = s.l.length) : Calls Try.prog 13 #[.pointer (some ⟨g, 0, none⟩)] w fun e w' => ∃ A cap, e = .returned (.slice A q cap) ∧ w'.ownsRow w.heap.size 29 5 (.slice A q cap) q (kcs (keys s.l)) ∧ Below w.heap.size w w' := by
  refine (keys_any B g m s M w h hs).mono ?_
  rintro e w' ⟨v, rfl, ho, hb⟩
  rw [keys_len, ← hq] at ho
  obtain ⟨A, cap, rfl, _⟩ := own_open ho
  exact ⟨A, cap, rfl, ho, hb⟩
/-- In the middle of a Drop. -/
structure DR (B g m : Nat) (s : St) (z : Int) (M : List Nat) (w : World) (v : Value) (q j : Nat) (wr : World) : Prop where
  st : ∃ M', IsC wr B g m ⟨s.b, dropL s.l z j, s.e⟩ M' ∧ (∀ k ∈ M', k ∈ M ∨ w.heap.size ≤ k) ∧ ∀ k, v.ownBlock = some k → k ∉ M'
  tch : Tch M w wr
  row : wr.ownsRow w.heap.size 29 5 v q (kcs (keys s.l))
theorem DR.start {B g m q : Nat} {s : St} {z : Int} {M : List Nat} {w w1 : World} {v : Value} (h : IsC w B g m s M) (hM : ∀ k ∈ M, k < w.heap.size) (hb : Below w.heap.size w w1) (hv : w1.ownsRow w.heap.size 29 5 v q (kcs (keys s.l))) : DR B g m s z M w v q 0 w1 := by
  have T : Tch [] w w1 := (Tch.refl _ _).below hb
  refine ⟨⟨M, ?_, fun k hk => .inl hk, fun k hk hm => ?_⟩, T.mono (fun k hk => by simp at hk), hv⟩
  · rw [dropL_zero]
    exact h.tch T (fun k hk => by simp at hk) (fun k _ => by simp)
  · have h1 := own_low hv k hk
    have h2 := hM k hm
    omega
theorem DR.skip {B g m q j : Nat} {s : St} {z : Int} {M : List Nat} {w wr : World} {v : Value} {p : Ent} (h : DR B g m s z M w v q j wr) (hj : j < s.l.length) (hp : p = s.l[j]) (hn : ¬ p.1.1 = z) (o : Obj) : DR B g m s z M w v q (j + 1) (wr.alloc o) := by
  obtain ⟨⟨M', h1, h2, h3⟩, hT, hr⟩ := h
  have T : Tch [] wr (wr.alloc o) := (Tch.refl _ _).alloc o
  refine ⟨⟨M', ?_, h2, h3⟩, hT.alloc o, T.own hr (by simp)⟩
  rw [dropL_no s.l z j hj (by rw [← hp]; exact hn)]
  exact h1.tch T (fun k hk => by simp at hk) (fun k _ => by simp)
theorem DR.remove {B g m q j cn : Nat} {s : St} {z : Int} {M : List Nat} {w wr : World} {v : Value} {p : Ent} (h : DR B g m s z M w v q j wr) (hk : K5ok p.1) (hj : j < s.l.length) (hp : p = s.l[j]) (hnd : (keys s.l).Nodup) (hn : p.1.1 = z) (hmax : s.l.length ≤ 1048576) (o : Obj)
    (hcn : s.l.length - (dropL s.l z j).length = cn) : Calls Try.prog 30 #[.pointer (some ⟨g, 0, none⟩), kagg p.1] (wr.alloc o) fun e w' => e = .returned (.bool true) ∧ DR B g m s z M w v q (j + 1) w' ∧ s.l.length - (dropL s.l z (j + 1)).length = cn + 1 := by
  obtain ⟨⟨M', h1, h2, h3⟩, hT, hr⟩ := h
  have T : Tch [] wr (wr.alloc o) := (Tch.refl _ _).alloc o
  have hs := dropL_sub s.l z j
  have hs2 := dropL_sub s.l z (j + 1)
  have hl : look (dropL s.l z j) p.1 = some p.2 := look_of_mem (hnd.sublist (keys_sub hs)) (by rw [hp]; exact dropL_mem s.l z j hj)
  have hlen := dropL_len s.l z j hj hnd (by rw [← hp]; exact hn)
  have e1 : St.remove ⟨s.b, dropL s.l z j, s.e⟩ p.1 = ⟨s.b, dropL s.l z (j + 1), s.e⟩ := by
    unfold St.remove
    simp only
    rw [hp, dropL_yes s.l z j hj hnd (by rw [← hp]; exact hn)]
  refine (remove_any B g m ⟨s.b, dropL s.l z j, s.e⟩ p.1 hk M' (wr.alloc o) (h1.tch T (fun k hk => by simp at hk) (fun k _ => by simp)) (by have := hs.length_le; simp only; omega)).mono ?_
  rintro e w' ⟨rfl, M2, hC, hT2, hM2⟩
  rw [e1] at hC
  have hsz := hT.size
  refine ⟨by simp only [hl]; rfl, ⟨⟨M2, hC, fun k hk => ?_, fun k hk hm => ?_⟩, (hT.alloc o).trans hT2 h2, hT2.own (T.own hr (by simp)) h3⟩, ?_⟩
  · rcases hM2 k hk with h4 | h4
    · exact h2 k h4
    · exact .inr (by simp at h4; omega)
  · rcases hM2 k hm with h4 | h4
    · exact h3 k hk h4
    · have := own_lt hr k hk
      simp at h4; omega
  · have := hs.length_le
    have := hs2.length_le
    omega
theorem DR.done {B g m q cn : Nat} {s : St} {z : Int} {M : List Nat} {w wr : World} {v : Value} (h : DR B g m s z M w v q q wr) (hq : q = s.l.length) (hcn : s.l.length - (dropL s.l z q).length = cn) : DroppedC B g m s z M w (.returned (.int .i64 (cn : Int))) wr := by
  obtain ⟨⟨M', h1, h2, h3⟩, hT, hr⟩ := h
  subst hq
  rw [dropL_all] at hcn h1
  subst hcn
  exact ⟨rfl, M', h1, hT, h2⟩
set_option maxHeartbeats 2000000 in
theorem drop_any (B g m : Nat) (s : St) (z : Int) (M : List Nat) (w : World) (h : IsC w B g m s M) (hmax : s.l.length ≤ 1048576) :
    Calls Try.prog 28 #[.pointer (some ⟨g, 0, none⟩), .int .i64 z] w (DroppedC B g m s z M w) := by
  obtain ⟨q, hql⟩ : ∃ q, q = s.l.length := ⟨_, rfl⟩
  have hkeys := keys_q B g m q s M w h hmax hql
  have hwM := h.size
  have hm : Calls Try.prog 34 #[.pointer (some ⟨g, 0, none⟩)] w fun e w' => e = .returned (.bool true) ∧ w = w' := by
    obtain ⟨b, ov, n, D, hn, rfl, hC⟩ := h
    exact made_yes g b _ _ _ w hC.ord.box
  have hnd : (keys s.l).Nodup := by obtain ⟨b, ov, n, D, hn, rfl, hC⟩ := h; exact hC.nodup
  have hkok : ∀ k ∈ keys s.l, K5ok k := by obtain ⟨b, ov, n, D, hn, rfl, hC⟩ := h; exact hC.til.kok
  have HK := Lib.hid hkeys
  have HM := Lib.hid hm
  have HN := Lib.hid hnd
  have HO := Lib.hid hkok
  have H := Lib.hid h
  have HQ := Lib.hid hql
  have HWM := Lib.hid hwM
  have hq20 : q ≤ 1048576 := by omega
  clear hkeys hm hnd hkok h hql hwM
  go_enter Try.func28, Try.ntmps28
  go_wp2_with (first | (go_at_call 34; refine HM.out.mono ?_; rintro e w' ⟨rfl, rfl⟩) | (go_at_call 13; refine HK.out.mono ?_; rintro e w1 ⟨A, cap, rfl, hv, hb1⟩; have HV := Lib.hid hv; clear hv))
  have R0 := DR.start (z := z) H.out HWM.out hb1 HV.out
  clear hb1
  go_loopw [5, 7, 14] (fun t _ i wr => ∃ j : Nat, i = .int .i64 j ∧ j ≤ q ∧ t = .int .i64 ((s.l.length - (dropL s.l z j).length : Nat) : Int) ∧ DR B g m s z M w (.slice A q cap) q j wr) (fun _ _ i _ => q - (intOf i).toNat)
  case atStart => exact ⟨0, rfl, by omega, by rw [dropL_zero, Nat.sub_self]; rfl, R0⟩
  case round =>
    obtain ⟨j, rfl, hj, rfl, hR⟩ := hrel
    obtain ⟨cn, hcn⟩ : ∃ cn, s.l.length - (dropL s.l z j).length = cn := ⟨_, rfl⟩
    have hcnq : cn ≤ q := by rw [← hcn, HQ.out]; omega
    rw [hcn]
    have HCN := Lib.hid hcn
    clear hcn
    by_cases hlt : j < q
    · obtain ⟨o, rfl⟩ := own_some hR.row (by omega)
      have hjl : j < s.l.length := by have := HQ.out; omega
      have hjk : j < (keys s.l).length := by rw [keys_len]; exact hjl
      obtain ⟨z0, z1, z2, z3, z4⟩ := key_cells hR.row j hjk
      have hol : o < wr.heap.size := own_lt hR.row o rfl
      obtain ⟨p, hp⟩ : ∃ p, p = s.l[j] := ⟨_, rfl⟩
      have hpk : (keys s.l)[j]'hjk = p.1 := by rw [hp]; simp [keys]
      rw [hpk] at z0 z1 z2 z3 z4
      have hko := HO.out p.1 (by rw [← hpk]; exact List.getElem_mem hjk)
      have HKO := Lib.hid hko
      have HP := Lib.hid hp
      have HR := Lib.hid hR
      obtain ⟨⟨k0, k1, k2, k3, k4⟩, im⟩ := p
      simp only at z0 z1 z2 z3 z4
      clear hpk hp hR hko
      by_cases hk : k0 = z
      · have hq := HR.out.remove HKO.out hjl HP.out HN.out hk hmax (.cells #[.int .i64 k0, .int .i64 k1, .int .i64 k2, .int .i64 k3, .int .i64 k4] 29) HCN.out
        unfold kagg at hq
        simp only at hq
        subst hk
        go_wp2_with (go_at_call 30; refine hq.mono ?_; rintro e w2 ⟨rfl, hR2, hc2⟩)
        have HR2 := Lib.hid hR2
        have HC2 := Lib.hid hc2
        clear hR2 hc2
        go_wp2_with fail
        go_roundw
        case rel => exact ⟨j + 1, by go_num, by omega, by rw [HC2.out]; go_num, HR2.out⟩
        case measure => simp [intOf]; omega
      · have hq : (k0 == z) = false := by simpa using hk
        have hn := HR.out.skip hjl HP.out hk (.cells #[.int .i64 k0, .int .i64 k1, .int .i64 k2, .int .i64 k3, .int .i64 k4] 29)
        have he : dropL s.l z (j + 1) = dropL s.l z j := dropL_no s.l z j hjl (by rw [← HP.out]; exact hk)
        have HE := Lib.hid he
        have HN2 := Lib.hid hn
        clear hk he hn
        go_wp2_with fail
        go_roundw
        case rel => exact ⟨j + 1, by go_num, by omega, by rw [HE.out, HCN.out], HN2.out⟩
        case measure => simp [intOf]; omega
    · obtain rfl : j = q := by omega
      have HR := Lib.hid hR
      clear hR
      go_wp2_with fail
      go_ret
      exact HR.out.done HQ.out HCN.out

end Go.Proofs.Ytkdokipgakncjaa.Cac
