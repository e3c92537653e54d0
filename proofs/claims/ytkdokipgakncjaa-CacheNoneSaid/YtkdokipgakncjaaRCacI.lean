/-
  Layer 36, the document's answer: Keys, Copy.
-/
import Derived.Test.YtkdokipgakncjaaRCacH
namespace Go.Proofs.Ytkdokipgakncjaa.Cac
open Go.RowKit Go.Proofs.Ytkdokipgakncjaa Go.Proofs.Ytkdokipgakncjaa.RegG

theorem wpL_litK {ops : Array Oper} {rest : List Oper} {o : Oper} {a : Act} {W : World} {Q : Exit → Act → World → Prop} (hg : o.guard = none) (dd : Tmp) (hd : o.dst = some dd) (x : Operand)
    (ho : o.op = .buildSlice 36 1 #[(0, x)]) {t5 s5 tb : Nat} {M : List Nat} {w0 : World} {B g : Nat} {cs : Array Value} {v4 : Value} {n4 : Nat} {x4 : List Value} {v5 : Value} {n5 : Nat} {x5 : List Value} {l5 : Option (Nat × Array Value)} {PL : List (Value × List P4)} (y0 y1 y2 y3 y4 : Value)
    (h : RW 29 5 t5 s5 tb M w0 B g cs v4 n4 x4 none v5 n5 x5 l5 PL W) (hx : a.eval x = .agg #[y0, y1, y2, y3, y4])
    (hK : ∀ gl w', RW 29 5 t5 s5 tb M w0 B g cs v4 n4 x4 (some (gl, #[y0, y1, y2, y3, y4])) v5 n5 x5 l5 PL w' → wpList Try.prog ops Q rest (a.put (some dd) (.slice (some ⟨gl, 0, none⟩) 1 1)) w') : wpList Try.prog ops Q (o :: rest) a W :=
  wpList_plain hg fun _ hK' => wp_litK dd hd x ho y0 y1 y2 y3 y4 h hx (fun gl w' R => hK' _ _ (hK gl w' R))
theorem wpL_appK {ops : Array Oper} {rest : List Oper} {o : Oper} {a : Act} {W : World} {Q : Exit → Act → World → Prop} (hg : o.guard = none) (dd : Tmp) (hd : o.dst = some dd) (s x : Operand)
    (ho : o.op = .call { callee := .builtin .append, args := #[s, x], argTypes := #[36, 36] }) {t5 s5 tb : Nat} {M : List Nat} {w0 : World} {B g : Nat} {cs : Array Value} {v4 : Value} {n4 : Nat} {x4 : List Value} {v5 : Value} {n5 : Nat} {x5 : List Value} {l5 : Option (Nat × Array Value)} {PL : List (Value × List P4)} {gl : Nat} {c : Array Value}
    (h : RW 29 5 t5 s5 tb M w0 B g cs v4 n4 x4 (some (gl, c)) v5 n5 x5 l5 PL W) (hs : a.eval s = v4) (hx : a.eval x = .slice (some ⟨gl, 0, none⟩) 1 1) (hc : c.size = 5) (hu : ∀ y ∈ c.toList, y.oneCell' = true) (hn : (n4 + 1) * 40 ≤ 140737488355328)
    (hK : ∀ v' w', RW 29 5 t5 s5 tb M w0 B g cs v' (n4 + 1) (x4 ++ c.toList) none v5 n5 x5 l5 PL w' → wpList Try.prog ops Q rest (a.put (some dd) v') w') : wpList Try.prog ops Q (o :: rest) a W :=
  wpList_plain hg fun _ hK' => wp_appK dd hd s x ho h hs hx hc hu hn (fun v' w' R => hK' _ _ (hK v' w' R))
theorem Tch.unbox {w w' : World} {g : Nat} {t : TypeId} {cs : Array Value} (h : Tch [g] w w') (b : Blk w g t cs) (b' : Blk w' g t cs) : Tch [] w w' :=
  ⟨h.os, h.tape, h.output, h.size, fun k hk _ => by
    by_cases e : k = g
    · subst e; exact b'.trans b.symm
    · exact h.block k hk (by simpa using e)⟩
theorem kys_take (L : List E3) (j : Nat) (hj : j < L.length) {k : K5} (hk : L[j].1 = k) : kcs (kys (L.take j)) ++ (#[.int .i64 k.1, .int .i64 k.2.1, .int .i64 k.2.2.1, .int .i64 k.2.2.2.1, .int .i64 k.2.2.2.2] : Array Value).toList = kcs (kys (L.take (j + 1))) := by
  rw [List.take_succ_eq_append_getElem hj, kys_app, kcs_app]
  subst hk
  rfl
def KeysR (L : List E3) (q : Nat) (w : World) (e : Ending) (w' : World) : Prop := ∃ A cap, e = .returned (.slice A q cap) ∧ w'.ownsRow w.heap.size 29 5 (.slice A q cap) q (kcs (kys L)) ∧ Below w.heap.size w w'

set_option maxHeartbeats 2000000 in
theorem rkeys_rc (B g b en : Nat) (kv iv : Value) (L : List E3) (q : Nat) (w : World) (h : RC w B g kv iv b L en) (hq : L.length = q) (hmax : q ≤ 1048576) : Calls Try.prog 14 #[.pointer (some ⟨g, 0, none⟩)] w (KeysR L q w) := by
  obtain ⟨A, cap, A2, cap2, rfl, rfl, hk, hi, hbox⟩ := h.shapes q hq
  have hb1 := hbox.alloc (.cells #[] 29)
  have hm := rmade_yes g _ _ _ _ (w.alloc (.cells #[] 29)) hb1
  have hz1 := World.ownsRow_made (e := 29) (size := 5) w #[] 0 (Nat.le_refl _) (by decide) rfl
  have hbb : Below w.heap.size w (w.alloc (.cells #[] 29)) := (Below.refl _ _).alloc (Nat.le_refl _) _
  have hgl := hbox.lt
  have HK := Lib.hid hk
  have HQ := Lib.hid hq
  have HX := Lib.hid hbox
  have HZ := Lib.hid hz1
  have HBB := Lib.hid hbb
  clear h hk hi hq hbox hz1 hbb hb1
  go_enter Try.func14, Try.ntmps14
  go_wp2_with fail
  refine hm.mono ?_
  rintro en w1 ⟨rfl, rfl⟩
  clear hm
  go_wp2_with fail
  go_loopw [3, 4] (fun v i wr => ∃ j : Nat, i = .int .i64 j ∧ j ≤ q ∧ wr.ownsRow w.heap.size 29 5 v j (kcs (kys (L.take j))) ∧ Below w.heap.size w wr) (fun _ i _ => q - (intOf i).toNat)
  case atStart => exact ⟨0, rfl, by omega, HZ.out, HBB.out⟩
  case round =>
    obtain ⟨j, rfl, hj, ho, hb⟩ := hrel
    have hbx := HX.out.below hb hgl
    obtain ⟨x0, x1, x2, x3, x4, xf⟩ := blk5 hbx
    have hgw := hbx.lt
    by_cases hlt : j < q
    · have hjL : j < L.length := by have := HQ.out; omega
      have hr := own_at HK.out (fun k hk => hb.block k (own_lt HK.out k hk))
      obtain ⟨o, rfl⟩ := own_some hr (by omega)
      obtain ⟨y0, y1, y2, y3, y4⟩ := key_cells hr j (by rw [kys_len]; exact hjL)
      rw [kys_at L j hjL] at y0 y1 y2 y3 y4
      have hol : o < wr.heap.size := own_lt hr o rfl
      have R0 : RK [g] w w.heap.size g #[.int .i64 b, .int .i64 en, .slice (some ⟨o, 0, none⟩) q cap, .slice A2 q cap2, .bool true] u3 j (kcs (kys (L.take j))) none (.slice none 0 0) 0 [] none [] wr :=
        ⟨(Tch.refl [g] w).trans (((Tch.refl [] w).below hb).mono (fun k hk => by simp at hk)) (fun k hk => .inl hk), hbx, ⟨ho, fun _ _ e => by cases e⟩, ⟨⟨rfl, .inl ⟨rfl, rfl⟩⟩, fun _ _ e => by cases e⟩, fun k hk => .inr (own_low ho k hk), fun k hk => by simp [Value.ownBlock] at hk, .inl (by simp), Nat.le_refl _, by decide, fun p hp => by simp at hp, .inl rfl⟩
      obtain ⟨⟨k0, k1, k2, k3, k4⟩, hkk⟩ : ∃ k, L[j].1 = k := ⟨_, rfl⟩
      rw [hkk] at y0 y1 y2 y3 y4
      simp only at y0 y1 y2 y3 y4
      have HKK := Lib.hid hkk
      clear hr hkk ho hb hbx
      go_wp2_with (first | refine wpL_litK rfl 25 rfl _ rfl _ _ _ _ _ R0 rfl (fun gK wK R1 => ?_) | refine wpL_appK rfl 26 rfl _ _ rfl R1 rfl rfl rfl (fun y hy => by (simp only [List.mem_cons, List.not_mem_nil, or_false] at hy; rcases hy with rfl | rfl | rfl | rfl | rfl <;> rfl)) (by omega) (fun vK wk R2 => ?_))
      have HR := Lib.hid R2
      clear R0 R1 R2
      go_wp2_with fail
      go_roundw
      case rel => exact ⟨j + 1, by go_num, by omega, (kys_take L j hjL HKK.out) ▸ HR.out.a.row, (HR.out.tch.unbox HX.out HR.out.box).to_below (Nat.le_refl _) (by simp)⟩
      case measure => simp [intOf]; omega
    · obtain rfl : j = q := by omega
      have hfull : L.take j = L := by rw [← HQ.out]; exact List.take_length
      rw [hfull] at ho
      obtain ⟨A9, c9, rfl, _⟩ := own_open ho
      have HO := Lib.hid ho
      have HB := Lib.hid hb
      clear ho hb hbx hfull
      go_wp2_with fail
      go_ret
      exact ⟨A9, c9, rfl, HO.out, HB.out⟩

def RCopyC (B : Nat) (s : St) (w : World) (e : Ending) (w' : World) : Prop :=
  ∃ d M, e = .returned (.pointer (some ⟨d, 0, none⟩)) ∧ IsR w' B d s M ∧ (∀ k ∈ M, w.heap.size ≤ k) ∧ Below w.heap.size w w'
theorem RCopyC.done {B d q : Nat} {s : St} {w wr : World} {L L2 : List E3} {A9 A3 : Option Addr} {c9 c3 : Nat} (hB : B ≤ w.heap.size) (hL : ents L = s.l) (hq : L.length = q) (h2 : ents L2 = ents L) (hx : Blk wr d 50 #[.int .i64 s.b, .int .i64 s.e, .slice A3 q c3, .slice A9 q c9, .bool true])
    (hk : wr.ownsRow w.heap.size 29 5 (.slice A3 q c3) q (kcs (kys L))) (hi : wr.ownsRow w.heap.size 32 3 (.slice A9 q c9) q (ics L2)) (hp : ∀ p ∈ L2, wr.ownsRow w.heap.size 63 4 p.2.2 p.2.1.px.length (pcs p.2.1.px)) (hd : w.heap.size ≤ d) (hb : Below w.heap.size w wr) :
    RCopyC B s w (.returned (.pointer (some ⟨d, 0, none⟩))) wr := by
  have hl2 : L2.length = q := by rw [← hq, ← ents_len L2, h2, ents_len]
  have hkk : kys L2 = kys L := by rw [← kys_ents, h2, kys_ents]
  subst hl2
  rw [← hkk] at hk
  refine ⟨d, rfoot d (.slice A3 L2.length c3) (.slice A9 L2.length c9), rfl, ⟨_, _, L2, rfl, h2.trans hL, ⟨hx, own_mono hk hB, own_mono hi hB, fun p hp' => own_mono (hp p hp') hB, Nat.le_trans hB hd⟩⟩, fun k hk' => ?_, hb⟩
  rcases mem_rfoot.1 hk' with rfl | h | h
  · exact hd
  · exact own_low hk k h
  · exact own_low hi k h
theorem ents_take (L : List E3) (n : Nat) : ents (L.take n) = (ents L).take n := List.map_take ..

set_option maxRecDepth 100000 in
set_option maxHeartbeats 4000000 in
theorem rcopy_any (B g : Nat) (s : St) (M : List Nat) (w : World) (h : IsR w B g s M) (hmax : s.l.length ≤ 1048576) (hB : B ≤ w.heap.size) (hpx : ∀ p ∈ s.l, p.2.px.length ≤ 4398046511104) :
    Calls Try.prog 22 #[.pointer (some ⟨g, 0, none⟩)] w (RCopyC B s w) := by
  obtain ⟨kv, iv, L, rfl, hL, h1⟩ := h
  obtain ⟨q, hq⟩ : ∃ q, L.length = q := ⟨_, rfl⟩
  have hq20 : q ≤ 1048576 := by rw [← hq, ← ents_len, hL]; exact hmax
  have hm := rmade_yes g _ _ _ _ w h1.box
  have hgl := h1.box.lt
  have CK : Hid (∀ W, Below w.heap.size w W → Calls Try.prog 14 #[.pointer (some ⟨g, 0, none⟩)] W (KeysR L q W)) := Lib.hid (fun W hW => rkeys_rc B g s.b s.e kv iv L q W (h1.later hW) hq hq20)
  have BX : Hid (∀ W, Below w.heap.size w W → W.cell? ⟨g, 0, none⟩ = some (.int .i64 s.b) ∧ W.cell? ⟨g, 1, none⟩ = some (.int .i64 s.e)) := Lib.hid (fun W hW => by
    obtain ⟨z0, z1, _⟩ := blk5 (h1.later hW).box
    exact ⟨z0, z1⟩)
  have H1 := Lib.hid h1
  have HL := Lib.hid hL
  have HQ := Lib.hid hq
  have HPX := Lib.hid hpx
  clear h1 hL hq hpx hmax
  go_enter Try.func22, Try.ntmps22
  go_wp2_with fail
  refine hm.mono ?_
  rintro en w1 ⟨rfl, rfl⟩
  clear hm
  go_wp2_with fail
  refine wp_region_held_drew (S := fun W => Below w.heap.size w W) (by kernel_rfl) (Below.refl _ _).drew (fun hHeld => ?_)
  refine wpAnyH_take (i := 0) (oi := _) (v := .pointer (some ⟨g, 0, none⟩)) rfl (by kernel_rfl) (by kernel_rfl) (by kernel_rfl) (fun _ _ _ h => h) (Or.inl ⟨by rfl, fun W1 _ => by go_simp⟩) (by assumption) ?_
  go_simp
  refine wpAnyH_take (i := 1) (oi := _) (v := .pointer (some ⟨g, 0, none⟩)) rfl (by kernel_rfl) (by kernel_rfl) (by kernel_rfl) (fun _ _ _ h => h) (Or.inl ⟨by rfl, fun W1 _ => by go_simp⟩) (by assumption) ?_
  go_simp
  refine wpAnyH_take (i := 2) (oi := _) (v := .pointer (some ⟨g, 0, none⟩)) rfl (by kernel_rfl) (by kernel_rfl) (by kernel_rfl) (fun _ _ _ h => h) (Or.inl ⟨by rfl, fun W1 _ => by go_simp⟩) (by assumption) ?_
  go_simp
  refine wpAnyH_take (i := 3) (oi := _) (v := .int .i64 s.b) rfl (by kernel_rfl) (by kernel_rfl) (by kernel_rfl) (fun _ _ _ h => h) (Or.inl ⟨by rfl, fun W1 hS => by (have z := BX.out W1 hS; obtain ⟨z0, z1⟩ := z; go_simp)⟩) (by assumption) ?_
  go_simp
  refine wpAnyH_take (i := 4) (oi := _) (v := .pointer (some ⟨g, 0, none⟩)) rfl (by kernel_rfl) (by kernel_rfl) (by kernel_rfl) (fun _ _ _ h => h) (Or.inl ⟨by rfl, fun W1 _ => by go_simp⟩) (by assumption) ?_
  go_simp
  refine wpAnyH_take (i := 5) (oi := _) (v := .pointer (some ⟨g, 0, none⟩)) rfl (by kernel_rfl) (by kernel_rfl) (by kernel_rfl) (fun _ _ _ h => h) (Or.inl ⟨by rfl, fun W1 _ => by go_simp⟩) (by assumption) ?_
  go_simp
  refine wpAnyH_take (i := 6) (oi := _) (v := .pointer (some ⟨g, 1, none⟩)) rfl (by kernel_rfl) (by kernel_rfl) (by kernel_rfl) (fun _ _ _ h => h) (Or.inl ⟨by rfl, fun W1 _ => by go_simp⟩) (by assumption) ?_
  go_simp
  refine wpAnyH_take (i := 7) (oi := _) (v := .int .i64 s.e) rfl (by kernel_rfl) (by kernel_rfl) (by kernel_rfl) (fun _ _ _ h => h) (Or.inl ⟨by rfl, fun W1 hS => by (have z := BX.out W1 hS; obtain ⟨z0, z1⟩ := z; go_simp)⟩) (by assumption) ?_
  go_simp
  refine wpAnyH_take (i := 8) (oi := _) (v := .pointer (some ⟨g, 0, none⟩)) rfl (by kernel_rfl) (by kernel_rfl) (by kernel_rfl) (fun _ _ _ h => h) (Or.inl ⟨by rfl, fun W1 _ => by go_simp⟩) (by assumption) ?_
  go_simp
  refine wpAnyH_ready (rs := [9]) (by kernel_rfl) (by simp) ?_
  refine AllReadyH.cons (o := _) rfl (fun K hK => ?_) AllReadyH.nil
  go_simp
  go_at_call 14
  refine (CK.out _ hHeld).mono ?_
  rintro en w2 ⟨A3, c3, rfl, hk3, hb3⟩
  have hb2 := hHeld.trans (hb3.mono hHeld.size)
  go_wp2_with fail
  refine hK.out _ _ hb2 (fun hHeld => ?_)
  clear hK
  try simp only [Act.put, List.setIfInBounds_toArray, List.set_cons_zero, List.set_cons_succ]
  refine wpAnyH_take (i := 10) (oi := _) (v := .agg #[.int .i64 s.b, .int .i64 s.e, .slice A3 q c3, .slice none 0 0, .bool true]) rfl (by kernel_rfl) (by kernel_rfl) (by kernel_rfl) (fun _ _ _ h => h) (Or.inl ⟨by rfl, fun W1 _ => by go_simp⟩) (by assumption) ?_
  go_simp
  refine wpAnyH_ready (rs := [11]) (by kernel_rfl) (by simp) ?_
  refine AllReadyH.cons (o := _) rfl (fun K hK => ?_) AllReadyH.nil
  rw [if_pos (by rfl)]
  go_simp
  refine hK.out _ _ (hHeld.alloc hHeld.size _) (fun hHeld => ?_)
  clear hK
  try simp only [Act.put, List.setIfInBounds_toArray, List.set_cons_zero, List.set_cons_succ]
  refine wpAnyH_take (i := 12) (oi := _) (v := .pointer (some ⟨w2.heap.size, 0, none⟩)) rfl (by kernel_rfl) (by kernel_rfl) (by kernel_rfl) (fun _ _ _ h => h) (Or.inl ⟨by rfl, fun W1 _ => by go_simp⟩) (by assumption) ?_
  go_simp
  refine wpAnyH_done (by kernel_rfl) ?_ _
  have bd := Blk.new w2 50 #[.int .i64 s.b, .int .i64 s.e, .slice A3 q c3, .slice none 0 0, .bool true]
  have hk4 : (w2.alloc (.cells #[.int .i64 s.b, .int .i64 s.e, .slice A3 q c3, .slice none 0 0, .bool true] 50)).ownsRow w.heap.size 29 5 (.slice A3 q c3) q (kcs (kys L)) := ((Tch.refl [] w2).alloc _).own (own_mono hk3 (by simp)) (by simp)
  have hdw : w.heap.size ≤ w2.heap.size := hb2.size
  obtain ⟨d, hdd⟩ : ∃ d, w2.heap.size = d := ⟨_, rfl⟩
  rw [hdd] at bd hdw
  obtain ⟨w3, hw3⟩ : ∃ w3, w2.alloc (.cells #[.int .i64 s.b, .int .i64 s.e, .slice A3 q c3, .slice none 0 0, .bool true] 50) = w3 := ⟨_, rfl⟩
  rw [hw3] at bd hk4 hHeld
  try rw [hw3]
  try rw [hdd]
  have HB3 := Lib.hid hHeld
  have BD := Lib.hid bd
  have HK4 := Lib.hid hk4
  clear hHeld hb2 hb3 hk3 bd hk4 hdd hw3
  go_wp2_with fail
  go_loopw [4] (fun i wr => ∃ (j : Nat) (L2 : List E3) (A9 : Option Addr) (c9 : Nat), i = .int .i64 j ∧ j ≤ q ∧ L2.length = j ∧ ents L2 = ents (L.take j) ∧ Blk wr d 50 #[.int .i64 s.b, .int .i64 s.e, .slice A3 q c3, .slice A9 j c9, .bool true] ∧ wr.ownsRow w.heap.size 29 5 (.slice A3 q c3) q (kcs (kys L)) ∧ wr.ownsRow w.heap.size 32 3 (.slice A9 j c9) j (ics L2) ∧ (∀ p ∈ L2, wr.ownsRow w.heap.size 63 4 p.2.2 p.2.1.px.length (pcs p.2.1.px)) ∧ Below w.heap.size w wr) (fun i _ => q - (intOf i).toNat)
  case atStart => exact ⟨0, [], none, 0, rfl, by omega, rfl, rfl, BD.out, HK4.out, ⟨rfl, .inl ⟨rfl, rfl⟩⟩, fun p hp => by simp at hp, HB3.out⟩
  case round =>
    obtain ⟨j, L2, A9, c9, rfl, hj, hl2, he2, hx, hk, hi, hp, hb⟩ := hrel
    obtain ⟨A, cap, A2, cap2, hkv, hiv, _, hri, hbox⟩ := (H1.out.later hb).shapes q HQ.out
    obtain ⟨x0, x1, x2, x3, x4, xf⟩ := blk5 hbox
    have hgw := hbox.lt
    by_cases hlt : j < q
    · have hjL : j < L.length := by have := HQ.out; omega
      obtain ⟨o2, rfl⟩ := own_some hri (by omega)
      obtain ⟨⟨kk, ⟨iW, iH, px⟩, r⟩, hy⟩ : ∃ y, L[j]'hjL = y := ⟨_, rfl⟩
      have hpj := H1.out.pix _ (List.getElem_mem hjL)
      rw [hy] at hpj
      simp only at hpj
      obtain ⟨A5, c5, rfl, _⟩ := own_open hpj
      obtain ⟨pl, hpl⟩ : ∃ pl, px.length = pl := ⟨_, rfl⟩
      have HPL := Lib.hid hpl
      have hpm : px.length ≤ 4398046511104 := by
        refine HPX.out (kk, ⟨iW, iH, px⟩) ?_
        rw [← HL.out]
        refine List.mem_map.2 ⟨L[j], List.getElem_mem hjL, by rw [hy]⟩
      obtain ⟨M2, hM2⟩ : ∃ M2, rfoot d (.slice A3 q c3) (.slice A9 j c9) = M2 := ⟨_, rfl⟩
      have hlow : ∀ k ∈ M2, w.heap.size ≤ k := fun k hk' => by
        rw [← hM2] at hk'
        rcases mem_rfoot.1 hk' with rfl | h | h
        · exact hdw
        · exact own_low hk k h
        · exact own_low hi k h
      have R0 : RK M2 wr w.heap.size d #[.int .i64 s.b, .int .i64 s.e, .slice A3 q c3, .slice A9 j c9, .bool true] (.slice A3 q c3) q (kcs (kys L)) none (.slice A9 j c9) j (ics L2) none (PLof L2) wr.drew := by
        refine RW.drew ⟨Tch.refl _ _, hx, ⟨hk, fun _ _ e => by cases e⟩, ⟨hi, fun _ _ e => by cases e⟩, fun k hk' => .inl ?_, fun k hk' => .inl ?_, .inl ?_, hb.size, by decide, fun p hp' => ?_, .inr (by decide)⟩
        · rw [← hM2]; exact mem_rfoot.2 (.inr (.inl hk'))
        · rw [← hM2]; exact mem_rfoot.2 (.inr (.inr hk'))
        · rw [← hM2]; exact mem_rfoot.2 (.inl rfl)
        · obtain ⟨p', h', rfl⟩ := List.mem_map.1 hp'
          exact hp p' h'
      have BW : Hid (∀ W, Tch M2 wr W → Below w.heap.size w W) := Lib.hid (fun W hW => hb.trans (hW.to_below hb.size hlow))
      have ST : Hid (∀ W, Tch M2 wr W → W.cell? ⟨g, 3, none⟩ = some (.slice (some ⟨o2, 0, none⟩) q cap2) ∧ W.cell? ⟨o2, j * 3, none⟩ = some (.int .i64 iW) ∧ W.cell? ⟨o2, j * 3 + 1, none⟩ = some (.int .i64 iH) ∧ W.cell? ⟨o2, j * 3 + 2, none⟩ = some (.slice A5 pl c5)) := Lib.hid (fun W hW => by
        have hW' := H1.out.later (BW.out W hW)
        rw [hkv, hiv] at hW'
        obtain ⟨_, _, _, z3, _⟩ := blk5 hW'.box
        have hir := hW'.irow
        rw [HQ.out] at hir
        obtain ⟨i0, i1, i2⟩ := img_cells hir j hjL
        rw [hy] at i0 i1 i2
        simp only [HPL.out] at i0 i1 i2
        exact ⟨z3, i0, i1, i2⟩)
      have CC : Hid (∀ W, Tch M2 wr W → Calls Try.prog 39 #[.agg #[.int .i64 iW, .int .i64 iH, .slice A5 pl c5]] W (Copied ⟨iW, iH, px⟩ W)) := Lib.hid (fun W hW => by
        have hW' := H1.out.later (BW.out W hW)
        have hr := hW'.pix _ (List.getElem_mem hjL)
        rw [hy] at hr
        simp only at hr
        have := rcopied_any _ ⟨iW, iH, px⟩ W (ImgV.read (base := B) ⟨_, rfl, hr⟩) hpm
        simp only [HPL.out] at this
        exact this)
      have hdd := hx.cell 3
      have hy2 : (ents L2 ++ [(kk, (⟨iW, iH, px⟩ : Img))]) = ents (L.take (j + 1)) := by
        rw [List.take_succ_eq_append_getElem hjL, ents_app, he2, hy]
        rfl
      have HY2 := Lib.hid hy2
      have HL2 := Lib.hid hl2
      clear hy2 hl2 he2 hpj hy hri hbox hkv hiv hp hi hk hx hpl hlow hM2 hb
      go_wp2_with fail
      refine wp_region_G (S := S1 17 (fun W => W.cell? ⟨d, 3, none⟩ = some (.slice A9 j c9)) (fun W => Tch M2 wr W)) (by kernel_rfl) ⟨fun _ => R0.box.cell 3, R0.tch⟩ (fun hHeld => ?_)
      refine wpAnyG_take (i := 0) (oi := _) (v := .pointer (some ⟨d, 0, none⟩)) rfl (by kernel_rfl) (by kernel_rfl) (by kernel_rfl) (fun _ _ _ h => h) (fun _ _ => S1.un (by decide)) (by kernel_rfl) (Or.inl ⟨by rfl, fun W1 _ => by go_simp⟩) (S1.set (by decide) hHeld) (fun hHeld => ?_)
      go_simp
      refine wpAnyG_take (i := 1) (oi := _) (v := .pointer (some ⟨d, 0, none⟩)) rfl (by kernel_rfl) (by kernel_rfl) (by kernel_rfl) (fun _ _ _ h => h) (fun _ _ => S1.un (by decide)) (by kernel_rfl) (Or.inl ⟨by rfl, fun W1 _ => by go_simp⟩) (S1.set (by decide) hHeld) (fun hHeld => ?_)
      go_simp
      refine wpAnyG_take (i := 2) (oi := _) (v := .pointer (some ⟨d, 0, none⟩)) rfl (by kernel_rfl) (by kernel_rfl) (by kernel_rfl) (fun _ _ _ h => h) (fun _ _ => S1.un (by decide)) (by kernel_rfl) (Or.inl ⟨by rfl, fun W1 _ => by go_simp⟩) (S1.set (by decide) hHeld) (fun hHeld => ?_)
      go_simp
      refine wpAnyG_take (i := 3) (oi := _) (v := .pointer (some ⟨d, 3, none⟩)) rfl (by kernel_rfl) (by kernel_rfl) (by kernel_rfl) (fun _ _ _ h => h) (fun _ _ => S1.un (by decide)) (by kernel_rfl) (Or.inl ⟨by rfl, fun W1 _ => by go_simp⟩) (S1.set (by decide) hHeld) (fun hHeld => ?_)
      go_simp
      refine wpAnyG_take (i := 4) (oi := _) (v := .slice A9 j c9) rfl (by kernel_rfl) (by kernel_rfl) (by kernel_rfl) (fun _ _ _ h => h) (fun _ _ => S1.un (by decide)) (by kernel_rfl) (Or.inl ⟨by rfl, fun W1 h1 => by (obtain ⟨l, hcl, hi, hS⟩ := h1; have hC := hS.C (hcl.back 4 17 rfl (by kernel_rfl) (unlisted hi)); go_simp)⟩) (S1.set (by decide) hHeld) (fun hHeld => ?_)
      go_simp
      refine wpAnyG_take (i := 5) (oi := _) (v := .pointer (some ⟨g, 0, none⟩)) rfl (by kernel_rfl) (by kernel_rfl) (by kernel_rfl) (fun _ _ _ h => h) (fun _ _ => S1.un (by decide)) (by kernel_rfl) (Or.inl ⟨by rfl, fun W1 _ => by go_simp⟩) (S1.set (by decide) hHeld) (fun hHeld => ?_)
      go_simp
      refine wpAnyG_take (i := 6) (oi := _) (v := .pointer (some ⟨g, 0, none⟩)) rfl (by kernel_rfl) (by kernel_rfl) (by kernel_rfl) (fun _ _ _ h => h) (fun _ _ => S1.un (by decide)) (by kernel_rfl) (Or.inl ⟨by rfl, fun W1 _ => by go_simp⟩) (S1.set (by decide) hHeld) (fun hHeld => ?_)
      go_simp
      refine wpAnyG_take (i := 7) (oi := _) (v := .pointer (some ⟨g, 3, none⟩)) rfl (by kernel_rfl) (by kernel_rfl) (by kernel_rfl) (fun _ _ _ h => h) (fun _ _ => S1.un (by decide)) (by kernel_rfl) (Or.inl ⟨by rfl, fun W1 _ => by go_simp⟩) (S1.set (by decide) hHeld) (fun hHeld => ?_)
      go_simp
      refine wpAnyG_take (i := 8) (oi := _) (v := .slice (some ⟨o2, 0, none⟩) q cap2) rfl (by kernel_rfl) (by kernel_rfl) (by kernel_rfl) (fun _ _ _ h => h) (fun _ _ => S1.un (by decide)) (by kernel_rfl) (Or.inl ⟨by rfl, fun W1 h1 => by (obtain ⟨l, hcl, hi, hS⟩ := h1; have hT := hS.T; have hST := ST.out W1 hT; obtain ⟨z3, i0', i1', i2'⟩ := hST; go_simp)⟩) (S1.set (by decide) hHeld) (fun hHeld => ?_)
      go_simp
      refine wpAnyG_take (i := 9) (oi := _) (v := .int .i64 (j : Int)) rfl (by kernel_rfl) (by kernel_rfl) (by kernel_rfl) (fun _ _ _ h => h) (fun _ _ => S1.un (by decide)) (by kernel_rfl) (Or.inl ⟨by rfl, fun W1 _ => by go_simp⟩) (S1.set (by decide) hHeld) (fun hHeld => ?_)
      go_simp
      refine wpAnyG_take (i := 10) (oi := _) (v := .pointer (some ⟨o2, j * 3, none⟩)) rfl (by kernel_rfl) (by kernel_rfl) (by kernel_rfl) (fun _ _ _ h => h) (fun _ _ => S1.un (by decide)) (by kernel_rfl) (Or.inl ⟨by rfl, fun W1 _ => by go_simp⟩) (S1.set (by decide) hHeld) (fun hHeld => ?_)
      go_simp
      refine wpAnyG_take (i := 11) (oi := _) (v := .agg #[.int .i64 iW, .int .i64 iH, .slice A5 pl c5]) rfl (by kernel_rfl) (by kernel_rfl) (by kernel_rfl) (fun _ _ _ h => h) (fun _ _ => S1.un (by decide)) (by kernel_rfl) (Or.inl ⟨by rfl, fun W1 h1 => by (obtain ⟨l, hcl, hi, hS⟩ := h1; have hT := hS.T; have hST := ST.out W1 hT; obtain ⟨z3, i0', i1', i2'⟩ := hST; go_simp)⟩) (S1.set (by decide) hHeld) (fun hHeld => ?_)
      go_simp
      refine wpAnyG_ready (rs := [12]) (by kernel_rfl) (by simp) ?_
      refine AllReadyG.cons (o := _) rfl (fun K hK => ?_) AllReadyG.nil
      go_simp
      go_at_call 39
      refine (CC.out _ R0.tch).mono ?_
      rintro en wc ⟨v1, rfl, hI1, hb1⟩
      obtain ⟨r1, rfl, ho1⟩ := hI1
      simp only at ho1
      obtain ⟨A1, c1, rfl, _⟩ := own_open ho1
      rw [HPL.out] at ho1
      have ho2 : wc.ownsRow w.heap.size 63 4 (.slice A1 pl c1) px.length (pcs px) := by
        rw [HPL.out]
        exact own_mono ho1 R0.size
      have R1 := (R0.later hb1).addPix ho2 (by decide)
      clear hb1
      simp only [HPL.out]
      go_wp2_with fail
      refine hK.out _ _ (⟨fun _ => R1.box.cell 3, R1.tch⟩) (fun hHeld => ?_)
      clear hK
      try simp only [Act.put, List.setIfInBounds_toArray, List.set_cons_zero, List.set_cons_succ]
      refine wpAnyG_ready (rs := [13]) (by kernel_rfl) (by simp) ?_
      refine AllReadyG.cons (o := _) rfl (fun K hK => ?_) AllReadyG.nil
      rw [if_pos (by rfl)]
      refine wp_litI 42 rfl _ rfl _ _ _ R1 rfl (fun gI wI R2 => ?_)
      refine hK.out _ _ (⟨fun _ => R2.box.cell 3, R2.tch⟩) (fun hHeld => ?_)
      clear hK
      try simp only [Act.put, List.setIfInBounds_toArray, List.set_cons_zero, List.set_cons_succ]
      refine wpAnyG_ready (rs := [14]) (by kernel_rfl) (by simp) ?_
      refine AllReadyG.cons (o := _) rfl (fun K hK => ?_) AllReadyG.nil
      rw [if_pos (by rfl)]
      refine wp_appI 43 rfl _ _ rfl R2 rfl rfl rfl (fun y hy => by (simp only [List.mem_cons, List.not_mem_nil, or_false] at hy; rcases hy with rfl | rfl | rfl <;> rfl)) (by omega) (fun vI wi R3 => ?_)
      obtain ⟨oI, capI, rfl⟩ := own_shape R3.b.row
      refine hK.out _ _ (⟨fun _ => R3.box.cell 3, R3.tch⟩) (fun hHeld => ?_)
      clear hK
      try simp only [Act.put, List.setIfInBounds_toArray, List.set_cons_zero, List.set_cons_succ]
      refine wpAnyG_take (i := 15) (oi := _) (v := .pointer (some ⟨d, 0, none⟩)) rfl (by kernel_rfl) (by kernel_rfl) (by kernel_rfl) (fun _ _ _ h => h) (fun _ _ => S1.un (by decide)) (by kernel_rfl) (Or.inl ⟨by rfl, fun W1 _ => by go_simp⟩) (S1.set (by decide) hHeld) (fun hHeld => ?_)
      go_simp
      refine wpAnyG_take (i := 16) (oi := _) (v := .pointer (some ⟨d, 3, none⟩)) rfl (by kernel_rfl) (by kernel_rfl) (by kernel_rfl) (fun _ _ _ h => h) (fun _ _ => S1.un (by decide)) (by kernel_rfl) (Or.inl ⟨by rfl, fun W1 _ => by go_simp⟩) (S1.set (by decide) hHeld) (fun hHeld => ?_)
      go_simp
      obtain ⟨f0, f1, f2, f3, f4, ff⟩ := blk5 R3.box
      refine wpAnyG_ready (rs := [17]) (by kernel_rfl) (by simp) ?_
      refine AllReadyG.cons (o := _) rfl (fun K hK => ?_) AllReadyG.nil
      rw [if_pos (by rfl)]
      go_simp
      have R4 := R3.store 3 (.slice (some ⟨oI, 0, none⟩) (j + 1) capI)
      refine hK.out _ _ (⟨fun h => Bool.noConfusion (show true = false from h), R4.tch⟩) (fun hHeld => ?_)
      clear hK
      try simp only [Act.put, List.setIfInBounds_toArray, List.set_cons_zero, List.set_cons_succ]
      refine wpAnyG_done (by kernel_rfl) ?_ _
      clear hHeld f0 f1 f2 f3 f4 ff
      have HR := Lib.hid R4
      clear R4 R3 R2 R1 R0 ho1 ho2
      go_wp2_with fail
      go_roundw
      case rel =>
        refine ⟨j + 1, L2 ++ [(kk, (⟨iW, iH, px⟩ : Img), .slice A1 pl c1)], some ⟨oI, 0, none⟩, capI, by go_num, by omega, by simp [HL2.out], by rw [ents_app]; exact HY2.out, HR.out.box, HR.out.a.row, ?_, fun p hp => HR.out.px _ (mem_PLsnoc hp), BW.out _ HR.out.tch⟩
        have := HR.out.b.row
        rw [ics_snoc L2 kk ⟨iW, iH, px⟩ (.slice A1 pl c1)] at this
        exact this
      case measure => simp [intOf]; omega
    · obtain rfl : j = q := by omega
      have hfull : L.take j = L := by rw [← HQ.out]; exact List.take_length
      rw [hfull] at he2
      have HE := Lib.hid he2
      have HX := Lib.hid hx
      have HKk := Lib.hid hk
      have HI := Lib.hid hi
      have HP := Lib.hid hp
      have HB := Lib.hid hb
      clear he2 hx hk hi hp hb hfull hri hbox hkv hiv hl2
      go_wp2_with fail
      go_ret
      exact RCopyC.done hB HL.out HQ.out HE.out HX.out HKk.out HI.out HP.out hdw HB.out

end Go.Proofs.Ytkdokipgakncjaa.Cac
