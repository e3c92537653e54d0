/-
  Layer 36, the document's answer: Get.
-/
import Derived.Test.YtkdokipgakncjaaRCacF
namespace Go.Proofs.Ytkdokipgakncjaa.Cac
open Go.RowKit Go.Proofs.Ytkdokipgakncjaa Go.Proofs.Ytkdokipgakncjaa.RegG

def PLof (L : List E3) : List (Value × List P4) := L.map fun p => (p.2.2, p.2.1.px)
theorem mem_PLof {L : List E3} {p : E3} (h : p ∈ L) : (p.2.2, p.2.1.px) ∈ PLof L := List.mem_map.2 ⟨p, h, rfl⟩
abbrev RK (M : List Nat) (w0 : World) (B g : Nat) (cs : Array Value) (v4 : Value) (n4 : Nat) (x4 : List Value) (l4 : Option (Nat × Array Value)) (v5 : Value) (n5 : Nat) (x5 : List Value) (l5 : Option (Nat × Array Value)) (PL : List (Value × List P4)) (W : World) : Prop :=
  RW 29 5 32 3 50 M w0 B g cs v4 n4 x4 l4 v5 n5 x5 l5 PL W
section
variable {B g b e : Nat} {M : List Nat} {w0 wr W : World} {L : List E3}
/-- A cache whose rows are to be appended to. -/
theorem RT.rw_ (h : RT B g b e M w0 L wr) (q : Nat) (hq : L.length = q) (PL : List (Value × List P4)) (hp : ∀ p ∈ PL, wr.ownsRow B 63 4 p.1 p.2.length (pcs p.2)) :
    ∃ A cap A2 cap2, RK M w0 B g #[.int .i64 b, .int .i64 e, .slice A q cap, .slice A2 q cap2, .bool true] (.slice A q cap) q (kcs (kys L)) none (.slice A2 q cap2) q (ics L) none PL wr := by
  obtain ⟨⟨kv, iv, h1, h2⟩, h3, h4, h5⟩ := h
  obtain ⟨A, cap, A2, cap2, rfl, rfl, hk, hi, hbox⟩ := h1.shapes q hq
  exact ⟨A, cap, A2, cap2, h3, hbox, ⟨hk, fun _ _ e => by cases e⟩, ⟨hi, fun _ _ e => by cases e⟩, fun k hk => h2 k (mem_rfoot.2 (.inr (.inl hk))), fun k hk => h2 k (mem_rfoot.2 (.inr (.inr hk))), .inl h4, h5, by decide, hp, .inr (by decide)⟩
/-- Behind the appends. -/
theorem RW.rt {kv iv : Value} {PL : List (Value × List P4)} {x4 x5 : List Value} {n : Nat} {l4 l5 : Option (Nat × Array Value)} {cs : Array Value} (h : RK M w0 B g cs kv n x4 l4 iv n x5 l5 PL W) (hcs : cs = #[.int .i64 b, .int .i64 e, kv, iv, .bool true]) (hg : g ∈ M) (hB : B ≤ g) (hn : n = L.length) (h4 : x4 = kcs (kys L)) (h5 : x5 = ics L) (hp : ∀ p ∈ L, (p.2.2, p.2.1.px) ∈ PL) :
    RT B g b e M w0 L W := by
  subst hn h4 h5
  have hb := h.box
  rw [hcs] at hb
  refine ⟨⟨kv, iv, ⟨hb, h.a.row, h.b.row, fun p hp' => h.px _ (hp p hp'), hB⟩, fun k hk => ?_⟩, h.tch, hg, h.low⟩
  rcases mem_rfoot.1 hk with rfl | hk | hk
  · exact .inl hg
  · exact h.ma k hk
  · exact h.mb k hk
theorem RT.rebase {w1 : World} (h : RT B g b e M w1 L wr) (ht : Tch [] w0 w1) (hB : B ≤ w0.heap.size) : RT B g b e M w0 L wr := by
  obtain ⟨⟨kv, iv, h1, h2⟩, h3, h4, h5⟩ := h
  have hs := ht.size
  exact ⟨⟨kv, iv, h1, fun k hk => (h2 k hk).imp id (fun h => Nat.le_trans hs h)⟩, (ht.mono (M' := M) (fun k hk => by simp at hk)).trans h3 (fun k hk => .inl hk), h4, hB⟩
theorem RT.gB (h : RT B g b e M w0 L wr) : B ≤ g := by obtain ⟨⟨kv, iv, h1, h2⟩, _⟩ := h; exact h1.low
end
theorem ics_snoc (L : List E3) (k : K5) (i : Img) (r : Value) : ics L ++ (#[.int .i64 i.W, .int .i64 i.H, r] : Array Value).toList = ics (L ++ [(k, i, r)]) := by rw [ics_app]; rfl
theorem kys_snoc (L : List E3) (k : K5) (i : Img) (r : Value) : kcs (kys L) ++ (#[.int .i64 k.1, .int .i64 k.2.1, .int .i64 k.2.2.1, .int .i64 k.2.2.2.1, .int .i64 k.2.2.2.2] : Array Value).toList = kcs (kys (L ++ [(k, i, r)])) := by rw [kys_app, kcs_app]; rfl
theorem pix_of {w W : World} {M : List Nat} {B : Nat} {L : List E3} (h : ∀ p ∈ L, w.ownsRow B 63 4 p.2.2 p.2.1.px.length (pcs p.2.1.px)) (ht : Tch M w W) (hM : NoPix w M) : ∀ p ∈ PLof L, W.ownsRow B 63 4 p.1 p.2.length (pcs p.2) := fun p hp => by
  obtain ⟨p', hp', rfl⟩ := List.mem_map.1 hp
  exact pix_tch (h p' hp') ht hM
def GotR (B g : Nat) (s : St) (k : K5) (M : List Nat) (w : World) (e : Ending) (w' : World) : Prop := ∃ v, e = .returned (.tuple #[v, .bool (look s.l k).isSome]) ∧ ImgV w' w.heap.size v ((look s.l k).getD img0) ∧ ROut B g (s.get k) M w w'
theorem GotR.none_ {B g : Nat} {s : St} {k : K5} {M : List Nat} {w w' : World} (hl : look s.l k = none) (h : IsR w B g s M) (hT : Tch [] w w') : GotR B g s k M w (.returned (.tuple #[.agg #[.int .i64 0, .int .i64 0, .slice none 0 0], .bool false])) w' := by
  refine ⟨_, by rw [hl]; rfl, ?_, ?_⟩
  · rw [hl]
    exact ⟨_, rfl, rfl, .inl ⟨rfl, rfl⟩⟩
  · unfold St.get
    rw [hl]
    exact Out.stay (obR B g s) h hT

theorem look_ents {L : List E3} {l : List Ent} (hL : ents L = l) (hnd : (keys l).Nodup) (j : Nat) (hj : j < L.length) {k : K5} {im : Img} {r : Value} (hy : L[j] = (k, im, r)) : look l k = some im := by
  subst hL
  have := look_at (l := ents L) (k := k) j (by rw [ents_len]; exact hj) hnd (by rw [ents_at L j hj, hy])
  rw [this, ents_at L j hj, hy]
theorem rem_ents {L : List E3} {l : List Ent} (hL : ents L = l) (hnd : (keys l).Nodup) (j : Nat) (hj : j < L.length) {k : K5} {im : Img} {r : Value} (hy : L[j] = (k, im, r)) : ents (L.eraseIdx j) = rem l k := by
  subst hL
  rw [ents_erase, rem_at j (by rw [ents_len]; exact hj) hnd (by rw [ents_at L j hj, hy])]
theorem RT.tchz {B g b e : Nat} {M : List Nat} {w w4 w7 w8 : World} {L : List E3} (h : RT B g b e M w4 L w7) (hT4 : Tch [] w w4) (hB : B ≤ w.heap.size) (z : Nat) (hz : w.heap.size ≤ z) (hz4 : z < w4.heap.size) (hM : ∀ j ∈ M, j < w.heap.size) {cs : Array Value} (hb : Blk w7 z 32 cs) (ht : Tch [z] w7 w8) : RT B g b e M w L w8 := by
  obtain ⟨⟨kv, iv, h1, h2⟩, h3, h4, h5⟩ := h
  have hs := hT4.size
  have hs7 := h3.size
  refine ⟨⟨kv, iv, h1.tch ht (fun k hk => ?_) (fun k hk hm => ?_), fun k hk => (h2 k hk).imp id (fun h => Nat.le_trans hs h)⟩, ((hT4.mono (M' := M) (fun k hk => by simp at hk)).trans h3 (fun k hk => .inl hk)).trans ht (fun k hk => .inr ?_), h4, hB⟩
  · simp only [List.mem_singleton] at hk
    subst hk
    exact NoPix.cells hb (by decide)
  · simp only [List.mem_singleton] at hm
    subst hm
    rcases h2 k hk with h | h
    · have := hM k h; omega
    · omega
  · simp only [List.mem_singleton] at hk
    subst hk
    exact hz
theorem GotR.some_ {B g q : Nat} {s : St} {k : K5} {im : Img} {r r7 c0 c1 c2 kv iv vK vI : Value} {M : List Nat} {w w4 w6 w7 : World} {L' : List E3} (hl : look s.l k = some im) (hr : ents L' = rem s.l k) (hq : L'.length = q) (hgM : g ∈ M) (hgB : B ≤ g) (hB : B ≤ w.heap.size) (hT4 : Tch [] w w4) (hM : ∀ j ∈ M, j < w.heap.size)
    (h6 : RK M w4 B g ((#[.int .i64 s.b, .int .i64 s.e, kv, iv, .bool true].setIfInBounds 2 vK).setIfInBounds 3 vI) vK (q + 1) (kcs (kys L') ++ (#[.int .i64 k.1, .int .i64 k.2.1, .int .i64 k.2.2.1, .int .i64 k.2.2.2.1, .int .i64 k.2.2.2.2] : Array Value).toList) none vI (q + 1) (ics L' ++ (#[.int .i64 im.W, .int .i64 im.H, r] : Array Value).toList) none (PLof (L' ++ [(k, im, r)])) w6)
    (hb7 : Below w6.heap.size w6 w7) (ho7 : w7.ownsRow w6.heap.size 63 4 r7 im.px.length (pcs im.px)) (z : Nat) (hz : w.heap.size ≤ z) (hz4 : z < w4.heap.size) {cs : Array Value} (hzb : Blk w7 z 32 cs) :
    GotR B g s k M w (.returned (.tuple #[.agg #[.int .i64 im.W, .int .i64 im.H, r7], .bool true])) (((w7.setCell ⟨z, 0, none⟩ c0).setCell ⟨z, 1, none⟩ c1).setCell ⟨z, 2, none⟩ c2) := by
  have T : Tch [z] w7 (((w7.setCell ⟨z, 0, none⟩ c0).setCell ⟨z, 1, none⟩ c1).setCell ⟨z, 2, none⟩ c2) := (((Tch.refl _ _).setCell (.inl (by simp)) _).setCell (.inl (by simp)) _).setCell (.inl (by simp)) _
  have hs6 := h6.tch.size
  have hs4 := hT4.size
  have R6 := RW.rt (L := L' ++ [(k, im, r)]) (b := s.b) (e := s.e) h6 (by simp) hgM hgB (by simp [hq]) (kys_snoc L' k im r) (ics_snoc L' k im r) (fun p hp => mem_PLof hp)
  have R8 := (R6.later hb7).tchz hT4 hB z hz hz4 hM hzb T
  refine ⟨_, by rw [hl]; rfl, ?_, ?_⟩
  · rw [hl]
    refine ⟨r7, rfl, own_mono (T.own ho7 fun j hj hm => ?_) (by omega)⟩
    have := own_low ho7 j hj
    simp only [List.mem_singleton] at hm
    omega
  · have := R8.out
    rw [ents_app, hr] at this
    unfold St.get
    rw [hl]
    exact this

set_option maxRecDepth 100000 in
set_option maxHeartbeats 8000000 in
theorem rget_any (B g : Nat) (s : St) (k : K5) (M : List Nat) (w : World) (h : IsR w B g s M) (hmax : s.l.length ≤ 1048576) (hnd : (keys s.l).Nodup) (hB : B ≤ w.heap.size) (hpx : ∀ p ∈ s.l, p.2.px.length ≤ 4398046511104) :
    Calls Try.prog 25 #[.pointer (some ⟨g, 0, none⟩), kagg k] w (GotR B g s k M w) := by
  have hIs := h
  obtain ⟨kv, iv, L, rfl, hL, h1⟩ := h
  obtain ⟨M, hMM⟩ : ∃ M, rfoot g kv iv = M := ⟨_, rfl⟩
  have hML := h1.size
  have hnp := h1.noPix
  have hRT : ∀ W, Tch [] w W → RT B g s.b s.e M W L W := fun W hT => by rw [← hMM]; exact RT.start (h1.tch0 hT) (Nat.le_trans hB hT.size)
  have hpix := h1.pix
  rw [hMM] at hIs hML hnp ⊢
  have hgM : g ∈ M := by rw [← hMM]; exact mem_rfoot.2 (.inl rfl)
  have hLl : L.length = s.l.length := by rw [← ents_len, hL]
  have hmx : L.length ≤ 1048576 := by omega
  have T2 : Tch [] w ((w.alloc (.cells #[.int .i64 k.1, .int .i64 k.2.1, .int .i64 k.2.2.1, .int .i64 k.2.2.2.1, .int .i64 k.2.2.2.2] 29)).alloc (.cells #[.int .i64 0, .int .i64 0, .slice none 0 0] 32)) := ((Tch.refl _ _).alloc _).alloc _
  have K2 : Blk ((w.alloc (.cells #[.int .i64 k.1, .int .i64 k.2.1, .int .i64 k.2.2.1, .int .i64 k.2.2.2.1, .int .i64 k.2.2.2.2] 29)).alloc (.cells #[.int .i64 0, .int .i64 0, .slice none 0 0] 32)) w.heap.size 29 #[.int .i64 k.1, .int .i64 k.2.1, .int .i64 k.2.2.1, .int .i64 k.2.2.2.1, .int .i64 k.2.2.2.2] := (Blk.new _ _ _).alloc _
  have Z2 : Blk ((w.alloc (.cells #[.int .i64 k.1, .int .i64 k.2.1, .int .i64 k.2.2.1, .int .i64 k.2.2.2.1, .int .i64 k.2.2.2.2] 29)).alloc (.cells #[.int .i64 0, .int .i64 0, .slice none 0 0] 32)) (w.heap.size + 1) 32 #[.int .i64 0, .int .i64 0, .slice none 0 0] := by
    have := Blk.new (w.alloc (.cells #[.int .i64 k.1, .int .i64 k.2.1, .int .i64 k.2.2.1, .int .i64 k.2.2.2.1, .int .i64 k.2.2.2.2] 29)) 32 #[.int .i64 0, .int .i64 0, .slice none 0 0]
    simpa using this
  have R2 := hRT _ T2
  have hm := R2.made
  have hp := R2.place k hmx
  have HRT := Lib.hid hRT
  have HIS := Lib.hid hIs
  have HP := Lib.hid hpix
  have HL := Lib.hid hL
  have HND := Lib.hid hnd
  have HT2 := Lib.hid T2
  have HK2 := Lib.hid K2
  have HZ2 := Lib.hid Z2
  have HNP := Lib.hid hnp
  have HPX := Lib.hid hpx
  have HML := Lib.hid hML
  have HMM := Lib.hid hMM
  clear hIs hL h1 hRT hpix hnd R2 T2 hMM hnp hpx hML
  obtain ⟨k0, k1, k2, k3, k4⟩ := k
  unfold kagg at hp ⊢
  simp only at K2 Z2 hm hp HT2 HK2 HZ2
  obtain ⟨W2, hW2⟩ : ∃ W2, ((w.alloc (.cells #[.int .i64 k0, .int .i64 k1, .int .i64 k2, .int .i64 k3, .int .i64 k4] 29)).alloc (.cells #[.int .i64 0, .int .i64 0, .slice none 0 0] 32)) = W2 := ⟨_, rfl⟩
  rw [hW2] at K2 Z2 hm hp HT2 HK2 HZ2
  go_enter Try.func25, Try.ntmps25
  go_wp2_with fail
  refine hm.mono ?_
  rintro en w1 ⟨rfl, rfl⟩
  clear hm
  obtain ⟨d0, d1, d2, d3, d4, df⟩ := blk5 K2
  clear hW2 K2 Z2
  go_wp2_with fail
  refine hp.mono ?_
  rintro en w3 ⟨hpl, hb3⟩
  clear hp d0 d1 d2 d3 d4 df
  have T3 := HT2.out.below hb3
  have K3 := HK2.out.below hb3 HK2.out.lt
  have Z3 := HZ2.out.below hb3 HZ2.out.lt
  clear hb3
  rcases hpl with ⟨j, hj, hjk, _, rfl⟩ | ⟨hno, rfl⟩
  · have hjL : j < L.length := by rw [kys_len] at hj; exact hj
    have hje : j < (ents L).length := by rw [ents_len]; exact hjL
    obtain ⟨⟨kk, ⟨iW, iH, px⟩, r⟩, hy⟩ : ∃ y, L[j]'hjL = y := ⟨_, rfl⟩
    have hkk : kk = (k0, k1, k2, k3, k4) := by
      rw [kys_at L j hjL, hy] at hjk
      exact hjk
    subst hkk
    have hpj := HP.out _ (List.getElem_mem hjL)
    have hl := look_ents HL.out HND.out j hjL hy
    have hr := rem_ents HL.out HND.out j hjL hy
    rw [hy] at hpj
    simp only at hpj
    obtain ⟨A5, c5, rfl, _⟩ := own_open hpj
    have hpxm : px.length ≤ 4398046511104 := HPX.out _ (look_mem hl)
    obtain ⟨n, hn⟩ : ∃ n, L.length = n := ⟨_, rfl⟩
    obtain ⟨A, cap, A2, cap2, x0, x1, x2, x3, xf, hgl, _, hri⟩ := (HRT.out w3 T3).cells n hn
    obtain ⟨o2, rfl⟩ := own_some hri (by omega)
    obtain ⟨i0, i1, i2⟩ := img_cells hri j hjL
    have ho2l : o2 < w3.heap.size := own_lt hri o2 rfl
    rw [hy] at i0 i1 i2
    simp only at i0 i1 i2
    have hjn : j < n := by omega
    have hs3 := T3.size
    have hT4 : Tch [] w (w3.alloc (.cells #[.int .i64 iW, .int .i64 iH, .slice A5 px.length c5] 32)) := T3.alloc _
    have htk := (HRT.out _ hT4).take j hjL hmx
    have hK4 := K3.alloc (.cells #[.int .i64 iW, .int .i64 iH, .slice A5 px.length c5] 32)
    have hZ4 := Z3.alloc (.cells #[.int .i64 iW, .int .i64 iH, .slice A5 px.length c5] 32)
    have hI4 := Blk.new w3 32 #[.int .i64 iW, .int .i64 iH, .slice A5 px.length c5]
    have hq' : (L.eraseIdx j).length = n - 1 := by rw [List.length_eraseIdx_of_lt hjL, hn]
    have hsub : ∀ p ∈ L.eraseIdx j ++ [((k0, k1, k2, k3, k4), (⟨iW, iH, px⟩ : Img), Value.slice A5 px.length c5)], p ∈ L := fun p hp => by
      rcases List.mem_append.1 hp with hp | hp
      · exact List.mem_of_mem_eraseIdx hp
      · simp only [List.mem_singleton] at hp
        rw [hp, ← hy]
        exact List.getElem_mem hjL
    have hn20 : n ≤ 1048576 := by omega
    have h3l : w.heap.size + 1 < w3.heap.size := Z3.lt
    have HLk := Lib.hid hl
    have HRm := Lib.hid hr
    have HQ' := Lib.hid hq'
    have HSUB := Lib.hid hsub
    have HPJ := Lib.hid hpj
    have HT4 := Lib.hid hT4
    have HK4 := Lib.hid hK4
    have HZ4 := Lib.hid hZ4
    have HI4 := Lib.hid hI4
    clear hl hr hq' hsub hpj hT4 hK4 hZ4 hI4 hy hri hjk hj K3 Z3 T3 hn hLl
    obtain ⟨w4, hw4⟩ : ∃ w4, w3.alloc (.cells #[.int .i64 iW, .int .i64 iH, .slice A5 px.length c5] 32) = w4 := ⟨_, rfl⟩
    have hs4 : w4.heap.size = w3.heap.size + 1 := by rw [← hw4]; simp
    rw [hw4] at htk HT4 HK4 HZ4 HI4
    obtain ⟨g7, hg7⟩ : ∃ g7, w3.heap.size = g7 := ⟨_, rfl⟩
    go_wp2_with fail
    rw [hg7] at HI4 hs4 hs3 h3l
    try rw [hg7]
    refine htk.mono ?_
    rintro en w5 ⟨rfl, h5⟩
    clear htk hw4 x0 x1 x2 x3 xf hgl i0 i1 i2 ho2l hg7
    have CK : Hid (∀ W, Tch M w4 W → Blk W w.heap.size 29 #[.int .i64 k0, .int .i64 k1, .int .i64 k2, .int .i64 k3, .int .i64 k4]) := Lib.hid (fun W hW => hW.blk HK4.out (fun hm => by have := HML.out _ hm; omega))
    have CI : Hid (∀ W, Tch M w4 W → W.cell? ⟨g7, 0, none⟩ = some (.int .i64 iW) ∧ W.cell? ⟨g7, 1, none⟩ = some (.int .i64 iH) ∧ W.cell? ⟨g7, 2, none⟩ = some (.slice A5 px.length c5) ∧ ∀ o, W.frozen? ⟨g7, o, none⟩ = false) := Lib.hid (fun W hW => blk3 (hW.blk HI4.out (fun hm => by have := HML.out _ hm; omega)))
    have CZB : Hid (∀ W, Tch M w4 W → Blk W (w.heap.size + 1) 32 #[.int .i64 0, .int .i64 0, .slice none 0 0]) := Lib.hid (fun W hW => hW.blk HZ4.out (fun hm => by have := HML.out _ hm; omega))
    have CZ : Hid (∀ W, Tch M w4 W → W.cell? ⟨w.heap.size + 1, 0, none⟩ = some (.int .i64 0) ∧ W.cell? ⟨w.heap.size + 1, 1, none⟩ = some (.int .i64 0) ∧ W.cell? ⟨w.heap.size + 1, 2, none⟩ = some (.slice none 0 0) ∧ ∀ o, W.frozen? ⟨w.heap.size + 1, o, none⟩ = false) := Lib.hid (fun W hW => blk3 (CZB.out W hW))
    have CC : Hid (∀ W, Tch M w4 W → Calls Try.prog 39 #[.agg #[.int .i64 iW, .int .i64 iH, .slice A5 px.length c5]] W (Copied ⟨iW, iH, px⟩ W)) := Lib.hid (fun W hW =>
      rcopied_any _ ⟨iW, iH, px⟩ W (ImgV.read (base := B) ⟨_, rfl, pix_tch HPJ.out ((HT4.out.mono (M' := M) (fun k hk => by simp at hk)).trans hW (fun k hk => .inl hk)) HNP.out⟩) hpxm)
    have h5d := h5.sameM (Tch.refl [] w5).drew
    obtain ⟨q, hqn⟩ : ∃ q, n - 1 = q := ⟨_, rfl⟩
    rw [hqn] at HQ'
    have hpl : ∀ p ∈ PLof (L.eraseIdx j ++ [((k0, k1, k2, k3, k4), (⟨iW, iH, px⟩ : Img), Value.slice A5 px.length c5)]), w5.drew.ownsRow B 63 4 p.1 p.2.length (pcs p.2) :=
      pix_of (fun p hp => HP.out p (HSUB.out p hp)) (((HT4.out.mono (M' := M) (fun k hk => by simp at hk)).trans h5.tch (fun k hk => .inl hk)).drew) HNP.out
    obtain ⟨A, cap, A2, cap2, R0⟩ := h5d.rw_ q HQ'.out _ hpl
    have hgB := h5.gB
    have HGB := Lib.hid hgB
    have h5t := h5.tch
    clear h5 h5d hpl hgB
    obtain ⟨x0, x1, x2, x3, x4, xf⟩ := blk5 R0.box
    obtain ⟨d0, d1, d2, d3, d4, df⟩ := blk5 (CK.out w5 h5t)
    obtain ⟨e0, e1, e2, ef⟩ := CI.out w5 h5t
    clear h5t
    go_wp2_with fail
    clear x0 x1 x2 x3 x4 xf d0 d1 d2 d3 d4 df e0 e1 e2 ef
    refine wp_region_G (S := S2 18 21 (fun W => W.cell? ⟨g, 2, none⟩ = some (.slice A q cap)) (fun W => W.cell? ⟨g, 3, none⟩ = some (.slice A2 q cap2)) (fun W => Tch M w4 W)) (by kernel_rfl) ⟨fun _ => R0.box.cell 2, fun _ => R0.box.cell 3, R0.tch⟩ (fun hHeld => ?_)
    refine wpAnyG_take (i := 0) (oi := _) (v := .pointer (some ⟨g, 0, none⟩)) rfl (by kernel_rfl) (by kernel_rfl) (by kernel_rfl) (fun _ _ _ h => h) (fun _ _ => S2.un (by decide) (by decide)) (by kernel_rfl) (Or.inl ⟨by rfl, fun W1 _ => by go_simp⟩) (S2.set (by decide) (by decide) hHeld) (fun hHeld => ?_)
    go_simp
    refine wpAnyG_take (i := 1) (oi := _) (v := .pointer (some ⟨g, 0, none⟩)) rfl (by kernel_rfl) (by kernel_rfl) (by kernel_rfl) (fun _ _ _ h => h) (fun _ _ => S2.un (by decide) (by decide)) (by kernel_rfl) (Or.inl ⟨by rfl, fun W1 _ => by go_simp⟩) (S2.set (by decide) (by decide) hHeld) (fun hHeld => ?_)
    go_simp
    refine wpAnyG_take (i := 2) (oi := _) (v := .pointer (some ⟨g, 0, none⟩)) rfl (by kernel_rfl) (by kernel_rfl) (by kernel_rfl) (fun _ _ _ h => h) (fun _ _ => S2.un (by decide) (by decide)) (by kernel_rfl) (Or.inl ⟨by rfl, fun W1 _ => by go_simp⟩) (S2.set (by decide) (by decide) hHeld) (fun hHeld => ?_)
    go_simp
    refine wpAnyG_take (i := 3) (oi := _) (v := .pointer (some ⟨g, 0, none⟩)) rfl (by kernel_rfl) (by kernel_rfl) (by kernel_rfl) (fun _ _ _ h => h) (fun _ _ => S2.un (by decide) (by decide)) (by kernel_rfl) (Or.inl ⟨by rfl, fun W1 _ => by go_simp⟩) (S2.set (by decide) (by decide) hHeld) (fun hHeld => ?_)
    go_simp
    refine wpAnyG_take (i := 4) (oi := _) (v := .pointer (some ⟨g, 2, none⟩)) rfl (by kernel_rfl) (by kernel_rfl) (by kernel_rfl) (fun _ _ _ h => h) (fun _ _ => S2.un (by decide) (by decide)) (by kernel_rfl) (Or.inl ⟨by rfl, fun W1 _ => by go_simp⟩) (S2.set (by decide) (by decide) hHeld) (fun hHeld => ?_)
    go_simp
    refine wpAnyG_take (i := 5) (oi := _) (v := .slice A q cap) rfl (by kernel_rfl) (by kernel_rfl) (by kernel_rfl) (fun _ _ _ h => h) (fun _ _ => S2.un (by decide) (by decide)) (by kernel_rfl) (Or.inl ⟨by rfl, fun W1 h1 => by (obtain ⟨l, hcl, hi, hS⟩ := h1; have hC := hS.C (hcl.back 5 18 rfl (by kernel_rfl) (unlisted hi)); go_simp)⟩) (S2.set (by decide) (by decide) hHeld) (fun hHeld => ?_)
    go_simp
    refine wpAnyG_take (i := 6) (oi := _) (v := .agg #[.int .i64 k0, .int .i64 k1, .int .i64 k2, .int .i64 k3, .int .i64 k4]) rfl (by kernel_rfl) (by kernel_rfl) (by kernel_rfl) (fun _ _ _ h => h) (fun _ _ => S2.un (by decide) (by decide)) (by kernel_rfl) (Or.inl ⟨by rfl, fun W1 h1 => by (obtain ⟨l, hcl, hi, hS⟩ := h1; have hT := hS.T; have z := CK.out W1 hT; obtain ⟨z0, z1, z2, z3, z4, _⟩ := blk5 z; go_simp)⟩) (S2.set (by decide) (by decide) hHeld) (fun hHeld => ?_)
    go_simp
    refine wpAnyG_take (i := 9) (oi := _) (v := .pointer (some ⟨g, 0, none⟩)) rfl (by kernel_rfl) (by kernel_rfl) (by kernel_rfl) (fun _ _ _ h => h) (fun _ _ => S2.un (by decide) (by decide)) (by kernel_rfl) (Or.inl ⟨by rfl, fun W1 _ => by go_simp⟩) (S2.set (by decide) (by decide) hHeld) (fun hHeld => ?_)
    go_simp
    refine wpAnyG_take (i := 10) (oi := _) (v := .pointer (some ⟨g, 0, none⟩)) rfl (by kernel_rfl) (by kernel_rfl) (by kernel_rfl) (fun _ _ _ h => h) (fun _ _ => S2.un (by decide) (by decide)) (by kernel_rfl) (Or.inl ⟨by rfl, fun W1 _ => by go_simp⟩) (S2.set (by decide) (by decide) hHeld) (fun hHeld => ?_)
    go_simp
    refine wpAnyG_take (i := 11) (oi := _) (v := .pointer (some ⟨g, 3, none⟩)) rfl (by kernel_rfl) (by kernel_rfl) (by kernel_rfl) (fun _ _ _ h => h) (fun _ _ => S2.un (by decide) (by decide)) (by kernel_rfl) (Or.inl ⟨by rfl, fun W1 _ => by go_simp⟩) (S2.set (by decide) (by decide) hHeld) (fun hHeld => ?_)
    go_simp
    refine wpAnyG_take (i := 12) (oi := _) (v := .slice A2 q cap2) rfl (by kernel_rfl) (by kernel_rfl) (by kernel_rfl) (fun _ _ _ h => h) (fun _ _ => S2.un (by decide) (by decide)) (by kernel_rfl) (Or.inl ⟨by rfl, fun W1 h1 => by (obtain ⟨l, hcl, hi, hS⟩ := h1; have hC := hS.D (hcl.back 12 21 rfl (by kernel_rfl) (unlisted hi)); go_simp)⟩) (S2.set (by decide) (by decide) hHeld) (fun hHeld => ?_)
    go_simp
    refine wpAnyG_take (i := 13) (oi := _) (v := .agg #[.int .i64 iW, .int .i64 iH, .slice A5 px.length c5]) rfl (by kernel_rfl) (by kernel_rfl) (by kernel_rfl) (fun _ _ _ h => h) (fun _ _ => S2.un (by decide) (by decide)) (by kernel_rfl) (Or.inl ⟨by rfl, fun W1 h1 => by (obtain ⟨l, hcl, hi, hS⟩ := h1; have hT := hS.T; have z := CI.out W1 hT; obtain ⟨z0, z1, z2, _⟩ := z; go_simp)⟩) (S2.set (by decide) (by decide) hHeld) (fun hHeld => ?_)
    go_simp
    refine wpAnyG_ready (rs := [7, 14]) (by kernel_rfl) (by simp) ?_
    refine AllReadyG.cons (o := _) rfl (fun K hK => ?_) (AllReadyG.cons (o := _) rfl (fun K hK => ?_) AllReadyG.nil)
    · rw [if_pos (by rfl)]
      refine wp_litK 35 rfl _ rfl _ _ _ _ _ R0 rfl (fun gK wK0 R1 => ?_)
      refine hK.out _ _ (⟨fun _ => R1.box.cell 2, fun _ => R1.box.cell 3, R1.tch⟩) (fun hHeld => ?_)
      clear hK
      try simp only [Act.put, List.setIfInBounds_toArray, List.set_cons_zero, List.set_cons_succ]
      refine wpAnyG_ready (rs := [8, 14]) (by kernel_rfl) (by simp) ?_
      refine AllReadyG.cons (o := _) rfl (fun K hK => ?_) (AllReadyG.cons (o := _) rfl (fun K hK => ?_) AllReadyG.nil)
      · rw [if_pos (by rfl)]
        refine wp_appK 36 rfl _ _ rfl R1 rfl rfl rfl (fun y hy => by (simp only [List.mem_cons, List.not_mem_nil, or_false] at hy; rcases hy with rfl | rfl | rfl | rfl | rfl <;> rfl)) (by omega) (fun vK wk1 R2 => ?_)
        obtain ⟨oK, capK, rfl⟩ := own_shape R2.a.row
        refine hK.out _ _ (⟨fun _ => R2.box.cell 2, fun _ => R2.box.cell 3, R2.tch⟩) (fun hHeld => ?_)
        clear hK
        try simp only [Act.put, List.setIfInBounds_toArray, List.set_cons_zero, List.set_cons_succ]
        refine wpAnyG_ready (rs := [14]) (by kernel_rfl) (by simp) ?_
        refine AllReadyG.cons (o := _) rfl (fun K hK => ?_) AllReadyG.nil
        rw [if_pos (by rfl)]
        refine wp_litI 42 rfl _ rfl _ _ _ R2 rfl (fun gI wI2 R3 => ?_)
        refine hK.out _ _ (⟨fun _ => R3.box.cell 2, fun _ => R3.box.cell 3, R3.tch⟩) (fun hHeld => ?_)
        clear hK
        try simp only [Act.put, List.setIfInBounds_toArray, List.set_cons_zero, List.set_cons_succ]
        refine wpAnyG_ready (rs := [15]) (by kernel_rfl) (by simp) ?_
        refine AllReadyG.cons (o := _) rfl (fun K hK => ?_) AllReadyG.nil
        rw [if_pos (by rfl)]
        refine wp_appI 43 rfl _ _ rfl R3 rfl rfl rfl (fun y hy => by (simp only [List.mem_cons, List.not_mem_nil, or_false] at hy; rcases hy with rfl | rfl | rfl <;> rfl)) (by omega) (fun vI wi3 R4 => ?_)
        obtain ⟨oI, capI, rfl⟩ := own_shape R4.b.row
        refine hK.out _ _ (⟨fun _ => R4.box.cell 2, fun _ => R4.box.cell 3, R4.tch⟩) (fun hHeld => ?_)
        clear hK
        try simp only [Act.put, List.setIfInBounds_toArray, List.set_cons_zero, List.set_cons_succ]
        refine wpAnyG_take (i := 16) (oi := _) (v := .pointer (some ⟨g, 0, none⟩)) rfl (by kernel_rfl) (by kernel_rfl) (by kernel_rfl) (fun _ _ _ h => h) (fun _ _ => S2.un (by decide) (by decide)) (by kernel_rfl) (Or.inl ⟨by rfl, fun W1 _ => by go_simp⟩) (S2.set (by decide) (by decide) hHeld) (fun hHeld => ?_)
        go_simp
        refine wpAnyG_take (i := 17) (oi := _) (v := .pointer (some ⟨g, 2, none⟩)) rfl (by kernel_rfl) (by kernel_rfl) (by kernel_rfl) (fun _ _ _ h => h) (fun _ _ => S2.un (by decide) (by decide)) (by kernel_rfl) (Or.inl ⟨by rfl, fun W1 _ => by go_simp⟩) (S2.set (by decide) (by decide) hHeld) (fun hHeld => ?_)
        go_simp
        obtain ⟨f0, f1, f2, f3, f4, ff⟩ := blk5 R4.box
        refine wpAnyG_ready (rs := [18]) (by kernel_rfl) (by simp) ?_
        refine AllReadyG.cons (o := _) rfl (fun K hK => ?_) AllReadyG.nil
        rw [if_pos (by rfl)]
        go_simp
        have R5 := R4.store 2 (.slice (some ⟨oK, 0, none⟩) (q + 1) capK)
        refine hK.out _ _ (⟨fun h => Bool.noConfusion (show true = false from h), fun _ => R5.box.cell 3, R5.tch⟩) (fun hHeld => ?_)
        clear hK
        try simp only [Act.put, List.setIfInBounds_toArray, List.set_cons_zero, List.set_cons_succ]
        refine wpAnyG_take (i := 19) (oi := _) (v := .pointer (some ⟨g, 0, none⟩)) rfl (by kernel_rfl) (by kernel_rfl) (by kernel_rfl) (fun _ _ _ h => h) (fun _ _ => S2.un (by decide) (by decide)) (by kernel_rfl) (Or.inl ⟨by rfl, fun W1 _ => by go_simp⟩) (S2.set (by decide) (by decide) hHeld) (fun hHeld => ?_)
        go_simp
        refine wpAnyG_take (i := 20) (oi := _) (v := .pointer (some ⟨g, 3, none⟩)) rfl (by kernel_rfl) (by kernel_rfl) (by kernel_rfl) (fun _ _ _ h => h) (fun _ _ => S2.un (by decide) (by decide)) (by kernel_rfl) (Or.inl ⟨by rfl, fun W1 _ => by go_simp⟩) (S2.set (by decide) (by decide) hHeld) (fun hHeld => ?_)
        go_simp
        clear f0 f1 f2 f3 f4 ff
        have g3 := R5.box.cell 3
        have gf := R5.box.frozen
        refine wpAnyG_ready (rs := [21]) (by kernel_rfl) (by simp) ?_
        refine AllReadyG.cons (o := _) rfl (fun K hK => ?_) AllReadyG.nil
        rw [if_pos (by rfl)]
        go_simp
        have R6 := R5.store 3 (.slice (some ⟨oI, 0, none⟩) (q + 1) capI)
        refine hK.out _ _ (⟨fun h => Bool.noConfusion (show true = false from h), fun h => Bool.noConfusion (show true = false from h), R6.tch⟩) (fun hHeld => ?_)
        clear hK
        try simp only [Act.put, List.setIfInBounds_toArray, List.set_cons_zero, List.set_cons_succ]
        refine wpAnyG_done (by kernel_rfl) ?_ _
        clear hHeld g3 gf
        have HR6 := Lib.hid R6
        clear R6 R5 R4 R3 R2 R1 R0
        obtain ⟨w6, hw6⟩ : ∃ w6, (World.setCell (World.setCell wi3 ⟨g, 2, none⟩ (.slice (some ⟨oK, 0, none⟩) (q + 1) capK)) ⟨g, 3, none⟩ (.slice (some ⟨oI, 0, none⟩) (q + 1) capI)) = w6 := ⟨_, rfl⟩
        rw [hw6] at HR6 ⊢
        clear hw6
        have T6 := HR6.out.tch
        obtain ⟨m0, m1, m2, mf⟩ := CI.out w6 T6
        obtain ⟨p0, p1, p2, pf⟩ := CZ.out w6 T6
        have hcp := CC.out w6 T6
        have H6 := Lib.hid T6
        clear T6
        go_wp2_with fail
        refine hcp.mono ?_
        rintro en w7 ⟨v7, rfl, hI7, hb7⟩
        obtain ⟨r7, rfl, ho7⟩ := hI7
        obtain ⟨A7, c7, rfl, _⟩ := own_open ho7
        simp only at ho7 ⊢
        obtain ⟨q0, q1, q2, qf⟩ := CZ.out w7 (H6.out.below hb7)
        have HB7 := Lib.hid hb7
        have HO7 := Lib.hid ho7
        clear hb7 ho7 hcp
        go_wp2_with fail
        refine bodyPost_ret (v := .tuple #[.agg #[.int .i64 iW, .int .i64 iH, .slice A7 px.length c7], .bool true]) (by simp [results, Try.results25, go_sem, q0, q1, q2]) rfl ?_
        exact GotR.some_ HLk.out HRm.out HQ'.out hgM HGB.out hB HT4.out HML.out HR6.out HB7.out HO7.out (w.heap.size + 1) (by omega) (by omega) (CZB.out w7 (H6.out.below HB7.out))
      · rw [if_pos (by rfl)]
        refine wp_litI 42 rfl _ rfl _ _ _ R1 rfl (fun gI wI1 R2 => ?_)
        refine hK.out _ _ (⟨fun _ => R2.box.cell 2, fun _ => R2.box.cell 3, R2.tch⟩) (fun hHeld => ?_)
        clear hK
        try simp only [Act.put, List.setIfInBounds_toArray, List.set_cons_zero, List.set_cons_succ]
        refine wpAnyG_ready (rs := [8]) (by kernel_rfl) (by simp) ?_
        refine AllReadyG.cons (o := _) rfl (fun K hK => ?_) AllReadyG.nil
        rw [if_pos (by rfl)]
        refine wp_appK 36 rfl _ _ rfl R2 rfl rfl rfl (fun y hy => by (simp only [List.mem_cons, List.not_mem_nil, or_false] at hy; rcases hy with rfl | rfl | rfl | rfl | rfl <;> rfl)) (by omega) (fun vK wk2 R3 => ?_)
        obtain ⟨oK, capK, rfl⟩ := own_shape R3.a.row
        refine hK.out _ _ (⟨fun _ => R3.box.cell 2, fun _ => R3.box.cell 3, R3.tch⟩) (fun hHeld => ?_)
        clear hK
        try simp only [Act.put, List.setIfInBounds_toArray, List.set_cons_zero, List.set_cons_succ]
        refine wpAnyG_ready (rs := [15]) (by kernel_rfl) (by simp) ?_
        refine AllReadyG.cons (o := _) rfl (fun K hK => ?_) AllReadyG.nil
        rw [if_pos (by rfl)]
        refine wp_appI 43 rfl _ _ rfl R3 rfl rfl rfl (fun y hy => by (simp only [List.mem_cons, List.not_mem_nil, or_false] at hy; rcases hy with rfl | rfl | rfl <;> rfl)) (by omega) (fun vI wi3 R4 => ?_)
        obtain ⟨oI, capI, rfl⟩ := own_shape R4.b.row
        refine hK.out _ _ (⟨fun _ => R4.box.cell 2, fun _ => R4.box.cell 3, R4.tch⟩) (fun hHeld => ?_)
        clear hK
        try simp only [Act.put, List.setIfInBounds_toArray, List.set_cons_zero, List.set_cons_succ]
        refine wpAnyG_take (i := 16) (oi := _) (v := .pointer (some ⟨g, 0, none⟩)) rfl (by kernel_rfl) (by kernel_rfl) (by kernel_rfl) (fun _ _ _ h => h) (fun _ _ => S2.un (by decide) (by decide)) (by kernel_rfl) (Or.inl ⟨by rfl, fun W1 _ => by go_simp⟩) (S2.set (by decide) (by decide) hHeld) (fun hHeld => ?_)
        go_simp
        refine wpAnyG_take (i := 17) (oi := _) (v := .pointer (some ⟨g, 2, none⟩)) rfl (by kernel_rfl) (by kernel_rfl) (by kernel_rfl) (fun _ _ _ h => h) (fun _ _ => S2.un (by decide) (by decide)) (by kernel_rfl) (Or.inl ⟨by rfl, fun W1 _ => by go_simp⟩) (S2.set (by decide) (by decide) hHeld) (fun hHeld => ?_)
        go_simp
        obtain ⟨f0, f1, f2, f3, f4, ff⟩ := blk5 R4.box
        refine wpAnyG_ready (rs := [18]) (by kernel_rfl) (by simp) ?_
        refine AllReadyG.cons (o := _) rfl (fun K hK => ?_) AllReadyG.nil
        rw [if_pos (by rfl)]
        go_simp
        have R5 := R4.store 2 (.slice (some ⟨oK, 0, none⟩) (q + 1) capK)
        refine hK.out _ _ (⟨fun h => Bool.noConfusion (show true = false from h), fun _ => R5.box.cell 3, R5.tch⟩) (fun hHeld => ?_)
        clear hK
        try simp only [Act.put, List.setIfInBounds_toArray, List.set_cons_zero, List.set_cons_succ]
        refine wpAnyG_take (i := 19) (oi := _) (v := .pointer (some ⟨g, 0, none⟩)) rfl (by kernel_rfl) (by kernel_rfl) (by kernel_rfl) (fun _ _ _ h => h) (fun _ _ => S2.un (by decide) (by decide)) (by kernel_rfl) (Or.inl ⟨by rfl, fun W1 _ => by go_simp⟩) (S2.set (by decide) (by decide) hHeld) (fun hHeld => ?_)
        go_simp
        refine wpAnyG_take (i := 20) (oi := _) (v := .pointer (some ⟨g, 3, none⟩)) rfl (by kernel_rfl) (by kernel_rfl) (by kernel_rfl) (fun _ _ _ h => h) (fun _ _ => S2.un (by decide) (by decide)) (by kernel_rfl) (Or.inl ⟨by rfl, fun W1 _ => by go_simp⟩) (S2.set (by decide) (by decide) hHeld) (fun hHeld => ?_)
        go_simp
        clear f0 f1 f2 f3 f4 ff
        have g3 := R5.box.cell 3
        have gf := R5.box.frozen
        refine wpAnyG_ready (rs := [21]) (by kernel_rfl) (by simp) ?_
        refine AllReadyG.cons (o := _) rfl (fun K hK => ?_) AllReadyG.nil
        rw [if_pos (by rfl)]
        go_simp
        have R6 := R5.store 3 (.slice (some ⟨oI, 0, none⟩) (q + 1) capI)
        refine hK.out _ _ (⟨fun h => Bool.noConfusion (show true = false from h), fun h => Bool.noConfusion (show true = false from h), R6.tch⟩) (fun hHeld => ?_)
        clear hK
        try simp only [Act.put, List.setIfInBounds_toArray, List.set_cons_zero, List.set_cons_succ]
        refine wpAnyG_done (by kernel_rfl) ?_ _
        clear hHeld g3 gf
        have HR6 := Lib.hid R6
        clear R6 R5 R4 R3 R2 R1 R0
        obtain ⟨w6, hw6⟩ : ∃ w6, (World.setCell (World.setCell wi3 ⟨g, 2, none⟩ (.slice (some ⟨oK, 0, none⟩) (q + 1) capK)) ⟨g, 3, none⟩ (.slice (some ⟨oI, 0, none⟩) (q + 1) capI)) = w6 := ⟨_, rfl⟩
        rw [hw6] at HR6 ⊢
        clear hw6
        have T6 := HR6.out.tch
        obtain ⟨m0, m1, m2, mf⟩ := CI.out w6 T6
        obtain ⟨p0, p1, p2, pf⟩ := CZ.out w6 T6
        have hcp := CC.out w6 T6
        have H6 := Lib.hid T6
        clear T6
        go_wp2_with fail
        refine hcp.mono ?_
        rintro en w7 ⟨v7, rfl, hI7, hb7⟩
        obtain ⟨r7, rfl, ho7⟩ := hI7
        obtain ⟨A7, c7, rfl, _⟩ := own_open ho7
        simp only at ho7 ⊢
        obtain ⟨q0, q1, q2, qf⟩ := CZ.out w7 (H6.out.below hb7)
        have HB7 := Lib.hid hb7
        have HO7 := Lib.hid ho7
        clear hb7 ho7 hcp
        go_wp2_with fail
        refine bodyPost_ret (v := .tuple #[.agg #[.int .i64 iW, .int .i64 iH, .slice A7 px.length c7], .bool true]) (by simp [results, Try.results25, go_sem, q0, q1, q2]) rfl ?_
        exact GotR.some_ HLk.out HRm.out HQ'.out hgM HGB.out hB HT4.out HML.out HR6.out HB7.out HO7.out (w.heap.size + 1) (by omega) (by omega) (CZB.out w7 (H6.out.below HB7.out))
    · rw [if_pos (by rfl)]
      refine wp_litI 42 rfl _ rfl _ _ _ R0 rfl (fun gI wI0 R1 => ?_)
      refine hK.out _ _ (⟨fun _ => R1.box.cell 2, fun _ => R1.box.cell 3, R1.tch⟩) (fun hHeld => ?_)
      clear hK
      try simp only [Act.put, List.setIfInBounds_toArray, List.set_cons_zero, List.set_cons_succ]
      refine wpAnyG_ready (rs := [7]) (by kernel_rfl) (by simp) ?_
      refine AllReadyG.cons (o := _) rfl (fun K hK => ?_) AllReadyG.nil
      rw [if_pos (by rfl)]
      refine wp_litK 35 rfl _ rfl _ _ _ _ _ R1 rfl (fun gK wK1 R2 => ?_)
      refine hK.out _ _ (⟨fun _ => R2.box.cell 2, fun _ => R2.box.cell 3, R2.tch⟩) (fun hHeld => ?_)
      clear hK
      try simp only [Act.put, List.setIfInBounds_toArray, List.set_cons_zero, List.set_cons_succ]
      refine wpAnyG_ready (rs := [8]) (by kernel_rfl) (by simp) ?_
      refine AllReadyG.cons (o := _) rfl (fun K hK => ?_) AllReadyG.nil
      rw [if_pos (by rfl)]
      refine wp_appK 36 rfl _ _ rfl R2 rfl rfl rfl (fun y hy => by (simp only [List.mem_cons, List.not_mem_nil, or_false] at hy; rcases hy with rfl | rfl | rfl | rfl | rfl <;> rfl)) (by omega) (fun vK wk2 R3 => ?_)
      obtain ⟨oK, capK, rfl⟩ := own_shape R3.a.row
      refine hK.out _ _ (⟨fun _ => R3.box.cell 2, fun _ => R3.box.cell 3, R3.tch⟩) (fun hHeld => ?_)
      clear hK
      try simp only [Act.put, List.setIfInBounds_toArray, List.set_cons_zero, List.set_cons_succ]
      refine wpAnyG_ready (rs := [15]) (by kernel_rfl) (by simp) ?_
      refine AllReadyG.cons (o := _) rfl (fun K hK => ?_) AllReadyG.nil
      rw [if_pos (by rfl)]
      refine wp_appI 43 rfl _ _ rfl R3 rfl rfl rfl (fun y hy => by (simp only [List.mem_cons, List.not_mem_nil, or_false] at hy; rcases hy with rfl | rfl | rfl <;> rfl)) (by omega) (fun vI wi3 R4 => ?_)
      obtain ⟨oI, capI, rfl⟩ := own_shape R4.b.row
      refine hK.out _ _ (⟨fun _ => R4.box.cell 2, fun _ => R4.box.cell 3, R4.tch⟩) (fun hHeld => ?_)
      clear hK
      try simp only [Act.put, List.setIfInBounds_toArray, List.set_cons_zero, List.set_cons_succ]
      refine wpAnyG_take (i := 16) (oi := _) (v := .pointer (some ⟨g, 0, none⟩)) rfl (by kernel_rfl) (by kernel_rfl) (by kernel_rfl) (fun _ _ _ h => h) (fun _ _ => S2.un (by decide) (by decide)) (by kernel_rfl) (Or.inl ⟨by rfl, fun W1 _ => by go_simp⟩) (S2.set (by decide) (by decide) hHeld) (fun hHeld => ?_)
      go_simp
      refine wpAnyG_take (i := 17) (oi := _) (v := .pointer (some ⟨g, 2, none⟩)) rfl (by kernel_rfl) (by kernel_rfl) (by kernel_rfl) (fun _ _ _ h => h) (fun _ _ => S2.un (by decide) (by decide)) (by kernel_rfl) (Or.inl ⟨by rfl, fun W1 _ => by go_simp⟩) (S2.set (by decide) (by decide) hHeld) (fun hHeld => ?_)
      go_simp
      obtain ⟨f0, f1, f2, f3, f4, ff⟩ := blk5 R4.box
      refine wpAnyG_ready (rs := [18]) (by kernel_rfl) (by simp) ?_
      refine AllReadyG.cons (o := _) rfl (fun K hK => ?_) AllReadyG.nil
      rw [if_pos (by rfl)]
      go_simp
      have R5 := R4.store 2 (.slice (some ⟨oK, 0, none⟩) (q + 1) capK)
      refine hK.out _ _ (⟨fun h => Bool.noConfusion (show true = false from h), fun _ => R5.box.cell 3, R5.tch⟩) (fun hHeld => ?_)
      clear hK
      try simp only [Act.put, List.setIfInBounds_toArray, List.set_cons_zero, List.set_cons_succ]
      refine wpAnyG_take (i := 19) (oi := _) (v := .pointer (some ⟨g, 0, none⟩)) rfl (by kernel_rfl) (by kernel_rfl) (by kernel_rfl) (fun _ _ _ h => h) (fun _ _ => S2.un (by decide) (by decide)) (by kernel_rfl) (Or.inl ⟨by rfl, fun W1 _ => by go_simp⟩) (S2.set (by decide) (by decide) hHeld) (fun hHeld => ?_)
      go_simp
      refine wpAnyG_take (i := 20) (oi := _) (v := .pointer (some ⟨g, 3, none⟩)) rfl (by kernel_rfl) (by kernel_rfl) (by kernel_rfl) (fun _ _ _ h => h) (fun _ _ => S2.un (by decide) (by decide)) (by kernel_rfl) (Or.inl ⟨by rfl, fun W1 _ => by go_simp⟩) (S2.set (by decide) (by decide) hHeld) (fun hHeld => ?_)
      go_simp
      clear f0 f1 f2 f3 f4 ff
      have g3 := R5.box.cell 3
      have gf := R5.box.frozen
      refine wpAnyG_ready (rs := [21]) (by kernel_rfl) (by simp) ?_
      refine AllReadyG.cons (o := _) rfl (fun K hK => ?_) AllReadyG.nil
      rw [if_pos (by rfl)]
      go_simp
      have R6 := R5.store 3 (.slice (some ⟨oI, 0, none⟩) (q + 1) capI)
      refine hK.out _ _ (⟨fun h => Bool.noConfusion (show true = false from h), fun h => Bool.noConfusion (show true = false from h), R6.tch⟩) (fun hHeld => ?_)
      clear hK
      try simp only [Act.put, List.setIfInBounds_toArray, List.set_cons_zero, List.set_cons_succ]
      refine wpAnyG_done (by kernel_rfl) ?_ _
      clear hHeld g3 gf
      have HR6 := Lib.hid R6
      clear R6 R5 R4 R3 R2 R1 R0
      obtain ⟨w6, hw6⟩ : ∃ w6, (World.setCell (World.setCell wi3 ⟨g, 2, none⟩ (.slice (some ⟨oK, 0, none⟩) (q + 1) capK)) ⟨g, 3, none⟩ (.slice (some ⟨oI, 0, none⟩) (q + 1) capI)) = w6 := ⟨_, rfl⟩
      rw [hw6] at HR6 ⊢
      clear hw6
      have T6 := HR6.out.tch
      obtain ⟨m0, m1, m2, mf⟩ := CI.out w6 T6
      obtain ⟨p0, p1, p2, pf⟩ := CZ.out w6 T6
      have hcp := CC.out w6 T6
      have H6 := Lib.hid T6
      clear T6
      go_wp2_with fail
      refine hcp.mono ?_
      rintro en w7 ⟨v7, rfl, hI7, hb7⟩
      obtain ⟨r7, rfl, ho7⟩ := hI7
      obtain ⟨A7, c7, rfl, _⟩ := own_open ho7
      simp only at ho7 ⊢
      obtain ⟨q0, q1, q2, qf⟩ := CZ.out w7 (H6.out.below hb7)
      have HB7 := Lib.hid hb7
      have HO7 := Lib.hid ho7
      clear hb7 ho7 hcp
      go_wp2_with fail
      refine bodyPost_ret (v := .tuple #[.agg #[.int .i64 iW, .int .i64 iH, .slice A7 px.length c7], .bool true]) (by simp [results, Try.results25, go_sem, q0, q1, q2]) rfl ?_
      exact GotR.some_ HLk.out HRm.out HQ'.out hgM HGB.out hB HT4.out HML.out HR6.out HB7.out HO7.out (w.heap.size + 1) (by omega) (by omega) (CZB.out w7 (H6.out.below HB7.out))
  · have hno2 : (k0, k1, k2, k3, k4) ∉ keys s.l := by rw [← HL.out, kys_ents]; exact hno
    have hl := look_none.2 hno2
    obtain ⟨y0, y1, y2, yf⟩ := blk3 Z3
    have HT3 := Lib.hid T3
    have HLN := Lib.hid hl
    have hbb : w.heap.size ≤ w.heap.size + 1 := by omega
    clear T3 K3 hl hno hno2
    go_wp2_with fail
    refine bodyPost_ret (v := .tuple #[.agg #[.int .i64 0, .int .i64 0, .slice none 0 0], .bool false]) (by simp [results, Try.results25, go_sem, y0, y1, y2]) rfl ?_
    exact GotR.none_ HLN.out HIS.out ((((HT3.out.setCell (p := ⟨w.heap.size + 1, 0, none⟩) (.inr hbb) _).setCell (p := ⟨w.heap.size + 1, 1, none⟩) (.inr hbb) _).setCell (p := ⟨w.heap.size + 1, 2, none⟩) (.inr hbb) _))

end Go.Proofs.Ytkdokipgakncjaa.Cac
