/-
  Layer 21's laws: lists of polygons that are alike.
-/
import Derived.Test.YtflopcogalknhaaDoorKStrOpen
import Derived.Test.YtflopcogalknhaaDoorKStrRp
set_option linter.unusedVariables false
set_option linter.unusedSimpArgs false
namespace Go.Proofs.YtflopcogalknhaaDoor.Str
open Go.RowKit Go.Proofs.YtflopcogalknhaaDoor Go.Proofs.YtflopcogalknhaaDoor.NumPure

/-- Polygons, moved. -/
def movP (d : P2) (l : List P2) : List P2 := l.map fun p => (p.1 + d.1, p.2 + d.2)
def mov (d : P2) (L : List (List P2)) : List (List P2) := L.map (movP d)
theorem mov_zero (L : List (List P2)) : mov (0, 0) L = L := by
  unfold mov movP
  conv => rhs; rw [← List.map_id L]
  apply List.map_congr_left
  intro l _
  conv => rhs; rw [id, ← List.map_id l]
  apply List.map_congr_left
  intro p _
  simp
set_option maxRecDepth 100000 in
set_option maxHeartbeats 2000000 in
theorem alike_any (A B : Option Addr) (ca cb : Nat) (d : P2) (L : List (List P2)) (w : World) (hA : PolR w A (mov d L)) (hB : PolR w B L) (hb : ∀ l ∈ L, AllB 1000000000000 l) (hd : Inb 1000000000000 d) (hn : L.length ≤ 4611686018427387904) (hn2 : ∀ l ∈ L, l.length ≤ 4611686018427387904) :
    Calls Tryd.prog 13 #[.slice A L.length ca, .slice B L.length cb, .agg #[.int .i64 d.1, .int .i64 d.2]] w fun e w' => e = .returned (.bool true) ∧ Below w.heap.size w w' := by
  have hml : (mov d L).length = L.length := by simp [mov]
  obtain ⟨n, hnn⟩ : ∃ n, L.length = n := ⟨_, rfl⟩
  rw [hnn] at hn hml ⊢
  have HN := Lib.hid hnn
  have HML := Lib.hid hml
  have HA := Lib.hid hA
  have HB := Lib.hid hB
  have HBD := Lib.hid hb
  have HD := Lib.hid hd
  have HN2 := Lib.hid hn2
  obtain ⟨dx, dy⟩ := d
  dsimp only
  have HB0 : Hid (Below w.heap.size w (w.alloc (.cells #[.int .i64 dx, .int .i64 dy] 30))) := Lib.hid ((Below.refl _ _).alloc (Nat.le_refl _) _)
  have HK0 : Hid (Blk (w.alloc (.cells #[.int .i64 dx, .int .i64 dy] 30)) w.heap.size 30 #[.int .i64 dx, .int .i64 dy]) := Lib.hid (Blk.new _ _ _)
  obtain ⟨W0, hW0⟩ : ∃ W, w.alloc (.cells #[.int .i64 dx, .int .i64 dy] 30) = W := ⟨_, rfl⟩
  obtain ⟨g5, hg5⟩ : ∃ g, w.heap.size = g := ⟨_, rfl⟩
  rw [hW0] at HB0 HK0
  rw [hg5] at HK0
  clear hA hB hb hd hn2 hnn hml
  go_enter Tryd.func13, Tryd.ntmps13
  go_upto_region 1 with fail
  try rw [hW0]
  try rw [hg5]
  clear hW0 hg5
  go_wp2_with fail
  go_loopw [17] (fun i wr => ∃ k : Nat, i = .int .i64 (k : Int) ∧ k ≤ n ∧ Below W0.heap.size W0 wr) (fun i _ => n - (intOf i).toNat)
  case atStart => exact ⟨0, rfl, by omega, Below.refl _ _⟩
  case round =>
    obtain ⟨k, rfl, hk, hbw⟩ := hrel
    obtain ⟨Wk, rfl⟩ : ∃ W, W = wr := ⟨_, rfl⟩
    have HBr : Hid (Below w.heap.size w Wk) := Lib.hid (HB0.out.trans (hbw.mono HB0.out.size))
    have HBR := Lib.hid hbw
    by_cases hlt : k < n
    · have hkl : k < L.length := by have := HN.out; omega
      have hP := HA.out.below HBr.out
      have hQ := HB.out.below HBr.out
      obtain ⟨ad, rfl, _⟩ := hP.addr (by have := HML.out; omega)
      obtain ⟨bd, rfl, _⟩ := hQ.addr (by omega)
      obtain ⟨A1, c1, d0, hp1⟩ := hP.cell k (by have := HML.out; omega)
      obtain ⟨B1, c2, d1, hp2⟩ := hQ.cell k hkl
      have hmv : (mov (dx, dy) L).getD k [] = movP (dx, dy) (L.getD k []) := by
        unfold mov
        rw [List.getD_eq_getElem?_getD, List.getElem?_map, List.getElem?_eq_getElem hkl, List.getD_eq_getElem?_getD, List.getElem?_eq_getElem hkl]
        rfl
      have hmem : L.getD k [] ∈ L := by rw [List.getD_eq_getElem?_getD, List.getElem?_eq_getElem hkl]; exact List.getElem_mem _
      have hbd := HBD.out _ hmem
      have hle := HN2.out _ hmem
      rw [hmv] at d0 hp1
      obtain ⟨l, hl⟩ : ∃ l, L.getD k [] = l := ⟨_, rfl⟩
      rw [hl] at d0 d1 hp1 hp2 hbd hle
      have hml2 : (movP (dx, dy) l).length = l.length := by simp [movP]
      rw [hml2] at d0
      obtain ⟨m, hm⟩ : ∃ m, l.length = m := ⟨_, rfl⟩
      rw [hm] at d0 d1 hml2 hle
      have HP1 := Lib.hid hp1
      have HP2 := Lib.hid hp2
      have HM := Lib.hid hm
      have HM2 := Lib.hid hml2
      have HBD2 := Lib.hid hbd
      have SP : Hid (∀ W, Below Wk.heap.size Wk W → W.cell? (ad.add k) = some (.slice A1 m c1) ∧ W.cell? (bd.add k) = some (.slice B1 m c2)) := Lib.hid fun W hW => ⟨(hW.cell (World.block_lt_of_cell? Wk _ d0)).trans d0, (hW.cell (World.block_lt_of_cell? Wk _ d1)).trans d1⟩
      have k2 : (k : Int) < (n : Int) := by omega
      have k3 : (0 : Int) ≤ (k : Int) := by omega
      clear hkl hP hQ hp1 hp2 hmv hmem hbd hl hml2 hm hbw
      go_wp2_with fail
      go_quiet (fail)
      have HB1 := Lib.hid (drew_below (n := nq) (Below.refl Wk.heap.size Wk))
      obtain ⟨W1, hW1⟩ : ∃ W, Wk.drewN nq = W := ⟨_, rfl⟩
      rw [hW1] at HB1
      rw [hW1]
      clear hW1 d0 d1
      obtain ⟨d0, d1⟩ := SP.out _ HB1.out
      go_wp2_with fail
      clear d0 d1
      go_loopw [36] (fun i wq => ∃ j : Nat, i = .int .i64 (j : Int) ∧ j ≤ m ∧ Below Wk.heap.size Wk wq) (fun i _ => m - (intOf i).toNat)
      case atStart => exact ⟨0, rfl, by omega, HB1.out⟩
      case round =>
        clear HB1
        obtain ⟨j, rfl, hj, hbq⟩ := hrel
        have HBQ := Lib.hid hbq
        by_cases hlt2 : j < m
        · have hjl : j < l.length := by have := HM.out; omega
          have hjm : j < (movP (dx, dy) l).length := by have := HM2.out; omega
          have hq1 := HP1.out.below hbq
          have hq2 := HP2.out.below hbq
          obtain ⟨a1, rfl, _⟩ := hq1.addr (by omega)
          obtain ⟨b1, rfl, _⟩ := hq2.addr (by omega)
          have em : (movP (dx, dy) l)[j] = (l[j].1 + dx, l[j].2 + dy) := by simp [movP]
          have hin := HBD2.out _ (List.getElem_mem hjl)
          have hdd := HD.out
          obtain ⟨⟨x, y⟩, hx⟩ : ∃ p, l[j] = p := ⟨_, rfl⟩
          rw [hx] at hin em
          have SQ : Hid (∀ W, Below wr.heap.size wr W → (W.cell? (a1.add (j * 2)) = some (.int .i64 (x + dx)) ∧ W.cell? ⟨(a1.add (j * 2)).block, (a1.add (j * 2)).off + 1, none⟩ = some (.int .i64 (y + dy))) ∧ (W.cell? (b1.add (j * 2)) = some (.int .i64 x) ∧ W.cell? ⟨(b1.add (j * 2)).block, (b1.add (j * 2)).off + 1, none⟩ = some (.int .i64 y)) ∧ (W.cell? (ad.add k) = some (.slice (some a1) m c1) ∧ W.cell? (bd.add k) = some (.slice (some b1) m c2)) ∧ W.cell? ⟨g5, 0, none⟩ = some (.int .i64 dx) ∧ W.cell? ⟨g5, 1, none⟩ = some (.int .i64 dy)) := Lib.hid fun W hW => by
            have p1 := pt_cells (hq1.below hW) j hjm
            have p2 := pt_cells (hq2.below hW) j hjl
            rw [em] at p1
            rw [hx] at p2
            have hk5 := (HK0.out.below HBR.out HK0.out.lt).below (hbq.trans (hW.mono hbq.size)) (HK0.out.below HBR.out HK0.out.lt).lt
            exact ⟨p1, p2, SP.out _ (hbq.trans (hW.mono hbq.size)), hk5.cell 0, hk5.cell 1⟩
          unfold Inb at hin hdd
          dsimp only at hin hdd
          have X1 : Hid (IntKind.i64.wrap (x + dx) = x + dx) := Lib.hid (i64w (by omega) (by omega))
          have X2 : Hid (IntKind.i64.wrap (y + dy) = y + dy) := Lib.hid (i64w (by omega) (by omega))
          have j2 : (j : Int) < (m : Int) := by omega
          have j3 : (0 : Int) ≤ (j : Int) := by omega
          have hb3 : Below wr.heap.size wr (wr.alloc (.cells #[.int .i64 x, .int .i64 y] 30)) := (Below.refl _ _).alloc (Nat.le_refl _) _
          have HB3 := Lib.hid hb3
          obtain ⟨⟨a2, a3⟩, ⟨b2, b3⟩, ⟨s0, s1⟩, s2, s3⟩ := SQ.out _ (Below.refl wr.heap.size wr)
          obtain ⟨⟨a4, a5⟩, ⟨b4, b5⟩, ⟨s4, s5⟩, s6, s7⟩ := SQ.out _ hb3
          have x1 := X1.out
          have x2 := X2.out
          clear hjl hjm hq1 hq2 em hin hdd hx hbq hb3
          go_wp2_with fail
          go_quiet (fail)
          have HB4 := Lib.hid (drew_below (n := nq) (HBQ.out.trans (HB3.out.mono HBQ.out.size)))
          clear a2 a3 b2 b3 s0 s1 s2 s3 a4 a5 b4 b5 s4 s5 s6 s7 x1 x2
          go_wp2_with fail
          go_roundw
          case rel => exact ⟨j + 1, by go_num, by omega, HB4.out⟩
          case measure => first | (simp [intOf]; done) | (simp [intOf]; omega)
        · have j2 : ¬ (j : Int) < (m : Int) := by omega
          have HB5 : Hid (Below W0.heap.size W0 wr) := Lib.hid (HBR.out.trans (hbq.mono HBR.out.size))
          clear hbq
          go_wp2_with fail
          go_roundw
          case rel => exact ⟨k + 1, by go_num, by omega, HB5.out⟩
          case measure => first | (simp [intOf]; done) | (simp [intOf]; omega)
    · have k2 : ¬ (k : Int) < (n : Int) := by omega
      clear hbw
      go_wp2_with fail
      go_ret
      exact ⟨rfl, HBr.out⟩
end Go.Proofs.YtflopcogalknhaaDoor.Str
