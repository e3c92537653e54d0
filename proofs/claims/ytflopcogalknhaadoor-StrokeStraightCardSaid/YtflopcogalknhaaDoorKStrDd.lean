/-
  Layer 21: parts of a line (program).
-/
import Derived.Test.YtflopcogalknhaaDoorKStrDc
set_option linter.unusedVariables false
set_option linter.unusedSimpArgs false
namespace Go.Proofs.YtflopcogalknhaaDoor.Str
open Go.RowKit Go.Proofs.YtflopcogalknhaaDoor Go.Proofs.YtflopcogalknhaaDoor.NumPure

theorem own_base {w : World} {b b' e size n : Nat} {v : Value} {xs : List Value} (h : w.ownsRow b e size v n xs) (hb : b' ≤ b) : w.ownsRow b' e size v n xs := by
  refine ⟨h.1, ?_⟩
  rcases h.2 with h0 | ⟨g, cap, cur, hv, hg, r⟩
  · exact .inl h0
  · exact .inr ⟨g, cap, cur, hv, by omega, r⟩
theorem PO.start {w0 W : World} (hb : Below w0.heap.size w0 W) (x y : Int) : PO w0 (W.heap.size + 1) [(x, y)] ((W.alloc (.cells #[.int .i64 x, .int .i64 y] 30)).alloc (.cells #[.slice (some ⟨W.heap.size, 0, none⟩) 1 1] 36)) := by
  have h1 : Below w0.heap.size w0 (W.alloc (.cells #[.int .i64 x, .int .i64 y] 30)) := hb.alloc hb.size _
  have h2 : Below w0.heap.size w0 ((W.alloc (.cells #[.int .i64 x, .int .i64 y] 30)).alloc (.cells #[.slice (some ⟨W.heap.size, 0, none⟩) 1 1] 36)) := h1.alloc h1.size _
  refine ⟨.slice (some ⟨W.heap.size, 0, none⟩) 1 1, ⟨⟨by simp [pts, pt], .inr ⟨W.heap.size, 1, #[.int .i64 x, .int .i64 y], rfl, hb.size, ?_, Nat.le_refl _, by decide, rfl, rfl⟩⟩, (fun _ _ e => by cases e), h2⟩, ?_, by have := hb.size; omega⟩
  · exact (Blk.new W 30 #[.int .i64 x, .int .i64 y]).alloc _
  · have := Blk.new (W.alloc (.cells #[.int .i64 x, .int .i64 y] 30)) 36 #[.slice (some ⟨W.heap.size, 0, none⟩) 1 1]
    rw [← size_alloc1] at this
    exact this
set_option maxRecDepth 100000 in
set_option maxHeartbeats 2000000 in
theorem part_any (pb ab cp ca : Nat) (l : List P2) (e s b : Nat) (w : World) (h : LnR w pb ab l) (hl : Lin l) (he : e + 1 < l.length) (h0 : atN l e ≤ s) (h1 : s < atN l (e + 1)) (h2 : s < b) (h3 : b ≤ lenN l) :
    Calls Tryd.prog 46 #[.agg #[.slice (some ⟨pb, 0, none⟩) l.length cp, .slice (some ⟨ab, 0, none⟩) l.length ca], .int .i64 (e : Int), .int .i64 (s : Int), .int .i64 (b : Int)] w (OwC (pce l s b) w) := by
  have hlen := lenN_bd hl
  have hln := hl.len
  have HL := Lib.hid h
  have HLI := Lib.hid hl
  have HPL : Hid (∀ (k t : Nat) (W : World), Below w.heap.size w W → k + 1 < l.length → atN l k ≤ t → t ≤ atN l (k + 1) → Calls Tryd.prog 57 #[.agg #[.slice (some ⟨pb, 0, none⟩) l.length cp, .slice (some ⟨ab, 0, none⟩) l.length ca], .int .i64 (k : Int), .int .i64 (t : Int)] W (PtC (plc l k t) W)) := Lib.hid fun k t W hW hk ht1 ht2 => place_any pb ab cp ca l k t W (h.below hW) hl hk ht1 ht2
  have HST : Hid (pbg l s b e = [plc l e s]) := Lib.hid (pbg_start he h0)
  obtain ⟨n, hn⟩ : ∃ n, l.length = n := ⟨_, rfl⟩
  have HN := Lib.hid hn
  have HC0 := Lib.hid fun W hW => HPL.out e s W hW (by omega) h0 (by omega)
  rw [hn] at HPL HC0 he hln ⊢
  obtain ⟨⟨x0, y0⟩, hx⟩ : ∃ p, plc l e s = p := ⟨_, rfl⟩
  unfold PtC at HC0
  rw [hx] at HC0 HST
  dsimp only at HC0
  have hb0 : Below w.heap.size w (w.alloc (.cells #[.slice (some ⟨pb, 0, none⟩) n cp, .slice (some ⟨ab, 0, none⟩) n ca] 58)) := (Below.refl _ _).alloc (Nat.le_refl _) _
  have HK0 : Hid (Blk (w.alloc (.cells #[.slice (some ⟨pb, 0, none⟩) n cp, .slice (some ⟨ab, 0, none⟩) n ca] 58)) w.heap.size 58 #[.slice (some ⟨pb, 0, none⟩) n cp, .slice (some ⟨ab, 0, none⟩) n ca]) := Lib.hid (Blk.new _ _ _)
  obtain ⟨W0, hW0⟩ : ∃ W, w.alloc (.cells #[.slice (some ⟨pb, 0, none⟩) n cp, .slice (some ⟨ab, 0, none⟩) n ca] 58) = W := ⟨_, rfl⟩
  rw [hW0] at hb0 HK0
  obtain ⟨g4, hg4⟩ : ∃ g, w.heap.size = g := ⟨_, rfl⟩
  have HB0 := Lib.hid hb0
  have HGS : Hid (w.heap.size = g4) := Lib.hid hg4
  rw [hg4] at HK0
  have HE := Lib.hid he
  have H01 : Hid (atN l e ≤ s ∧ s < atN l (e + 1) ∧ s < b ∧ b ≤ lenN l ∧ lenN l ≤ 4398046511104) := Lib.hid ⟨h0, h1, h2, h3, hlen⟩
  have hmf : ∀ (fn : Fn) (first cap : Array Value) (w : World), (Instr.makeFunc fn first cap).run Tryd.prog w = .ok (.func fn first cap) w := fun _ _ _ _ => rfl
  obtain ⟨z0, z1, _⟩ := blk2 HK0.out
  clear h hl hn hx h0 h1 h2 h3 hlen hb0 he
  go_enter Tryd.func46, Tryd.ntmps46
  go_upto_region 1 with fail
  try rw [hW0]
  try rw [hg4]
  clear hW0 hg4
  go_wp2_with fail
  refine (HC0.out _ HB0.out).mono ?_
  rintro e9 w9 ⟨rfl, hb9⟩
  have HB9 := Lib.hid hb9
  clear hb9 HC0 z0 z1
  go_upto_region 2 with fail
  have HS0 := Lib.hid (PO.start HB9.out x0 y0)
  obtain ⟨gv, hgp⟩ : ∃ g, w9.heap.size + 1 = g := ⟨_, rfl⟩
  obtain ⟨W1, hW1⟩ : ∃ W, (w9.alloc (.cells #[.int .i64 x0, .int .i64 y0] 30)).alloc (.cells #[.slice (some ⟨w9.heap.size, 0, none⟩) 1 1] 36) = W := ⟨_, rfl⟩
  rw [hgp, hW1] at HS0
  rw [hgp, hW1]
  clear hgp hW1 HB9
  go_wp2_with fail
  go_loopw [1] (fun i wr => ∃ k : Nat, i = .int .i64 (k : Int) ∧ k + 1 < n ∧ atN l k < b ∧ s < atN l (k + 1) ∧ PO W0 gv (pbg l s b k) wr) (fun i _ => n - (intOf i).toNat)
  case atStart => exact ⟨e, rfl, HE.out, by have := H01.out; omega, H01.out.2.1, by rw [HST.out]; exact HS0.out⟩
  case round =>
    clear HST HS0
    obtain ⟨k, rfl, hk, hkb, hks, hpo⟩ := hrel
    have HP := Lib.hid hpo
    have HBr : Hid (Below w.heap.size w wr) := Lib.hid (HB0.out.trans (hpo.out.mono HB0.out.size))
    obtain ⟨z0, z1, _⟩ := blk2 (HK0.out.below hpo.out HK0.out.lt)
    have a1 := (HL.out.below HBr.out).at_ (k + 1) (by rw [HN.out]; omega)
    have HKK : Hid (k + 1 < n ∧ atN l k < b ∧ s < atN l (k + 1)) := Lib.hid ⟨hk, hkb, hks⟩
    have hkl : k + 1 < l.length := by rw [HN.out]; exact hk
    have HPE : Hid (b ≤ atN l (k + 1) → pce l s b = addp (pbg l s b k) (plc l k b)) := Lib.hid fun h => pce_end hkl hks hkb h
    have HPS : Hid (atN l (k + 1) < b → k + 1 + 1 < n ∧ pbg l s b (k + 1) = addp (pbg l s b k) (gp l (k + 1)) ∧ s < atN l (k + 1 + 1)) := Lib.hid fun h => by
      have h3 := H01.out.2.2.2.1
      have hx : k + 2 < l.length := by
        rcases Nat.lt_or_ge (k + 2) l.length with h4 | h4
        · exact h4
        · exfalso
          have e1 : l.length - 1 = k + 1 := by omega
          unfold lenN at h3
          rw [e1] at h3
          omega
      refine ⟨by rw [← HN.out]; omega, pbg_step HLI.out hx hks hkb h, ?_⟩
      have := atN_up HLI.out (i := k + 1) (by omega)
      omega
    have HPC := Lib.hid fun (hx : b ≤ atN l (k + 1)) W (hW : Below w.heap.size w W) => HPL.out k b W hW hk (by omega) hx
    have HLEN : Hid ((pbg l s b k).length ≤ 1048576) := Lib.hid (by have := pbg_len l s b k; omega)
    obtain ⟨u, hu⟩ : ∃ u, atN l (k + 1) = u := ⟨_, rfl⟩
    rw [hu] at a1 HPE HPS HPC
    have k1 : IntKind.i64.wrap ((k : Int) + 1) = (k : Int) + 1 := i64w (by omega) (by omega)
    have k2 : (k : Int) + 1 < (n : Int) := by omega
    have k3 : (0 : Int) ≤ (k : Int) + 1 := by omega
    by_cases hlt : u < b
    · obtain ⟨hn2, hstp, hs2⟩ := HPS.out hlt
      obtain ⟨b0, b1⟩ := (HL.out.below HBr.out).pt_ (k + 1) hkl
      obtain ⟨⟨p0, p1⟩, hp⟩ : ∃ p, gp l (k + 1) = p := ⟨_, rfl⟩
      rw [hp] at b0 b1 hstp
      dsimp only at b0 b1
      have k4 : (u : Int) < (b : Int) := by omega
      have HN2 : Hid (k + 1 + 1 < n ∧ atN l (k + 1) < b ∧ s < atN l (k + 1 + 1)) := Lib.hid ⟨hn2, by rw [hu]; exact hlt, hs2⟩
      have HSP := Lib.hid hstp
      clear hpo hk hkb hks hkl hu hlt hn2 hstp hs2 hp HPC
      go_wp2_with fail
      refine (padd_any HP.out (addp_ne _ _) HLEN.out (p0, p1)).mono ?_
      rintro e' w' ⟨rfl, hpo2⟩
      have HP2 : Hid (PO W0 gv (pbg l s b (k + 1)) w') := Lib.hid (by rw [HSP.out]; exact hpo2)
      clear hpo2 z0 z1 a1 b0 b1
      go_wp2_with fail
      go_roundw
      case rel => exact ⟨k + 1, by go_num, HN2.out.1, HN2.out.2.1, HN2.out.2.2, HP2.out⟩
      case measure => first | (have := HKK.out; simp [intOf]; done) | (have := HKK.out; simp [intOf]; omega)
    · have hle : b ≤ u := by omega
      have HCE := Lib.hid (HPC.out hle)
      have HPX := Lib.hid (HPE.out hle)
      unfold PtC at HCE
      obtain ⟨⟨p0, p1⟩, hp⟩ : ∃ p, plc l k b = p := ⟨_, rfl⟩
      rw [hp] at HCE HPX
      dsimp only at HCE
      have k4 : ¬ (u : Int) < (b : Int) := by omega
      clear hpo hk hkb hks hkl hu hlt hle hp HPC HPE HPS
      go_wp2_with fail
      refine (HCE.out _ HBr.out).mono ?_
      rintro e8 w8 ⟨rfl, hb8⟩
      have HP8 := Lib.hid (HP.out.below hb8)
      clear hb8 z0 z1 a1
      go_wp2_with fail
      refine (padd_any HP8.out (addp_ne _ _) HLEN.out (p0, p1)).mono ?_
      rintro e' w' ⟨rfl, hpo2⟩
      rw [← HPX.out] at hpo2
      have HBF : Hid (Below w.heap.size w w') := Lib.hid (HB0.out.trans (hpo2.out.mono HB0.out.size))
      obtain ⟨v, hr1, hbk, hge⟩ := hpo2
      have HF : Hid (OwC (pce l s b) w (.returned v) w') := Lib.hid ⟨v, rfl, own_base hr1.row HB0.out.size, HBF.out⟩
      obtain ⟨z9, _⟩ := blk1 hbk
      clear hr1 hbk hge
      go_wp2_with fail
      refine bodyPost_ret (results_tmp rfl _ _ _) rfl ?_
      exact HF.out
end Go.Proofs.YtflopcogalknhaaDoor.Str
