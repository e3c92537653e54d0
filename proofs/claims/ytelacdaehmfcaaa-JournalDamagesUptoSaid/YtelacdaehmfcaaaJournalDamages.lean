/-
  JournalDamages: a byte of the last record that was changed is told (within the statement's bound).
-/
import Derived.Test.YtelacdaehmfcaaaJouDm
namespace Go.Proofs.Ytelacdaehmfcaaa.JournalDamages
open Go.RowKit Go.Proofs.Ytelacdaehmfcaaa Go.Proofs.Ytelacdaehmfcaaa.WirePure Go.Proofs.Ytelacdaehmfcaaa.DigPure Go.Proofs.Ytelacdaehmfcaaa.JouPure Go.Proofs.Ytelacdaehmfcaaa.JouC Go.Proofs.Ytelacdaehmfcaaa.JouL

/-- What the rest of the law reads. -/
structure CS (B g : Nat) (w : World) (A A1 A2 A3 : Option Addr) (n c k3 : Nat) (rs l3 : List (Nat × List UInt8)) (W : World) : Prop where
  box : Blk W B 38 #[.int .i64 (g : Nat), .slice A n c]
  ends : Reads W W.heap.size 1 A1 (n + 1) (ens g rs)
  recs : Reads W W.heap.size 3 A2 n (rcs 1 rs)
  read : Reads W W.heap.size 3 A3 k3 (rcs 1 l3)
  below : Below B w W
  low : B ≤ W.heap.size
theorem CS.more {B g : Nat} {w W W' : World} {A A1 A2 A3 : Option Addr} {n c k3 : Nat} {rs l3 : List (Nat × List UInt8)} (h : CS B g w A A1 A2 A3 n c k3 rs l3 W) (hb : Below W.heap.size W W') : CS B g w A A1 A2 A3 n c k3 rs l3 W' :=
  ⟨h.box.below hb h.box.lt, (h.ends.below hb).more hb.size, (h.recs.below hb).more hb.size, (h.read.below hb).more hb.size, h.below.trans (hb.mono h.low), Nat.le_trans h.low hb.size⟩
theorem CS.at_ {B g : Nat} {w W : World} {A A1 A2 A3 : Option Addr} {n c k3 : Nat} {rs l3 : List (Nat × List UInt8)} (h : CS B g w A A1 A2 A3 n c k3 rs l3 W) {g1 : Nat} (ha : A1 = some ⟨g1, 0, none⟩) (hn : rs.length = n) (k : Nat) (hk : k ≤ n) : W.cell? ⟨g1, k, none⟩ = some (.int .i64 ((jou g (rs.take k)).length : Nat)) := by
  obtain ⟨ad, hA, hb, hc⟩ := h.ends.2 (by omega)
  rw [ha] at hA
  obtain rfl : ⟨g1, 0, none⟩ = ad := by injection hA
  have := hc k _ (ens_at g rs k (by omega))
  rw [Addr.add_mid, Nat.zero_add] at this
  exact this
theorem add_zero_ (a : Addr) : a.add 0 = a := by
  cases a; simp [Addr.add]
theorem CS.fst {B g : Nat} {w W : World} {A A1 A2 A3 : Option Addr} {n c k3 : Nat} {rs l3 : List (Nat × List UInt8)} (h : CS B g w A A1 A2 A3 n c k3 rs l3 W) : W.cell? ⟨B, 0, none⟩ = some (.int .i64 (g : Nat)) := h.box.cell 0

theorem byte_at (u : ByteArray) (L : List UInt8) (h : u.data.toList = L) (q : Nat) (hq : q < u.size) (c : UInt8) (hc : L[q]? = some c) : u[q] = c := by
  subst h
  rw [List.getElem?_eq_getElem (by simpa using hq)] at hc
  have := Option.some.inj hc
  rw [← this]
  rfl
/-- What the rest of the law reads, and the hit. -/
structure DS (B g : Nat) (w : World) (A A1 A2 A3 : Option Addr) (n c k3 : Nat) (rs l3 : List (Nat × List UInt8)) (bn : Nat) (bz : Int) (W : World) : Prop where
  tale : CS B g w A A1 A2 A3 n c k3 rs l3 W
  hit : Blk W (B + 1) 46 #[.int .u64 (bn : Nat), .int .u8 bz]
theorem DS.more {B g : Nat} {w W W' : World} {A A1 A2 A3 : Option Addr} {n c k3 : Nat} {rs l3 : List (Nat × List UInt8)} {bn : Nat} {bz : Int} (h : DS B g w A A1 A2 A3 n c k3 rs l3 bn bz W) (hb : Below W.heap.size W W') : DS B g w A A1 A2 A3 n c k3 rs l3 bn bz W' :=
  ⟨h.tale.more hb, h.hit.below hb h.hit.lt⟩
theorem DS.byt {B g : Nat} {w W : World} {A A1 A2 A3 : Option Addr} {n c k3 : Nat} {rs l3 : List (Nat × List UInt8)} {bn : Nat} {bz : Int} (h : DS B g w A A1 A2 A3 n c k3 rs l3 bn bz W) : W.cell? ⟨B + 1, 1, none⟩ = some (.int .u8 bz) := h.hit.cell 1

set_option maxHeartbeats 8000000 in
set_option maxRecDepth 100000 in
theorem walk (g : Int) (A : Option Addr) (n c : Nat) (f : Nat → Int × Int × ByteArray) (bn : Nat) (bz : Int) (hbn : bn ≤ 18446744073709551615) (hbz0 : 0 ≤ bz) (hbz1 : bz ≤ 255) (w : World) (hR : RDs w w.heap.size A n f) (hin : inOk n f) (hc : n ≤ c) : Calls Try.prog 9 #[.agg #[.int .i64 g, .slice A n c], .agg #[.int .u64 bn, .int .u8 bz]] w fun e w' => e = .returned (.bool true) ∧ Below w.heap.size w w' := by
  obtain ⟨B, hB⟩ : ∃ B, w.heap.size = B := ⟨_, rfl⟩
  obtain ⟨w0, hw0⟩ : ∃ W, (w.alloc (.cells #[.int .i64 g, .slice A n c] 38)).alloc (.cells #[.int .u64 bn, .int .u8 bz] 46) = W := ⟨_, rfl⟩
  have T0 : Blk w0 B 38 #[.int .i64 g, .slice A n c] := by rw [← hB, ← hw0]; exact (Blk.new _ _ _).alloc _
  have H0 : Blk w0 (B + 1) 46 #[.int .u64 (bn : Nat), .int .u8 bz] := by
    have := Blk.new (w.alloc (.cells #[.int .i64 g, .slice A n c] 38)) 46 #[.int .u64 (bn : Nat), .int .u8 bz]
    rw [show (w.alloc (.cells #[.int .i64 g, .slice A n c] 38)).heap.size = w.heap.size + 1 by simp, hB, hw0] at this
    exact this
  have c0 : Below B w w0 := by rw [← hB, ← hw0]; exact ((Below.refl _ _).alloc (Nat.le_refl _) _).alloc (by simp) _
  have hB0 : B ≤ w0.heap.size := by rw [← hB]; exact c0.size
  have hR0 : RDs w0 w0.heap.size A n f := RDs.more (RDs.below hR (by rw [hB]; exact c0)) (by rw [hB]; exact hB0)
  have hw := write_any g A n c f w0 hR0 hin hc
  have hn20 : n ≤ 1048576 := hin.1
  rw [hB]
  clear hR hR0 hin
  have d0 := T0.cell 0
  have d1 := T0.cell 1
  simp only [List.getElem?_toArray, List.getElem?_cons_zero, List.getElem?_cons_succ] at d0 d1
  go_enter Try.func9, Try.ntmps9
  go_wp2_with fail
  refine hw.mono ?_
  clear hw hw0 d0 d1
  intro e w1 hwp
  rcases hwp with ⟨rfl, b1⟩ | ⟨gn, rs, vE, vL, rfl, hg1, hg2, hok, hn, rfl, oE, oL, b1⟩
  · have c1 := c0.trans (b1.mono hB0)
    go_wp2_with fail
    refine (example_any _).mono ?_
    rintro e w2 ⟨rfl, b2⟩
    go_wp2_with fail
    go_ret
    exact ⟨rfl, c1.trans (b2.mono (by have := b1.size; omega))⟩
  · have cc1 := c0.trans (b1.mono hB0)
    have T1 := T0.below b1 T0.lt
    obtain ⟨A1, ca1, rfl⟩ := own_form oE
    obtain ⟨A2, ca2, rfl⟩ := own_form oL
    have hsc := scan_returns gn rs hg1 hg2 hok (by omega)
    have hjs := jou_size gn (by omega) rs hok
    obtain ⟨u, hu⟩ : ∃ u : ByteArray, (⟨(jou gn rs).toArray⟩ : ByteArray) = u := ⟨_, rfl⟩
    have hud : u.data.toList = jou gn rs := by rw [← hu]
    have hus : (jou gn rs).length = u.size := by rw [← hu, mk_size]
    rw [hus] at hjs hsc
    have hul : u.size ≤ 1099587125248 := by
      refine Nat.le_trans hjs ?_
      refine Nat.le_trans (Nat.mul_le_mul_left 1048600 (by omega : rs.length + 1 ≤ 1048577)) ?_
      decide
    obtain ⟨g1, rfl⟩ : ∃ g, A1 = some ⟨g, 0, none⟩ := by
      rcases oE.2 with ⟨h, h0⟩ | ⟨g', _, _, h, _⟩
      · omega
      · exact ⟨g', by injection h⟩
    have H1 := H0.below b1 H0.lt
    by_cases hn0 : n = 0
    · subst hn0
      rw [hn] at oE oL ⊢
      rw [hu]
      clear hu hus hud hsc hjs hn H0
      go_wp2_with fail
      refine (example_any _).mono ?_
      rintro e w2 ⟨rfl, b2⟩
      go_wp2_with fail
      go_ret
      exact ⟨rfl, cc1.trans (b2.mono (by have := b1.size; omega))⟩
    · obtain ⟨k, rfl⟩ : ∃ k, n = k + 1 := ⟨n - 1, by omega⟩
      obtain ⟨s, nn, hs1, hs4, hnn, hL, hby, hdam⟩ := dam_parts gn k rs hg1 hg2 hok hn (by omega)
      have hcap : k + 1 ≤ ca2 := by
        rcases oL.2 with ⟨h, h0⟩ | ⟨g', cap, _, h, _, _, hc, _⟩
        · injection h; omega
        · obtain rfl : ca2 = cap := by injection h
          omega
      rw [hn] at oE oL ⊢
      rw [hu]
      obtain ⟨E, hE⟩ : ∃ E, (jou gn (rs.take k)).length = E := ⟨_, rfl⟩
      rw [hE, hus] at hL
      rw [hE] at hby hdam
      rw [hus] at hdam
      obtain ⟨m, hm⟩ : ∃ m, bn % nn = m := ⟨_, rfl⟩
      have hml : m < nn := by rw [← hm]; exact Nat.mod_lt bn (by omega)
      have HN := Lib.hid hn
      have HE := Lib.hid hE
      have HUD := Lib.hid hud
      have HBY := Lib.hid hby
      have HDAM := Lib.hid hdam
      obtain ⟨N, hN⟩ : ∃ N, k + 1 + 1 = N := ⟨_, rfl⟩
      have HNN := Lib.hid hN
      have r1 : (bn : Int) % (nn : Int) = (m : Int) := by rw [← hm, Int.natCast_emod]
      have r2 : (N : Int) - 2 = (k : Int) := by omega
      have C1 : CS B gn w A (some ⟨g1, 0, none⟩) A2 none (k + 1) c 0 rs [] w1 :=
        ⟨T1, (Reads.of_own oE).more (Nat.le_refl _), (Reads.of_own oL).more (Nat.le_refl _), Reads.none_, cc1, by have := b1.size; omega⟩
      have D1 : DS B gn w A (some ⟨g1, 0, none⟩) A2 none (k + 1) c 0 rs [] bn bz w1 := ⟨C1, H1⟩
      have d0 := C1.at_ rfl HN.out k (by omega)
      rw [hE] at d0
      have i1 : ¬ (N : Int) < 2 := by omega
      have i2 : (k : Int) < (N : Int) := by omega
      have HL := Lib.hid hL
      have HD1 := Lib.hid D1
      rw [hN]
      clear hu hus hud hsc hjs hn hm hN hE hby hdam hL oE oL C1 D1 T1 H1 H0 T0 cc1 hn0
      go_wp2_with fail
      clear d0
      go_loopw [9] (fun v9 wr => ∃ s0 : Nat, v9 = .int .i64 (s0 : Nat) ∧ 1 ≤ s0 ∧ s0 ≤ s ∧ DS B gn w A (some ⟨g1, 0, none⟩) A2 none (k + 1) c 0 rs [] bn bz wr) (fun v9 _ => s - (intOf v9).toNat)
      case atStart => exact ⟨1, rfl, Nat.le_refl _, hs1, HD1.out⟩
      case round =>
        clear HD1
        obtain ⟨s0, rfl, ha, hb, D⟩ := hrel
        have HD := Lib.hid D
        clear D
        obtain ⟨cb, hc1, hc2, hc3⟩ := HBY.out (s0 - 1) (by omega)
        obtain ⟨q, hq⟩ : ∃ q, E + (s0 - 1) = q := ⟨_, rfl⟩
        obtain ⟨q1, hq1⟩ : ∃ q, E + s0 = q := ⟨_, rfl⟩
        rw [hq] at hc1
        have hqu : q < u.size := by have := HL.out; omega
        have hby := byte_at u _ HUD.out q hqu cb hc1
        have r3 : (E : Int) + (s0 : Int) = (q1 : Int) := by omega
        have r4 : (q1 : Int) - 1 = (q : Int) := by omega
        have j1 : (s0 : Int) < 5 := by omega
        have j2 : (q : Int) < (u.size : Int) := by omega
        have j3 : q1 ≤ 1099587125248 := by omega
        by_cases hlt : s0 < s
        · have j4 : (128 : Int) ≤ (cb.toNat : Int) := by have := hc2 (by omega); omega
          clear hc1 hc2 hc3 hq hq1
          go_wp2_with fail
          go_roundw
          case rel => exact ⟨s0 + 1, by go_num, by omega, by omega, HD.out⟩
          case measure => simp [intOf]; omega
        · obtain rfl : s = s0 := by omega
          have j4 : ¬ (128 : Int) ≤ (cb.toNat : Int) := by have := hc3 (by omega); omega
          clear hc1 hc2 hc3 hq hq1
          obtain ⟨X1, hX1⟩ : ∃ X, s + nn = X := ⟨_, rfl⟩
          obtain ⟨L1, hL1⟩ : ∃ X, u.size - 1 = X := ⟨_, rfl⟩
          obtain ⟨P, hP⟩ : ∃ X, u.size - 1 - m = X := ⟨_, rfl⟩
          have hLL := HL.out
          have hPs : P < u.size := by omega
          have hPe : E + s ≤ P := by omega
          obtain ⟨cp, hcp⟩ : ∃ c, (jou gn rs)[P]? = some c := ⟨_, List.getElem?_eq_getElem (by rw [← HUD.out, cond_len]; exact hPs)⟩
          have hbp := byte_at u _ HUD.out P hPs cp hcp
          have r5 : (u.size : Int) - (E : Int) = (X1 : Int) := by omega
          have r6 : (X1 : Int) - (s : Int) = (nn : Int) := by omega
          have r7 : (u.size : Int) - 1 = (L1 : Int) := by omega
          have r8 : (L1 : Int) - (m : Int) = (P : Int) := by omega
          have j5 : ¬ (nn : Int) < 1 := by omega
          have j6 : ¬ (P : Int) < 0 := by omega
          have j7 : ¬ (u.size : Int) ≤ (P : Int) := by omega
          have j8 : X1 ≤ 1099587125248 := by omega
          have j9 : L1 ≤ 1099587125248 := by omega
          have j10 : nn ≤ 1099587125248 := by omega
          have dh := HD.out.hit.cell 0
          simp only [List.getElem?_toArray, List.getElem?_cons_zero] at dh
          have HCP := Lib.hid hcp
          clear hX1 hL1 hP hLL hcp
          go_upto_region 14 with fail
          clear dh
          refine wp_region_held_drew (S := fun W => DS B gn w A (some ⟨g1, 0, none⟩) A2 none (k + 1) c 0 rs [] bn bz W) (by kernel_rfl) (HD.out.more (Below.refl _ _).drew) (fun hHeld => ?_)
          refine wpAnyH_take (i := 0) (oi := _) (v := .string u) rfl (by kernel_rfl) (by kernel_rfl) (by kernel_rfl) (fun _ _ _ h => h) (Or.inl ⟨by rfl, fun W1 _ => by go_simp⟩) (by assumption) ?_
          go_simp
          refine wpAnyH_take (i := 1) (oi := _) (v := .int .i64 (P : Nat)) rfl (by kernel_rfl) (by kernel_rfl) (by kernel_rfl) (fun _ _ _ h => h) (Or.inl ⟨by rfl, fun W1 _ => by go_simp⟩) (by assumption) ?_
          go_simp
          refine wpAnyH_take (i := 2) (oi := _) (v := .int .u8 (cp.toNat : Nat)) rfl (by kernel_rfl) (by kernel_rfl) (by kernel_rfl) (fun _ _ _ h => h) (Or.inl ⟨by rfl, fun W1 _ => by (have e1 := hbp; have e2 := hPs; go_simp)⟩) (by assumption) ?_
          go_simp
          refine wpAnyH_take (i := 3) (oi := _) (v := .pointer (some ⟨B + 1, 1, none⟩)) rfl (by kernel_rfl) (by kernel_rfl) (by kernel_rfl) (fun _ _ _ h => h) (Or.inl ⟨by rfl, fun W1 _ => by go_simp⟩) (by assumption) ?_
          go_simp
          refine wpAnyH_take (i := 4) (oi := _) (v := .int .u8 bz) rfl (by kernel_rfl) (by kernel_rfl) (by kernel_rfl) (fun _ _ _ h => h) (Or.inl ⟨by rfl, fun W1 h => by (have e := DS.byt h; go_simp)⟩) (by assumption) ?_
          go_simp
          refine wpAnyH_take (i := 5) (oi := _) (v := .bool ((cp.toNat : Int) == bz)) rfl (by kernel_rfl) (by kernel_rfl) (by kernel_rfl) (fun _ _ _ h => h) (Or.inl ⟨by rfl, fun W1 _ => by go_simp⟩) (by assumption) ?_
          go_simp
          refine wpAnyH_done (by kernel_rfl) ?_ _
          have HD2 := Lib.hid hHeld
          clear hHeld
          by_cases hcb : (cp.toNat : Int) = bz
          · have tq : ((cp.toNat : Int) == bz) = true := by simpa using hcb
            clear hcb
            go_wp2_with fail
            refine (example_any _).mono ?_
            rintro e w2 ⟨rfl, b2⟩
            go_wp2_with fail
            go_ret
            exact ⟨rfl, (HD2.out.more b2).tale.below⟩
          · have tq : ((cp.toNat : Int) == bz) = false := by simpa using hcb
            obtain ⟨a, hea⟩ : ∃ a, u.extract 0 P = a := ⟨_, rfl⟩
            obtain ⟨P1, hP1⟩ : ∃ X, P + 1 = X := ⟨_, rfl⟩
            obtain ⟨z, hez⟩ : ∃ a, u.extract P1 u.size = a := ⟨_, rfl⟩
            obtain ⟨cz, hcz⟩ : ∃ c : UInt8, bz.toNat.toUInt8 = c := ⟨_, rfl⟩
            obtain ⟨bs, hbs⟩ : ∃ b : ByteArray, (⟨[cz].toArray⟩ : ByteArray) = b := ⟨_, rfl⟩
            have cv : (convert 47 9 (.slice (some ⟨wr.heap.size, 0, none⟩) 1 1)).run Try.prog (wr.alloc (.cells #[.int .u8 bz] 5)).drew.drew = .ok (.string bs) (wr.alloc (.cells #[.int .u8 bz] 5)).drew.drew := by
              have := Ref04Enc.conv_one wr.drew.drew bz hbz0 (by omega)
              rw [hcz, hbs] at this
              exact this
            have hbsz : bs.size = 1 := by rw [← hbs]; rfl
            have hasz : a.size ≤ u.size := by rw [← hea]; exact ext_size u P
            have hzsz : z.size ≤ u.size := by rw [← hez]; simp only [ByteArray.size_extract]; omega
            have hczn : (cz.toNat : Int) = bz := by rw [← hcz, Lib.toUInt8_toNat (by omega)]; omega
            have hne : (jou gn rs)[P]? ≠ some cz := by
              rw [HCP.out]
              intro h
              obtain rfl : cp = cz := by injection h
              exact hcb hczn
            have hscn := HDAM.out P cz hPe hPs hne
            have hlist : (a ++ bs ++ z).data.toList = (jou gn rs).take P ++ [cz] ++ (jou gn rs).drop (P + 1) := by
              have e1 : a.data.toList = (jou gn rs).take P := by rw [← hea, ext_take, HUD.out]
              have e2 : z.data.toList = (jou gn rs).drop (P + 1) := by rw [← hez, ← hP1, drop_eq u (P + 1) (by omega), HUD.out]
              have e3 : bs.data.toList = [cz] := by rw [← hbs]
              rw [ByteArray.data_append, ByteArray.data_append, Array.toList_append, Array.toList_append, e1, e2, e3]
            rw [← hlist] at hscn
            have hvsz : (a ++ bs ++ z).size ≤ 4398046511104 := by rw [ByteArray.size_append, ByteArray.size_append]; omega
            have hlk : (rs.take k).length = k := by rw [List.length_take, HN.out]; omega
            obtain ⟨v1, hv1⟩ : ∃ v, a ++ bs = v := ⟨_, rfl⟩
            obtain ⟨v2, hv2⟩ : ∃ v, v1 ++ z = v := ⟨_, rfl⟩
            rw [hv1, hv2] at hscn hvsz
            have HSJ := Lib.hid hscn
            have HLK := Lib.hid hlk
            have hx := fun W => Jou.scan_any v2 W hvsz
            have n1 : a.size + bs.size ≤ 4398046511104 := by omega
            have n2 : v1.size + z.size ≤ 4398046511104 := by rw [← hv1, ByteArray.size_append]; omega
            have k1 : ∀ W : World, (Op.stringOp .add a bs).run Try.prog W = .ok (.string v1) W := fun W => by rw [← hv1]; exact run_string_add_sum W _ _ (by omega)
            have k2 : ∀ W : World, (Op.stringOp .add v1 z).run Try.prog W = .ok (.string v2) W := fun W => by rw [← hv2]; exact run_string_add_sum W _ _ (by omega)
            have r9 : (P : Int) + 1 = (P1 : Int) := by omega
            have r10 : ((k + 1 : Nat) : Int) - 1 = (k : Int) := by omega
            have n3 : P1 ≤ u.size := by omega
            have HC1 := Lib.hid hcap
            clear hcz hbs hasz hzsz hczn hne hscn hlist hlk hcb hP1 hbsz hv1 hv2
            go_upto_region 16 with fail
            refine wp_region_held_drew (S := fun W => DS B gn w A (some ⟨g1, 0, none⟩) A2 none (k + 1) c 0 rs [] bn bz W) (by kernel_rfl) (HD2.out.more (Below.refl _ _).drew) (fun hHeld => ?_)
            refine wpAnyH_take (i := 0) (oi := _) (v := .string u) rfl (by kernel_rfl) (by kernel_rfl) (by kernel_rfl) (fun _ _ _ h => h) (Or.inl ⟨by rfl, fun W1 _ => by go_simp⟩) (by assumption) ?_
            go_simp
            refine wpAnyH_take (i := 1) (oi := _) (v := .int .i64 (P : Nat)) rfl (by kernel_rfl) (by kernel_rfl) (by kernel_rfl) (fun _ _ _ h => h) (Or.inl ⟨by rfl, fun W1 _ => by go_simp⟩) (by assumption) ?_
            go_simp
            refine wpAnyH_take (i := 2) (oi := _) (v := .string a) rfl (by kernel_rfl) (by kernel_rfl) (by kernel_rfl) (fun _ _ _ h => h) (Or.inl ⟨by rfl, fun W1 _ => by (go_simp; intro hh; exact absurd hh (by omega))⟩) (by assumption) ?_
            go_simp
            refine wpAnyH_take (i := 3) (oi := _) (v := .pointer (some ⟨B + 1, 1, none⟩)) rfl (by kernel_rfl) (by kernel_rfl) (by kernel_rfl) (fun _ _ _ h => h) (Or.inl ⟨by rfl, fun W1 _ => by go_simp⟩) (by assumption) ?_
            go_simp
            refine wpAnyH_take (i := 4) (oi := _) (v := .int .u8 bz) rfl (by kernel_rfl) (by kernel_rfl) (by kernel_rfl) (fun _ _ _ h => h) (Or.inl ⟨by rfl, fun W1 h => by (have e := DS.byt h; go_simp)⟩) (by assumption) ?_
            go_simp
            refine wpAnyH_take (i := 8) (oi := _) (v := .string u) rfl (by kernel_rfl) (by kernel_rfl) (by kernel_rfl) (fun _ _ _ h => h) (Or.inl ⟨by rfl, fun W1 _ => by go_simp⟩) (by assumption) ?_
            go_simp
            refine wpAnyH_take (i := 9) (oi := _) (v := .int .i64 (P : Nat)) rfl (by kernel_rfl) (by kernel_rfl) (by kernel_rfl) (fun _ _ _ h => h) (Or.inl ⟨by rfl, fun W1 _ => by go_simp⟩) (by assumption) ?_
            go_simp
            refine wpAnyH_take (i := 10) (oi := _) (v := .int .i64 (P1 : Nat)) rfl (by kernel_rfl) (by kernel_rfl) (by kernel_rfl) (fun _ _ _ h => h) (Or.inl ⟨by rfl, fun W1 _ => by (go_simp; exact IntWalk.i64_in _ (by omega))⟩) (by assumption) ?_
            go_simp
            refine wpAnyH_take (i := 11) (oi := _) (v := .string z) rfl (by kernel_rfl) (by kernel_rfl) (by kernel_rfl) (fun _ _ _ h => h) (Or.inl ⟨by rfl, fun W1 _ => by go_simp⟩) (by assumption) ?_
            go_simp
            refine wpAnyH_ready (rs := [5]) (by kernel_rfl) (by simp) ?_
            refine AllReadyH.cons (o := _) rfl (fun K hK => ?_) AllReadyH.nil
            rw [if_pos (by rfl)]
            go_simp
            refine hK.out _ _ (hHeld.more ((Below.refl _ _).alloc (Nat.le_refl _) _)) (fun hHeld => ?_)
            clear hK
            try simp only [Act.put, List.setIfInBounds_toArray, List.set_cons_zero, List.set_cons_succ]
            refine wpAnyH_ready (rs := [6]) (by kernel_rfl) (by simp) ?_
            refine AllReadyH.cons (o := _) rfl (fun K hK => ?_) AllReadyH.nil
            rw [if_pos (by rfl)]
            go_simp
            refine hK.out _ _ hHeld (fun hHeld => ?_)
            clear hK cv
            try simp only [Act.put, List.setIfInBounds_toArray, List.set_cons_zero, List.set_cons_succ]
            refine wpAnyH_take (i := 7) (oi := _) (v := .string v1) rfl (by kernel_rfl) (by kernel_rfl) (by kernel_rfl) (fun _ _ _ h => h) (Or.inl ⟨by rfl, fun W1 _ => by go_simp⟩) (by assumption) ?_
            go_simp
            refine wpAnyH_take (i := 12) (oi := _) (v := .string v2) rfl (by kernel_rfl) (by kernel_rfl) (by kernel_rfl) (fun _ _ _ h => h) (Or.inl ⟨by rfl, fun W1 _ => by go_simp⟩) (by assumption) ?_
            go_simp
            refine wpAnyH_ready (rs := [13]) (by kernel_rfl) (by simp) ?_
            refine AllReadyH.cons (o := _) rfl (fun K hK => ?_) AllReadyH.nil
            go_simp
            go_at_call 17
            refine (hx _).mono ?_
            intro e w5 hsp
            obtain ⟨A3, ca3, rfl, o3, b5⟩ := SP_of HSJ.out hsp
            rw [HLK.out] at o3
            rw [HLK.out]
            go_wp2_with fail
            have D5 := hHeld.more b5
            refine hK.out _ _ D5 (fun hHeld => ?_)
            clear hK hsp b5
            try simp only [Act.put, List.setIfInBounds_toArray, List.set_cons_zero, List.set_cons_succ]
            refine wpAnyH_take (i := 14) (oi := _) (v := .tuple #[.int .i64 (gn : Nat), .slice A3 k ca3, .int .i64 (E : Nat), .int .i64 7]) rfl (by kernel_rfl) (by kernel_rfl) (by kernel_rfl) (fun _ _ _ h => h) (Or.inl ⟨by rfl, fun W1 _ => by go_simp⟩) (by assumption) ?_
            go_simp
            refine wpAnyH_take (i := 15) (oi := _) (v := .int .i64 (gn : Nat)) rfl (by kernel_rfl) (by kernel_rfl) (by kernel_rfl) (fun _ _ _ h => h) (Or.inl ⟨by rfl, fun W1 _ => by go_simp⟩) (by assumption) ?_
            go_simp
            refine wpAnyH_take (i := 16) (oi := _) (v := .slice A3 k ca3) rfl (by kernel_rfl) (by kernel_rfl) (by kernel_rfl) (fun _ _ _ h => h) (Or.inl ⟨by rfl, fun W1 _ => by go_simp⟩) (by assumption) ?_
            go_simp
            refine wpAnyH_take (i := 17) (oi := _) (v := .int .i64 (E : Nat)) rfl (by kernel_rfl) (by kernel_rfl) (by kernel_rfl) (fun _ _ _ h => h) (Or.inl ⟨by rfl, fun W1 _ => by go_simp⟩) (by assumption) ?_
            go_simp
            refine wpAnyH_take (i := 18) (oi := _) (v := .int .i64 7) rfl (by kernel_rfl) (by kernel_rfl) (by kernel_rfl) (fun _ _ _ h => h) (Or.inl ⟨by rfl, fun W1 _ => by go_simp⟩) (by assumption) ?_
            go_simp
            refine wpAnyH_take (i := 19) (oi := _) (v := .int .i64 (gn : Nat)) rfl (by kernel_rfl) (by kernel_rfl) (by kernel_rfl) (fun _ _ _ h => h) (Or.inl ⟨by rfl, fun W1 _ => by go_simp⟩) (by assumption) ?_
            go_simp
            refine wpAnyH_take (i := 20) (oi := _) (v := .slice A3 k ca3) rfl (by kernel_rfl) (by kernel_rfl) (by kernel_rfl) (fun _ _ _ h => h) (Or.inl ⟨by rfl, fun W1 _ => by go_simp⟩) (by assumption) ?_
            go_simp
            refine wpAnyH_take (i := 21) (oi := _) (v := .int .i64 (E : Nat)) rfl (by kernel_rfl) (by kernel_rfl) (by kernel_rfl) (fun _ _ _ h => h) (Or.inl ⟨by rfl, fun W1 _ => by go_simp⟩) (by assumption) ?_
            go_simp
            refine wpAnyH_take (i := 22) (oi := _) (v := .int .i64 7) rfl (by kernel_rfl) (by kernel_rfl) (by kernel_rfl) (fun _ _ _ h => h) (Or.inl ⟨by rfl, fun W1 _ => by go_simp⟩) (by assumption) ?_
            go_simp
            refine wpAnyH_done (by kernel_rfl) ?_ _
            have R3 := Lib.hid (Reads.of_own o3)
            have HD5 := Lib.hid D5
            have db := D5.tale.fst
            clear hHeld D5 o3
            go_wp2_with fail
            refine (same_yes A3 A2 _ _ k 1 (rs.take k) _ HLK.out (by omega) R3.out (reads_part HD5.out.tale.recs HN.out (by omega))).mono ?_
            rintro e w6 ⟨rfl, m6, rfl⟩
            have cc6 := WireRd.bdN HD5.out.tale.below m6
            clear db
            go_wp2_with fail
            refine (example_any _).mono ?_
            rintro e w7 ⟨rfl, b7⟩
            go_wp2_with fail
            go_ret
            exact ⟨rfl, cc6.trans (b7.mono (by have := cc6.size; omega))⟩

open Go.ChangeShapes Go.WideShapes Go.ChangeAt Go.Joins

theorem contract (H : Type) (enc : TypeId × Value → H) (W : World) (base : Nat) (args : Array Value) (ds gs : List (DataW H)) (before : List MemPlace)
    (hval : ∀ (j : Nat) t v, Try.f9.params[j]? = some t → args[j]? = some v → Value.okWide Try.prog W .any base t v)
    (hW : DataW.Whole enc Try.prog Try.f9.params.toList Rows.journalDamagesSpec.vars false W args.toList ds gs before) (hk : Rows.uptoSmall H (ds ++ gs) = true) :
    Calls Try.prog 9 args W fun e W' => ∃ v, e = .returned v ∧ Rows.journalDamagesSpec.post enc Try.prog Try.f9 false true false false W args v W' := by
  have hW' := hW
  obtain ⟨p, q, hA0, hV, rfl, hfz, hnd⟩ := hW
  have hA : DataW.TrodAll enc Try.prog W 0 (fun _ => true) true Try.f9.params.toList args.toList ds p := hA0
  rw [Try.params9] at hA hval
  obtain ⟨v0, vs0, d0, ds0, p0, q0, hargs, rfl, rfl, g0, r0⟩ := trodAll_cons hA
  obtain ⟨v1, vs1, d1, ds1, p1, q1, rfl, rfl, rfl, g1, r1⟩ := trodAll_cons r0
  obtain ⟨rfl, rfl, rfl⟩ := trodAll_nil r1
  obtain rfl : args = #[v0, v1] := by cases args; simp_all
  obtain ⟨rfl, rfl⟩ := trodVars_none hV
  have hk0 : Rows.uptoBulk d0 ≤ 1048576 := Nat.le_trans ((bulk_mem _).2 d0 (by simp)) (of_decide_eq_true hk : Rows.uptoBulkAll _ ≤ 1048576)
  obtain ⟨z0, A0, n0, c0, f0, rfl, za0, zb0, hR0, hin0, hc0⟩ := openTale (hval 0 38 v0 rfl rfl) g0 hk0
  obtain ⟨bn, bz, x1, y1, rfl, rfl, hbn, hbz0, hbz1⟩ := openHit (hval 1 46 v1 rfl rfl) g1
  clear hA0
  simp only [List.append_nil] at hk
  refine (walk z0 A0 n0 c0 f0 bn bz hbn hbz0 hbz1 W hR0 hin0 hc0).mono fun e W' ⟨he, hb⟩ => ?_
  subst he
  exact ⟨_, rfl, Frame.law_post Frame.laidOut (by kernel_rfl) Try.underlying4 (by kernel_rfl) rfl rfl hW' hb⟩

set_option maxRecDepth 100000 in
theorem lifted (os : Os) (started : os.Started) (H : Type) (enc : TypeId × Value → H) (F : Stop.Interp) :
    ReturnsInHanded {} Try.checked os 9 .any ((Rows.OpenSpec.upto Rows.journalDamagesSpec).pre6 enc Try.prog Try.f9 Rows.journalDamagesUptoRow.domain false) (((Rows.OpenSpec.upto Rows.journalDamagesSpec).at F).post enc Try.prog Try.f9 false true false false) := by
  refine returnsInHanded_of_cond (C := Try.checked) (s := Rows.OpenSpec.upto Rows.journalDamagesSpec) (k := Rows.uptoSmall) rfl Frame.own started (by kernel_rfl) Try.func9
    (OpenSpec.witness (enc := enc) (C := Try.checked) (s := Rows.OpenSpec.upto Rows.journalDamagesSpec) (k := Rows.uptoSmall) rfl false ⟨#[], #[.agg #[.int .i64 0, .slice none 0 0], .agg #[.int .u64 0, .int .u8 0]], []⟩ 8 (by kernel_rfl) (by kernel_rfl) (by kernel_rfl)
      (x := ([.agg [.lit (.int .i64 0), .nil], .agg [.lit (.int .u64 0), .lit (.int .u8 0)]], [], [])) (by kernel_rfl) rfl (by kernel_rfl)) ?_
  intro W base args ds gs before hval hW _ hk _
  exact contract H enc W base args ds gs before hval hW hk

theorem proved : Rows.JournalDamagesUptoSaid :=
  OpenClaim.holds_of_cond 9 Try.f9 rfl rfl rfl rfl rfl rfl rfl ⟨rfl, rfl, rfl, rfl, rfl⟩ rfl rfl rfl rfl rfl (by kernel_rfl) Try.func9 (by kernel_rfl)
    (of_decide_eq_true (by kernel_rfl)) (by unfold Func.isWrapper; first | (rw [if_pos (by decide +kernel)]; kernel_rfl) | (rw [if_neg (by decide +kernel)]; exact ⟨rfl, rfl⟩))
    (fun os started H enc _ F => lifted os started H enc F)

end Go.Proofs.Ytelacdaehmfcaaa.JournalDamages
