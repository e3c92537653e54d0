/-
  JournalGrows: a journal to which a record was appended has one record more (within the statement's bound).
-/
import Derived.Test.YtelacdaehmfcaaaJouSame
namespace Go.Proofs.Ytelacdaehmfcaaa.JournalGrows
open Go.RowKit Go.Proofs.Ytelacdaehmfcaaa Go.Proofs.Ytelacdaehmfcaaa.WirePure Go.Proofs.Ytelacdaehmfcaaa.DigPure Go.Proofs.Ytelacdaehmfcaaa.JouPure Go.Proofs.Ytelacdaehmfcaaa.JouC Go.Proofs.Ytelacdaehmfcaaa.JouL

/-- The argument's copy, and the two lists. -/
def GS (w : World) (k q : Int) (d : ByteArray) (A1 A2 : Option Addr) (n N : Nat) (xs ys : List Value) (W : World) : Prop :=
  S w k q d W ∧ Reads W W.heap.size 3 A1 n xs ∧ Reads W W.heap.size 3 A2 N ys
theorem GS.below {w W W' : World} {k q : Int} {d : ByteArray} {A1 A2 : Option Addr} {n N : Nat} {xs ys : List Value} (h : GS w k q d A1 A2 n N xs ys W) (hb : Below W.heap.size W W') : GS w k q d A1 A2 n N xs ys W' :=
  ⟨keepS h.1 hb, (h.2.1.below hb).more hb.size, (h.2.2.below hb).more hb.size⟩
theorem GS.drewN {w W : World} {k q : Int} {d : ByteArray} {A1 A2 : Option Addr} {n N : Nat} {xs ys : List Value} (h : GS w k q d A1 A2 n N xs ys W) (m : Nat) : GS w k q d A1 A2 n N xs ys (W.drewN m) :=
  ⟨⟨h.1.1, h.1.2.1, h.1.2.2.1, h.1.2.2.2.1, WireRd.bdN h.1.2.2.2.2 m⟩, h.2.1.drewN m, h.2.2.drewN m⟩
theorem reads_take {W : World} {B n N : Nat} {A : Option Addr} {l l2 : List (Nat × List UInt8)} (h : Reads W B 3 A N (rcs 1 (l ++ l2))) (hn : l.length = n) (hN : n ≤ N) : Reads W B 3 A n (rcs 1 l) := by
  refine ⟨by rw [rcs_len, hn], fun h0 => ?_⟩
  obtain ⟨ad, rfl, hb, hc⟩ := h.2 (by omega)
  refine ⟨ad, rfl, hb, fun j u hu => hc j u ?_⟩
  rw [rcs_app]
  rw [List.getElem?_append_left (by have := (List.getElem?_eq_some_iff.1 hu).1; exact this)]
  exact hu

set_option maxHeartbeats 8000000 in
set_option maxRecDepth 100000 in
theorem walk (j : ByteArray) (k q : Int) (d : ByteArray) (w : World) (hj : j.size ≤ 1048576) (hk : k ≤ 9223372036854775807) (hd : d.size ≤ 1048576) : Calls Try.prog 8 #[.string j, .agg #[.int .i64 k, .int .i64 q, .string d]] w fun e w' => e = .returned (.bool true) ∧ Below w.heap.size w w' := by
  have h1 := fun W => Jou.append_any j k q hk d W (by omega) (by omega)
  obtain ⟨ub, x, hax⟩ : ∃ (a : List UInt8) (x : Int), appJ j.data.toList k q d.data.toList = (a, x) := ⟨_, _, rfl⟩
  rw [hax] at h1
  unfold erV at h1
  simp only at h1
  obtain ⟨u, hu⟩ : ∃ u : ByteArray, (⟨ub.toArray⟩ : ByteArray) = u := ⟨_, rfl⟩
  rw [hu] at h1
  by_cases hx : x = 0
  · subst hx
    have hg := scan_grows j.data.toList k q d.data.toList (by rw [hax])
    rw [hax] at hg
    obtain ⟨g, l, m, y, hJ⟩ : ∃ g l m x, scanJ j.data.toList = (g, l, m, x) := ⟨_, _, _, _, rfl⟩
    rw [hJ] at hg
    simp only at hg
    obtain ⟨hk1, hq, rfl, hJ2⟩ := hg
    have hud : u.data.toList = ub := by rw [← hu]
    have hus : ub.length = u.size := by rw [← hud, cond_len]
    have hul : u.size ≤ 4398046511104 := by
      have hal := app_len j.data.toList k q d.data.toList
      rw [hax, cond_len] at hal
      simp only at hal
      omega
    rw [hus, ← hud] at hJ2
    have hll := scanJ_len j.data.toList
    rw [hJ, cond_len] at hll
    simp only at hll
    have h2 := fun W => Jou.scan_any j W (by omega)
    have h3 := fun W => Jou.scan_any u W hul
    have h4 := fun W => Jou.whole_any u W hul
    rw [hJ2] at h4
    simp only at h4
    obtain ⟨n, hn⟩ : ∃ n, l.length = n := ⟨_, rfl⟩
    obtain ⟨kn, rfl⟩ : ∃ kn : Nat, k = kn := ⟨k.toNat, by omega⟩
    rw [Int.toNat_natCast] at hJ2
    rw [hn] at hq hll
    obtain ⟨N, hN⟩ : ∃ N, N = n + 1 := ⟨_, rfl⟩
    have hqN : q = (N : Int) := by omega
    subst hqN
    have hln : (l ++ [(kn, d.data.toList)]).length = N := by rw [List.length_append, hn, hN]; rfl
    have HJ := Lib.hid hJ
    have HJ2 := Lib.hid hJ2
    have HN := Lib.hid hn
    have HL := Lib.hid hln
    have wN : IntKind.i64.wrap ((n : Int) + 1) = (N : Int) := by rw [IntWalk.i64_in _ (by omega)]; omega
    have i0 : (0 : Int) ≤ (n : Int) := by omega
    have i1 : (n : Int) < (N : Int) := by omega
    have i2 : (n : Int) ≤ (N : Int) := by omega
    have i3 : n ≤ N := by omega
    have hrx := rcs_at (l ++ [(kn, d.data.toList)]) 1 n (by rw [hln]; omega)
    have hget : (l ++ [(kn, d.data.toList)])[n]'(by rw [hln]; omega) = (kn, d.data.toList) := by simp [← hn]
    rw [hget, show 1 + n = N by omega] at hrx
    have hds : (⟨d.data.toList.toArray⟩ : ByteArray) = d := rfl
    simp only [hds] at hrx
    have HRX := Lib.hid hrx
    clear hax hJ hJ2 hn hln hus hud hu hrx hget hN hds hq
    go_enter Try.func8, Try.ntmps8
    go_wp2_with fail
    refine (h1 _).mono ?_
    rintro e w1 ⟨rfl, b1⟩
    have s1 := keepS (startS w kn N d 23) b1
    go_wp2_with fail
    refine (h2 _).mono ?_
    intro e w2 hsp1
    obtain ⟨A1, c1, rfl, o1, b2⟩ := SP_of HJ.out hsp1
    rw [HN.out] at o1
    rw [HN.out]
    have s2 := keepS s1 b2
    go_wp2_with fail
    refine (h3 _).mono ?_
    intro e w3 hsp2
    obtain ⟨A2, c2, rfl, o2, b3⟩ := SP_of HJ2.out hsp2
    rw [HL.out] at o2
    rw [HL.out]
    obtain ⟨a2, rfl⟩ : ∃ a2, A2 = some a2 := by
      rcases o2.2 with ⟨h, h0⟩ | ⟨g', _, _, h, _⟩
      · omega
      · exact ⟨⟨g', 0, none⟩, by injection h⟩
    have r1 := (Reads.of_own (o1.kept (grown_below b3) (Classical.em _)))
    have r2 := (Reads.of_own o2)
    have hcap : N ≤ c2 := by
      rcases o2.2 with ⟨h, h0⟩ | ⟨g', cap, _, h, _, _, hc, _⟩
      · cases h
      · obtain rfl : c2 = cap := by injection h
        exact hc
    have s3 := keepS s2 b3
    have G3 : GS w kn N d A1 (some a2) n N (rcs 1 l) (rcs 1 (l ++ [(kn, d.data.toList)])) w3 := ⟨s3, r1, r2⟩
    have TK := Lib.hid (fun W (h : GS w kn N d A1 (some a2) n N (rcs 1 l) (rcs 1 (l ++ [(kn, d.data.toList)])) W) => reads_take h.2.2 HN.out i3)
    have CX : Hid (∀ W, GS w kn N d A1 (some a2) n N (rcs 1 l) (rcs 1 (l ++ [(kn, d.data.toList)])) W → W.cell? (a2.add (n * 3)) = some (.int .i64 (kn : Nat)) ∧ W.cell? ((a2.add (n * 3)).add 1) = some (.int .i64 (N : Nat)) ∧ W.cell? ((a2.add (n * 3)).add 2) = some (.string d)) := Lib.hid (fun W h => by
      obtain ⟨ad, hA, hb, hc⟩ := h.2.2.2 (by omega)
      obtain rfl : a2 = ad := by injection hA
      exact ⟨hc _ _ HRX.out.1, by rw [add_of_add]; exact hc _ _ HRX.out.2.1, by rw [add_of_add]; exact hc _ _ HRX.out.2.2⟩)
    clear hsp1 hsp2 h1 h2 h3 o1 o2 r1 r2 s1 s2 s3 b1 b2 b3 HJ HJ2
    have i4 : ¬ c2 < n := by omega
    go_wp2_with fail
    refine wp_region_held_drew (S := fun W => GS w kn N d A1 (some a2) n N (rcs 1 l) (rcs 1 (l ++ [(kn, d.data.toList)])) W) (by kernel_rfl) (G3.drewN 1) (fun hHeld => ?_)
    have HG := Lib.hid G3
    clear G3
    refine wpAnyH_take (i := 0) (oi := _) (v := .int .i64 0) rfl (by kernel_rfl) (by kernel_rfl) (by kernel_rfl) (fun _ _ _ h => h) (Or.inl ⟨by rfl, fun W1 _ => by go_simp⟩) (by assumption) ?_
    go_simp
    refine wpAnyH_take (i := 1) (oi := _) (v := .bool true) rfl (by kernel_rfl) (by kernel_rfl) (by kernel_rfl) (fun _ _ _ h => h) (Or.inl ⟨by rfl, fun W1 _ => by go_simp⟩) (by assumption) ?_
    go_simp
    refine wpAnyH_take (i := 2) (oi := _) (v := .bool true) rfl (by kernel_rfl) (by kernel_rfl) (by kernel_rfl) (fun _ _ _ h => h) (Or.inl ⟨by rfl, fun W1 _ => by go_simp⟩) (by assumption) ?_
    go_simp
    refine wpAnyH_take (i := 3) (oi := _) (v := .int .i64 (g : Nat)) rfl (by kernel_rfl) (by kernel_rfl) (by kernel_rfl) (fun _ _ _ h => h) (Or.inl ⟨by rfl, fun W1 _ => by go_simp⟩) (by assumption) ?_
    go_simp
    refine wpAnyH_take (i := 4) (oi := _) (v := .int .i64 (g : Nat)) rfl (by kernel_rfl) (by kernel_rfl) (by kernel_rfl) (fun _ _ _ h => h) (Or.inl ⟨by rfl, fun W1 _ => by go_simp⟩) (by assumption) ?_
    go_simp
    refine wpAnyH_take (i := 5) (oi := _) (v := .bool true) rfl (by kernel_rfl) (by kernel_rfl) (by kernel_rfl) (fun _ _ _ h => h) (Or.inl ⟨by rfl, fun W1 _ => by go_simp⟩) (by assumption) ?_
    go_simp
    refine wpAnyH_take (i := 6) (oi := _) (v := .bool true) rfl (by kernel_rfl) (by kernel_rfl) (by kernel_rfl) (fun _ _ _ h => h) (Or.inl ⟨by rfl, fun W1 _ => by go_simp⟩) (by assumption) ?_
    go_simp
    refine wpAnyH_take (i := 7) (oi := _) (v := .bool true) rfl (by kernel_rfl) (by kernel_rfl) (by kernel_rfl) (fun _ _ _ h => h) (Or.inl ⟨by rfl, fun W1 _ => by go_simp⟩) (by assumption) ?_
    go_simp
    refine wpAnyH_take (i := 8) (oi := _) (v := .slice (some a2) N c2) rfl (by kernel_rfl) (by kernel_rfl) (by kernel_rfl) (fun _ _ _ h => h) (Or.inl ⟨by rfl, fun W1 _ => by go_simp⟩) (by assumption) ?_
    go_simp
    refine wpAnyH_take (i := 9) (oi := _) (v := .int .i64 (N : Nat)) rfl (by kernel_rfl) (by kernel_rfl) (by kernel_rfl) (fun _ _ _ h => h) (Or.inl ⟨by rfl, fun W1 _ => by go_simp⟩) (by assumption) ?_
    go_simp
    refine wpAnyH_take (i := 10) (oi := _) (v := .slice A1 n c1) rfl (by kernel_rfl) (by kernel_rfl) (by kernel_rfl) (fun _ _ _ h => h) (Or.inl ⟨by rfl, fun W1 _ => by go_simp⟩) (by assumption) ?_
    go_simp
    refine wpAnyH_take (i := 11) (oi := _) (v := .int .i64 (n : Nat)) rfl (by kernel_rfl) (by kernel_rfl) (by kernel_rfl) (fun _ _ _ h => h) (Or.inl ⟨by rfl, fun W1 _ => by go_simp⟩) (by assumption) ?_
    go_simp
    refine wpAnyH_take (i := 12) (oi := _) (v := .int .i64 (N : Nat)) rfl (by kernel_rfl) (by kernel_rfl) (by kernel_rfl) (fun _ _ _ h => h) (Or.inl ⟨by rfl, fun W1 _ => by go_simp⟩) (by assumption) ?_
    go_simp
    refine wpAnyH_take (i := 13) (oi := _) (v := .bool true) rfl (by kernel_rfl) (by kernel_rfl) (by kernel_rfl) (fun _ _ _ h => h) (Or.inl ⟨by rfl, fun W1 _ => by go_simp⟩) (by assumption) ?_
    go_simp
    refine wpAnyH_take (i := 14) (oi := _) (v := .bool true) rfl (by kernel_rfl) (by kernel_rfl) (by kernel_rfl) (fun _ _ _ h => h) (Or.inl ⟨by rfl, fun W1 _ => by go_simp⟩) (by assumption) ?_
    go_simp
    refine wpAnyH_take (i := 15) (oi := _) (v := .bool true) rfl (by kernel_rfl) (by kernel_rfl) (by kernel_rfl) (fun _ _ _ h => h) (Or.inl ⟨by rfl, fun W1 _ => by go_simp⟩) (by assumption) ?_
    go_simp
    refine wpAnyH_take (i := 16) (oi := _) (v := .slice (some a2) N c2) rfl (by kernel_rfl) (by kernel_rfl) (by kernel_rfl) (fun _ _ _ h => h) (Or.inl ⟨by rfl, fun W1 _ => by go_simp⟩) (by assumption) ?_
    go_simp
    refine wpAnyH_take (i := 17) (oi := _) (v := .slice A1 n c1) rfl (by kernel_rfl) (by kernel_rfl) (by kernel_rfl) (fun _ _ _ h => h) (Or.inl ⟨by rfl, fun W1 _ => by go_simp⟩) (by assumption) ?_
    go_simp
    refine wpAnyH_take (i := 18) (oi := _) (v := .int .i64 (n : Nat)) rfl (by kernel_rfl) (by kernel_rfl) (by kernel_rfl) (fun _ _ _ h => h) (Or.inl ⟨by rfl, fun W1 _ => by go_simp⟩) (by assumption) ?_
    go_simp
    refine wpAnyH_take (i := 19) (oi := _) (v := .slice (some a2) n c2) rfl (by kernel_rfl) (by kernel_rfl) (by kernel_rfl) (fun _ _ _ h => h) (Or.inl ⟨by rfl, fun W1 _ => by go_simp⟩) (by assumption) ?_
    go_simp
    refine wpAnyH_take (i := 20) (oi := _) (v := .slice A1 n c1) rfl (by kernel_rfl) (by kernel_rfl) (by kernel_rfl) (fun _ _ _ h => h) (Or.inl ⟨by rfl, fun W1 _ => by go_simp⟩) (by assumption) ?_
    go_simp
    refine wpAnyH_ready (rs := [21]) (by kernel_rfl) (by simp) ?_
    refine AllReadyH.cons (o := _) rfl (fun K hK => ?_) AllReadyH.nil
    go_simp
    go_at_call 19
    refine (same_yes (some a2) A1 c2 c1 n 1 l _ HN.out (by omega) (TK.out _ hHeld) hHeld.2.1).mono ?_
    rintro e w5 ⟨rfl, m5, rfl⟩
    go_wp2_with fail
    refine hK.out _ _ (GS.drewN HG.out (1 + m5)) (fun hHeld => ?_)
    clear hK
    try simp only [Act.put, List.setIfInBounds_toArray, List.set_cons_zero, List.set_cons_succ]
    refine wpAnyH_take (i := 22) (oi := _) (v := .bool true) rfl (by kernel_rfl) (by kernel_rfl) (by kernel_rfl) (fun _ _ _ h => h) (Or.inl ⟨by rfl, fun W1 _ => by go_simp⟩) (by assumption) ?_
    go_simp
    refine wpAnyH_take (i := 23) (oi := _) (v := .bool true) rfl (by kernel_rfl) (by kernel_rfl) (by kernel_rfl) (fun _ _ _ h => h) (Or.inl ⟨by rfl, fun W1 _ => by go_simp⟩) (by assumption) ?_
    go_simp
    refine wpAnyH_take (i := 24) (oi := _) (v := .slice (some a2) N c2) rfl (by kernel_rfl) (by kernel_rfl) (by kernel_rfl) (fun _ _ _ h => h) (Or.inl ⟨by rfl, fun W1 _ => by go_simp⟩) (by assumption) ?_
    go_simp
    refine wpAnyH_take (i := 25) (oi := _) (v := .slice A1 n c1) rfl (by kernel_rfl) (by kernel_rfl) (by kernel_rfl) (fun _ _ _ h => h) (Or.inl ⟨by rfl, fun W1 _ => by go_simp⟩) (by assumption) ?_
    go_simp
    refine wpAnyH_take (i := 26) (oi := _) (v := .int .i64 (n : Nat)) rfl (by kernel_rfl) (by kernel_rfl) (by kernel_rfl) (fun _ _ _ h => h) (Or.inl ⟨by rfl, fun W1 _ => by go_simp⟩) (by assumption) ?_
    go_simp
    refine wpAnyH_take (i := 27) (oi := _) (v := .pointer (some (a2.add (n * 3)))) rfl (by kernel_rfl) (by kernel_rfl) (by kernel_rfl) (fun _ _ _ h => h) (Or.inl ⟨by rfl, fun W1 _ => by go_simp⟩) (by assumption) ?_
    go_simp
    refine wpAnyH_take (i := 28) (oi := _) (v := _) rfl (by kernel_rfl) (by kernel_rfl) (by kernel_rfl) (fun _ _ _ h => h) (yLoadAt rfl _ rfl (a2.add (n * 3)) rfl (.int .i64 (kn : Nat)) (.int .i64 (N : Nat)) (.string d) (fun _ h => CX.out _ h)) (by assumption) ?_
    go_simp
    refine wpAnyH_take (i := 29) (oi := _) (v := _) rfl (by kernel_rfl) (by kernel_rfl) (by kernel_rfl) (fun _ _ _ h => h) (yLoadAt rfl _ rfl ⟨w.heap.size, 0, none⟩ rfl (.int .i64 (kn : Nat)) (.int .i64 (N : Nat)) (.string d) (fun _ h => ⟨h.1.1, by rw [Addr.add_mid]; exact h.1.2.1, by rw [Addr.add_mid]; exact h.1.2.2.1⟩)) (by assumption) ?_
    go_simp
    refine wpAnyH_take (i := 30) (oi := _) (v := .bool true) rfl (by kernel_rfl) (by kernel_rfl) (by kernel_rfl) (fun _ _ _ h => h) (Or.inl ⟨by rfl, fun W1 _ => by go_simp⟩) (by assumption) ?_
    go_simp
    refine wpAnyH_take (i := 31) (oi := _) (v := .bool true) rfl (by kernel_rfl) (by kernel_rfl) (by kernel_rfl) (fun _ _ _ h => h) (Or.inl ⟨by rfl, fun W1 _ => by go_simp⟩) (by assumption) ?_
    go_simp
    refine wpAnyH_take (i := 32) (oi := _) (v := .bool true) rfl (by kernel_rfl) (by kernel_rfl) (by kernel_rfl) (fun _ _ _ h => h) (Or.inl ⟨by rfl, fun W1 _ => by go_simp⟩) (by assumption) ?_
    go_simp
    refine wpAnyH_take (i := 33) (oi := _) (v := .int .i64 (u.size : Nat)) rfl (by kernel_rfl) (by kernel_rfl) (by kernel_rfl) (fun _ _ _ h => h) (Or.inl ⟨by rfl, fun W1 _ => by go_simp⟩) (by assumption) ?_
    go_simp
    refine wpAnyH_take (i := 34) (oi := _) (v := .string u) rfl (by kernel_rfl) (by kernel_rfl) (by kernel_rfl) (fun _ _ _ h => h) (Or.inl ⟨by rfl, fun W1 _ => by go_simp⟩) (by assumption) ?_
    go_simp
    refine wpAnyH_take (i := 35) (oi := _) (v := .int .i64 (u.size : Nat)) rfl (by kernel_rfl) (by kernel_rfl) (by kernel_rfl) (fun _ _ _ h => h) (Or.inl ⟨by rfl, fun W1 _ => by go_simp⟩) (by assumption) ?_
    go_simp
    refine wpAnyH_take (i := 36) (oi := _) (v := .bool true) rfl (by kernel_rfl) (by kernel_rfl) (by kernel_rfl) (fun _ _ _ h => h) (Or.inl ⟨by rfl, fun W1 _ => by go_simp⟩) (by assumption) ?_
    go_simp
    refine wpAnyH_take (i := 37) (oi := _) (v := .bool true) rfl (by kernel_rfl) (by kernel_rfl) (by kernel_rfl) (fun _ _ _ h => h) (Or.inl ⟨by rfl, fun W1 _ => by go_simp⟩) (by assumption) ?_
    go_simp
    refine wpAnyH_take (i := 38) (oi := _) (v := .bool true) rfl (by kernel_rfl) (by kernel_rfl) (by kernel_rfl) (fun _ _ _ h => h) (Or.inl ⟨by rfl, fun W1 _ => by go_simp⟩) (by assumption) ?_
    go_simp
    refine wpAnyH_take (i := 39) (oi := _) (v := .string u) rfl (by kernel_rfl) (by kernel_rfl) (by kernel_rfl) (fun _ _ _ h => h) (Or.inl ⟨by rfl, fun W1 _ => by go_simp⟩) (by assumption) ?_
    go_simp
    refine wpAnyH_ready (rs := [40]) (by kernel_rfl) (by simp) ?_
    refine AllReadyH.cons (o := _) rfl (fun K hK => ?_) AllReadyH.nil
    go_simp
    go_at_call 20
    refine (h4 _).mono ?_
    rintro e w6 ⟨rfl, hbq⟩
    go_wp2_with fail
    refine hK.out _ _ (GS.below hHeld hbq) (fun hHeld => ?_)
    clear hK
    try simp only [Act.put, List.setIfInBounds_toArray, List.set_cons_zero, List.set_cons_succ]
    refine wpAnyH_take (i := 41) (oi := _) (v := .bool true) rfl (by kernel_rfl) (by kernel_rfl) (by kernel_rfl) (fun _ _ _ h => h) (Or.inl ⟨by rfl, fun W1 _ => by go_simp⟩) (by assumption) ?_
    go_simp
    refine wpAnyH_take (i := 42) (oi := _) (v := .bool true) rfl (by kernel_rfl) (by kernel_rfl) (by kernel_rfl) (fun _ _ _ h => h) (Or.inl ⟨by rfl, fun W1 _ => by go_simp⟩) (by assumption) ?_
    go_simp
    refine wpAnyH_ready (rs := [43]) (by kernel_rfl) (by simp) ?_
    refine AllReadyH.cons (o := _) rfl (fun K hK => ?_) AllReadyH.nil
    go_simp
    go_at_call 14
    refine (example_any _).mono ?_
    rintro e w7 ⟨rfl, hbq2⟩
    go_wp2_with fail
    refine hK.out _ _ (GS.below hHeld hbq2) (fun hHeld => ?_)
    clear hK
    try simp only [Act.put, List.setIfInBounds_toArray, List.set_cons_zero, List.set_cons_succ]
    refine wpAnyH_take (i := 44) (oi := _) (v := .bool true) rfl (by kernel_rfl) (by kernel_rfl) (by kernel_rfl) (fun _ _ _ h => h) (Or.inl ⟨by rfl, fun W1 _ => by go_simp⟩) (by assumption) ?_
    go_simp
    refine wpAnyH_take (i := 45) (oi := _) (v := .bool true) rfl (by kernel_rfl) (by kernel_rfl) (by kernel_rfl) (fun _ _ _ h => h) (Or.inl ⟨by rfl, fun W1 _ => by go_simp⟩) (by assumption) ?_
    go_simp
    refine wpAnyH_done (by kernel_rfl) ?_ _
    have HF := Lib.hid hHeld
    clear hHeld
    go_wp2_with fail
    go_ret
    exact ⟨rfl, belowS HF.out.1⟩
  · have tx : (x != 0) = true := by simpa using hx
    clear hax hu hx
    go_enter Try.func8, Try.ntmps8
    go_wp2_with fail
    refine (h1 _).mono ?_
    rintro e w1 ⟨rfl, b1⟩
    have s1 := keepS (startS w k q d 23) b1
    go_wp2_with fail
    refine (example_any _).mono ?_
    rintro e w2 ⟨rfl, b2⟩
    go_wp2_with fail
    go_ret
    exact ⟨rfl, belowS (keepS s1 b2)⟩

open Go.ChangeShapes Go.WideShapes Go.ChangeAt Go.Joins

theorem contract (H : Type) (enc : TypeId × Value → H) (W : World) (base : Nat) (args : Array Value) (ds gs : List (DataW H)) (before : List MemPlace)
    (hval : ∀ (j : Nat) t v, Try.f8.params[j]? = some t → args[j]? = some v → Value.okWide Try.prog W .any base t v)
    (hW : DataW.Whole enc Try.prog Try.f8.params.toList Rows.journalGrowsSpec.vars false W args.toList ds gs before) (hk : Rows.uptoSmall H (ds ++ gs) = true) :
    Calls Try.prog 8 args W fun e W' => ∃ v, e = .returned v ∧ Rows.journalGrowsSpec.post enc Try.prog Try.f8 false true false false W args v W' := by
  have hW' := hW
  obtain ⟨p, q, hA0, hV, rfl, hfz, hnd⟩ := hW
  have hA : DataW.TrodAll enc Try.prog W 0 (fun _ => true) true Try.f8.params.toList args.toList ds p := hA0
  rw [Try.params8] at hA hval
  obtain ⟨v0, vs0, d0, ds0, p0, q0, hargs, rfl, rfl, g0, r0⟩ := trodAll_cons hA
  obtain ⟨v1, vs1, d1, ds1, p1, q1, rfl, rfl, rfl, g1, r1⟩ := trodAll_cons r0
  obtain ⟨rfl, rfl, rfl⟩ := trodAll_nil r1
  obtain rfl : args = #[v0, v1] := by cases args; simp_all
  obtain ⟨rfl, rfl⟩ := trodVars_none hV
  obtain ⟨s0, rfl, rfl, rfl, w0⟩ := Go.ChangeMaps.open_string Try.underlying9 (hval 0 9 v0 rfl rfl) g0
  obtain ⟨k1, q1, t1, x1, y1, rfl, rfl, ka1, kb1, qa1, qb1⟩ := openRec (hval 1 23 v1 rfl rfl) g1
  clear hA0
  simp only [List.append_nil] at hk
  have hkk : Rows.uptoBulkAll [DataW.lit (H := H) (.string s0.data.toList), .agg [x1, y1, .lit (.string t1.data.toList)]] ≤ 1048576 := of_decide_eq_true hk
  simp only [Rows.uptoBulkAll, Rows.uptoBulk, cond_len] at hkk
  refine (walk s0 k1 q1 t1 W (by omega) kb1 (by omega)).mono fun e W' ⟨he, hb⟩ => ?_
  subst he
  exact ⟨_, rfl, Frame.law_post Frame.laidOut (by kernel_rfl) Try.underlying4 (by kernel_rfl) rfl rfl hW' hb⟩

set_option maxRecDepth 100000 in
theorem lifted (os : Os) (started : os.Started) (H : Type) (enc : TypeId × Value → H) (F : Stop.Interp) :
    ReturnsInHanded {} Try.checked os 8 .any ((Rows.OpenSpec.upto Rows.journalGrowsSpec).pre6 enc Try.prog Try.f8 Rows.journalGrowsUptoRow.domain false) (((Rows.OpenSpec.upto Rows.journalGrowsSpec).at F).post enc Try.prog Try.f8 false true false false) := by
  refine returnsInHanded_of_cond (C := Try.checked) (s := Rows.OpenSpec.upto Rows.journalGrowsSpec) (k := Rows.uptoSmall) rfl Frame.own started (by kernel_rfl) Try.func8
    (OpenSpec.witness (enc := enc) (C := Try.checked) (s := Rows.OpenSpec.upto Rows.journalGrowsSpec) (k := Rows.uptoSmall) rfl false ⟨#[], #[.string .empty, .agg #[.int .i64 0, .int .i64 0, .string .empty]], []⟩ 8 (by kernel_rfl) (by kernel_rfl) (by kernel_rfl)
      (x := ([.lit (.string []), .agg [.lit (.int .i64 0), .lit (.int .i64 0), .lit (.string [])]], [], [])) (by kernel_rfl) rfl (by kernel_rfl)) ?_
  intro W base args ds gs before hval hW _ hk _
  exact contract H enc W base args ds gs before hval hW hk

theorem proved : Rows.JournalGrowsUptoSaid :=
  OpenClaim.holds_of_cond 8 Try.f8 rfl rfl rfl rfl rfl rfl rfl ⟨rfl, rfl, rfl, rfl, rfl⟩ rfl rfl rfl rfl rfl (by kernel_rfl) Try.func8 (by kernel_rfl)
    (of_decide_eq_true (by kernel_rfl)) (by unfold Func.isWrapper; first | (rw [if_pos (by decide +kernel)]; kernel_rfl) | (rw [if_neg (by decide +kernel)]; exact ⟨rfl, rfl⟩))
    (fun os started H enc _ F => lifted os started H enc F)

end Go.Proofs.Ytelacdaehmfcaaa.JournalGrows
