/-
  Package digest: Open of any string.
-/
import Derived.Test.YtokdbpalkfghaaaDigFrm
import Derived.Lib.SlicesS
namespace Go.Proofs.Ytokdbpalkfghaaa.Dig
open Go.RowKit Go.Proofs.Ytokdbpalkfghaaa Go.Proofs.Ytokdbpalkfghaaa.DigPure Go.Proofs.Ytokdbpalkfghaaa.WirePure

/-- What Open returns, as the model's value. -/
def openV (s : List UInt8) : Value := .tuple #[.string ⟨(opn s).1.toArray⟩, .int .i64 ((opn s).2.1 : Nat), .int .i64 (opn s).2.2]
theorem openV_of {s t : List UInt8} {n : Nat} {e : Int} (h : opn s = (t, n, e)) : openV s = .tuple #[.string ⟨t.toArray⟩, .int .i64 (n : Nat), .int .i64 e] := by unfold openV; rw [h]

theorem mk_inj {l m : List UInt8} (h : (⟨l.toArray⟩ : ByteArray) = ⟨m.toArray⟩) : l = m := by
  have := congrArg (fun b => b.data.toList) h
  simpa using this

theorem extract_front (s : ByteArray) (n : Nat) : s.extract 0 n = ⟨(s.data.toList.take n).toArray⟩ := by
  have h := WireRd.extract_eq s 0 n
  rw [Nat.zero_add, List.drop_zero] at h
  exact h

set_option maxHeartbeats 2000000 in
theorem open_any (s : ByteArray) (w : World) (hs : s.size ≤ 281474976710656) : Calls Try.prog 19 #[.string s] w fun e w' => e = .returned (openV s.data.toList) ∧ Below w.heap.size w w' := by
  have hlen : s.data.toList.length = s.size := by simp
  obtain ⟨t, a, hta⟩ : ∃ t a, (A.ready s.data.toList).text 1048576 = (t, a) := ⟨_, _, rfl⟩
  have HTA := Lib.hid hta
  clear hta
  cases a with
  | bad x =>
    have HR : Hid (openV s.data.toList = .tuple #[.string ⟨#[]⟩, .int .i64 0, .int .i64 x]) := Lib.hid (openV_of (opn_bad _ _ _ HTA.out))
    go_enter Try.func19, Try.ntmps19
    go_wp2_with fail
    refine (WireRd.new_any s w hs).mono ?_
    rintro e w1 ⟨rfl, hb1, hi1⟩
    go_wp2_with fail
    refine (WireRd.text_is hi1 1048576 (by decide) t (.bad x) HTA.out).mono ?_
    rintro e w2 ⟨rfl, hg2, hi2⟩
    have hx := hi2.bad_ne
    have t1 : (x != 0) = true := by simpa using hx
    have t2 : (x == 0) = false := by simpa using hx
    clear hx
    go_wp2_with fail
    refine (WireRd.err_is hi2 x rfl).mono ?_
    rintro e w3 ⟨rfl, rfl⟩
    go_wp2_with fail
    go_ret3
    exact ⟨by rw [HR.out]; rfl, WireRd.below_grown hb1 hg2 hb1.size (Nat.le_refl _)⟩
  | ready l =>
    have hd := text_dec _ _ _ _ HTA.out
    obtain ⟨L, hL⟩ : ∃ L, l.length = L := ⟨_, rfl⟩
    obtain ⟨E, hE⟩ : ∃ E, s.size - L = E := ⟨_, rfl⟩
    have hL2 : L + E = s.size := by
      have := congrArg List.length hd
      rw [List.length_append, hlen, hL] at this
      omega
    have hdrop : s.data.toList.drop E = l := by
      rw [hd]
      apply List.drop_left'
      have := congrArg List.length hd
      rw [List.length_append, hlen, hL] at this
      omega
    have HL := Lib.hid hL
    have HD := Lib.hid hdrop
    have HN := Lib.hid hlen
    have HE : Hid (s.data.toList.length - l.length = E) := Lib.hid (by rw [hlen, hL, hE])
    clear hd hdrop hlen hL hE
    by_cases h4 : L < 4
    · have HR : Hid (openV s.data.toList = .tuple #[.string ⟨#[]⟩, .int .i64 0, .int .i64 5]) := Lib.hid (openV_of (opn_short _ _ _ HTA.out (by rw [HL.out]; exact h4)))
      go_enter Try.func19, Try.ntmps19
      go_wp2_with fail
      refine (WireRd.new_any s w hs).mono ?_
      rintro e w1 ⟨rfl, hb1, hi1⟩
      go_wp2_with fail
      refine (WireRd.text_is hi1 1048576 (by decide) t (.ready l) HTA.out).mono ?_
      rintro e w2 ⟨rfl, hg2, hi2⟩
      go_wp2_with fail
      refine (WireRd.err_is hi2 0 rfl).mono ?_
      rintro e w3 ⟨rfl, rfl⟩
      go_wp2_with fail
      refine (WireRd.left_is hi2 L HL.out).mono ?_
      rintro e w3 ⟨rfl, n3, rfl⟩
      go_wp2_with fail
      go_ret3
      exact ⟨by rw [HR.out]; rfl, WireRd.bdN (WireRd.below_grown hb1 hg2 hb1.size (Nat.le_refl _)) _⟩
    · have hsum := fun W => sum_any (s.extract 0 E) W (by simp only [ByteArray.size_extract]; omega)
      have e0 : (s.extract 0 E).data.toList = s.data.toList.take E := by rw [extract_front]
      rw [e0] at hsum
      have e1 : s.extract E (E + 4) = ⟨(l.take 4).toArray⟩ := by rw [WireRd.extract_eq, HD.out]
      have he : (s.size : Int) - (L : Int) = (E : Int) := by omega
      obtain ⟨u, hu⟩ : ∃ u : ByteArray, u = ⟨(le4 (crc (s.data.toList.take E))).toArray⟩ := ⟨_, rfl⟩
      rw [← hu] at hsum
      have i0 : (0 : Int) ≤ (E : Int) := by omega
      have i1 : (E : Int) + 4 ≤ (s.size : Int) := by omega
      have i2 : (E : Int) ≤ (s.size : Int) := by omega
      have i3 : (0 : Int) ≤ (E : Int) + 4 := by omega
      have i4 : (E : Int) ≤ (E : Int) + 4 := by omega
      have hsum4 : IntKind.i64.wrap ((E : Int) + 4) = (E : Int) + 4 := IntWalk.i64_in _ (by omega)
      have hn4 : ((E : Int) + 4).toNat = E + 4 := by omega
      have key : (l.take 4 = le4 (crc (s.data.toList.take E)) ∧ s.extract E (E + 4) = u) ∨ (¬ l.take 4 = le4 (crc (s.data.toList.take E)) ∧ s.extract E (E + 4) ≠ u) := by
        by_cases hk : l.take 4 = le4 (crc (s.data.toList.take E))
        · exact .inl ⟨hk, by rw [e1, hu, hk]⟩
        · exact .inr ⟨hk, by rw [e1, hu]; exact fun h => hk (mk_inj h)⟩
      clear e0 e1 hu
      rcases key with ⟨hk, t1⟩ | ⟨hk, t1⟩
      · have HR : Hid (openV s.data.toList = .tuple #[.string ⟨t.toArray⟩, .int .i64 ((E : Int) + 4), .int .i64 0]) := Lib.hid (openV_of (by
          have := opn_ok _ _ _ HTA.out (by rw [HL.out]; exact h4) (by rw [HE.out]; exact hk)
          rw [HE.out] at this
          exact this))
        clear hk
        go_enter Try.func19, Try.ntmps19
        go_wp2_with fail
        refine (WireRd.new_any s w hs).mono ?_
        rintro e w1 ⟨rfl, hb1, hi1⟩
        go_wp2_with fail
        refine (WireRd.text_is hi1 1048576 (by decide) t (.ready l) HTA.out).mono ?_
        rintro e w2 ⟨rfl, hg2, hi2⟩
        go_wp2_with fail
        refine (WireRd.err_is hi2 0 rfl).mono ?_
        rintro e w3 ⟨rfl, rfl⟩
        go_wp2_with fail
        refine (WireRd.left_is hi2 L HL.out).mono ?_
        rintro e w3 ⟨rfl, n3, rfl⟩
        go_wp2_with fail
        refine (WireRd.left_is (hi2.drewN n3) L HL.out).mono ?_
        rintro e w3 ⟨rfl, n4, rfl⟩
        have hb5 : Below w.heap.size w ((w2.drewN n3).drewN n4) := WireRd.bdN (WireRd.bdN (WireRd.below_grown hb1 hg2 hb1.size (Nat.le_refl _)) _) _
        obtain ⟨W, hW⟩ : ∃ W, W = (w2.drewN n3).drewN n4 := ⟨_, rfl⟩
        rw [← hW] at hb5 ⊢
        clear hW hb1 hi1 hg2 hi2
        go_wp2_with fail
        go_region_held3 (fun w' => Below w.heap.size w w')
          (first | exact WireRd.bdN hb5 1 | exact Below.trans (by assumption) (hbq.mono (Below.size (by assumption))) | go_keep)
          (first | (go_at_call 23; refine (hsum _).mono ?_; rintro e w' ⟨rfl, hbq⟩))
        go_wp2_with fail
        go_ret3
        exact ⟨by rw [HR.out]; rfl, hb5.drew.trans (hbq.mono hb5.drew.size)⟩
      · have HR : Hid (openV s.data.toList = .tuple #[.string ⟨#[]⟩, .int .i64 0, .int .i64 7]) := Lib.hid (openV_of (opn_sum _ _ _ HTA.out (by rw [HL.out]; exact h4) (by rw [HE.out]; exact hk)))
        clear hk
        have t2 := (Lib.bytes_beq_false_iff _ _).2 t1
        go_enter Try.func19, Try.ntmps19
        go_wp2_with fail
        refine (WireRd.new_any s w hs).mono ?_
        rintro e w1 ⟨rfl, hb1, hi1⟩
        go_wp2_with fail
        refine (WireRd.text_is hi1 1048576 (by decide) t (.ready l) HTA.out).mono ?_
        rintro e w2 ⟨rfl, hg2, hi2⟩
        go_wp2_with fail
        refine (WireRd.err_is hi2 0 rfl).mono ?_
        rintro e w3 ⟨rfl, rfl⟩
        go_wp2_with fail
        refine (WireRd.left_is hi2 L HL.out).mono ?_
        rintro e w3 ⟨rfl, n3, rfl⟩
        go_wp2_with fail
        refine (WireRd.left_is (hi2.drewN n3) L HL.out).mono ?_
        rintro e w3 ⟨rfl, n4, rfl⟩
        have hb5 : Below w.heap.size w ((w2.drewN n3).drewN n4) := WireRd.bdN (WireRd.bdN (WireRd.below_grown hb1 hg2 hb1.size (Nat.le_refl _)) _) _
        obtain ⟨W, hW⟩ : ∃ W, W = (w2.drewN n3).drewN n4 := ⟨_, rfl⟩
        rw [← hW] at hb5 ⊢
        clear hW hb1 hi1 hg2 hi2
        go_wp2_with fail
        go_region_held3 (fun w' => Below w.heap.size w w')
          (first | exact WireRd.bdN hb5 1 | exact Below.trans (by assumption) (hbq.mono (Below.size (by assumption))) | go_keep)
          (first | (go_at_call 23; refine (hsum _).mono ?_; rintro e w' ⟨rfl, hbq⟩))
        go_wp2_with fail
        go_ret3
        exact ⟨by rw [HR.out]; rfl, hb5.drew.trans (hbq.mono hb5.drew.size)⟩

end Go.Proofs.Ytokdbpalkfghaaa.Dig
