/-
  The reference of layer 5: Open of any string.
-/
import Derived.Test.YtokdbpalkfghaaaRef05
namespace Go.Proofs.Ytokdbpalkfghaaa.Ref05
open Go.RowKit Go.Proofs.Ytokdbpalkfghaaa Go.Proofs.Ytokdbpalkfghaaa.DigPure Go.Proofs.Ytokdbpalkfghaaa.WirePure Go.Proofs.Ytokdbpalkfghaaa.Dig

theorem text_uv_bad {s : List UInt8} {x : Int} (hx : x ≠ 0) (h : (uv 0 0 s).1 = x) : opn s = ([], 0, x) := by
  have e1 : (A.ready s).uint = (0, .bad x) := by simp only [A.uint]; rw [if_neg (by rw [h]; exact hx), h]
  exact opn_bad _ [] _ (WireRd.text_bad _ _ 0 _ (WireRd.count_bad _ _ _ _ e1))
theorem uint_uv {s : List UInt8} {n k : Nat} (h : uv 0 0 s = (0, n, s.drop k)) : (A.ready s).uint = (n, .ready (s.drop k)) := by
  simp only [A.uint]; rw [h]; rfl
theorem opn_big {s : List UInt8} {n k : Nat} (h : uv 0 0 s = (0, n, s.drop k)) (hn : 1048576 < n) : opn s = ([], 0, 3) :=
  opn_bad _ [] _ (WireRd.text_bad _ _ 0 _ (WireRd.count_big _ _ n _ (uint_uv h) (by omega)))
theorem opn_text {s : List UInt8} {n k : Nat} (h : uv 0 0 s = (0, n, s.drop k)) (hn : n ≤ 1048576) (hk : k ≤ s.length) (hl : k + n ≤ s.length) : (A.ready s).text 1048576 = ((s.drop k).take n, .ready (s.drop (k + n))) := by
  rw [WireRd.text_ok _ _ n (s.drop k) (WireRd.count_ok _ _ n _ (uint_uv h) (by omega)) (by rw [List.length_drop]; omega), List.drop_drop]
theorem opn_cut {s : List UInt8} {n k : Nat} (h : uv 0 0 s = (0, n, s.drop k)) (hn : n ≤ 1048576) (hk : k ≤ s.length) (hl : s.length < k + n + 4) : opn s = ([], 0, 5) := by
  by_cases h2 : k + n ≤ s.length
  · exact opn_short _ _ _ (opn_text h hn hk h2) (by rw [List.length_drop]; omega)
  · exact opn_bad _ [] _ (WireRd.text_short _ _ n (s.drop k) (WireRd.count_ok _ _ n _ (uint_uv h) (by omega)) (by rw [List.length_drop]; omega))

set_option maxHeartbeats 2000000 in
theorem open_any (s : ByteArray) (w : World) (hs : s.size ≤ 140737488355328) : Calls Try.prog 20 #[.string s] w fun e w' => e = .returned (openV s.data.toList) ∧ Below w.heap.size w w' := by
  have hlen : s.data.toList.length = s.size := by simp
  go_enter Try.func20, Try.ntmps20
  go_wp2_with fail
  refine (read_any s w hs).mono ?_
  rintro e w' ⟨⟨x, n, k, rfl, hx⟩, rfl⟩
  rcases hx with ⟨rfl, huv, hk, hk10⟩ | ⟨hx, hx2, rfl, rfl, huv⟩
  · rw [hlen] at hk
    by_cases hbig : 1048576 < n
    · have HR : Hid (openV s.data.toList = .tuple #[.string ⟨#[]⟩, .int .i64 0, .int .i64 3]) := Lib.hid (openV_of (opn_big huv hbig))
      clear huv hlen
      go_wp2_with fail
      go_ret3
      exact ⟨by rw [HR.out]; rfl, Below.refl _ _⟩
    · obtain ⟨E, hE⟩ : ∃ E, k + n = E := ⟨_, rfl⟩
      have hEi : (k : Int) + (n : Int) = (E : Int) := by omega
      by_cases hsh : s.size < E + 4
      · have HR : Hid (openV s.data.toList = .tuple #[.string ⟨#[]⟩, .int .i64 0, .int .i64 5]) := Lib.hid (openV_of (opn_cut huv (by omega) (by omega) (by omega)))
        have h3 : (s.size : Int) < (E : Int) + 4 := by omega
        clear huv hlen hE
        go_wp2_with fail
        go_ret3
        exact ⟨by rw [HR.out]; rfl, Below.refl _ _⟩
      · have ht := opn_text huv (by omega) (by omega) (by omega)
        rw [hE] at ht
        have hcrc := fun W => rCrc_any (s.extract 0 E) W (by simp only [ByteArray.size_extract]; omega)
        have e0 : (s.extract 0 E).data.toList = s.data.toList.take E := by rw [extract_front]
        rw [e0] at hcrc
        have hf := fun W => four_any (crc (s.data.toList.take E)) (crc_lt _) W
        have e1 : s.extract E (E + 4) = ⟨((s.data.toList.drop E).take 4).toArray⟩ := WireRd.extract_eq s E 4
        have e2 : s.extract k E = ⟨((s.data.toList.drop k).take n).toArray⟩ := by rw [← hE]; exact WireRd.extract_eq s k n
        obtain ⟨u, hu⟩ : ∃ u : ByteArray, u = ⟨(le4 (crc (s.data.toList.take E))).toArray⟩ := ⟨_, rfl⟩
        rw [← hu] at hf
        obtain ⟨c, hc⟩ : ∃ c : Nat, c = crc (s.data.toList.take E) := ⟨_, rfl⟩
        rw [← hc] at hf hcrc
        have hkE : (k : Int) ≤ (E : Int) := by omega
        have i0 : (0 : Int) ≤ (E : Int) := by omega
        have i1 : (E : Int) + 4 ≤ (s.size : Int) := by omega
        have i2 : (E : Int) ≤ (s.size : Int) := by omega
        have i3 : (0 : Int) ≤ (E : Int) + 4 := by omega
        have i4 : (E : Int) ≤ (E : Int) + 4 := by omega
        have hsum4 : IntKind.i64.wrap ((E : Int) + 4) = (E : Int) + 4 := IntWalk.i64_in _ (by omega)
        have hn4 : ((E : Int) + 4).toNat = E + 4 := by omega
        have hdl : s.data.toList.length - (s.data.toList.drop E).length = E := by rw [List.length_drop]; omega
        have key : ((s.data.toList.drop E).take 4 = le4 (crc (s.data.toList.take E)) ∧ s.extract E (E + 4) = u) ∨ (¬ (s.data.toList.drop E).take 4 = le4 (crc (s.data.toList.take E)) ∧ s.extract E (E + 4) ≠ u) := by
          by_cases hk : (s.data.toList.drop E).take 4 = le4 (crc (s.data.toList.take E))
          · exact .inl ⟨hk, by rw [e1, hu, hk]⟩
          · exact .inr ⟨hk, by rw [e1, hu]; exact fun h => hk (mk_inj h)⟩
        have h4 : ¬ (s.data.toList.drop E).length < 4 := by rw [List.length_drop]; omega
        rcases key with ⟨hk2, t1⟩ | ⟨hk2, t1⟩
        · have HR : Hid (openV s.data.toList = .tuple #[.string (s.extract k E), .int .i64 ((E : Int) + 4), .int .i64 0]) := Lib.hid (by
            rw [e2]
            exact openV_of (by
              have := opn_ok _ _ _ ht h4 (by rw [hdl]; exact hk2)
              rw [hdl] at this
              exact this))
          clear hk2 e0 e1 e2 hu hc hdl h4 ht hlen huv hE
          go_wp2_with fail
          go_region_held3 (fun w' => Below w.heap.size w w')
            (first | exact (Below.refl _ _).drew | exact Below.trans (by assumption) (hbq.mono (Below.size (by assumption))) | go_keep)
            (first | (go_at_call 12; refine (hcrc _).mono ?_; rintro e w' ⟨rfl, rfl⟩) | (go_at_call 25; refine (hf _).mono ?_; rintro e w' ⟨rfl, hbq⟩))
          go_wp2_with fail
          go_ret3
          exact ⟨by rw [HR.out]; rfl, by assumption⟩
        · have HR : Hid (openV s.data.toList = .tuple #[.string ⟨#[]⟩, .int .i64 0, .int .i64 7]) := Lib.hid (openV_of (opn_sum _ _ _ ht h4 (by rw [hdl]; exact hk2)))
          clear hk2 e0 e1 e2 hu hc hdl h4 ht hlen huv hE
          have t2 := (Lib.bytes_beq_false_iff _ _).2 t1
          go_wp2_with fail
          go_region_held3 (fun w' => Below w.heap.size w w')
            (first | exact (Below.refl _ _).drew | exact Below.trans (by assumption) (hbq.mono (Below.size (by assumption))) | go_keep)
            (first | (go_at_call 12; refine (hcrc _).mono ?_; rintro e w' ⟨rfl, rfl⟩) | (go_at_call 25; refine (hf _).mono ?_; rintro e w' ⟨rfl, hbq⟩))
          go_wp2_with fail
          go_ret3
          exact ⟨by rw [HR.out]; rfl, by assumption⟩
  · have HR : Hid (openV s.data.toList = .tuple #[.string ⟨#[]⟩, .int .i64 0, .int .i64 x]) := Lib.hid (openV_of (text_uv_bad (by simpa using hx) huv))
    clear huv hlen
    go_wp2_with fail
    go_ret3
    exact ⟨by rw [HR.out]; rfl, Below.refl _ _⟩

end Go.Proofs.Ytokdbpalkfghaaa.Ref05
