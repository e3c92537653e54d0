/-
  DigestTold: of a frame of which a byte of the payload or of the checksum is another one, package digest's Open reports the checksum.
-/
import Derived.Test.YtokdbpalkfghaaaDigEx
import Derived.Test.YtokdbpalkfghaaaFrame
import Derived.SizedLaws
import Derived.ChangeMaps5
namespace Go.Proofs.Ytokdbpalkfghaaa.DigestTold
open Go.RowKit Go.Proofs.Ytokdbpalkfghaaa Go.Proofs.Ytokdbpalkfghaaa.DigPure Go.Proofs.Ytokdbpalkfghaaa.WirePure Go.Proofs.Ytokdbpalkfghaaa.Dig

theorem big (s : ByteArray) (a c : Nat) (w : World) (hs : s.size ≤ 140737488351232) (hb : 3000 < s.size) : Calls Try.prog 7 #[.string s, .int .u16 (a : Int), .int .u8 (c : Int)] w fun e w' => e = .returned (.bool true) ∧ Below w.heap.size w w' := by
  go_enter Try.func7, Try.ntmps7
  go_wp2_with fail
  refine (awake_any _).mono ?_
  rintro e w1 ⟨rfl, hb1⟩
  go_wp2_with fail
  refine (awake_any _).mono ?_
  rintro e w2 ⟨rfl, hb2⟩
  go_wp2_with fail
  go_ret
  exact ⟨rfl, hb1.trans (hb2.mono hb1.size)⟩

/-- What '[]byte(u)' makes, and what it gives back when one byte is another one. -/
theorem conv_in (u : ByteArray) (w : World) : ∃ (cap : Nat) (C : Array Value), u.size ≤ cap ∧ (∀ j (h : j < u.size), C[j]? = some (.int .u8 (u.data.toList[j]'(by simpa using h)).toNat)) ∧ u.size ≤ C.size ∧
    (convert 9 35 (.string u)).run Try.prog w = .ok (.slice (some ⟨w.heap.size, 0, none⟩) u.size cap) (w.drew.alloc (.cells C 5 (C.size, C.size + 1))) := by
  refine ⟨_, _, ?_, ?_, ?_, run_bytes_of_string w 9 35 5 u Try.underlying9 Try.underlying35 Try.underlying5⟩
  · unfold grownCap
    exact grownCap_ge _ _ _ _
  · intro j h
    unfold bytesRow
    have hs : j < (u.data.map (fun b => Value.int .u8 b.toNat)).size := by simpa using h
    rw [Array.getElem?_append_left hs]
    have h2 : j < u.data.size := h
    rw [Array.getElem?_map, Array.getElem?_eq_getElem h2, Option.map_some, Array.getElem_toList]
  · unfold bytesRow
    rw [Array.size_append, Array.size_map]
    exact Nat.le_add_right _ _

theorem conv_out (l : List UInt8) (g cap k c : Nat) (C : Array Value) (T : TypeId) (fr : Nat × Nat) (W : World) (hc : c < 256) (hg : W.heap[g]? = some (.cells C T fr)) (hC : ∀ j (h : j < l.length), C[j]? = some (.int .u8 l[j].toNat)) :
    (convert 35 9 (.slice (some ⟨g, 0, none⟩) l.length cap)).run Try.prog (W.setCell ⟨g, k, none⟩ (.int .u8 (c : Int))) = .ok (.string ⟨(l.set k c.toUInt8).toArray⟩) (W.setCell ⟨g, k, none⟩ (.int .u8 (c : Int))) := by
  have h := run_convert_bytes_back (P := Try.prog) (W.setCell ⟨g, k, none⟩ (.int .u8 (c : Int))) 35 9 5 ⟨g, 0, none⟩ cap (l.set k c.toUInt8) Try.underlying35 Try.underlying5 Try.underlying9 (fun j hj => by
    have hh : (W.setCell ⟨g, k, none⟩ (.int .u8 (c : Int))).heap[g]? = some (.cells (C.setIfInBounds k (.int .u8 (c : Int))) T fr) := by
      simp [World.setCell, Array.getElem?_modify, hg]
    have ea : (Addr.mk g 0 none).add j = ⟨g, j, none⟩ := by
      unfold Addr.add
      split
      · subst_vars; rfl
      · simp
    rw [ea, cell_of_row _ g j _ T fr hh]
    rw [List.length_set] at hj
    have hjs : j < C.size := (Array.getElem?_eq_some_iff.1 (hC j hj)).1
    rw [Array.getElem?_setIfInBounds]
    by_cases e : k = j
    · subst e
      rw [if_pos rfl, if_pos hjs, List.getElem_set_self, toNat_small _ hc]
    · rw [if_neg e, hC j hj, List.getElem_set_ne e])
  rw [List.length_set] at h
  exact h

theorem told (s u : ByteArray) (k c : Nat) (hs : s.size ≤ 3000) (hu : (⟨(frame s.data.toList).toArray⟩ : ByteArray) = u) (h0 : k + (s.size + 4) ≥ u.size) (h1 : k < u.size) (hc : c < 256) (hne : c ≠ ((frame s.data.toList)[k]'(by rw [← hu] at h1; exact h1)).toNat) :
    openV ((frame s.data.toList).set k c.toUInt8) = .tuple #[.string ⟨#[]⟩, .int .i64 0, .int .i64 7] := by
  have hlen : s.data.toList.length = s.size := by simp
  have hus : u.size = (Lib.uvarint s.size).length + s.size + 4 := by
    rw [← hu]
    show (frame s.data.toList).length = _
    unfold frame enc
    rw [List.length_append, List.length_append, le4_length, hlen]
  have hkl : k < (frame s.data.toList).length := by rw [← hu] at h1; exact h1
  refine openV_of (opn_told _ k _ (by omega) (by rw [hlen]; omega) hkl ?_)
  rw [List.getElem?_eq_getElem hkl]
  intro e
  injection e with e
  apply hne
  rw [e, toNat_small _ hc]

set_option maxHeartbeats 4000000 in
set_option maxRecDepth 100000 in
theorem walk (s : ByteArray) (a c : Nat) (w : World) (hs : s.size ≤ 140737488351232) (ha : a < 65536) (hc : c < 256) : Calls Try.prog 7 #[.string s, .int .u16 (a : Int), .int .u8 (c : Int)] w fun e w' => e = .returned (.bool true) ∧ Below w.heap.size w w' := by
  rcases Nat.lt_or_ge 3000 s.size with hb | hb
  · exact big s a c w hs hb
  clear hs
  obtain ⟨u, hu⟩ : ∃ u : ByteArray, (⟨(frame s.data.toList).toArray⟩ : ByteArray) = u := ⟨_, rfl⟩
  have h1 := fun W => frame_is s u hu W (by omega)
  have hlen : s.data.toList.length = s.size := by simp
  have hul := Lib.uvarint_length64 (x := s.size) (by omega)
  have hup := Lib.uvarint_pos s.size
  have hus : u.size = (Lib.uvarint s.size).length + s.size + 4 := by
    rw [← hu]
    show (frame s.data.toList).length = _
    unfold frame enc
    rw [List.length_append, List.length_append, le4_length, hlen]
  have huf : u.data.toList = frame s.data.toList := by rw [← hu]
  obtain ⟨k, hk⟩ : ∃ k, u.size - 1 - a % (s.size + 4) = k := ⟨_, rfl⟩
  have hmod : a % (s.size + 4) < s.size + 4 := Nat.mod_lt _ (by omega)
  have hk1 : k < u.size := by omega
  have hk0 : k + (s.size + 4) ≥ u.size := by omega
  have hki : (u.size : Int) - 1 - (a : Int) % ((s.size : Int) + 4) = (k : Int) := by
    have e : ((a % (s.size + 4) : Nat) : Int) = (a : Int) % ((s.size : Int) + 4) := by rw [Int.natCast_emod]; rfl
    rw [← e]
    omega
  have hge : (s.size : Int) + 4 ≤ (u.size : Int) := by omega
  have hu3 : u.size ≤ 3014 := by omega
  have hkl : k < u.data.toList.length := by simpa using hk1
  obtain ⟨x, hx⟩ : ∃ x : Nat, (u.data.toList[k]).toNat = x := ⟨_, rfl⟩
  have hx256 : x < 256 := by rw [← hx]; exact UInt8.toNat_lt _
  obtain ⟨c', hc', hc'l, hne⟩ : ∃ c' : Nat, c' = (if x = c then (c + 1) % 256 else c) ∧ c' < 256 ∧ c' ≠ x := by
    refine ⟨_, rfl, ?_, ?_⟩ <;> split <;> omega
  have ho := told s u k c' hb hu hk0 hk1 hc'l (by
    rw [show (frame s.data.toList)[k]'(by rw [← huf]; exact hkl) = u.data.toList[k] from by simp only [huf], hx]
    exact hne)
  rw [← huf] at ho
  obtain ⟨v, hv⟩ : ∃ v : ByteArray, v = ⟨(u.data.toList.set k c'.toUInt8).toArray⟩ := ⟨_, rfl⟩
  have hvl : v.size ≤ 3014 := by
    rw [hv]
    show (u.data.toList.set k c'.toUInt8).length ≤ _
    rw [List.length_set]
    simpa using hu3
  have hvo : openV v.data.toList = .tuple #[.string ⟨#[]⟩, .int .i64 0, .int .i64 7] := by rw [hv]; exact ho
  have h2 := fun W => open_is v _ hvo W (by omega)
  have HB : Hid (∀ j (h : j < u.data.toList.length), ∀ C : Array Value, (∀ j (h : j < u.size), C[j]? = some (.int .u8 (u.data.toList[j]'(by simpa using h)).toNat)) → C[j]? = some (.int .u8 (u.data.toList[j]).toNat)) := Lib.hid (fun j h C hC => hC j (by simpa using h))
  have HV := Lib.hid hv
  have HX := Lib.hid hx
  have HLen : Hid (u.data.toList.length = u.size) := Lib.hid (by simp)
  clear hu hlen hul hup hus huf hk hmod hx ho hvo hv
  go_enter Try.func7, Try.ntmps7
  go_wp2_with fail
  refine (awake_any _).mono ?_
  rintro e w1 ⟨rfl, hb1⟩
  go_wp2_with fail
  refine (h1 _).mono ?_
  rintro e w2 ⟨rfl, hb2⟩
  have hb2 := hb1.trans (hb2.mono hb1.size)
  obtain ⟨cap, C, hcap, hC, hCs, hconv⟩ := conv_in u w2
  obtain ⟨W, hW⟩ : ∃ W, W = w2.drew.alloc (.cells C 5 (C.size, C.size + 1)) := ⟨_, rfl⟩
  obtain ⟨g, hg⟩ : ∃ g, g = w2.heap.size := ⟨_, rfl⟩
  have hWg : W.heap[g]? = some (.cells C 5 (C.size, C.size + 1)) := by rw [hW, hg]; exact heap_alloc_new w2.drew _
  have hbW : Below w.heap.size w W := by rw [hW]; exact hb2.drew.alloc hb2.size _
  have hgw : w.heap.size ≤ g := by rw [hg]; exact hb2.size
  rw [← hW, ← hg] at hconv
  have hcell : W.cell? ⟨g, k, none⟩ = some (.int .u8 (x : Int)) := by
    rw [cell_of_row W g k C _ _ hWg, hC k hk1, HX.out]
  have hfz : W.frozen? ⟨g, k, none⟩ = false := by
    unfold World.frozen?
    rw [hWg]
    simp
    omega
  have hback := conv_out u.data.toList g cap k c' C 5 _ W hc'l hWg (fun j h => hC j (by simpa using h))
  rw [HLen.out, ← HV.out] at hback
  have hgl : g < W.heap.size := by
    rcases Nat.lt_or_ge g W.heap.size with hlt | hge2
    · exact hlt
    · rw [Array.getElem?_eq_none hge2] at hWg; cases hWg
  have k0 : (0 : Int) ≤ (k : Int) := by omega
  have k1 : (k : Int) < (u.size : Int) := by omega
  have HC := Lib.hid hC
  have HG := Lib.hid hWg
  clear hC hWg hW hg
  by_cases hxc : x = c
  · rw [if_pos hxc] at hc'
    have hcc : ((c : Int) + 1) % 256 = (c' : Int) := by omega
    have t1 : ((x : Int) == (c : Int)) = true := by simp; omega
    clear hxc hc'
    go_wp2_with fail
    refine (h2 _).mono ?_
    rintro e w3 ⟨rfl, hb3⟩
    have hb4 : Below w.heap.size w (W.setCell ⟨g, k, none⟩ (.int .u8 (c' : Int))) := hbW.setCell hgw _
    go_wp2_with fail
    go_ret
    exact ⟨rfl, hb4.trans (hb3.mono hb4.size)⟩
  · rw [if_neg hxc] at hc'
    subst hc'
    have t1 : ((x : Int) == (c' : Int)) = false := by simp; omega
    clear hxc
    go_wp2_with fail
    refine (h2 _).mono ?_
    rintro e w3 ⟨rfl, hb3⟩
    have hb4 : Below w.heap.size w (W.setCell ⟨g, k, none⟩ (.int .u8 (c' : Int))) := hbW.setCell hgw _
    go_wp2_with fail
    go_ret
    exact ⟨rfl, hb4.trans (hb3.mono hb4.size)⟩

open Go.ChangeShapes Go.WideShapes Go.ChangeAt Go.Joins

theorem contract (H : Type) (enc : TypeId × Value → H) (W : World) (base : Nat) (args : Array Value) (ds gs : List (DataW H)) (before : List MemPlace)
    (hval : ∀ (j : Nat) t v, Try.f7.params[j]? = some t → args[j]? = some v → Value.okWide Try.prog W .any base t v)
    (hW : DataW.Whole enc Try.prog Try.f7.params.toList Rows.digestToldSpec.vars false W args.toList ds gs before) (hsz : (DataW.weightsEach Try.prog (Try.f7.params.toList ++ Rows.digestToldSpec.plain.varTypes Try.prog) (ds ++ gs)).all (· ≤ reachBytes) = true) :
    Calls Try.prog 7 args W fun e W' => ∃ v, e = .returned v ∧ Rows.digestToldSpec.post enc Try.prog Try.f7 false true false false W args v W' := by
  have hW' := hW
  obtain ⟨p, q, hA0, hV, rfl, hfz, hnd⟩ := hW
  have hA : DataW.TrodAll enc Try.prog W 0 (fun _ => true) true Try.f7.params.toList args.toList ds p := hA0
  rw [Try.params7] at hA hval
  obtain ⟨v0, vs0, d0, ds0, p0, q0, hargs, rfl, rfl, g0, r0⟩ := trodAll_cons hA
  obtain ⟨v1, vs1, d1, ds1, p1, q1, rfl, rfl, rfl, g1, r1⟩ := trodAll_cons r0
  obtain ⟨v2, vs2, d2, ds2, p2, q2, rfl, rfl, rfl, g2, r2⟩ := trodAll_cons r1
  obtain ⟨rfl, rfl, rfl⟩ := trodAll_nil r2
  obtain rfl : args = #[v0, v1, v2] := by cases args; simp_all
  obtain ⟨rfl, rfl⟩ := trodVars_none hV
  obtain ⟨s0, rfl, rfl, rfl, w0⟩ := Go.ChangeMaps.open_string Try.underlying9 (hval 0 9 v0 rfl rfl) g0
  obtain ⟨z1, rfl, rfl, rfl, w1⟩ := open_int Try.underlying34 (hval 1 34 v1 rfl rfl) g1
  have b1 := bounds_u16 w1
  obtain ⟨a, rfl⟩ := Int.eq_ofNat_of_zero_le b1.1
  obtain ⟨z2, rfl, rfl, rfl, w2⟩ := open_int Try.underlying5 (hval 2 5 v2 rfl rfl) g2
  have b2 := bounds_u8 w2
  obtain ⟨c, rfl⟩ := Int.eq_ofNat_of_zero_le b2.1
  clear hA0
  simp only [List.append_nil] at hsz
  have z0 : s0.size ≤ 140737488351232 := sized_string hsz (j := 0) (t := 9) rfl rfl
  refine (walk s0 a c W z0 (by omega) (by omega)).mono fun e W' ⟨he, hb⟩ => ?_
  subst he
  exact ⟨_, rfl, Frame.law_post Frame.laidOut (by kernel_rfl) Try.underlying4 (by kernel_rfl) rfl rfl hW' hb⟩

set_option maxRecDepth 100000 in
theorem lifted (os : Os) (started : os.Started) (H : Type) (enc : TypeId × Value → H) :
    ReturnsInHanded {} Try.checked os 7 .any (Rows.digestToldSpec.pre6 enc Try.prog Try.f7 Rows.digestToldRow.domain false) (Rows.digestToldSpec.post enc Try.prog Try.f7 false true false false) := by
  refine returnsInHanded_of_change_sized (C := Try.checked) Frame.own started (by kernel_rfl) Try.func7
    (ChangeSpec.witness6 (enc := enc) (C := Try.checked) false ⟨#[], #[.string .empty, .int .u16 0, .int .u8 0], []⟩ 8 (by kernel_rfl) (by kernel_rfl) (by kernel_rfl) (by kernel_rfl)) ?_
  intro W base args ds gs before hval hW _ hsz _
  exact contract H enc W base args ds gs before hval hW hsz

theorem proved : Rows.DigestToldSaid :=
  OpenClaim.holds_of_wide 7 Try.f7 rfl rfl rfl rfl rfl rfl rfl ⟨rfl, rfl, rfl, rfl, rfl⟩ rfl rfl rfl rfl rfl (by kernel_rfl) Try.func7 (by kernel_rfl)
    (of_decide_eq_true (by kernel_rfl)) (by unfold Func.isWrapper; first | (rw [if_pos (by decide +kernel)]; kernel_rfl) | (rw [if_neg (by decide +kernel)]; exact ⟨rfl, rfl⟩))
    (fun os started H enc _ => lifted os started H enc)

end Go.Proofs.Ytokdbpalkfghaaa.DigestTold
