/-
  WireShortest: what package wire's reader decodes at the beginning of any bytes is encoded as these bytes. No condition beyond the bound of the statement.
-/
import Derived.Test.YtmnlijeflcedcaaWireSame
import Derived.Test.YtmnlijeflcedcaaWirePure3
import Derived.Test.YtmnlijeflcedcaaFrame
namespace Go.Proofs.Ytmnlijeflcedcaa.WireShortest
open Go.RowKit Go.Proofs.Ytmnlijeflcedcaa Go.Proofs.Ytmnlijeflcedcaa.WirePure Go.Proofs.Ytmnlijeflcedcaa.WireRd

/-- The bytes in front of what is left. -/
theorem front (s : ByteArray) (x t : List UInt8) (h : s.data.toList = x ++ t) : t.length ≤ s.size ∧ s.extract 0 (s.size - t.length) = ⟨x.toArray⟩ := by
  have hs : s.size = x.length + t.length := by
    show s.data.size = _
    rw [← Array.length_toList, h, List.length_append]
  refine ⟨by omega, ?_⟩
  have e := extract_eq s 0 (s.size - t.length)
  rw [Nat.zero_add] at e
  rw [e, h, List.drop_zero, List.take_append_of_le_length (by omega), List.take_of_length_le (by omega)]

theorem _root_.Go.Proofs.Ytmnlijeflcedcaa.WireRd.Is.below {w w' : World} {g : Option Nat} {a : A} {B : Nat} (h : Is w g a) (hb : Below B w w') (hlt : ∀ b, g = some b → b < B) : Is w' g a := by
  cases a with
  | bad x =>
    rcases h with ⟨rfl, rfl⟩ | ⟨b, s, p, e', rfl, rfl, hb'⟩ | ⟨b, s, p, rfl, hx, hb'⟩
    · exact .inl ⟨rfl, rfl⟩
    · exact .inr (.inl ⟨b, s, p, e', rfl, rfl, hb'.below hb (hlt b rfl)⟩)
    · exact .inr (.inr ⟨b, s, p, rfl, hx, hb'.below hb (hlt b rfl)⟩)
  | ready l =>
    obtain ⟨b, s, p, rfl, hb', hp, hs, rfl⟩ := h
    exact ⟨b, s, p, rfl, hb'.below hb (hlt b rfl), hp, hs, rfl⟩

theorem own_slice {w : World} {base : Nat} {e : TypeId} {size n : Nat} {v : Value} {xs : List Value} (h : w.ownsRow base e size v n xs) : ∃ A c, v = .slice A n c := by
  rcases h.2 with ⟨rfl, hn⟩ | ⟨g, cap, cur, rfl, _⟩
  · exact ⟨none, 0, by rw [hn]⟩
  · exact ⟨_, _, rfl⟩

theorem encText_mk (y : List UInt8) : WireEnc.encText ⟨y.toArray⟩ = Lib.uvarint y.length ++ y := by
  unfold WireEnc.encText
  rfl

set_option maxHeartbeats 4000000 in
set_option maxRecDepth 100000 in
theorem walk (s : ByteArray) (w : World) (hs : s.size ≤ 1048576) :
    Calls Try.prog 5 #[.string s] w fun e w' => e = .returned (.bool true) ∧ Below w.heap.size w w' := by
  have hpt : ∀ b, pt (some b) = .pointer (some ⟨b, 0, none⟩) := fun _ => rfl
  go_enter Try.func5, Try.ntmps5
  go_wp2
  go_loopw [3] (fun vk wr => ∃ k : Nat, vk = .int .i64 k ∧ k ≤ 4 ∧ Below w.heap.size w wr) (fun vk _ => 4 - (intOf vk).toNat)
  case atStart => exact ⟨0, rfl, by omega, Below.refl _ _⟩
  case round =>
    obtain ⟨k, rfl, hk, hB⟩ := hrel
    have hsz := hB.size
    by_cases h4 : k < 4
    · obtain rfl | rfl | rfl | rfl : k = 0 ∨ k = 1 ∨ k = 2 ∨ k = 3 := by omega
      · go_wp2_with fail
        refine (new_any _ _ (by omega)).mono ?_
        rintro e w1 ⟨rfl, hb1, hi1⟩
        obtain ⟨n, a', ha⟩ : ∃ n a', (A.ready s.data.toList).uint = (n, a') := ⟨_, _, rfl⟩
        have HA := Lib.hid ha
        have hnl : n < 18446744073709551616 := by
          have := (A.ready s.data.toList).uint_lt
          rw [ha] at this
          exact this
        clear ha
        go_wp2_with fail
        refine (uint_is hi1 n a' HA.out).mono ?_
        rintro e w2 ⟨rfl, hg2, hi2⟩
        clear hi1
        go_wp2_with fail
        refine (WireEnc.uint_any n hnl _).mono ?_
        rintro e w3 ⟨rfl, hb3⟩
        have hi3 : Is w3 (some wr.heap.size) a' := hi2.below hb3 (fun b hb => hi2.lt b hb)
        have hB3 : Below w.heap.size w w3 := (below_grown (hB.trans (hb1.mono hsz)) hg2 (Nat.le_trans hsz hb1.size) hsz).trans (hb3.mono (Nat.le_trans (Nat.le_trans hsz hb1.size) hg2.size))
        clear hb1 hg2 hi2 hb3
        cases a' with
        | bad x =>
          have hx := hi3.bad_ne
          have t1 : (x != 0) = true := by simpa using hx
          have t2 : (x == 0) = false := by simpa using hx
          clear hx
          go_wp2_with fail
          refine (err_is hi3 x rfl).mono ?_
          rintro e w4 ⟨rfl, rfl⟩
          go_wp2_with fail
          go_roundw
          case rel => exact ⟨1, rfl, by omega, hB3⟩
          case measure => simp [intOf]
        | ready t =>
          obtain ⟨hq, hex⟩ := front s _ t (uint_dec _ _ _ HA.out)
          go_wp2_with fail
          refine (err_is hi3 0 rfl).mono ?_
          rintro e w4 ⟨rfl, rfl⟩
          go_wp2_with fail
          refine (left_is hi3 t.length rfl).mono ?_
          rintro e w4 ⟨rfl, n4, rfl⟩
          go_wp2_with fail
          go_roundw
          case rel => exact ⟨1, rfl, by omega, bdN hB3 _⟩
          case measure => simp [intOf]
      · go_wp2_with fail
        refine (new_any _ _ (by omega)).mono ?_
        rintro e w1 ⟨rfl, hb1, hi1⟩
        obtain ⟨z, a', ha⟩ : ∃ z a', (A.ready s.data.toList).int = (z, a') := ⟨_, _, rfl⟩
        have HA := Lib.hid ha
        have hzl : -9223372036854775808 ≤ z ∧ z ≤ 9223372036854775807 := by
          have := unzig_bounds _ (A.ready s.data.toList).uint_lt
          simp only [A.int, Prod.mk.injEq] at ha
          rw [ha.1] at this
          exact this
        clear ha
        go_wp2_with fail
        refine (int_is hi1 z a' HA.out).mono ?_
        rintro e w2 ⟨rfl, hg2, hi2⟩
        clear hi1
        go_wp2_with fail
        refine (WireEnc.int_any z hzl.1 hzl.2 _).mono ?_
        rintro e w3 ⟨rfl, hb3⟩
        have hi3 : Is w3 (some wr.heap.size) a' := hi2.below hb3 (fun b hb => hi2.lt b hb)
        have hB3 : Below w.heap.size w w3 := (below_grown (hB.trans (hb1.mono hsz)) hg2 (Nat.le_trans hsz hb1.size) hsz).trans (hb3.mono (Nat.le_trans (Nat.le_trans hsz hb1.size) hg2.size))
        clear hb1 hg2 hi2 hb3
        cases a' with
        | bad x =>
          have hx := hi3.bad_ne
          have t1 : (x != 0) = true := by simpa using hx
          have t2 : (x == 0) = false := by simpa using hx
          clear hx
          go_wp2_with fail
          refine (err_is hi3 x rfl).mono ?_
          rintro e w4 ⟨rfl, rfl⟩
          go_wp2_with fail
          go_roundw
          case rel => exact ⟨2, rfl, by omega, hB3⟩
          case measure => simp [intOf]
        | ready t =>
          obtain ⟨hq, hex⟩ := front s _ t (int_dec _ _ _ HA.out)
          go_wp2_with fail
          refine (err_is hi3 0 rfl).mono ?_
          rintro e w4 ⟨rfl, rfl⟩
          go_wp2_with fail
          refine (left_is hi3 t.length rfl).mono ?_
          rintro e w4 ⟨rfl, n4, rfl⟩
          go_wp2_with fail
          go_roundw
          case rel => exact ⟨2, rfl, by omega, bdN hB3 _⟩
          case measure => simp [intOf]
      · go_wp2_with fail
        refine (new_any _ _ (by omega)).mono ?_
        rintro e w1 ⟨rfl, hb1, hi1⟩
        obtain ⟨y, a', ha⟩ : ∃ y a', (A.ready s.data.toList).text s.size = (y, a') := ⟨_, _, rfl⟩
        have HA := Lib.hid ha
        have hyl : y.length ≤ s.size := by
          have := text_size _ _ _ _ ha
          rw [Array.length_toList] at this
          exact this
        clear ha
        go_wp2_with fail
        refine (text_is hi1 s.size (by omega) y a' HA.out).mono ?_
        rintro e w2 ⟨rfl, hg2, hi2⟩
        clear hi1
        go_wp2_with fail
        refine (WireEnc.text_any _ (by show y.toArray.size ≤ _; rw [List.size_toArray]; omega) _).mono ?_
        rintro e w3 ⟨rfl, hb3⟩
        rw [encText_mk]
        have hi3 : Is w3 (some wr.heap.size) a' := hi2.below hb3 (fun b hb => hi2.lt b hb)
        have hB3 : Below w.heap.size w w3 := (below_grown (hB.trans (hb1.mono hsz)) hg2 (Nat.le_trans hsz hb1.size) hsz).trans (hb3.mono (Nat.le_trans (Nat.le_trans hsz hb1.size) hg2.size))
        clear hb1 hg2 hi2 hb3
        cases a' with
        | bad x =>
          have hx := hi3.bad_ne
          have t1 : (x != 0) = true := by simpa using hx
          have t2 : (x == 0) = false := by simpa using hx
          clear hx
          go_wp2_with fail
          refine (err_is hi3 x rfl).mono ?_
          rintro e w4 ⟨rfl, rfl⟩
          go_wp2_with fail
          go_roundw
          case rel => exact ⟨3, rfl, by omega, hB3⟩
          case measure => simp [intOf]
        | ready t =>
          obtain ⟨hq, hex⟩ := front s _ t (text_dec _ _ _ _ HA.out)
          go_wp2_with fail
          refine (err_is hi3 0 rfl).mono ?_
          rintro e w4 ⟨rfl, rfl⟩
          go_wp2_with fail
          refine (left_is hi3 t.length rfl).mono ?_
          rintro e w4 ⟨rfl, n4, rfl⟩
          go_wp2_with fail
          go_roundw
          case rel => exact ⟨3, rfl, by omega, bdN hB3 _⟩
          case measure => simp [intOf]
      · go_wp2_with fail
        refine (new_any _ _ (by omega)).mono ?_
        rintro e w1 ⟨rfl, hb1, hi1⟩
        obtain ⟨zs, a', ha⟩ : ∃ zs a', (A.ready s.data.toList).ints s.size = (zs, a') := ⟨_, _, rfl⟩
        have HA := Lib.hid ha
        obtain ⟨hyl, hzz⟩ : zs.length ≤ s.size ∧ Hid (∀ z ∈ zs, -9223372036854775808 ≤ z ∧ z ≤ 9223372036854775807) := by
          have := ints_size _ _ _ _ ha
          rw [Array.length_toList] at this
          exact this
        clear ha
        have hc := ints_any (some wr.heap.size) _ s.size w1 hi1 (by omega) (by simp only [A.left, Array.length_toList]; show s.size ≤ _; omega)
        rw [HA.out] at hc
        go_wp2_with fail
        refine hc.mono ?_
        rintro e w2 ⟨v, rfl, hown, hg2, hi2⟩
        clear hi1 hc
        obtain ⟨A', c', rfl⟩ := own_slice hown
        have hrd := Reads.of_own hown
        clear hown
        go_wp2_with fail
        refine (WireEnc.ints_any A' c' zs _ hrd hzz.out (by omega)).mono ?_
        rintro e w3 ⟨rfl, hb3⟩
        clear hrd
        have hi3 : Is w3 (some wr.heap.size) a' := hi2.below hb3 (fun b hb => hi2.lt b hb)
        have hB3 : Below w.heap.size w w3 := (below_grown (hB.trans (hb1.mono hsz)) hg2 (Nat.le_trans hsz hb1.size) hsz).trans (hb3.mono (Nat.le_trans (Nat.le_trans hsz hb1.size) hg2.size))
        clear hb1 hg2 hi2 hb3
        cases a' with
        | bad x =>
          have hx := hi3.bad_ne
          have t1 : (x != 0) = true := by simpa using hx
          have t2 : (x == 0) = false := by simpa using hx
          clear hx
          go_wp2_with fail
          refine (err_is hi3 x rfl).mono ?_
          rintro e w4 ⟨rfl, rfl⟩
          go_wp2_with fail
          go_roundw
          case rel => exact ⟨4, rfl, by omega, hB3⟩
          case measure => simp [intOf]
        | ready t =>
          obtain ⟨hq, hex⟩ := front s (WireEnc.encInts zs) t (ints_dec _ _ _ _ HA.out)
          go_wp2_with fail
          refine (err_is hi3 0 rfl).mono ?_
          rintro e w4 ⟨rfl, rfl⟩
          go_wp2_with fail
          refine (left_is hi3 t.length rfl).mono ?_
          rintro e w4 ⟨rfl, n4, rfl⟩
          go_wp2_with fail
          go_roundw
          case rel => exact ⟨4, rfl, by omega, bdN hB3 _⟩
          case measure => simp [intOf]
    · go_wp2_with fail
      refine (example_any _).mono ?_
      rintro e w1 ⟨rfl, hb1⟩
      go_wp2
      go_ret
      exact ⟨rfl, hB.trans (hb1.mono hsz)⟩

open Go.ChangeShapes Go.WideShapes Go.ChangeAt Go.Joins
open Go.ChangeMaps (open_string shut_string)

theorem small {H : Type} {s : ByteArray} (hk : Rows.uptoSmall H [.lit (.string s.data.toList)] = true) : s.size ≤ 1048576 := by
  have h : Rows.uptoBulkAll [DataW.lit (H := H) (.string s.data.toList)] ≤ 1048576 := of_decide_eq_true hk
  simp only [Rows.uptoBulkAll, Rows.uptoBulk] at h
  have e : s.data.toList.length = s.size := by rw [Array.length_toList]; rfl
  omega

theorem contract (H : Type) (enc : TypeId × Value → H) (W : World) (base : Nat) (args : Array Value) (ds gs : List (DataW H)) (before : List MemPlace)
    (hval : ∀ (j : Nat) t v, Try.f5.params[j]? = some t → args[j]? = some v → Value.okWide Try.prog W .any base t v)
    (hW : DataW.Whole enc Try.prog Try.f5.params.toList Rows.wireShortestSpec.vars false W args.toList ds gs before) (hk : Rows.uptoSmall H (ds ++ gs) = true) :
    Calls Try.prog 5 args W fun e W' => ∃ v, e = .returned v ∧ Rows.wireShortestSpec.post enc Try.prog Try.f5 false true false false W args v W' := by
  have hW' := hW
  obtain ⟨p, q, hA0, hV, rfl, hfz, hnd⟩ := hW
  have hA : DataW.TrodAll enc Try.prog W 0 (fun _ => true) true Try.f5.params.toList args.toList ds p := hA0
  rw [Try.params5] at hA hval
  obtain ⟨v0, vs0, d0, ds0, p0, q0, hargs, rfl, rfl, g0, r0⟩ := trodAll_cons hA
  obtain ⟨rfl, rfl, rfl⟩ := trodAll_nil r0
  obtain rfl : args = #[v0] := by cases args; simp_all
  obtain ⟨rfl, rfl⟩ := trodVars_none hV
  obtain ⟨s, rfl, rfl, rfl, hmax⟩ := open_string Try.underlying9 (hval 0 9 v0 rfl rfl) g0
  clear hA0
  simp only [List.append_nil] at hk
  refine (walk s W (small hk)).mono fun e W' ⟨he, hb⟩ => ?_
  subst he
  exact ⟨_, rfl, Frame.law_post Frame.laidOut (by kernel_rfl) Try.underlying4 (by kernel_rfl) rfl rfl hW' hb⟩

set_option maxRecDepth 100000 in
theorem lifted (os : Os) (started : os.Started) (H : Type) (enc : TypeId × Value → H) (F : Stop.Interp) :
    ReturnsInHanded {} Try.checked os 5 .any ((Rows.OpenSpec.upto Rows.wireShortestSpec).pre6 enc Try.prog Try.f5 Rows.wireShortestUptoRow.domain false) (((Rows.OpenSpec.upto Rows.wireShortestSpec).at F).post enc Try.prog Try.f5 false true false false) := by
  refine returnsInHanded_of_cond (C := Try.checked) (s := Rows.OpenSpec.upto Rows.wireShortestSpec) (k := Rows.uptoSmall) rfl Frame.own started (by kernel_rfl) Try.func5
    (OpenSpec.witness (enc := enc) (C := Try.checked) (s := Rows.OpenSpec.upto Rows.wireShortestSpec) (k := Rows.uptoSmall) rfl false ⟨#[], #[.string .empty], []⟩ 8 (by kernel_rfl) (by kernel_rfl) (by kernel_rfl)
      (x := ([.lit (.string [])], [], [])) (by kernel_rfl) rfl (by kernel_rfl)) ?_
  intro W base args ds gs before hval hW _ hk _
  exact contract H enc W base args ds gs before hval hW hk

theorem proved : Rows.WireShortestUptoSaid :=
  OpenClaim.holds_of_cond 5 Try.f5 rfl rfl rfl rfl rfl rfl rfl ⟨rfl, rfl, rfl, rfl, rfl⟩ rfl rfl rfl rfl rfl (by kernel_rfl) Try.func5 (by kernel_rfl)
    (of_decide_eq_true (by kernel_rfl)) (by unfold Func.isWrapper; first | (rw [if_pos (by decide +kernel)]; kernel_rfl) | (rw [if_neg (by decide +kernel)]; exact ⟨rfl, rfl⟩))
    (fun os started H enc _ F => lifted os started H enc F)

end Go.Proofs.Ytmnlijeflcedcaa.WireShortest
