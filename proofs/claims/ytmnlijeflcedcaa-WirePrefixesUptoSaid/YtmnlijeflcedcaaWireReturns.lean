/-
  WireReturns: a text, a list of numbers, an int and an unsigned number that package wire encoded one after the other are read back by its reader, to the end. No condition beyond the bound of the statement.
-/
import Derived.Test.YtmnlijeflcedcaaWireWrites
import Derived.Test.YtmnlijeflcedcaaWireSame
import Derived.Test.YtmnlijeflcedcaaWirePure3
namespace Go.Proofs.Ytmnlijeflcedcaa.WireReturns
open Go.RowKit Go.Proofs.Ytmnlijeflcedcaa Go.Proofs.Ytmnlijeflcedcaa.WirePure Go.Proofs.Ytmnlijeflcedcaa.WireRd Go.Proofs.Ytmnlijeflcedcaa.WireWrites

/-- The parts of what is written, and what is left behind each. -/
structure Parts (N : Nat) (I : Int) (s : ByteArray) (zs : List Int) where
  T : ByteArray
  L : ByteArray
  J : ByteArray
  U : ByteArray
  R1 : List UInt8
  R2 : List UInt8
  R3 : List UInt8
  hT : T.size ≤ 1048586
  hL : L.size ≤ 10485770
  hJ : J.size ≤ 10
  hU : U.size ≤ 10
  cT : Hid (∀ w, Calls Try.prog 13 #[.string s] w fun e w' => e = .returned (.string T) ∧ Below w.heap.size w w')
  cL : Hid (∀ w A cap, Reads w w.heap.size 1 A zs.length (zs.map (Value.int .i64)) → Calls Try.prog 15 #[.slice A zs.length cap] w fun e w' => e = .returned (.string L) ∧ Below w.heap.size w w')
  cJ : Hid (∀ w, Calls Try.prog 11 #[.int .i64 I] w fun e w' => e = .returned (.string J) ∧ Below w.heap.size w w')
  cU : Hid (∀ w, Calls Try.prog 9 #[.int .u64 N] w fun e w' => e = .returned (.string U) ∧ Below w.heap.size w w')
  dT : Hid (∀ w b, Is w (some b) (.ready (T ++ L ++ J ++ U).data.toList) → Calls Try.prog 19 #[.pointer (some ⟨b, 0, none⟩), .int .i64 s.size] w (RP (some b) (.string s) (.ready R1) w))
  dL : Hid (∀ w b, Is w (some b) (.ready R1) → Calls Try.prog 21 #[.pointer (some ⟨b, 0, none⟩), .int .i64 zs.length] w (IP (some b) zs (.ready R2) w))
  dJ : Hid (∀ w b, Is w (some b) (.ready R2) → Calls Try.prog 22 #[.pointer (some ⟨b, 0, none⟩)] w (RP (some b) (.int .i64 I) (.ready R3) w))
  dU : Hid (∀ w b, Is w (some b) (.ready R3) → Calls Try.prog 23 #[.pointer (some ⟨b, 0, none⟩)] w (RP (some b) (.int .u64 N) (.ready []) w))

theorem eta (s : ByteArray) : (⟨s.data.toList.toArray⟩ : ByteArray) = s := by simp

def parts (N : Nat) (I : Int) (s : ByteArray) (zs : List Int) (hN : N < 18446744073709551616) (h0 : -9223372036854775808 ≤ I) (h1 : I ≤ 9223372036854775807) (hs : s.size ≤ 1048576) (hz : ∀ z ∈ zs, -9223372036854775808 ≤ z ∧ z ≤ 9223372036854775807) (hzl : zs.length ≤ 1048576) : Parts N I s zs where
  T := ⟨(WireEnc.encText s).toArray⟩
  L := ⟨(WireEnc.encInts zs).toArray⟩
  J := ⟨(Lib.uvarint (Lib.zigzag I)).toArray⟩
  U := ⟨(Lib.uvarint N).toArray⟩
  R1 := Lib.uvarint zs.length ++ (zs.flatMap (fun n => Lib.uvarint (Lib.zigzag n)) ++ (Lib.uvarint (Lib.zigzag I) ++ (Lib.uvarint N ++ [])))
  R2 := Lib.uvarint (Lib.zigzag I) ++ (Lib.uvarint N ++ [])
  R3 := Lib.uvarint N ++ []
  hT := by
    have := Lib.uvarint_length64 (x := s.size) (by omega)
    show (WireEnc.encText s).toArray.size ≤ _
    simp only [WireEnc.encText, List.size_toArray, List.length_append, Array.length_toList]
    have e : s.data.size = s.size := rfl
    omega
  hL := by
    have := Lib.uvarint_length64 (x := zs.length) (by omega)
    have := WireEnc.flat_len zs hz
    show (WireEnc.encInts zs).toArray.size ≤ _
    simp only [WireEnc.encInts, List.size_toArray, List.length_append]
    omega
  hJ := by
    show (Lib.uvarint (Lib.zigzag I)).toArray.size ≤ _
    rw [List.size_toArray]
    exact Lib.uvarint_length64 (zig_lt I h0 h1)
  hU := by
    show (Lib.uvarint N).toArray.size ≤ _
    rw [List.size_toArray]
    exact Lib.uvarint_length64 hN
  cT := fun w => WireEnc.text_any s (by omega) w
  cL := fun w A cap hr => WireEnc.ints_any A cap zs w hr hz (by omega)
  cJ := fun w => WireEnc.int_any I h0 h1 w
  cU := fun w => WireEnc.uint_any N hN w
  dT := fun w b hi => by
    have e : (ByteArray.mk (WireEnc.encText s).toArray ++ ByteArray.mk (WireEnc.encInts zs).toArray ++ ByteArray.mk (Lib.uvarint (Lib.zigzag I)).toArray ++ ByteArray.mk (Lib.uvarint N).toArray).data.toList =
        Lib.uvarint s.data.toList.length ++ (s.data.toList ++ (Lib.uvarint zs.length ++ (zs.flatMap (fun n => Lib.uvarint (Lib.zigzag n)) ++ (Lib.uvarint (Lib.zigzag I) ++ (Lib.uvarint N ++ []))))) := by
      rw [ByteArray.mk_append_mk, ByteArray.mk_append_mk, ByteArray.mk_append_mk]
      simp [WireEnc.encText, WireEnc.encInts]
    rw [e] at hi
    have h := text_is hi s.size (by omega) _ _ (text_enc s.data.toList _ s.size (by rw [Array.length_toList]; show s.size < _; omega) (by rw [Array.length_toList]; exact Int.le_refl _))
    rw [eta] at h
    exact h
  dL := fun w b hi => by
    have h := ints_any (some b) _ zs.length w hi (by omega) (by
      have := Lib.uvarint_length64 (x := zs.length) (by omega)
      have := WireEnc.flat_len zs hz
      have := Lib.uvarint_length64 hN
      have := Lib.uvarint_length64 (zig_lt I h0 h1)
      simp only [A.left, List.length_append, List.length_nil]
      omega)
    rw [ints_enc zs _ zs.length (by omega) hz (Int.le_refl _)] at h
    exact h
  dJ := fun w b hi => int_is hi I _ (int_enc I _ h0 h1)
  dU := fun w b hi => uint_is hi N _ (uint_enc N [] hN)

theorem keepG {w w1 w2 : World} {v0 v1 v2 v3 : Value} {A : Option Addr} {n : Nat} {xs : List Value} {b : Nat} (h : S w v0 v1 v2 v3 A n xs w1) (hg : w1.grownBy w2 (some b)) (hb : w.heap.size < b) : S w v0 v1 v2 v3 A n xs w2 := by
  obtain ⟨h0, h1, h2, h3, h4, h5, h6⟩ := h
  have hne : some w.heap.size ≠ some b := by simp; omega
  exact ⟨hg.cell h0 hne, hg.cell h1 hne, hg.cell h2 hne, hg.cell h3 hne, Nat.lt_of_lt_of_le h4 hg.size, h5.grown hg (by omega) (by simp; omega), h6.grown hg (by omega) (by simp; omega)⟩
theorem keepN {w w1 : World} {v0 v1 v2 v3 : Value} {A : Option Addr} {n : Nat} {xs : List Value} (h : S w v0 v1 v2 v3 A n xs w1) (k : Nat) : S w v0 v1 v2 v3 A n xs (w1.drewN k) := by
  obtain ⟨h0, h1, h2, h3, h4, h5, h6⟩ := h
  exact ⟨h0, h1, h2, h3, h4, h5, bdN h6 _⟩
theorem keepD {w w1 : World} {v0 v1 v2 v3 : Value} {A : Option Addr} {n : Nat} {xs : List Value} (h : S w v0 v1 v2 v3 A n xs w1) : S w v0 v1 v2 v3 A n xs w1.drew := by
  obtain ⟨h0, h1, h2, h3, h4, h5, h6⟩ := h
  exact ⟨h0, h1, h2, h3, h4, h5, h6.drew⟩
theorem ltS {w w1 : World} {v0 v1 v2 v3 : Value} {A : Option Addr} {n : Nat} {xs : List Value} (h : S w v0 v1 v2 v3 A n xs w1) : w.heap.size < w1.heap.size := h.2.2.2.2.1

theorem _root_.Go.Proofs.Ytmnlijeflcedcaa.WireRd.Is.drew {w : World} {g : Option Nat} {a : A} (h : Is w g a) : Is w.drew g a := by
  cases a with
  | bad x => exact h
  | ready l => exact h

theorem newS {w W : World} {v0 v1 v2 v3 : Value} {A : Option Addr} {n : Nat} {xs : List Value} (z : ByteArray) (hz : z.size ≤ 140737488355328) (h : S w v0 v1 v2 v3 A n xs W) :
    Calls Try.prog 18 #[.string z] W fun e w' => ∃ b, e = .returned (.pointer (some ⟨b, 0, none⟩)) ∧ w.heap.size < b ∧ Below W.heap.size W w' ∧ Is w' (some b) (.ready z.data.toList) := by
  refine (new_any z W hz).mono ?_
  rintro e w' ⟨rfl, hb, hi⟩
  exact ⟨_, rfl, ltS h, hb, hi⟩

theorem sameS {w W0 W : World} {v0 v1 v2 : Value} {A : Option Addr} {cap : Nat} {zs : List Int} {v : Value} (hown : W.ownsRow W0.heap.size 3 1 v zs.length (zs.map (Value.int .i64))) (hl : zs.length ≤ 1048576) (h : S w v0 v1 v2 (.slice A zs.length cap) A zs.length (zs.map (Value.int .i64)) W) :
    Calls Try.prog 20 #[v, .slice A zs.length cap] W fun e w' => e = .returned (.bool true) ∧ ∃ n, w' = W.drewN n := by
  obtain ⟨A', c', rfl⟩ : ∃ A' c', v = .slice A' zs.length c' := by
    rcases hown.2 with ⟨rfl, hn⟩ | ⟨g, cap, cur, rfl, _⟩
    · exact ⟨none, 0, by rw [hn]⟩
    · exact ⟨_, _, rfl⟩
  exact same_eq W.heap.size A' A c' cap zs W (Reads.of_own hown) (readsS h) (by omega)

set_option maxHeartbeats 4000000 in
set_option maxRecDepth 100000 in
theorem walk (N : Nat) (I : Int) (s : ByteArray) (A : Option Addr) (cap : Nat) (zs : List Int) (w : World) (P : Parts N I s zs) (_hs : s.size ≤ 1048576) (hzl : zs.length ≤ 1048576)
    (hr : Reads w w.heap.size 1 A zs.length (zs.map (Value.int .i64))) :
    Calls Try.prog 4 #[.agg #[.int .u64 N, .int .i64 I, .string s, .slice A zs.length cap]] w fun e w' => e = .returned (.bool true) ∧ Below w.heap.size w w' := by
  have hS := startS (v0 := .int .u64 N) (v1 := .int .i64 I) (v2 := .string s) (v3 := .slice A zs.length cap) (t := 25) hr
  obtain ⟨T, L, J, U, R1, R2, R3, hT, hL, hJ, hU, cT, cL, cJ, cU, dT, dL, dJ, dU⟩ := P
  have hpt : ∀ b, pt (some b) = .pointer (some ⟨b, 0, none⟩) := fun _ => rfl
  go_enter Try.func4, Try.ntmps4
  go_wp2
  have HS : Hid _ := Lib.hid hS
  clear hS hr
  have k1 : ∀ u : World, (Op.stringOp .add T L).run Try.prog u = .ok (.string (T ++ L)) u := fun u => run_string_add_sum u _ _ (by omega)
  have k2 : ∀ u : World, (Op.stringOp .add (T ++ L) J).run Try.prog u = .ok (.string (T ++ L ++ J)) u := fun u => run_string_add_sum u _ _ (by simp only [ByteArray.size_append]; omega)
  have k3 : ∀ u : World, (Op.stringOp .add (T ++ L ++ J) U).run Try.prog u = .ok (.string (T ++ L ++ J ++ U)) u := fun u => run_string_add_sum u _ _ (by simp only [ByteArray.size_append]; omega)
  go_region_held3 (fun w' => w'.cell? ⟨w.heap.size, 0, none⟩ = some (.int .u64 N) ∧ w'.cell? ⟨w.heap.size, 1, none⟩ = some (.int .i64 I) ∧ w'.cell? ⟨w.heap.size, 2, none⟩ = some (.string s) ∧ w'.cell? ⟨w.heap.size, 3, none⟩ = some (.slice A zs.length cap) ∧ w.heap.size < w'.heap.size ∧ Reads w' w.heap.size 1 A zs.length (zs.map (Value.int .i64)) ∧ Below w.heap.size w w')
    (first | exact HS.out | exact keepS (by assumption) hbq | go_keep)
    (first
      | (go_at_call 9; refine (cU.out _).mono ?_; rintro e w' ⟨rfl, hbq⟩)
      | (go_at_call 11; refine (cJ.out _).mono ?_; rintro e w' ⟨rfl, hbq⟩)
      | (go_at_call 13; refine (cT.out _).mono ?_; rintro e w' ⟨rfl, hbq⟩)
      | (go_at_call 15; refine (cL.out _ _ _ (readsS (w := w) (v0 := .int .u64 N) (v1 := .int .i64 I) (v2 := .string s) (v3 := .slice A zs.length cap) (by assumption))).mono ?_; rintro e w' ⟨rfl, hbq⟩)
      | (go_at_call 18; refine (newS (w := w) (v0 := .int .u64 N) (v1 := .int .i64 I) (v2 := .string s) (v3 := .slice A zs.length cap) (A := A) (n := zs.length) (xs := zs.map (Value.int .i64)) _ (by simp only [ByteArray.size_append]; omega) (by assumption)).mono ?_; rintro e w' ⟨b, rfl, hlb, hbq, hiq⟩))
  clear k1 k2 k3 cT cL cJ cU HS
  have hS5 : S w (.int .u64 N) (.int .i64 I) (.string s) (.slice A zs.length cap) A zs.length (zs.map (Value.int .i64)) w' := by assumption
  have HS := Lib.hid (keepD hS5)
  clear hS5
  go_wp2
  go_region_held3 (fun w' => w'.cell? ⟨w.heap.size, 0, none⟩ = some (.int .u64 N) ∧ w'.cell? ⟨w.heap.size, 1, none⟩ = some (.int .i64 I) ∧ w'.cell? ⟨w.heap.size, 2, none⟩ = some (.string s) ∧ w'.cell? ⟨w.heap.size, 3, none⟩ = some (.slice A zs.length cap) ∧ w.heap.size < w'.heap.size ∧ Reads w' w.heap.size 1 A zs.length (zs.map (Value.int .i64)) ∧ Below w.heap.size w w')
    (first | exact HS.out | exact keepG (by assumption) hgq hlb | exact keepN (by assumption) _ | go_keep)
    (first
      | (go_at_call 19; refine (dT.out _ _ (Is.drew hiq)).mono ?_; rintro e w' ⟨rfl, hgq, hiq⟩)
      | (go_at_call 21; refine (dL.out _ _ hiq).mono ?_; rintro e w' ⟨v, rfl, hown, hgq, hiq⟩)
      | (go_at_call 20; refine (sameS hown hzl (by assumption)).mono ?_; rintro e w' ⟨rfl, nd, rfl⟩)
      | (go_at_call 22; refine (dJ.out _ _ (Is.drewN hiq _)).mono ?_; rintro e w' ⟨rfl, hgq, hiq⟩)
      | (go_at_call 23; refine (dU.out _ _ hiq).mono ?_; rintro e w' ⟨rfl, hgq, hiq⟩))
  have hS6 : S w (.int .u64 N) (.int .i64 I) (.string s) (.slice A zs.length cap) A zs.length (zs.map (Value.int .i64)) w' := by assumption
  have hB := belowS hS6
  clear dT dL dJ dU HS hS6
  go_wp2_with fail
  refine (fin_is hiq 0 rfl).mono ?_
  rintro e w2 ⟨rfl, n2, rfl⟩
  go_wp2_with fail
  refine (left_is (hiq.drewN _) 0 rfl).mono ?_
  rintro e w2 ⟨rfl, n3, rfl⟩
  go_wp2_with fail
  refine (example_any _).mono ?_
  rintro e w2 ⟨rfl, hb2⟩
  go_wp2
  go_ret
  exact ⟨rfl, (bdN hB _).trans (hb2.mono hB.size)⟩

open Go.ChangeShapes Go.WideShapes Go.ChangeAt Go.Joins

theorem contract (H : Type) (enc : TypeId × Value → H) (W : World) (base : Nat) (args : Array Value) (ds gs : List (DataW H)) (before : List MemPlace)
    (hval : ∀ (j : Nat) t v, Try.f4.params[j]? = some t → args[j]? = some v → Value.okWide Try.prog W .any base t v)
    (hW : DataW.Whole enc Try.prog Try.f4.params.toList Rows.wireReturnsSpec.vars false W args.toList ds gs before) (hk : Rows.uptoSmall H (ds ++ gs) = true) :
    Calls Try.prog 4 args W fun e W' => ∃ v, e = .returned v ∧ Rows.wireReturnsSpec.post enc Try.prog Try.f4 false true false false W args v W' := by
  have hW' := hW
  obtain ⟨p, q, hA0, hV, rfl, hfz, hnd⟩ := hW
  have hA : DataW.TrodAll enc Try.prog W 0 (fun _ => true) true Try.f4.params.toList args.toList ds p := hA0
  rw [Try.params4] at hA hval
  obtain ⟨v0, vs0, d0, ds0, p0, q0, hargs, rfl, rfl, g0, r0⟩ := trodAll_cons hA
  obtain ⟨rfl, rfl, rfl⟩ := trodAll_nil r0
  obtain rfl : args = #[v0] := by cases args; simp_all
  obtain ⟨rfl, rfl⟩ := trodVars_none hV
  obtain ⟨N, I, s, A, cap, zs, x0, x1, d3, rest, rfl, rfl, hd, hN, hI0, hI1, hz, hr⟩ := openValues (hval 0 25 v0 rfl rfl) g0
  clear hA0
  simp only [List.append_nil] at hk
  obtain ⟨k1, k2⟩ := small hk hd
  refine (walk N I s A cap zs W (parts N I s zs hN hI0 hI1 k1 hz k2) k1 k2 hr).mono fun e W' ⟨he, hb⟩ => ?_
  subst he
  exact ⟨_, rfl, Frame.law_post Frame.laidOut (by kernel_rfl) Try.underlying4 (by kernel_rfl) rfl rfl hW' hb⟩

set_option maxRecDepth 100000 in
theorem lifted (os : Os) (started : os.Started) (H : Type) (enc : TypeId × Value → H) (F : Stop.Interp) :
    ReturnsInHanded {} Try.checked os 4 .any ((Rows.OpenSpec.upto Rows.wireReturnsSpec).pre6 enc Try.prog Try.f4 Rows.wireReturnsUptoRow.domain false) (((Rows.OpenSpec.upto Rows.wireReturnsSpec).at F).post enc Try.prog Try.f4 false true false false) := by
  refine returnsInHanded_of_cond (C := Try.checked) (s := Rows.OpenSpec.upto Rows.wireReturnsSpec) (k := Rows.uptoSmall) rfl Frame.own started (by kernel_rfl) Try.func4
    (OpenSpec.witness (enc := enc) (C := Try.checked) (s := Rows.OpenSpec.upto Rows.wireReturnsSpec) (k := Rows.uptoSmall) rfl false ⟨#[], #[.agg #[.int .u64 0, .int .i64 0, .string .empty, .slice none 0 0]], []⟩ 8 (by kernel_rfl) (by kernel_rfl) (by kernel_rfl)
      (x := ([.agg [.lit (.int .u64 0), .lit (.int .i64 0), .lit (.string []), .nil]], [], [])) (by kernel_rfl) rfl (by kernel_rfl)) ?_
  intro W base args ds gs before hval hW _ hk _
  exact contract H enc W base args ds gs before hval hW hk

theorem proved : Rows.WireReturnsUptoSaid :=
  OpenClaim.holds_of_cond 4 Try.f4 rfl rfl rfl rfl rfl rfl rfl ⟨rfl, rfl, rfl, rfl, rfl⟩ rfl rfl rfl rfl rfl (by kernel_rfl) Try.func4 (by kernel_rfl)
    (of_decide_eq_true (by kernel_rfl)) (by unfold Func.isWrapper; first | (rw [if_pos (by decide +kernel)]; kernel_rfl) | (rw [if_neg (by decide +kernel)]; exact ⟨rfl, rfl⟩))
    (fun os started H enc _ F => lifted os started H enc F)

end Go.Proofs.Ytmnlijeflcedcaa.WireReturns
