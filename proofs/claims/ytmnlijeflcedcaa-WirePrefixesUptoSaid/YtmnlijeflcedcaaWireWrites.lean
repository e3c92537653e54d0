/-
  WireWrites: package wire encodes every number, every text and every list of numbers as the reference of layer 4 does. No condition beyond the bound of the statement.
-/
import Derived.Test.YtmnlijeflcedcaaWireEx
import Derived.Test.YtmnlijeflcedcaaRef04Enc
import Derived.Test.YtmnlijeflcedcaaFrame
import Derived.Deep.RegionHeld3
namespace Go.Proofs.Ytmnlijeflcedcaa.WireWrites
open Go.RowKit Go.Proofs.Ytmnlijeflcedcaa Go.Proofs.Ytmnlijeflcedcaa.WirePure Go.Proofs.Ytmnlijeflcedcaa.WireRd

/-- What the law's one statement finds in whatever world it comes to: its own copy of the argument, the list of the argument, and nothing old turned. -/
def S (w : World) (v0 v1 v2 v3 : Value) (A : Option Addr) (n : Nat) (xs : List Value) (w' : World) : Prop :=
  w'.cell? ⟨w.heap.size, 0, none⟩ = some v0 ∧ w'.cell? ⟨w.heap.size, 1, none⟩ = some v1 ∧ w'.cell? ⟨w.heap.size, 2, none⟩ = some v2 ∧ w'.cell? ⟨w.heap.size, 3, none⟩ = some v3 ∧ w.heap.size < w'.heap.size ∧ Reads w' w.heap.size 1 A n xs ∧ Below w.heap.size w w'

theorem keepS {w w1 w2 : World} {v0 v1 v2 v3 : Value} {A : Option Addr} {n : Nat} {xs : List Value} (h : S w v0 v1 v2 v3 A n xs w1) (hb : Below w1.heap.size w1 w2) : S w v0 v1 v2 v3 A n xs w2 := by
  obtain ⟨h0, h1, h2, h3, h4, h5, h6⟩ := h
  exact ⟨(hb.cell h4).trans h0, (hb.cell h4).trans h1, (hb.cell h4).trans h2, (hb.cell h4).trans h3, Nat.lt_of_lt_of_le h4 hb.size, h5.below (hb.mono (by omega)), h6.trans (hb.mono (by omega))⟩

theorem readsS {w w1 : World} {v0 v1 v2 v3 : Value} {A : Option Addr} {n : Nat} {xs : List Value} (h : S w v0 v1 v2 v3 A n xs w1) : Reads w1 w1.heap.size 1 A n xs := h.2.2.2.2.2.1.more (Nat.le_of_lt h.2.2.2.2.1)

theorem belowS {w w1 : World} {v0 v1 v2 v3 : Value} {A : Option Addr} {n : Nat} {xs : List Value} (h : S w v0 v1 v2 v3 A n xs w1) : Below w.heap.size w w1 := h.2.2.2.2.2.2

theorem startS {w : World} {v0 v1 v2 v3 : Value} {A : Option Addr} {n : Nat} {xs : List Value} {t : TypeId} (hr : Reads w w.heap.size 1 A n xs) : S w v0 v1 v2 v3 A n xs (w.alloc (.cells #[v0, v1, v2, v3] t)).drew := by
  have hb := Blk.new w t #[v0, v1, v2, v3]
  exact ⟨hb.cell 0, hb.cell 1, hb.cell 2, hb.cell 3, by simp [World.drew], hr.alloc (Nat.le_refl _) _, ((Below.refl _ _).alloc (Nat.le_refl _) _).drew⟩

set_option maxHeartbeats 2000000 in
set_option maxRecDepth 100000 in
theorem walk (N : Nat) (I : Int) (s : ByteArray) (A : Option Addr) (cap : Nat) (zs : List Int) (w : World) (hN : N < 18446744073709551616) (h0 : -9223372036854775808 ≤ I) (h1 : I ≤ 9223372036854775807) (hs : s.size ≤ 1048576) (hz : ∀ z ∈ zs, -9223372036854775808 ≤ z ∧ z ≤ 9223372036854775807) (hzl : zs.length ≤ 1048576)
    (hr : Reads w w.heap.size 1 A zs.length (zs.map (Value.int .i64))) :
    Calls Try.prog 3 #[.agg #[.int .u64 N, .int .i64 I, .string s, .slice A zs.length cap]] w fun e w' => e = .returned (.bool true) ∧ Below w.heap.size w w' := by
  have hS := startS (v0 := .int .u64 N) (v1 := .int .i64 I) (v2 := .string s) (v3 := .slice A zs.length cap) (t := 25) hr
  go_enter Try.func3, Try.ntmps3
  go_wp2
  have HS : Hid _ := Lib.hid hS
  clear hS
  have HZ := Lib.hid hz
  clear hz
  go_region_held3 (fun w' => w'.cell? ⟨w.heap.size, 0, none⟩ = some (.int .u64 N) ∧ w'.cell? ⟨w.heap.size, 1, none⟩ = some (.int .i64 I) ∧ w'.cell? ⟨w.heap.size, 2, none⟩ = some (.string s) ∧ w'.cell? ⟨w.heap.size, 3, none⟩ = some (.slice A zs.length cap) ∧ w.heap.size < w'.heap.size ∧ Reads w' w.heap.size 1 A zs.length (zs.map (Value.int .i64)) ∧ Below w.heap.size w w')
    (first | exact HS.out | exact keepS (by assumption) hbq | go_keep)
    (first
      | (go_at_call 9; refine (WireEnc.uint_any N hN _).mono ?_; rintro e w' ⟨rfl, hbq⟩)
      | (go_at_call 10; refine (Ref04Enc.rUint_any N hN _).mono ?_; rintro e w' ⟨rfl, hbq⟩)
      | (go_at_call 11; refine (WireEnc.int_any I h0 h1 _).mono ?_; rintro e w' ⟨rfl, hbq⟩)
      | (go_at_call 12; refine (Ref04Enc.rInt_any I h0 h1 _).mono ?_; rintro e w' ⟨rfl, hbq⟩)
      | (go_at_call 13; refine (WireEnc.text_any s (by omega) _).mono ?_; rintro e w' ⟨rfl, hbq⟩)
      | (go_at_call 14; refine (Ref04Enc.rText_any s (by omega) _).mono ?_; rintro e w' ⟨rfl, hbq⟩)
      | (go_at_call 15; refine (WireEnc.ints_any A cap zs _ (readsS (w := w) (v0 := .int .u64 N) (v1 := .int .i64 I) (v2 := .string s) (v3 := .slice A zs.length cap) (by assumption)) HZ.out (by omega)).mono ?_; rintro e w' ⟨rfl, hbq⟩)
      | (go_at_call 16; refine (Ref04Enc.rInts_any A cap zs _ (readsS (w := w) (v0 := .int .u64 N) (v1 := .int .i64 I) (v2 := .string s) (v3 := .slice A zs.length cap) (by assumption)) HZ.out (by omega)).mono ?_; rintro e w' ⟨rfl, hbq⟩)
      | (go_at_call 17; refine (example_any _).mono ?_; rintro e w' ⟨rfl, hbq⟩))
  go_wp2
  go_ret
  exact ⟨rfl, belowS (v0 := .int .u64 N) (v1 := .int .i64 I) (v2 := .string s) (v3 := .slice A zs.length cap) (A := A) (n := zs.length) (xs := zs.map (Value.int .i64)) (by assumption)⟩

open Go.ChangeShapes Go.WideShapes Go.ChangeAt Go.Joins

/-- What the bound gives of the parts of the argument. -/
theorem small {H : Type} {x0 x1 : DataW H} {s : ByteArray} {d3 : DataW H} {zs : List Int} {rest : List (DataW H)} (hk : Rows.uptoSmall H [.agg [x0, x1, .lit (.string s.data.toList), d3]] = true) (hd : d3 = .slice (zs.map fun z => .lit (.int .i64 z)) rest ∨ d3 = .nil ∧ zs = []) : s.size ≤ 1048576 ∧ zs.length ≤ 1048576 := by
  have h : Rows.uptoBulkAll [DataW.agg [x0, x1, .lit (.string s.data.toList), d3]] ≤ 1048576 := of_decide_eq_true hk
  simp only [Rows.uptoBulkAll, Rows.uptoBulk] at h
  have e : s.data.toList.length = s.size := by rw [Array.length_toList]; rfl
  refine ⟨by omega, ?_⟩
  rcases hd with rfl | ⟨rfl, rfl⟩
  · simp only [Rows.uptoBulk, Frame.bulk_lits] at h
    omega
  · simp

theorem cells25 : Try.prog.cellsOf 25 = 4 := by kernel_rfl

/-- A value of type Values, opened. -/
theorem openValues {H : Type} {enc : TypeId × Value → H} {W : World} {r : Reach} {b0 : Nat} {v : Value} {d : DataW H} {p : List MemPlace} (hv : Value.okWide Try.prog W r b0 25 v) (h : DataW.Trod enc Try.prog W 0 (fun _ => true) true 25 v d p) :
    ∃ (N : Nat) (I : Int) (s : ByteArray) (A : Option Addr) (cap : Nat) (zs : List Int) (x0 x1 d3 : DataW H) (rest : List (DataW H)), v = .agg #[.int .u64 N, .int .i64 I, .string s, .slice A zs.length cap] ∧ d = .agg [x0, x1, .lit (.string s.data.toList), d3] ∧
      (d3 = .slice (zs.map fun z => .lit (.int .i64 z)) rest ∨ d3 = .nil ∧ zs = []) ∧ N < 18446744073709551616 ∧ -9223372036854775808 ≤ I ∧ I ≤ 9223372036854775807 ∧ (∀ z ∈ zs, -9223372036854775808 ≤ z ∧ z ≤ 9223372036854775807) ∧ Reads W W.heap.size 1 A zs.length (zs.map (Value.int .i64)) := by
  obtain ⟨c0, c1, c2, c3, y0, y1, y2, y3, m, rfl, rfl, rfl, hy0, hy1, hy2, hy3⟩ := open_agg4 Try.underlying25 (by kernel_rfl) cells25 hv h
  obtain ⟨n, e0, rfl, w0⟩ := DataW.trod_int Try.underlying22 hy0
  obtain ⟨i, e1, rfl, w1⟩ := DataW.trod_int Try.underlying3 hy1
  obtain ⟨s, e2, rfl, w2⟩ := DataW.trod_string Try.underlying9 hy2
  obtain ⟨A, cap, zs, rest, rfl, hr, hz, hd⟩ := Frame.reads_ints Try.underlying23 Try.underlying3 (by kernel_rfl) hy3
  simp only [List.cons.injEq, and_true] at e0 e1 e2
  subst e0 e1 e2
  have b0 := bounds_u64 w0
  have b1 := bounds_i64 w1
  obtain ⟨N, rfl⟩ := Int.eq_ofNat_of_zero_le b0.1
  exact ⟨N, i, s, A, cap, zs, _, _, _, rest, rfl, rfl, hd, by omega, b1.1, b1.2, fun z hz' => bounds_i64 (hz z hz'), hr⟩

theorem contract (H : Type) (enc : TypeId × Value → H) (W : World) (base : Nat) (args : Array Value) (ds gs : List (DataW H)) (before : List MemPlace)
    (hval : ∀ (j : Nat) t v, Try.f3.params[j]? = some t → args[j]? = some v → Value.okWide Try.prog W .any base t v)
    (hW : DataW.Whole enc Try.prog Try.f3.params.toList Rows.wireWritesSpec.vars false W args.toList ds gs before) (hk : Rows.uptoSmall H (ds ++ gs) = true) :
    Calls Try.prog 3 args W fun e W' => ∃ v, e = .returned v ∧ Rows.wireWritesSpec.post enc Try.prog Try.f3 false true false false W args v W' := by
  have hW' := hW
  obtain ⟨p, q, hA0, hV, rfl, hfz, hnd⟩ := hW
  have hA : DataW.TrodAll enc Try.prog W 0 (fun _ => true) true Try.f3.params.toList args.toList ds p := hA0
  rw [Try.params3] at hA hval
  obtain ⟨v0, vs0, d0, ds0, p0, q0, hargs, rfl, rfl, g0, r0⟩ := trodAll_cons hA
  obtain ⟨rfl, rfl, rfl⟩ := trodAll_nil r0
  obtain rfl : args = #[v0] := by cases args; simp_all
  obtain ⟨rfl, rfl⟩ := trodVars_none hV
  obtain ⟨N, I, s, A, cap, zs, x0, x1, d3, rest, rfl, rfl, hd, hN, hI0, hI1, hz, hr⟩ := openValues (hval 0 25 v0 rfl rfl) g0
  clear hA0
  simp only [List.append_nil] at hk
  obtain ⟨k1, k2⟩ := small hk hd
  refine (walk N I s A cap zs W hN hI0 hI1 k1 hz k2 hr).mono fun e W' ⟨he, hb⟩ => ?_
  subst he
  exact ⟨_, rfl, Frame.law_post Frame.laidOut (by kernel_rfl) Try.underlying4 (by kernel_rfl) rfl rfl hW' hb⟩

set_option maxRecDepth 100000 in
theorem lifted (os : Os) (started : os.Started) (H : Type) (enc : TypeId × Value → H) (F : Stop.Interp) :
    ReturnsInHanded {} Try.checked os 3 .any ((Rows.OpenSpec.upto Rows.wireWritesSpec).pre6 enc Try.prog Try.f3 Rows.wireWritesUptoRow.domain false) (((Rows.OpenSpec.upto Rows.wireWritesSpec).at F).post enc Try.prog Try.f3 false true false false) := by
  refine returnsInHanded_of_cond (C := Try.checked) (s := Rows.OpenSpec.upto Rows.wireWritesSpec) (k := Rows.uptoSmall) rfl Frame.own started (by kernel_rfl) Try.func3
    (OpenSpec.witness (enc := enc) (C := Try.checked) (s := Rows.OpenSpec.upto Rows.wireWritesSpec) (k := Rows.uptoSmall) rfl false ⟨#[], #[.agg #[.int .u64 0, .int .i64 0, .string .empty, .slice none 0 0]], []⟩ 8 (by kernel_rfl) (by kernel_rfl) (by kernel_rfl)
      (x := ([.agg [.lit (.int .u64 0), .lit (.int .i64 0), .lit (.string []), .nil]], [], [])) (by kernel_rfl) rfl (by kernel_rfl)) ?_
  intro W base args ds gs before hval hW _ hk _
  exact contract H enc W base args ds gs before hval hW hk

theorem proved : Rows.WireWritesUptoSaid :=
  OpenClaim.holds_of_cond 3 Try.f3 rfl rfl rfl rfl rfl rfl rfl ⟨rfl, rfl, rfl, rfl, rfl⟩ rfl rfl rfl rfl rfl (by kernel_rfl) Try.func3 (by kernel_rfl)
    (of_decide_eq_true (by kernel_rfl)) (by unfold Func.isWrapper; first | (rw [if_pos (by decide +kernel)]; kernel_rfl) | (rw [if_neg (by decide +kernel)]; exact ⟨rfl, rfl⟩))
    (fun os started H enc _ F => lifted os started H enc F)

end Go.Proofs.Ytmnlijeflcedcaa.WireWrites
