/-
  What each method of package wire's reader answers and makes of the reader, in every state of the reader (nil, not made, with an error, ready).
-/
import Derived.Test.YtmnlijeflcedcaaWords
import Derived.Test.YtmnlijeflcedcaaWireNum
import Derived.WalkKit
import Derived.WalkSpells
import Derived.WalkLawsBesides
import Derived.Outline
import Derived.Deep.QuietTactic
import Derived.BigQuiet
import Derived.Laws.BitsAllLaws
import Derived.Lib.Hide
namespace Go.Proofs.Ytmnlijeflcedcaa.WireRd
open Go.RowKit Go.Proofs.Ytmnlijeflcedcaa Go.Proofs.Ytmnlijeflcedcaa.WirePure

def rdCells (made : Bool) (s : ByteArray) (at_ : Nat) (e : Int) : Array Value := #[.bool made, .string s, .int .i64 at_, .int .i64 e]

def Is (w : World) (g : Option Nat) : A → Prop
  | .ready l => ∃ b s p, g = some b ∧ Blk w b 52 (rdCells true s p 0) ∧ p ≤ s.size ∧ s.size ≤ 140737488355328 ∧ l = s.data.toList.drop p
  | .bad e => (g = none ∧ e = 14) ∨ (∃ b s p e', g = some b ∧ e = 14 ∧ Blk w b 52 (rdCells false s p e')) ∨ (∃ b s p, g = some b ∧ (e == 0) = false ∧ Blk w b 52 (rdCells true s p e))
def pt (g : Option Nat) : Value := .pointer (g.map fun b => ⟨b, 0, none⟩)

theorem ready_bad (g : Option Nat) (x : Int) (w : World) (h : Is w g (.bad x)) :
    Calls Try.prog 35 #[pt g] w fun e w' => e = .returned (.bool false) ∧ w = w' := by
  rcases h with ⟨rfl, rfl⟩ | ⟨b, s, p, e', rfl, rfl, hb⟩ | ⟨b, s, p, rfl, hx, hb⟩
  · simp only [pt, Option.map_none]
    go_enter Try.func35, Try.ntmps35
    go_wp2
    go_ret
    exact ⟨rfl, rfl⟩
  · have c0 := hb.cell 0
    simp only [rdCells] at c0
    simp only [pt, Option.map_some]
    go_enter Try.func35, Try.ntmps35
    go_wp2
    go_ret
    exact ⟨rfl, rfl⟩
  · have c0 := hb.cell 0
    have c3 := hb.cell 3
    simp only [rdCells] at c0 c3
    simp only [pt, Option.map_some]
    go_enter Try.func35, Try.ntmps35
    go_wp2
    go_ret
    exact ⟨rfl, rfl⟩

theorem ready_at (b : Nat) (s : ByteArray) (p : Nat) (w : World) (hb : Blk w b 52 (rdCells true s p 0)) :
    Calls Try.prog 35 #[.pointer (some ⟨b, 0, none⟩)] w fun e w' => e = .returned (.bool true) ∧ w = w' := by
  have c0 := hb.cell 0
  have c3 := hb.cell 3
  simp only [rdCells] at c0 c3
  go_enter Try.func35, Try.ntmps35
  go_wp2
  go_ret
  exact ⟨rfl, rfl⟩

theorem uint_bad (g : Option Nat) (x : Int) (w : World) (h : Is w g (.bad x)) :
    Calls Try.prog 23 #[pt g] w fun e w' => e = .returned (.int .u64 0) ∧ w = w' := by
  go_enter Try.func23, Try.ntmps23
  go_wp2_with (go_at_call 35; refine (ready_bad _ _ _ h).mono ?_; rintro e w' ⟨rfl, rfl⟩)
  go_ret
  exact ⟨rfl, rfl⟩

theorem grown_set {w W : World} {g : Nat} (h : w.grownBy W (some g)) (i : Nat) (u : Value) : w.grownBy (W.setCell ⟨g, i, none⟩ u) (some g) :=
  ⟨h.os, h.tape, h.output, by simpa [World.setCell] using h.size, fun k hk hne => (Below.heap_setCell _ _ _ _ (by simpa using hne)).trans (h.block k hk hne)⟩
theorem grown_drewN {w W : World} {r : Option Nat} (h : w.grownBy W r) (n : Nat) : w.grownBy (W.drewN n) r := ⟨h.os, h.tape, h.output, h.size, h.block⟩

def UPost (w : World) (g : Nat) (s : ByteArray) (p : Nat) (e : Ending) (w' : World) : Prop :=
  ∃ p' : Nat, e = .returned (.int .u64 (uv 0 0 (s.data.toList.drop p)).2.1) ∧ w.grownBy w' (some g) ∧ Blk w' g 52 (rdCells true s p' (uv 0 0 (s.data.toList.drop p)).1) ∧ p' ≤ s.size ∧ ((uv 0 0 (s.data.toList.drop p)).1 = 0 → s.data.toList.drop p' = (uv 0 0 (s.data.toList.drop p)).2.2)

theorem end_bad {w W : World} {g : Nat} {s : ByteArray} {p q : Nat} {x : Int} (hg : w.grownBy W (some g)) (hb : Blk W g 52 (rdCells true s q 0)) (hq : q ≤ s.size) (hx : x ≠ 0) (h : uv 0 0 (s.data.toList.drop p) = (x, 0, [])) :
    UPost w g s p (.returned (.int .u64 0)) (W.setCell ⟨g, 3, none⟩ (.int .i64 x)) := by
  refine ⟨q, by rw [h]; rfl, grown_set hg _ _, ?_, hq, ?_⟩
  · have := hb.set_ 3 (.int .i64 x)
    rw [h]
    simpa [rdCells] using this
  · rw [h]
    intro h0
    exact absurd h0 hx

theorem blk_at {W : World} {g q : Nat} {s : ByteArray} (hb : Blk W g 52 (rdCells true s q 0)) : Blk (W.setCell ⟨g, 2, none⟩ (.int .i64 (q + 1))) g 52 (rdCells true s (q + 1) 0) := by
  have := hb.set_ 2 (.int .i64 (q + 1))
  simpa [rdCells] using this

theorem end_last {w W : World} {g : Nat} {s : ByteArray} {p q : Nat} {v : Int} {n : Nat} (hg : w.grownBy W (some g)) (hb : Blk W g 52 (rdCells true s q 0)) (hq : q < s.size) (hv : v = n) (h : uv 0 0 (s.data.toList.drop p) = (0, n, s.data.toList.drop (q + 1))) :
    UPost w g s p (.returned (.int .u64 v)) (W.setCell ⟨g, 2, none⟩ (.int .i64 (q + 1))) := by
  subst hv
  refine ⟨q + 1, by rw [h], grown_set hg _ _, ?_, hq, ?_⟩
  · have := hb.set_ 2 (.int .i64 (q + 1))
    rw [h]
    simpa [rdCells] using this
  · rw [h]
    exact fun _ => rfl

set_option maxHeartbeats 1000000 in
set_option maxRecDepth 100000 in
theorem uint_at (g : Nat) (s : ByteArray) (p : Nat) (w : World) (hs : s.size ≤ 140737488355328) (hp : p ≤ s.size) (hb : Blk w g 52 (rdCells true s p 0)) :
    Calls Try.prog 23 #[.pointer (some ⟨g, 0, none⟩)] w (UPost w g s p) := by
  go_enter Try.func23, Try.ntmps23
  go_wp2_with (go_at_call 35; refine (ready_at _ _ _ _ hb).mono ?_; rintro e w' ⟨rfl, rfl⟩)
  go_loopw [3, 4] (fun vn vi wr => ∃ i acc q : Nat, vi = .int .i64 i ∧ vn = .int .u64 acc ∧ i ≤ 9 ∧ acc < 2 ^ (7 * i) ∧ w.grownBy wr (some g) ∧ Blk wr g 52 (rdCells true s q 0) ∧ q ≤ s.size ∧ uv 0 0 (s.data.toList.drop p) = uv i acc (s.data.toList.drop q))
    (fun _ vi _ => 10 - (intOf vi).toNat)
  case atStart => exact ⟨0, 0, p, rfl, rfl, by omega, by simp, World.grownBy.refl _ _, hb, hp, rfl⟩
  case round =>
    obtain ⟨i, acc, q, rfl, rfl, hi, hacc, hg, hbr, hq, huv⟩ := hrel
    clear hb
    have HU := Lib.hid huv
    clear huv
    have HA := Lib.hid hacc
    clear hacc
    have c1 := hbr.cell 1
    have c2 := hbr.cell 2
    have c3 := hbr.cell 3
    have f2 := hbr.frozen 2
    have f3 := hbr.frozen 3
    simp only [rdCells] at c1 c2 c3
    rcases Nat.lt_or_ge q s.size with hlt | hge
    · have hdr : s.data.toList.drop q = s[q] :: s.data.toList.drop (q + 1) := List.drop_eq_getElem_cons (by simpa using hlt)
      have HD := Lib.hid hdr
      clear hdr
      have hc256 : s[q].toNat < 256 := s[q].toNat_lt
      by_cases hform : (i = 9 ∧ 1 < s[q].toNat) ∨ (0 < i ∧ s[q].toNat = 0)
      · have HE : Hid (uv 0 0 (s.data.toList.drop p) = (4, 0, [])) := by
          rw [HU.out, HD.out, uv_form _ _ _ _ hform]
          exact rfl
        rcases hform with ⟨h9, h1⟩ | ⟨h9, h1⟩
        · have H9 := Lib.hid h9
          have t1 : ((i : Int) == 9) = true := by simp; omega
          clear h9
          go_wp2
          go_quiet (fail)
          go_wp2
          go_quiet (fail)
          go_wp2
          go_ret
          exact end_bad (grown_drewN hg _) hbr hq (by decide) HE.out
        · have t0 : ((s[q].toNat : Int) == 0) = true := by simp; omega
          have hle : s[q].toNat ≤ 1 := by omega
          clear h1
          by_cases h9' : i = 9
          · have t1 : ((i : Int) == 9) = true := by simp; omega
            clear h9'
            go_wp2
            go_quiet (fail)
            go_wp2
            go_quiet (fail)
            go_wp2
            go_ret
            exact end_bad (grown_drewN hg _) hbr hq (by decide) HE.out
          · have t1 : ((i : Int) == 9) = false := by simp; omega
            go_wp2
            go_quiet (fail)
            go_wp2
            go_quiet (fail)
            go_wp2
            go_ret
            exact end_bad (grown_drewN hg _) hbr hq (by decide) HE.out
      · have HF := Lib.hid hform
        clear hform
        by_cases h128 : s[q].toNat < 128
        · have HE : Hid (uv 0 0 (s.data.toList.drop p) = (0, acc + s[q].toNat * 2 ^ (7 * i), s.data.toList.drop (q + 1))) := by
            rw [HU.out, HD.out, uv_last _ _ _ _ HF.out h128]
            exact rfl
          have hF := HF.out
          have HL : i = 9 → s[q].toNat % 128 ≤ 1 := by omega
          by_cases h9 : i = 9
          · have t1 : ((i : Int) == 9) = true := by simp; omega
            have t0 : ((s[q].toNat : Int) == 0) = false := by simp; omega
            have hle : s[q].toNat ≤ 1 := by omega
            have hi0 : 0 < i := by omega
            clear h9 hF
            go_wp2
            go_quiet (fail)
            go_wp2
            go_quiet (fail)
            go_wp2
            go_ret
            exact end_last (grown_drewN hg _) hbr hlt (orb i acc _ hi HA.out hc256 HL) (by rw [HE.out, Nat.mod_eq_of_lt h128])
          · have t1 : ((i : Int) == 9) = false := by simp; omega
            by_cases hi0 : 0 < i
            · have t0 : ((s[q].toNat : Int) == 0) = false := by simp; omega
              clear h9 hF
              go_wp2
              go_quiet (fail)
              go_wp2
              go_quiet (fail)
              go_wp2
              go_ret
              exact end_last (grown_drewN hg _) hbr hlt (orb i acc _ hi HA.out hc256 HL) (by rw [HE.out, Nat.mod_eq_of_lt h128])
            · clear h9 hF
              go_wp2
              go_quiet (fail)
              go_wp2
              go_quiet (fail)
              go_wp2
              go_ret
              exact end_last (grown_drewN hg _) hbr hlt (orb i acc _ hi HA.out hc256 HL) (by rw [HE.out, Nat.mod_eq_of_lt h128])
        · have HE : Hid (uv 0 0 (s.data.toList.drop p) = uv (i + 1) (acc + s[q].toNat % 128 * 2 ^ (7 * i)) (s.data.toList.drop (q + 1))) := by
            rw [HU.out, HD.out, uv_more _ _ _ _ HF.out (by omega)]
            exact rfl
          have hF := HF.out
          have h9 : i < 9 := by omega
          have HL : i = 9 → s[q].toNat % 128 ≤ 1 := by omega
          have t1 : ((i : Int) == 9) = false := by simp; omega
          have t0 : ((s[q].toNat : Int) == 0) = false := by simp; omega
          clear hF
          by_cases hi0 : 0 < i
          · clear HF
            go_wp2
            go_quiet (fail)
            go_wp2
            go_quiet (fail)
            go_wp2
            go_roundw
            case rel =>
              refine ⟨i + 1, _, q + 1, by go_num, congrArg (Value.int .u64) (orb i acc _ hi HA.out hc256 HL), by omega, orb_lt _ _ _ HA.out, grown_set (grown_drewN hg _) _ _, blk_at (Blk.drewN hbr _), hlt, HE.out⟩
            case measure => simp [intOf]; omega
          · clear HF
            go_wp2
            go_quiet (fail)
            go_wp2
            go_quiet (fail)
            go_wp2
            go_roundw
            case rel =>
              refine ⟨i + 1, _, q + 1, by go_num, congrArg (Value.int .u64) (orb i acc _ hi HA.out hc256 HL), by omega, orb_lt _ _ _ HA.out, grown_set (grown_drewN hg _) _ _, blk_at (Blk.drewN hbr _), hlt, HE.out⟩
            case measure => simp [intOf]; omega
    · go_wp2
      go_quiet (fail)
      go_wp2
      go_ret
      exact end_bad (grown_drewN hg _) hbr hq (by decide) (by rw [HU.out, List.drop_eq_nil_of_le (by simpa using hge)]; rfl)

end Go.Proofs.Ytmnlijeflcedcaa.WireRd
