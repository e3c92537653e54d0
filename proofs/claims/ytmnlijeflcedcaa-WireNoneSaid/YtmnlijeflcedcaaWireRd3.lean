/-
  Package wire's reader: Ints and New.
-/
import Derived.Test.YtmnlijeflcedcaaWireRd2
import Derived.Test.YtmnlijeflcedcaaWirePure2
import Derived.Test.YtmnlijeflcedcaaWireEnc
namespace Go.Proofs.Ytmnlijeflcedcaa.WireRd
open Go.RowKit Go.Proofs.Ytmnlijeflcedcaa Go.Proofs.Ytmnlijeflcedcaa.WirePure

theorem info64 : (Try.prog.info? 3).map (fun i => (i.zero, i.size, i.bytes)) = some (some (.int .i64 0), 1, 8) := by kernel_rfl

def IP (g : Option Nat) (zs : List Int) (a' : A) (w : World) (e : Ending) (w' : World) : Prop := ∃ v, e = .returned v ∧ w'.ownsRow w.heap.size 3 1 v zs.length (zs.map (Value.int .i64)) ∧ w.grownBy w' g ∧ Is w' g a'

theorem ints_bad (most : Int) (a : A) (n : Nat) (e : Int) (h : a.count most = (n, .bad e)) : a.ints most = ([], .bad e) := by
  unfold A.ints; rw [h]
theorem ints_ok (most : Int) (a : A) (n : Nat) (l : List UInt8) (h : a.count most = (n, .ready l)) : a.ints most = intsN n l := by
  unfold A.ints; rw [h]
theorem count_len (most : Int) (a : A) (n : Nat) (l : List UInt8) (h : a.count most = (n, .ready l)) : l.length ≤ a.left := by
  cases a with
  | bad e => simp [A.count, A.uint] at h
  | ready l0 =>
    unfold A.count A.uint at h
    by_cases h0 : (uv 0 0 l0).1 = 0
    · simp only [h0, if_pos] at h
      split at h
      · simp at h
      · have := uv_len l0 0 0 h0
        simp only [Prod.mk.injEq, A.ready.injEq] at h
        rw [← h.2]
        simp only [A.left]
        omega
    · simp [h0] at h

theorem grown_trans {w w1 w2 : World} {g r : Option Nat} (h : w.grownBy w1 g) (k : w1.grownBy w2 r) (hr : ∀ b, r = some b → w.heap.size ≤ b ∨ r = g) : w.grownBy w2 g :=
  ⟨k.os.trans h.os, k.tape.trans h.tape, k.output.trans h.output, Nat.le_trans h.size k.size, fun i hi hne => (k.block i (Nat.lt_of_lt_of_le hi h.size) (fun e => by
    rcases hr i e.symm with h1 | h1
    · omega
    · exact hne (e.trans h1))).trans (h.block i hi hne)⟩

theorem Is.lt {w : World} {g : Option Nat} {a : A} (h : Is w g a) (b : Nat) (hb : g = some b) : b < w.heap.size := by
  cases a with
  | bad x =>
    rcases h with ⟨rfl, rfl⟩ | ⟨b', s, p, e', rfl, rfl, hb'⟩ | ⟨b', s, p, rfl, hx, hb'⟩
    · cases hb
    · cases hb; exact hb'.lt
    · cases hb; exact hb'.lt
  | ready l =>
    obtain ⟨b', s, p, rfl, hb', hp, hs, rfl⟩ := h
    cases hb
    exact hb'.lt

theorem own_apart {w wr w2 : World} {g : Option Nat} {e : TypeId} {size n : Nat} {v : Value} {xs : List Value} (hown : wr.ownsRow w.heap.size e size v n xs) (hg : wr.grownBy w2 g) (hlt : ∀ b, g = some b → b < w.heap.size) : w2.ownsRow w.heap.size e size v n xs := by
  refine hown.kept hg ?_
  cases hv : v.ownBlock with
  | none => exact .inl rfl
  | some k =>
    refine .inr (fun e => ?_)
    have h1 := (hown.lt k hv).1
    have h2 := hlt k e.symm
    omega

/-- Behind an append onto a row of the call's own. -/
theorem app_grown {w w2 w3 : World} {g : Option Nat} {o : Obj} {e : TypeId} {size n : Nat} {v : Value} {xs : List Value} (hgr : w.grownBy w2 g) (hown : w2.ownsRow w.heap.size e size v n xs) (hgrow : (w2.alloc o).grownBy w3 v.ownBlock) : w.grownBy w3 g :=
  grown_trans (grown_trans hgr (World.grownBy_alloc w2 o none) (fun b hb => by cases hb)) hgrow (fun b hb => .inl (hown.lt b hb).1)
theorem app_is {w w2 w3 : World} {g : Option Nat} {a : A} {o : Obj} {e : TypeId} {size n : Nat} {v : Value} {xs : List Value} (hi : Is w2 g a) (hown : w2.ownsRow w.heap.size e size v n xs) (hgrow : (w2.alloc o).grownBy w3 v.ownBlock) (hlt : ∀ b, g = some b → b < w.heap.size) : Is w3 g a :=
  (hi.grown (World.grownBy_alloc w2 o none) (fun _ _ => by simp)).grown hgrow (fun b hb hv => by have := (hown.lt b hv.symm).1; have := hlt b hb; omega)

set_option maxHeartbeats 1000000 in
theorem ints_any (g : Option Nat) (a : A) (most : Int) (w : World) (h : Is w g a) (hm : most ≤ 9223372036854775807) (hroom : a.left ≤ 17592186044416) :
    Calls Try.prog 21 #[pt g, .int .i64 most] w (IP g (a.ints most).1 (a.ints most).2 w) := by
  obtain ⟨n, a', hu⟩ : ∃ n a', a.count most = (n, a') := ⟨_, _, rfl⟩
  have hc := count_any g a most w h hm
  have hlt : n ≤ 9223372036854775807 := by
    have : (n : Int) ≤ 9223372036854775807 := by
      rw [show n = (a.count most).1 by rw [hu]]
      exact count_le a most hm
    omega
  rw [hu] at hc
  cases a' with
  | bad x =>
    have hn0 : n = 0 := by
      unfold A.count at hu
      split at hu
      · simp only [Prod.mk.injEq] at hu; omega
      · split at hu
        · simp only [Prod.mk.injEq] at hu; omega
        · simp at hu
    subst hn0
    rw [ints_bad most a 0 x hu]
    clear hu
    go_enter Try.func21, Try.ntmps21
    go_wp2_with fail
    refine hc.mono ?_
    rintro e w' ⟨rfl, hg, hi⟩
    go_wp2_with fail
    go_loop [6, 12] (fun vl vi => vl = .slice none 0 0 ∧ vi = .int .i64 0) (fun _ _ => 0)
    case atStart => exact ⟨rfl, rfl⟩
    case round =>
      obtain ⟨rfl, rfl⟩ := hrel
      go_wp2_with fail
      go_ret
      exact ⟨_, rfl, World.ownsRow_nil _ _ _ _, hg, hi⟩
  | ready l =>
    have hll := count_len most a n l hu
    rw [ints_ok most a n l hu]
    clear hu
    obtain ⟨i0, hi0, hz0, hz1, hz2⟩ := info_parts info64
    go_enter Try.func21, Try.ntmps21
    go_wp2_with fail
    refine hc.mono ?_
    rintro e w' ⟨rfl, hg, hi⟩
    go_wp2_with fail
    go_loopw [6, 12] (fun vl vi wr => ∃ (k : Nat) (zs : List Int) (l' : List UInt8), k ≤ n ∧ vi = .int .i64 k ∧ zs.length = k ∧ wr.ownsRow w.heap.size 3 1 vl zs.length (zs.map (Value.int .i64)) ∧ w.grownBy wr g ∧ Is wr g (.ready l') ∧ zs.length + l'.length ≤ l.length ∧ intsN n l = intsP zs (intsN (n - k) l'))
      (fun _ vi _ => n - (intOf vi).toNat)
    case atStart => exact ⟨0, [], l, Nat.zero_le _, rfl, rfl, World.ownsRow_nil _ _ _ _, hg, hi, by simp, (intsP_nil _ _).symm⟩
    case round =>
      obtain ⟨k, zs, l', hk, rfl, hzl, hown, hgr, hir, hle, hN⟩ := hrel
      have HZ := Lib.hid hzl
      have HN := Lib.hid hN
      have hzk : zs.length ≤ k := by omega
      clear hzl hN hg hi hc
      by_cases hkn : k < n
      · obtain ⟨z, a1, hz⟩ : ∃ z a1, (A.ready l').int = (z, a1) := ⟨_, _, rfl⟩
        have hci := int_any g _ wr hir
        rw [hz] at hci
        have HI := Lib.hid hz
        clear hz
        cases a1 with
        | bad x =>
          go_wp2_with fail
          refine hci.mono ?_
          rintro e w2 ⟨rfl, hg2, hi2⟩
          go_wp2_with fail
          refine (ready_bad _ _ _ hi2).mono ?_
          rintro e w2 ⟨rfl, rfl⟩
          go_wp2_with fail
          go_ret
          have e1 : intsN n l = ([], .bad x) := by
            rw [HN.out, show n - k = (n - k - 1) + 1 by omega, intsN_bad _ _ _ _ HI.out]
            rfl
          rw [e1]
          exact ⟨_, rfl, World.ownsRow_nil _ _ _ _, grown_trans hgr hg2 (fun _ _ => .inr rfl), hi2⟩
        | ready l2 =>
          have hl2 := int_len _ _ _ HI.out
          go_wp2_with fail
          refine hci.mono ?_
          rintro e w2 ⟨rfl, hg2, hi2⟩
          go_wp2_with fail
          refine (ready_yes _ _ _ hi2).mono ?_
          rintro e w2 ⟨rfl, rfl⟩
          have hsz : w.heap.size ≤ w2.heap.size := Nat.le_trans hgr.size hg2.size
          have hown2 := own_apart hown hg2 (fun b hb => h.lt b hb)
          clear hown hir hci
          go_wp2_with (at_builtin; refine wpList_append_own _ rfl _ _ 23 rfl w.heap.size 3 i0 (.int .i64 0) 1 8 Try.underlying23 hi0 hz0 hz1 hz2 rfl (by decide) _ _ _ rfl (hown2.alloc _) ⟨w2.heap.size, 0, none⟩ 1 1 [Value.int .i64 z] rfl rfl ?c1 ?c2 ?c3 ?c4 ?c5 ?_)
          case c1 =>
            intro j u hj
            match j, hj with
            | 0, hj => simp at hj; subst hj; simp [Addr.add]
          case c2 => intro u hu; simp at hu; subst hu; rfl
          case c3 => unfold maxLen; omega
          case c4 => omega
          case c5 => simp; omega
          intro v' w3 hown' hgrow _
          have hg3 := app_grown (grown_trans hgr hg2 (fun _ _ => .inr rfl)) hown2 hgrow
          have hi3 := app_is hi2 hown2 hgrow (fun b hb => h.lt b hb)
          go_wp2
          go_roundw
          case rel =>
            refine ⟨k + 1, zs ++ [z], l2, hkn, by go_num, by simp [HZ.out], by simpa using hown', hg3, hi3, ?_, ?_⟩
            · simp; omega
            · rw [HN.out, show n - k = (n - (k + 1)) + 1 by omega, intsN_more _ _ _ _ _ HI.out]
          case measure => simp [intOf]; omega
      · have hkk : n = k := by omega
        have HK := Lib.hid hkk
        clear hkk
        go_wp2_with fail
        go_ret
        have e1 : intsN n l = (zs, .ready l') := by
          rw [HN.out, show n - k = 0 by have := HK.out; omega]
          simp [intsN, intsP]
        rw [e1]
        exact ⟨_, rfl, hown, hgr, hir⟩

end Go.Proofs.Ytmnlijeflcedcaa.WireRd
