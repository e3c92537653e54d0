/-
  The reference's reader: Ints and New.
-/
import Derived.Test.YtmnlijeflcedcaaRef04Rd2
import Derived.Test.YtmnlijeflcedcaaWireSame
namespace Go.Proofs.Ytmnlijeflcedcaa.Ref04Rd
open Go.RowKit Go.Proofs.Ytmnlijeflcedcaa Go.Proofs.Ytmnlijeflcedcaa.WirePure
open Go.Proofs.Ytmnlijeflcedcaa.WireRd (grown_trans own_apart app_grown info64 ints_bad ints_ok count_len)

def IP (g : Option Nat) (zs : List Int) (a' : A) (w : World) (e : Ending) (w' : World) : Prop := ∃ v, e = .returned v ∧ w'.ownsRow w.heap.size 3 1 v zs.length (zs.map (Value.int .i64)) ∧ w.grownBy w' g ∧ Is w' g a'

theorem Is.lt {w : World} {g : Option Nat} {a : A} (h : Is w g a) (b : Nat) (hb : g = some b) : b < w.heap.size := by
  cases a with
  | bad x =>
    rcases h with ⟨rfl, rfl⟩ | ⟨b', s, p, e', rfl, rfl, hb'⟩ | ⟨b', s, p, rfl, hx, hb'⟩
    · cases hb
    · cases hb; exact hb'.lt
    · cases hb; exact hb'.lt
  | ready l =>
    obtain ⟨b', s, p, rfl, hb', hp, hs, rfl⟩ := h
    cases hb
    exact hb'.lt
theorem app_is {w w2 w3 : World} {g : Option Nat} {a : A} {o : Obj} {e : TypeId} {size n : Nat} {v : Value} {xs : List Value} (hi : Is w2 g a) (hown : w2.ownsRow w.heap.size e size v n xs) (hgrow : (w2.alloc o).grownBy w3 v.ownBlock) (hlt : ∀ b, g = some b → b < w.heap.size) : Is w3 g a :=
  (hi.grown (World.grownBy_alloc w2 o none) (fun _ _ => by simp)).grown hgrow (fun b hb hv => by have := (hown.lt b hv.symm).1; have := hlt b hb; omega)

theorem good_no (g : Option Nat) (x : Int) (w : World) (h : Is w g (.bad x)) :
    Calls Try.prog 43 #[pt g] w fun e w' => e = .returned (.bool false) ∧ w = w' := ready_bad g x w h

set_option maxHeartbeats 1000000 in
theorem ints_any (g : Option Nat) (a : A) (most : Int) (w : World) (h : Is w g a) (hm : most ≤ 9223372036854775807) (hroom : a.left ≤ 17592186044000) :
    Calls Try.prog 40 #[pt g, .int .i64 most] w (IP g (a.ints most).1 (a.ints most).2 w) := by
  obtain ⟨n, a', hu⟩ : ∃ n a', a.count most = (n, a') := ⟨_, _, rfl⟩
  have hc := count_any g a most w h hm
  have hlt : n ≤ 9223372036854775807 := by
    have : (n : Int) ≤ 9223372036854775807 := by
      rw [show n = (a.count most).1 by rw [hu]]
      exact count_le a most hm
    omega
  rw [hu] at hc
  cases a' with
  | bad x =>
    have hn0 : n = 0 := by
      unfold A.count at hu
      split at hu
      · simp only [Prod.mk.injEq] at hu; omega
      · split at hu
        · simp only [Prod.mk.injEq] at hu; omega
        · simp at hu
    subst hn0
    rw [ints_bad most a 0 x hu]
    clear hu
    go_enter Try.func40, Try.ntmps40
    go_wp2_with fail
    refine hc.mono ?_
    rintro e w' ⟨rfl, hg, hi⟩
    go_wp2_with fail
    go_loop [7] (fun vi => vi = .int .i64 0) (fun _ => 0)
    case atStart => exact rfl
    case round =>
      subst hrel
      go_wp2_with fail
      refine (good_no _ _ _ (hi.grown (World.grownBy_alloc w' _ none) (fun _ _ => by simp))).mono ?_
      rintro e w2 ⟨rfl, rfl⟩
      go_wp2
      go_ret
      exact ⟨_, rfl, World.ownsRow_nil _ _ _ _, grown_trans hg (World.grownBy_alloc w' _ none) (fun b hb => by cases hb), hi.grown (World.grownBy_alloc w' _ none) (fun _ _ => by simp)⟩
  | ready l =>
    have hll := count_len most a n l hu
    rw [ints_ok most a n l hu]
    clear hu
    obtain ⟨i0, hi0, hz0, hz1, hz2⟩ := info_parts info64
    go_enter Try.func40, Try.ntmps40
    go_wp2_with fail
    refine hc.mono ?_
    rintro e w' ⟨rfl, hg, hi⟩
    go_wp2_with fail
    go_loopw [6, 7] (fun vl vi wr => ∃ (k : Nat) (zs : List Int) (b : A), k ≤ n ∧ vi = .int .i64 k ∧ zs.length = k ∧ wr.ownsRow w.heap.size 3 1 vl zs.length (zs.map (Value.int .i64)) ∧ w.grownBy wr g ∧ Is wr g b ∧
        ((∃ l', b = .ready l' ∧ zs.length + l'.length ≤ l.length ∧ intsN n l = intsP zs (intsN (n - k) l')) ∨ (∃ x, b = .bad x ∧ zs.length ≤ l.length + 1 ∧ intsN n l = ([], .bad x))))
      (fun _ vi _ => n - (intOf vi).toNat)
    case atStart =>
      exact ⟨0, [], .ready l, Nat.zero_le _, rfl, rfl, World.ownsRow_made w' #[] 0 hg.size (by decide) rfl, grown_trans hg (World.grownBy_alloc w' _ none) (fun b hb => by cases hb), hi.grown (World.grownBy_alloc w' _ none) (fun _ _ => by simp), .inl ⟨l, rfl, by simp, (intsP_nil _ _).symm⟩⟩
    case round =>
      clear hg hi hc
      obtain ⟨k, zs, b, hk, rfl, hzl, hown, hgr, hir, hcase⟩ := hrel
      have HZ := Lib.hid hzl
      have hzk : zs.length ≤ k := by omega
      clear hzl
      rcases hcase with ⟨l', rfl, hle, hN⟩ | ⟨x, rfl, hle, hN⟩
      · have HN := Lib.hid hN
        clear hN
        by_cases hkn : k < n
        · obtain ⟨z, a1, hz⟩ : ∃ z a1, (A.ready l').int = (z, a1) := ⟨_, _, rfl⟩
          have hci := int_any g _ wr hir
          rw [hz] at hci
          have HI := Lib.hid hz
          clear hz
          go_wp2_with fail
          refine (ready_yes _ _ _ hir).mono ?_
          rintro e w2 ⟨rfl, rfl⟩
          go_wp2_with fail
          refine hci.mono ?_
          rintro e w2 ⟨rfl, hg2, hi2⟩
          have hsz : w.heap.size ≤ w2.heap.size := Nat.le_trans hgr.size hg2.size
          have hown2 := own_apart hown hg2 (fun b hb => h.lt b hb)
          clear hown hir hci
          go_wp2_with (at_builtin; refine wpList_append_own _ rfl _ _ 23 rfl w.heap.size 3 i0 (.int .i64 0) 1 8 Try.underlying23 hi0 hz0 hz1 hz2 rfl (by decide) _ _ _ rfl (hown2.alloc _) ⟨w2.heap.size, 0, none⟩ 1 1 [Value.int .i64 z] rfl rfl ?c1 ?c2 ?c3 ?c4 ?c5 ?_)
          case c1 =>
            intro j u hj
            match j, hj with
            | 0, hj => simp at hj; subst hj; simp [Addr.add]
          case c2 => intro u hu; simp at hu; subst hu; rfl
          case c3 => unfold maxLen; omega
          case c4 => omega
          case c5 => simp; omega
          intro v' w3 hown' hgrow _
          have hg3 := app_grown (grown_trans hgr hg2 (fun _ _ => .inr rfl)) hown2 hgrow
          have hi3 := app_is hi2 hown2 hgrow (fun b hb => h.lt b hb)
          clear hg2 hi2 hown2
          go_wp2
          go_roundw
          case rel =>
            refine ⟨k + 1, zs ++ [z], a1, hkn, by go_num, by simp [HZ.out], by simpa using hown', hg3, hi3, ?_⟩
            cases a1 with
            | bad x =>
              refine .inr ⟨x, rfl, by simp; omega, ?_⟩
              rw [HN.out, show n - k = (n - k - 1) + 1 by omega, intsN_bad _ _ _ _ HI.out]
              rfl
            | ready l2 =>
              have hl2 := int_len _ _ _ HI.out
              refine .inl ⟨l2, rfl, by simp; omega, ?_⟩
              rw [HN.out, show n - k = (n - (k + 1)) + 1 by omega, intsN_more _ _ _ _ _ HI.out]
          case measure => simp [intOf]; omega
        · have hkk : n = k := by omega
          have HK := Lib.hid hkk
          clear hkk
          have hd : decide ((k : Int) < (n : Int)) = false := by simpa using hkn
          go_wp2_with fail
          refine (ready_yes _ _ _ hir).mono ?_
          rintro e w2 ⟨rfl, rfl⟩
          go_wp2
          go_ret
          have e1 : intsN n l = (zs, .ready l') := by
            rw [HN.out, show n - k = 0 by have := HK.out; omega]
            simp [intsN, intsP]
          rw [e1]
          exact ⟨_, rfl, hown, hgr, hir⟩
      · have HN := Lib.hid hN
        clear hN
        by_cases hkn : k < n
        · go_wp2_with fail
          refine (good_no _ _ _ hir).mono ?_
          rintro e w2 ⟨rfl, rfl⟩
          go_wp2_with fail
          refine (good_no _ _ _ hir).mono ?_
          rintro e w2 ⟨rfl, rfl⟩
          go_wp2
          go_ret
          rw [HN.out]
          exact ⟨_, rfl, World.ownsRow_nil _ _ _ _, hgr, hir⟩
        · go_wp2_with fail
          refine (good_no _ _ _ hir).mono ?_
          rintro e w2 ⟨rfl, rfl⟩
          go_wp2
          go_ret
          rw [HN.out]
          exact ⟨_, rfl, World.ownsRow_nil _ _ _ _, hgr, hir⟩

def NP (s : ByteArray) (w : World) (e : Ending) (w' : World) : Prop := e = .returned (pt (some w.heap.size)) ∧ Below w.heap.size w w' ∧ Is w' (some w.heap.size) (.ready s.data.toList)

theorem new_any (s : ByteArray) (w : World) (hs : s.size ≤ 140737488355328) : Calls Try.prog 27 #[.string s] w (NP s w) := by
  go_enter Try.func27, Try.ntmps27
  go_wp2
  go_ret
  exact ⟨rfl, (Below.refl _ _).alloc (Nat.le_refl _) _, Is.ready_of (p := 0) (Blk.new w _ _) (Nat.zero_le _) hs⟩

end Go.Proofs.Ytmnlijeflcedcaa.Ref04Rd
