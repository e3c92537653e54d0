/-
  The methods of package wire's reader, in every state, by what they answer on the bytes that are left.
-/
import Derived.Test.YtmnlijeflcedcaaWireRd
namespace Go.Proofs.Ytmnlijeflcedcaa.WireRd
open Go.RowKit Go.Proofs.Ytmnlijeflcedcaa Go.Proofs.Ytmnlijeflcedcaa.WirePure

def RP (g : Option Nat) (v : Value) (a' : A) (w : World) (e : Ending) (w' : World) : Prop := e = .returned v ∧ w.grownBy w' g ∧ Is w' g a'

theorem Is.ready_of {w : World} {b : Nat} {s : ByteArray} {p : Nat} (hb : Blk w b 52 (rdCells true s p 0)) (hp : p ≤ s.size) (hs : s.size ≤ 140737488355328) : Is w (some b) (.ready (s.data.toList.drop p)) :=
  ⟨b, s, p, rfl, hb, hp, hs, rfl⟩
theorem Is.bad_of {w : World} {b : Nat} {s : ByteArray} {p : Nat} {e : Int} (hb : Blk w b 52 (rdCells true s p e)) (he : e ≠ 0) : Is w (some b) (.bad e) :=
  .inr (.inr ⟨b, s, p, rfl, by simpa using he, hb⟩)

theorem ready_yes (g : Option Nat) (l : List UInt8) (w : World) (h : Is w g (.ready l)) :
    Calls Try.prog 35 #[pt g] w fun e w' => e = .returned (.bool true) ∧ w = w' := by
  obtain ⟨b, s, p, rfl, hb, hp, hs, rfl⟩ := h
  exact ready_at b s p w hb

theorem uint_any (g : Option Nat) (a : A) (w : World) (h : Is w g a) :
    Calls Try.prog 23 #[pt g] w (RP g (.int .u64 a.uint.1) a.uint.2 w) := by
  cases a with
  | bad x =>
    refine (uint_bad g x w h).mono ?_
    rintro e w' ⟨rfl, rfl⟩
    exact ⟨rfl, World.grownBy.refl _ _, h⟩
  | ready l =>
    obtain ⟨b, s, p, rfl, hb, hp, hs, rfl⟩ := h
    refine (uint_at b s p w hs hp hb).mono ?_
    rintro e w' ⟨p', rfl, hg, hb', hp', hl⟩
    by_cases h0 : (uv 0 0 (s.data.toList.drop p)).1 = 0
    · have e1 : (A.ready (s.data.toList.drop p)).uint = ((uv 0 0 (s.data.toList.drop p)).2.1, .ready (uv 0 0 (s.data.toList.drop p)).2.2) := by simp only [A.uint]; rw [if_pos h0]
      rw [e1]
      rw [h0] at hb'
      refine ⟨rfl, hg, ?_⟩
      rw [← hl h0]
      exact Is.ready_of hb' hp' hs
    · have e1 : (A.ready (s.data.toList.drop p)).uint = (0, .bad (uv 0 0 (s.data.toList.drop p)).1) := by simp only [A.uint]; rw [if_neg h0]
      rw [e1]
      refine ⟨by rw [uv_zero _ _ _ h0], hg, Is.bad_of hb' h0⟩

set_option maxHeartbeats 400000 in
theorem int_any (g : Option Nat) (a : A) (w : World) (h : Is w g a) :
    Calls Try.prog 22 #[pt g] w (RP g (.int .i64 a.int.1) a.int.2 w) := by
  have hlt := a.uint_lt
  obtain ⟨n, a', hu⟩ : ∃ n a', a.uint = (n, a') := ⟨_, _, rfl⟩
  have hc := uint_any g a w h
  unfold A.int
  rw [hu] at hc hlt ⊢
  simp only at hlt
  clear hu
  have hsg : IntKind.i64.signed = true := rfl
  by_cases h2 : n % 2 = 1
  · have t : (((n : Int) % 2) == 1) = true := by simp; omega
    have HZ : Hid (Lib.unzigzag n = -((n / 2 : Nat) : Int) - 1) := by unfold Lib.unzigzag; rw [if_neg (by omega)]; exact rfl
    clear h2
    go_enter Try.func22, Try.ntmps22
    go_wp2_with (go_at_call 23; refine hc.mono ?_; rintro e w' ⟨rfl, hg, hi⟩)
    go_ret
    exact ⟨congrArg (fun z => Ending.returned (.int .i64 z)) (by rw [HZ.out]; exact not_i64 (n / 2) (by omega)), hg, hi⟩
  · have t : (((n : Int) % 2) == 1) = false := by simp; omega
    have HZ : Hid (Lib.unzigzag n = ((n / 2 : Nat) : Int)) := by unfold Lib.unzigzag; rw [if_pos (by omega)]; exact rfl
    clear h2
    go_enter Try.func22, Try.ntmps22
    go_wp2_with (go_at_call 23; refine hc.mono ?_; rintro e w' ⟨rfl, hg, hi⟩)
    go_ret
    exact ⟨congrArg (fun z => Ending.returned (.int .i64 z)) (by rw [HZ.out]; rfl), hg, hi⟩

theorem blk_to {W : World} {g q : Nat} {s : ByteArray} (n : Nat) (hb : Blk W g 52 (rdCells true s q 0)) : Blk (W.setCell ⟨g, 2, none⟩ (.int .i64 ((q : Int) + n))) g 52 (rdCells true s (q + n) 0) := by
  have := hb.set_ 2 (.int .i64 ((q : Int) + n))
  simpa [rdCells] using this

theorem blk_err {W : World} {g q : Nat} {s : ByteArray} {x : Int} (hb : Blk W g 52 (rdCells true s q 0)) : Blk (W.setCell ⟨g, 3, none⟩ (.int .i64 x)) g 52 (rdCells true s q x) := by
  have := hb.set_ 3 (.int .i64 x)
  simpa [rdCells] using this

theorem count_bad (most : Int) (a : A) (n : Nat) (e : Int) (h : a.uint = (n, .bad e)) : a.count most = (0, .bad e) := by
  unfold A.count; rw [h]
theorem count_big (most : Int) (a : A) (n : Nat) (l : List UInt8) (h : a.uint = (n, .ready l)) (hn : max most 0 < n) : a.count most = (0, .bad 3) := by
  unfold A.count; rw [h]; simp only; rw [if_pos hn]
theorem count_ok (most : Int) (a : A) (n : Nat) (l : List UInt8) (h : a.uint = (n, .ready l)) (hn : ¬ max most 0 < n) : a.count most = (n, .ready l) := by
  unfold A.count; rw [h]; simp only; rw [if_neg hn]

theorem count_le (a : A) (most : Int) (hm : most ≤ 9223372036854775807) : ((a.count most).1 : Int) ≤ 9223372036854775807 := by
  obtain ⟨n, a', hu⟩ : ∃ n a', a.uint = (n, a') := ⟨_, _, rfl⟩
  cases a' with
  | bad x => rw [count_bad most a n x hu]; simp
  | ready l =>
    by_cases hn : max most 0 < n
    · rw [count_big most a n l hu hn]; simp
    · rw [count_ok most a n l hu hn]; simp only; omega

set_option maxHeartbeats 400000 in
theorem count_any (g : Option Nat) (a : A) (most : Int) (w : World) (h : Is w g a) (hm : most ≤ 9223372036854775807) :
    Calls Try.prog 34 #[pt g, .int .i64 most] w (RP g (.int .i64 (a.count most).1) (a.count most).2 w) := by
  obtain ⟨n, a', hu⟩ : ∃ n a', a.uint = (n, a') := ⟨_, _, rfl⟩
  have hc := uint_any g a w h
  have hlt := a.uint_lt
  rw [hu] at hc hlt
  simp only at hlt
  cases a' with
  | bad x =>
    rw [count_bad most a n x hu]
    clear hu
    go_enter Try.func34, Try.ntmps34
    go_wp2_with fail
    refine hc.mono ?_
    rintro e w' ⟨rfl, hg, hi⟩
    go_wp2_with (go_at_call 35; refine (ready_bad _ _ _ hi).mono ?_; rintro e w' ⟨rfl, rfl⟩)
    go_ret
    exact ⟨rfl, hg, hi⟩
  | ready l =>
    by_cases hn : max most 0 < n
    · rw [count_big most a n l hu hn]
      clear hu
      go_enter Try.func34, Try.ntmps34
      go_wp2_with fail
      refine hc.mono ?_
      rintro e w' ⟨rfl, hg, b, s, p, rfl, hb, hp, hs, rfl⟩
      have c0 := hb.cell 3
      have f0 := hb.frozen 3
      have hpt : pt (some b) = .pointer (some ⟨b, 0, none⟩) := rfl
      simp only [rdCells] at c0
      go_wp2_with (go_at_call 35; refine (ready_at _ _ _ _ hb).mono ?_; rintro e w' ⟨rfl, rfl⟩)
      all_goals
        go_ret
        exact ⟨rfl, grown_set hg _ _, Is.bad_of (blk_err hb) (by decide)⟩
    · rw [count_ok most a n l hu hn]
      clear hu
      go_enter Try.func34, Try.ntmps34
      go_wp2_with fail
      refine hc.mono ?_
      rintro e w' ⟨rfl, hg, hi⟩
      go_wp2_with (go_at_call 35; refine (ready_yes _ _ _ hi).mono ?_; rintro e w' ⟨rfl, rfl⟩)
      all_goals
        go_ret
        exact ⟨rfl, hg, hi⟩

theorem left_any (g : Option Nat) (a : A) (w : World) (h : Is w g a) :
    Calls Try.prog 25 #[pt g] w fun e w' => e = .returned (.int .i64 a.left) ∧ ∃ n, w' = w.drewN n := by
  cases a with
  | bad x =>
    go_enter Try.func25, Try.ntmps25
    go_wp2_with (go_at_call 35; refine (ready_bad _ _ _ h).mono ?_; rintro e w' ⟨rfl, rfl⟩)
    go_ret
    exact ⟨rfl, 0, rfl⟩
  | ready l =>
    obtain ⟨b, s, p, rfl, hb, hp, hs, rfl⟩ := h
    have c1 := hb.cell 1
    have c2 := hb.cell 2
    have hpt : pt (some b) = .pointer (some ⟨b, 0, none⟩) := rfl
    simp only [rdCells] at c1 c2
    have HL : Hid ((A.ready (s.data.toList.drop p)).left = s.size - p) := by
      show (s.data.toList.drop p).length = s.size - p
      rw [List.length_drop, Array.length_toList]
      exact rfl
    go_enter Try.func25, Try.ntmps25
    go_wp2_with (go_at_call 35; refine (ready_at _ _ _ _ hb).mono ?_; rintro e w' ⟨rfl, rfl⟩)
    go_quiet (fail)
    go_wp2
    go_ret
    refine ⟨congrArg (fun z => Ending.returned (.int .i64 z)) ?_, _, rfl⟩
    rw [HL.out]
    omega

theorem err_any (g : Option Nat) (a : A) (w : World) (h : Is w g a) :
    Calls Try.prog 26 #[pt g] w fun e w' => e = .returned (.int .i64 a.err) ∧ w = w' := by
  cases a with
  | bad x =>
    rcases h with ⟨rfl, rfl⟩ | ⟨b, s, p, e', rfl, rfl, hb⟩ | ⟨b, s, p, rfl, hx, hb⟩
    · have hpt : pt none = .pointer none := rfl
      go_enter Try.func26, Try.ntmps26
      go_wp2
      go_ret
      exact ⟨rfl, rfl⟩
    · have c0 := hb.cell 0
      have hpt : pt (some b) = .pointer (some ⟨b, 0, none⟩) := rfl
      simp only [rdCells] at c0
      go_enter Try.func26, Try.ntmps26
      go_wp2
      go_ret
      exact ⟨rfl, rfl⟩
    · have c0 := hb.cell 0
      have c3 := hb.cell 3
      have hpt : pt (some b) = .pointer (some ⟨b, 0, none⟩) := rfl
      simp only [rdCells] at c0 c3
      go_enter Try.func26, Try.ntmps26
      go_wp2
      go_ret
      exact ⟨rfl, rfl⟩
  | ready l =>
    obtain ⟨b, s, p, rfl, hb, hp, hs, rfl⟩ := h
    have c0 := hb.cell 0
    have c3 := hb.cell 3
    have hpt : pt (some b) = .pointer (some ⟨b, 0, none⟩) := rfl
    simp only [rdCells] at c0 c3
    go_enter Try.func26, Try.ntmps26
    go_wp2
    go_ret
    exact ⟨rfl, rfl⟩

theorem Is.bad_ne {w : World} {g : Option Nat} {x : Int} (h : Is w g (.bad x)) : x ≠ 0 := by
  rcases h with ⟨rfl, rfl⟩ | ⟨b, s, p, e', rfl, rfl, hb⟩ | ⟨b, s, p, rfl, hx, hb⟩
  · decide
  · decide
  · simpa using hx

theorem Is.grown {w w' : World} {g : Option Nat} {a : A} (h : Is w g a) {r : Option Nat} (hg : w.grownBy w' r) (hne : ∀ b, g = some b → some b ≠ r) : Is w' g a := by
  cases a with
  | bad x =>
    rcases h with ⟨rfl, rfl⟩ | ⟨b, s, p, e', rfl, rfl, hb⟩ | ⟨b, s, p, rfl, hx, hb⟩
    · exact .inl ⟨rfl, rfl⟩
    · exact .inr (.inl ⟨b, s, p, e', rfl, rfl, hb.grown hg (hne b rfl)⟩)
    · exact .inr (.inr ⟨b, s, p, rfl, hx, hb.grown hg (hne b rfl)⟩)
  | ready l =>
    obtain ⟨b, s, p, rfl, hb, hp, hs, rfl⟩ := h
    exact ⟨b, s, p, rfl, hb.grown hg (hne b rfl), hp, hs, rfl⟩
theorem Is.drewN {w : World} {g : Option Nat} {a : A} (h : Is w g a) (n : Nat) : Is (w.drewN n) g a := by
  cases a with
  | bad x => exact h
  | ready l => exact h

set_option maxHeartbeats 400000 in
theorem fin_any (g : Option Nat) (a : A) (w : World) (h : Is w g a) :
    Calls Try.prog 24 #[pt g] w fun e w' => e = .returned (.int .i64 a.fin) ∧ ∃ n, w' = w.drewN n := by
  cases a with
  | bad x =>
    have hx := h.bad_ne
    have t : (x != 0) = true := by simpa using hx
    have t2 : (x == 0) = false := by simpa using hx
    clear hx
    go_enter Try.func24, Try.ntmps24
    go_wp2_with (go_at_call 26; refine (err_any _ _ _ h).mono ?_; rintro e w' ⟨rfl, rfl⟩; simp only [A.err])
    go_ret
    exact ⟨rfl, 0, rfl⟩
  | ready l =>
    by_cases hl : l.length = 0
    · have HL : Hid ((A.ready l).fin = 0) := by simp only [A.fin]; rw [if_pos hl]; exact rfl
      have HT : Hid ((A.ready l).left = 0) := hl
      clear hl
      go_enter Try.func24, Try.ntmps24
      go_wp2_with fail
      refine (err_any _ _ _ h).mono ?_
      rintro e w' ⟨rfl, rfl⟩
      simp only [A.err]
      go_wp2_with fail
      refine (left_any _ _ _ h).mono ?_
      rintro e w' ⟨rfl, n, rfl⟩
      rw [HT.out]
      go_wp2
      go_ret
      exact ⟨by rw [HL.out]; rfl, _, rfl⟩
    · have HL : Hid ((A.ready l).fin = 6) := by simp only [A.fin]; rw [if_neg hl]; exact rfl
      have hp : 0 < (A.ready l).left := by simp only [A.left]; omega
      clear hl
      go_enter Try.func24, Try.ntmps24
      go_wp2_with fail
      refine (err_any _ _ _ h).mono ?_
      rintro e w' ⟨rfl, rfl⟩
      simp only [A.err]
      go_wp2_with fail
      refine (left_any _ _ _ h).mono ?_
      rintro e w' ⟨rfl, n, rfl⟩
      go_wp2
      go_ret
      exact ⟨by rw [HL.out]; rfl, _, rfl⟩

set_option maxHeartbeats 400000 in
theorem fail_any (g : Option Nat) (a : A) (x : Int) (w : World) (h : Is w g a) :
    Calls Try.prog 41 #[pt g, .int .i64 x] w (RP g (.tuple #[]) (a.fail x) w) := by
  cases a with
  | bad x =>
    go_enter Try.func41, Try.ntmps41
    go_wp2_with (go_at_call 35; refine (ready_bad _ _ _ h).mono ?_; rintro e w' ⟨rfl, rfl⟩)
    go_end0
    exact ⟨rfl, World.grownBy.refl _ _, h⟩
  | ready l =>
    obtain ⟨b, s, p, rfl, hb, hp, hs, rfl⟩ := h
    have c3 := hb.cell 3
    have f3 := hb.frozen 3
    have hpt : pt (some b) = .pointer (some ⟨b, 0, none⟩) := rfl
    simp only [rdCells] at c3
    go_enter Try.func41, Try.ntmps41
    go_wp2_with (go_at_call 35; refine (ready_at _ _ _ _ hb).mono ?_; rintro e w' ⟨rfl, rfl⟩)
    go_end0
    refine ⟨rfl, grown_set (World.grownBy.refl _ _) _ _, ?_⟩
    simp only [A.fail]
    by_cases h0 : x = 0
    · rw [if_pos h0]
      subst h0
      exact Is.ready_of (blk_err hb) hp hs
    · rw [if_neg h0]
      exact Is.bad_of (blk_err hb) h0

theorem text_bad (most : Int) (a : A) (n : Nat) (e : Int) (h : a.count most = (n, .bad e)) : a.text most = ([], .bad e) := by
  unfold A.text; rw [h]
theorem text_short (most : Int) (a : A) (n : Nat) (l : List UInt8) (h : a.count most = (n, .ready l)) (hn : l.length < n) : a.text most = ([], .bad 5) := by
  unfold A.text; rw [h]; simp only; rw [if_pos hn]
theorem text_ok (most : Int) (a : A) (n : Nat) (l : List UInt8) (h : a.count most = (n, .ready l)) (hn : n ≤ l.length) : a.text most = (l.take n, .ready (l.drop n)) := by
  unfold A.text; rw [h]; simp only; rw [if_neg (by omega)]

theorem left_at (g : Nat) (s : ByteArray) (p : Nat) (w : World) (hb : Blk w g 52 (rdCells true s p 0)) (hp : p ≤ s.size) (hs : s.size ≤ 140737488355328) :
    Calls Try.prog 25 #[.pointer (some ⟨g, 0, none⟩)] w fun e w' => e = .returned (.int .i64 ((s.size : Int) - p)) ∧ ∃ n, w' = w.drewN n := by
  refine (left_any (some g) _ w (Is.ready_of hb hp hs)).mono ?_
  rintro e w' ⟨rfl, h⟩
  refine ⟨congrArg (fun z => Ending.returned (.int .i64 z)) ?_, h⟩
  show ((s.data.toList.drop p).length : Int) = _
  rw [List.length_drop, Array.length_toList]
  show ((s.size - p : Nat) : Int) = _
  omega

theorem extract_eq (s : ByteArray) (p n : Nat) : s.extract p (p + n) = ⟨((s.data.toList.drop p).take n).toArray⟩ := by
  apply ByteArray.ext
  rw [ByteArray.data_extract]
  apply Array.ext'
  simp [List.take_drop]

set_option maxHeartbeats 1000000 in
theorem text_any (g : Option Nat) (a : A) (most : Int) (w : World) (h : Is w g a) (hm : most ≤ 9223372036854775807) :
    Calls Try.prog 19 #[pt g, .int .i64 most] w (RP g (.string ⟨(a.text most).1.toArray⟩) (a.text most).2 w) := by
  obtain ⟨n, a', hu⟩ : ∃ n a', a.count most = (n, a') := ⟨_, _, rfl⟩
  have hc := count_any g a most w h hm
  have hlt : n ≤ 9223372036854775807 := by
    have : (n : Int) ≤ 9223372036854775807 := by
      rw [show n = (a.count most).1 by rw [hu]]
      exact count_le a most hm
    omega
  rw [hu] at hc
  cases a' with
  | bad x =>
    rw [text_bad most a n x hu]
    clear hu
    go_enter Try.func19, Try.ntmps19
    go_wp2_with fail
    refine hc.mono ?_
    rintro e w' ⟨rfl, hg, hi⟩
    go_wp2_with (go_at_call 35; refine (ready_bad _ _ _ hi).mono ?_; rintro e w' ⟨rfl, rfl⟩)
    go_ret
    exact ⟨rfl, hg, hi⟩
  | ready l =>
    by_cases hn : l.length < n
    · rw [text_short most a n l hu hn]
      clear hu
      go_enter Try.func19, Try.ntmps19
      go_wp2_with fail
      refine hc.mono ?_
      rintro e w' ⟨rfl, hg, b, s, p, rfl, hb, hp, hs, rfl⟩
      have hpt : pt (some b) = .pointer (some ⟨b, 0, none⟩) := rfl
      have hn' : (s.size : Int) - p < n := by
        rw [List.length_drop, Array.length_toList] at hn
        have : s.data.size = s.size := rfl
        omega
      clear hn
      have c3 := hb.cell 3
      have f3 := hb.frozen 3
      simp only [rdCells] at c3
      go_wp2_with (first | (go_at_call 35; refine (ready_at _ _ _ _ hb).mono ?_; rintro e w' ⟨rfl, rfl⟩) | (go_at_call 25; refine (left_at _ _ _ _ hb hp hs).mono ?_; rintro e w' ⟨rfl, nd, rfl⟩))
      go_ret
      exact ⟨rfl, grown_set (grown_drewN hg _) _ _, Is.bad_of (blk_err (hb.drewN _)) (by decide)⟩
    · rw [text_ok most a n l hu (by omega)]
      clear hu
      go_enter Try.func19, Try.ntmps19
      go_wp2_with fail
      refine hc.mono ?_
      rintro e w' ⟨rfl, hg, b, s, p, rfl, hb, hp, hs, rfl⟩
      have hpt : pt (some b) = .pointer (some ⟨b, 0, none⟩) := rfl
      have hn' : (n : Int) ≤ (s.size : Int) - p := by
        rw [List.length_drop, Array.length_toList] at hn
        have : s.data.size = s.size := rfl
        omega
      clear hn
      have c1 := hb.cell 1
      have c2 := hb.cell 2
      have f2 := hb.frozen 2
      simp only [rdCells] at c1 c2
      go_wp2_with (first | (go_at_call 35; refine (ready_at _ _ _ _ hb).mono ?_; rintro e w' ⟨rfl, rfl⟩) | (go_at_call 25; refine (left_at _ _ _ _ hb hp hs).mono ?_; rintro e w' ⟨rfl, nd, rfl⟩))
      go_quiet (fail)
      go_wp2
      go_ret
      refine ⟨by rw [← extract_eq]; rfl, grown_set (grown_drewN hg _) _ _, ?_⟩
      rw [List.drop_drop]
      exact Is.ready_of (blk_to n (hb.drewN _)) (by omega) hs

end Go.Proofs.Ytmnlijeflcedcaa.WireRd
