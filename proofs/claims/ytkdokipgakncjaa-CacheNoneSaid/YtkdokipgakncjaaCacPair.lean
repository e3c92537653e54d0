/-
  Layer 36's laws: the program's cache beside the document's.
-/
import Derived.Test.YtkdokipgakncjaaCacStep
namespace Go.Proofs.Ytkdokipgakncjaa.Cac
open Go.RowKit Go.Proofs.Ytkdokipgakncjaa

def RPo (B h : Nat) (s : St) : Cac.Obj := fun W M => IsR W B h s M
theorem obRP (B h : Nat) (s : St) : Ob (RPo B h s) B := obR B h s
/-- Both caches at one state. -/
abbrev PairC (B g h m : Nat) (s : St) : Cac.Obj := Both (CP B g m s) (RPo B h s)
theorem obP (B g h m : Nat) (s : St) : Ob (PairC B g h m s) B := (obC _ _ _ _).both (obRP _ _ _)
theorem Left.out {B g m m' : Nat} {s s' : St} {M : List Nat} {w w' : World} (h : Left B g m s M w w') (hm : m ≤ m') (e : s = s') (hok : s'.ok m') : Out (CP B g m' s') M w w' := by
  subst e
  obtain ⟨M', h1, h2, h3⟩ := h
  exact ⟨M', ⟨h1.more hm, hok⟩, h2, h3⟩
theorem ROut.as {B h : Nat} {s s' : St} {M : List Nat} {w w' : World} (hr : ROut B h s M w w') (e : s = s') : Out (RPo B h s') M w w' := by subst e; exact hr
theorem getD_px {s : St} {m : Nat} (h : s.ok m) (k : K5) : ((Cac.look s.l k).getD img0).px.length ≤ 4398046511104 := by
  cases hl : Cac.look s.l k with
  | none => simp [img0]
  | some i => exact h.px _ (look_mem hl)

theorem steps_real (B g h m : Nat) (s : St) (x : CallV) (r : Value) (hok : s.ok m) (hk : K5ok x.k) (hpx : x.i.px.length ≤ 4398046511104) (hm : m ≤ 4398046511104) :
    Steps (.pointer (some ⟨g, 0, none⟩)) (.pointer (some ⟨h, 0, none⟩)) B (PairC B g h m s) (Both (CP B g (m + 1) (s.step x)) (RPo B h s)) (PairC B g h (m + 1) (s.step x)) s x r := by
  have hlen := hok.len
  have hmost := hok.most
  have hev := hok.evict
  have hok1 := hok.step_ok x hpx
  have hlen1 := hok1.len
  have hmost1 := hok1.most
  refine ⟨obP _ _ _ _ _, (obC _ _ _ _).both (obRP _ _ _), obP _ _ _ _ _, ?_, ?_, ?_, ?_, ?_, ?_, ?_, ?_, ?_, ?_, ?_, ?_, ?_, ?_, ?_, ?_, ?_⟩
  · intro h0 M W hP hB
    refine both_first (obC _ _ _ _) (obRP _ _ _) hP fun M1 h1 => ?_
    refine (get_any B g m s x.k hk M1 W h1.1 (by omega) (fun p hp => by have := hok.px p hp; omega)).mono ?_
    rintro e w' ⟨v, rfl, hI, hL⟩
    exact ⟨⟨v, rfl, hI⟩, hL.out (by omega) (step0 h0).symm hok1⟩
  · intro h0 M W hP hB
    refine both_second (obC _ _ _ _) (obRP _ _ _) hP fun M1 h1 => ?_
    refine (rget_any B h s x.k M1 W h1 (by omega) hok.nodup hB (fun p hp => by have := hok.px p hp; omega)).mono ?_
    rintro e w' ⟨v, rfl, hI, hL⟩
    exact ⟨⟨v, rfl, hI⟩, hL.as (step0 h0).symm⟩
  · exact fun _ => getD_px hok x.k
  · intro h0 M W hP hB hI
    refine both_first (obC _ _ _ _) (obRP _ _ _) hP fun M1 h1 => ?_
    refine (put_any B g m s x.k hk x.i _ M1 W h1.1 (hI.more hB) (by omega) (by omega) (by omega) (by omega) hmost hB).mono ?_
    rintro e w' ⟨rfl, hL⟩
    exact ⟨rfl, hL.out (by omega) (step1 h0).symm hok1⟩
  · intro h0 M W hP hB hI
    refine both_second (obC _ _ _ _) (obRP _ _ _) hP fun M1 h1 => ?_
    refine (rput_any B h s x.k x.i _ M1 W h1 hI (by omega) hok.nodup (by omega) (by omega) hB).mono ?_
    rintro e w' ⟨rfl, hL⟩
    exact ⟨rfl, hL.as (step1 h0).symm⟩
  · intro h0 M W hP hB
    refine both_first (obC _ _ _ _) (obRP _ _ _) hP fun M1 h1 => ?_
    refine (drop_any B g m s x.n M1 W h1.1 (by omega)).mono ?_
    rintro e w' ⟨rfl, hL⟩
    exact ⟨rfl, hL.out (by omega) (step2 h0).symm hok1⟩
  · intro h0 M W hP hB
    refine both_second (obC _ _ _ _) (obRP _ _ _) hP fun M1 h1 => ?_
    refine (rdrop_any B h s x.n M1 W h1 (by omega) hB).mono ?_
    rintro e w' ⟨rfl, hL⟩
    exact ⟨rfl, hL.as (step2 h0).symm⟩
  · intro h0 M W hP hB
    refine both_first (obC _ _ _ _) (obRP _ _ _) hP fun M1 h1 => ?_
    refine (remove_any B g m s x.k hk M1 W h1.1 (by omega)).mono ?_
    rintro e w' ⟨rfl, hL⟩
    exact ⟨rfl, hL.out (by omega) (step3 h0).symm hok1⟩
  · intro h0 M W hP hB
    refine both_second (obC _ _ _ _) (obRP _ _ _) hP fun M1 h1 => ?_
    refine (rremove_any B h s x.k M1 W h1 (by omega) hok.nodup hB).mono ?_
    rintro e w' ⟨rfl, hL⟩
    exact ⟨rfl, hL.as (step3 h0).symm⟩
  · intro h0 M W hP hB
    refine both_first (obC _ _ _ _) (obRP _ _ _) hP fun M1 h1 => ?_
    refine (resize_any B g m s x.n M1 W h1.1 (by omega) (by omega)).mono ?_
    rintro e w' ⟨rfl, hL⟩
    exact ⟨rfl, hL.out (by omega) (step4 h0).symm hok1⟩
  · intro h0 M W hP hB
    refine both_second (obC _ _ _ _) (obRP _ _ _) hP fun M1 h1 => ?_
    refine (rresize_any B h s x.n M1 W h1 (by omega) (by omega) hB).mono ?_
    rintro e w' ⟨rfl, hL⟩
    exact ⟨rfl, hL.as (step4 h0).symm⟩
  · intro M W hP hB
    obtain ⟨M1, h1⟩ := hP.one
    exact cp_keys h1 _ rfl
  · intro M W hP hB
    obtain ⟨M1, kv, iv, L, _, hL, h1⟩ := hP.two
    have hl : L.length = (s.step x).l.length := by rw [← ents_len, hL]
    refine (rkeys_rc B h _ _ kv iv L _ W h1 hl (by omega)).mono ?_
    rintro e w' ⟨A, cap, rfl, ho, hb⟩
    refine ⟨A, cap, rfl, ?_, hb⟩
    rw [← kys_ents, hL] at ho
    exact KR.of_own ho (keys_len _).symm
  · intro M W hP
    obtain ⟨M1, h1⟩ := hP.one
    exact cp_evicted h1
  · intro M W hP
    obtain ⟨M1, kv, iv, L, _, hL, h1⟩ := hP.two
    exact revicted_any B h _ _ kv iv L W h1
  · intro h0 h1 h2 h3 h4 M W hP
    rw [step5 h0 h1 h2 h3 h4]
    obtain ⟨M1, M2, e, p1, p2, p3⟩ := hP
    exact ⟨M1, M2, e, ⟨p1.1.more (by omega), p1.2.more (by omega)⟩, p2, p3⟩
  · omega
section
variable {B g h m : Nat} {s : St} {w0 W : World} {M : List Nat}
theorem pair_step (hP : PairC B g h m s W M) (x : CallV) (r : Value) (hx : CallR W B r x) (hm : m ≤ 4398046511104) (hB : B ≤ W.heap.size) :
    Calls Try.prog 11 #[.pointer (some ⟨g, 0, none⟩), .pointer (some ⟨h, 0, none⟩), cagg x r] W fun e w' => e = .returned (.bool true) ∧ Out (PairC B g h (m + 1) (s.step x)) M W w' := by
  have hok : s.ok m := by obtain ⟨M1, h1⟩ := hP.one; exact h1.2
  exact step_any _ _ B _ _ _ s x r (steps_real B g h m s x r hok hx.2.1 hx.2.2 hm) M W hP hx.1 hB
theorem pair_rkeys (hP : RPo B h s W M) (q : Nat) (hq : s.l.length = q) (hmax : q ≤ 1048576) : Calls Try.prog 14 #[.pointer (some ⟨h, 0, none⟩)] W fun e w' => ∃ A cap, e = .returned (.slice A q cap) ∧ KR w' A (keys s.l) ∧ Below W.heap.size W w' := by
  obtain ⟨kv, iv, L, _, hL, h1⟩ := hP
  have hl : L.length = q := by rw [← ents_len, hL, hq]
  refine (rkeys_rc B h _ _ kv iv L q W h1 hl hmax).mono ?_
  rintro e w' ⟨A, cap, rfl, ho, hb⟩
  refine ⟨A, cap, rfl, ?_, hb⟩
  rw [← kys_ents, hL] at ho
  exact KR.of_own ho (by rw [keys_len, hq])
theorem pair_revicted (hP : RPo B h s W M) : Calls Try.prog 16 #[.pointer (some ⟨h, 0, none⟩)] W fun e w' => e = .returned (.int .i64 s.e) ∧ W = w' := by
  obtain ⟨kv, iv, L, _, hL, h1⟩ := hP
  exact revicted_any B h _ _ kv iv L W h1
theorem PairC.facts (hP : PairC B g h m s W M) (q z : Nat) (hq : s.l.length = q) (hz : s.e = z) (L : List K5) (hL : keys s.l = L) :
    q ≤ 1024 ∧ q = L.length ∧
    (∀ W', Below W.heap.size W W' → Calls Try.prog 13 #[.pointer (some ⟨g, 0, none⟩)] W' fun e w' => ∃ A cap, e = .returned (.slice A q cap) ∧ KR w' A L ∧ Below W'.heap.size W' w') ∧
    (∀ W', Below W.heap.size W W' → Calls Try.prog 14 #[.pointer (some ⟨h, 0, none⟩)] W' fun e w' => ∃ A cap, e = .returned (.slice A q cap) ∧ KR w' A L ∧ Below W'.heap.size W' w') ∧
    (∀ W', Below W.heap.size W W' → Calls Try.prog 15 #[.pointer (some ⟨g, 0, none⟩)] W' fun e w' => e = .returned (.int .i64 z) ∧ W' = w') ∧
    (∀ W', Below W.heap.size W W' → Calls Try.prog 16 #[.pointer (some ⟨h, 0, none⟩)] W' fun e w' => e = .returned (.int .i64 z) ∧ W' = w') := by
  subst hL hz
  have h1024 : q ≤ 1024 := by obtain ⟨M1, h1⟩ := hP.one; rw [← hq]; exact cp_len h1
  refine ⟨h1024, by rw [keys_len, hq], fun W' hb => ?_, fun W' hb => ?_, fun W' hb => ?_, fun W' hb => ?_⟩ <;> have hP' := (obP B g h m s).later hP hb
  · obtain ⟨M1, h1⟩ := hP'.one
    exact cp_keys h1 q hq
  · obtain ⟨M1, h1⟩ := hP'.two
    exact pair_rkeys h1 q hq (by omega)
  · obtain ⟨M1, h1⟩ := hP'.one
    exact cp_evicted h1
  · obtain ⟨M1, h1⟩ := hP'.two
    exact pair_revicted h1
theorem hold_rnew {P : Cac.Obj} {B : Nat} {w0 W : World} (h : Hold P B w0 W) (hP : Ob P B) (n : Int) : Calls Try.prog 10 #[.int .i64 n] W fun e w' => ∃ g, e = .returned (.pointer (some ⟨g, 0, none⟩)) ∧ Hold (Both P (RPo B g (St.new n))) B w0 w' := by
  refine (rnew_any B n W h.size).mono ?_
  rintro e w' ⟨g, M, rfl, h1, h2, h3⟩
  exact ⟨g, rfl, h.join hP h1 h2 h3⟩
end
/-- The state behind j calls from a state on. -/
def runF (s0 : St) (f : Nat → CallV × Value) : Nat → St
  | 0 => s0
  | j + 1 => (runF s0 f j).step (f j).1

end Go.Proofs.Ytkdokipgakncjaa.Cac
