/-
  Layer 21: a polyline that grows point by point (program).
-/
import Derived.Test.YtflopcogalknhaaDoorKStrDb
import Derived.Test.YtflopcogalknhaaDoorKStrRq
set_option linter.unusedVariables false
set_option linter.unusedSimpArgs false
namespace Go.Proofs.YtflopcogalknhaaDoor.Str
open Go.RowKit Go.Proofs.YtflopcogalknhaaDoor Go.Proofs.YtflopcogalknhaaDoor.NumPure

/-- A polyline in a row of one's own, which a variable of one's own holds. -/
def PO (w0 : World) (gp : Nat) (D : List P2) (W : World) : Prop := ∃ v, R1 30 2 w0 v D.length (pts D) none W ∧ Blk W gp 36 #[v] ∧ w0.heap.size ≤ gp
theorem blk1 {w : World} {g : Nat} {t : TypeId} {a : Value} (h : Blk w g t #[a]) : w.cell? ⟨g, 0, none⟩ = some a ∧ ∀ o, w.frozen? ⟨g, o, none⟩ = false := ⟨h.cell 0, h.frozen⟩
theorem PO.below {w0 W W' : World} {gp : Nat} {D : List P2} (h : PO w0 gp D W) (hb : Below W.heap.size W W') : PO w0 gp D W' := by
  obtain ⟨v, h1, h2, h3⟩ := h
  exact ⟨v, h1.later hb, h2.below hb h2.lt, h3⟩
theorem PO.out {w0 W : World} {gp : Nat} {D : List P2} (h : PO w0 gp D W) : Below w0.heap.size w0 W := by
  obtain ⟨v, h1, _⟩ := h
  exact h1.below
theorem PO.set {w0 W : World} {gp : Nat} {D : List P2} {v v' : Value} (h : R1 30 2 w0 v' D.length (pts D) none W) (hb : Blk W gp 36 #[v]) (hg : w0.heap.size ≤ gp) : PO w0 gp D (W.setCell ⟨gp, 0, none⟩ v') := by
  rw [setCell_eq_setRow W gp 0 _ _ _ _ hb]
  refine ⟨v', ⟨own_at h.row fun k hk => setRow_other _ _ _ _ (own_ne_blk h.row hb (by decide) k hk), (fun _ _ e => by cases e), below_setRow h.below hg _⟩, Blk.row hb _, hg⟩
set_option maxRecDepth 100000 in
set_option maxHeartbeats 2000000 in
theorem padd_any {w0 w : World} {gp : Nat} {D : List P2} (hO : PO w0 gp D w) (hD : D ≠ []) (hl : D.length ≤ 1048576) (p : P2) :
    Calls Tryd.prog 58 #[.agg #[.int .i64 p.1, .int .i64 p.2], .pointer (some ⟨gp, 0, none⟩)] w fun e w' => e = .returned (.tuple #[]) ∧ PO w0 gp (addp D p) w' := by
  obtain ⟨v, hr, hb, hg⟩ := hO
  obtain ⟨k, hk⟩ : ∃ k, D.length = k + 1 := by
    cases D with
    | nil => exact absurd rfl hD
    | cons a r => exact ⟨r.length, rfl⟩
  have hla := last_at hk
  have hkl : k < D.length := by omega
  have hrow := hr.row
  rw [hk] at hrow
  obtain ⟨o, cap, rfl⟩ := own_shape hrow
  obtain ⟨x, y⟩ := p
  have hp : PtR w (some ⟨o, 0, none⟩) D := by
    have := Reads.of_own hrow
    unfold PtR
    rw [hk]
    exact this
  have hbx : Below w.heap.size w (w.alloc (.cells #[.int .i64 x, .int .i64 y] 30)) := (Below.refl _ _).alloc (Nat.le_refl _) _
  obtain ⟨b0, b1⟩ := pt_cells0 (hp.below hbx) k hkl
  have b2 := (blk1 (hb.below hbx hb.lt)).1
  obtain ⟨q, hq⟩ : ∃ q, D[k] = q := ⟨_, rfl⟩
  rw [hq] at b0 b1 hla
  have HR := Lib.hid (hr.later hbx)
  have HB := Lib.hid (hb.below hbx hb.lt)
  have HG := Lib.hid hg
  have HBX := Lib.hid hbx
  have HK := Lib.hid hk
  have k1 : IntKind.i64.wrap (k : Int) = (k : Int) := i64w (by omega) (by omega)
  have k2 : (k : Int) < (k : Int) + 1 := by omega
  have k3 : (0 : Int) ≤ (k : Int) := by omega
  obtain ⟨t0, hi0, hz0, hz1, hz2⟩ := info_parts infoP
  clear hr hb hg hrow hp hbx hD hq
  clear hkl
  by_cases he : (x, y) = q
  · subst he
    have q0 := neq_self (x, y)
    have HS : Hid (addp D (x, y) = D) := Lib.hid (by unfold addp; rw [if_pos hla])
    clear hla
    dsimp only at b0 b1 q0
    go_enter Tryd.func58, Tryd.ntmps58
    go_wp2_with fail
    go_quiet (fail)
    go_wp2_with fail
    go_end0
    have hbq := drew_below (n := nq) (Below.refl (w.alloc (.cells #[.int .i64 x, .int .i64 y] 30)).heap.size (w.alloc (.cells #[.int .i64 x, .int .i64 y] 30)))
    exact ⟨rfl, by rw [HS.out]; exact PO.below ⟨_, HR.out, HB.out, HG.out⟩ hbq⟩
  · have q0 := neq_of he
    have HS : Hid (addp D (x, y) = D ++ [(x, y)]) := Lib.hid (by
      unfold addp
      rw [if_neg]
      rw [hla]
      intro h
      injection h with h
      exact he h.symm)
    obtain ⟨u, z⟩ := q
    clear hla he
    dsimp only at b0 b1 q0
    go_enter Tryd.func58, Tryd.ntmps58
    go_wp2_with fail
    go_quiet (fail)
    have hbq := drew_below (n := nq) (Below.refl (w.alloc (.cells #[.int .i64 x, .int .i64 y] 30)).heap.size (w.alloc (.cells #[.int .i64 x, .int .i64 y] 30)))
    obtain ⟨W1, hW1⟩ : ∃ W, (w.alloc (.cells #[.int .i64 x, .int .i64 y] 30)).drewN nq = W := ⟨_, rfl⟩
    have e0 : W1.cell? ⟨w.heap.size, 0, none⟩ = some (.int .i64 x) ∧ W1.cell? ⟨w.heap.size, 1, none⟩ = some (.int .i64 y) := by rw [← hW1]; exact ⟨(Blk.new w 30 #[.int .i64 x, .int .i64 y]).cell 0, (Blk.new w 30 #[.int .i64 x, .int .i64 y]).cell 1⟩
    rw [hW1] at hbq
    rw [hW1]
    have HR1 := Lib.hid (HR.out.later hbq)
    have HB1 := Lib.hid (HB.out.below hbq HB.out.lt)
    obtain ⟨e0, e1⟩ := e0
    have e2 := (blk1 HB1.out).1
    clear b0 b1 b2 q0 hW1 hbq
    rw [HK.out] at HR1
    go_wp2_with (at_builtin; refine wpList_append_own _ rfl _ _ 36 rfl w0.heap.size 30 t0 (.agg #[.int .i64 0, .int .i64 0]) 2 16 Tryd.underlying36 hi0 hz0 hz1 hz2 rfl (by decide) _ _ _ rfl (own_below HR1.out.row ((Below.refl _ _).alloc (Nat.le_refl _) _)) ⟨W1.heap.size, 0, none⟩ 1 1 [.int .i64 x, .int .i64 y] rfl rfl (World.news_of_block (Blk.new _ _ _)) ?c2 ?c3 ?c4 ?c5 ?_)
    case c2 => intro u hu; simp only [List.mem_cons, List.not_mem_nil, or_false] at hu; rcases hu with rfl | rfl <;> rfl
    case c3 => unfold maxLen; omega
    case c4 => omega
    case c5 => simp; have := HR1.out.below.size; omega
    intro v' w7 hown' hgrow _
    have HR7 := Lib.hid ((HR1.out.lit #[.int .i64 x, .int .i64 y]).app hown' hgrow)
    have hb7 : Blk w7 gp 36 #[.slice (some ⟨o, 0, none⟩) (k + 1) cap] := by
      have h1 := (HB1.out.alloc (.cells #[.int .i64 x, .int .i64 y] 30))
      exact (hgrow.block gp h1.lt (fun e => own_ne_blk HR1.out.row HB1.out (by decide) gp e.symm rfl)).trans h1
    have HB7 := Lib.hid hb7
    obtain ⟨o2, cap2, rfl⟩ := own_shape HR7.out.row
    obtain ⟨z9, z8⟩ := blk1 hb7
    clear hb7 hown' hgrow e0 e1 e2
    go_wp2_with fail
    go_end0
    refine ⟨rfl, ?_⟩
    rw [HS.out]
    refine PO.set ?_ HB7.out HG.out
    rw [List.length_append, List.length_singleton, HK.out, pts_app]
    exact HR7.out
end Go.Proofs.YtflopcogalknhaaDoor.Str
