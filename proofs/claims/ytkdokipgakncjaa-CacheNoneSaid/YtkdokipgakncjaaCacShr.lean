/-
  Layer 36: entries evicted.
-/
import Derived.Test.YtkdokipgakncjaaCacSt
import Derived.Deep.QuietTactic
import Derived.BigQuiet
namespace Go.Proofs.Ytkdokipgakncjaa.Cac
open Go.RowKit Go.Proofs.Ytkdokipgakncjaa

theorem step_delKey {ops : Array Oper} {o : Oper} {a : Act} {W : World} {K : Act → World → Prop} {Q : Exit → Act → World → Prop} {E : Prop} (hgd : o.guard = none) (m x : Operand)
    (ho : o.op = .call { callee := .builtin .delete, args := #[m, x], argTypes := #[45, 29] }) (b n : Nat) (D : DataW Value) (hown : W.ownsMap Try.prog 29 RI b n D) (k : K5) (hk : K5ok k) (hm : a.eval m = .map (some b)) (hx : a.eval x = kagg k)
    (hK : ∀ w', w'.ownsMap Try.prog 29 RI b n (D.del (kl k)) → W.mapTurned w' b → K (a.put o.dst (.tuple #[])) w') :
    if Region.wanted o (yielded ops a.tmps) = true then Oper.wp Try.prog o a W K Q else E := by
  have hw : Region.wanted o (yielded ops a.tmps) = true := by simp [Region.wanted, hgd]
  rw [if_pos hw]
  obtain ⟨w', hrun, r1, r2⟩ := hown.drop keyed Try.underlying45 (keyOf_kagg k hk) o.type
  unfold Oper.wp
  simp [execOp, ho, resolve, invoke, builtin, hm, hx, hrun, Result.andThen]
  exact hK w' r1 r2

theorem foot_eq {g b : Nat} {ov ov' : Value} (h : ov'.ownBlock = ov.ownBlock) : ∀ k ∈ foot g b ov', k ∈ foot g b ov := fun k hk => by
  unfold foot bl at hk ⊢
  rw [h] at hk
  exact hk
/-- The first key of an order that is not empty. -/
theorem Cch.head {w : World} {B g b n bud e : Nat} {ov : Value} {D : DataW Value} {p : Ent} {r : List Ent} (h : Cch w B g b ov n D bud (p :: r) e) : ∃ o cap, ov = .slice (some ⟨o, 0, none⟩) (r.length + 1) cap ∧
    w.ownsRow B 29 5 (.slice (some ⟨o, 0, none⟩) (r.length + 1) cap) (r.length + 1) (kcs (p.1 :: keys r)) ∧ o ≠ g ∧ o ≠ b ∧ o < w.heap.size ∧
    w.cell? ⟨o, 0, none⟩ = some (.int .i64 p.1.1) ∧ w.cell? ⟨o, 1, none⟩ = some (.int .i64 p.1.2.1) ∧ w.cell? ⟨o, 2, none⟩ = some (.int .i64 p.1.2.2.1) ∧ w.cell? ⟨o, 3, none⟩ = some (.int .i64 p.1.2.2.2.1) ∧ w.cell? ⟨o, 4, none⟩ = some (.int .i64 p.1.2.2.2.2) := by
  have hr := h.ord.row
  have hl : (keys (p :: r)).length = r.length + 1 := by rw [keys_len]; rfl
  rw [hl] at hr
  obtain ⟨o, cap, rfl⟩ := own_shape hr
  have hc := key_cells hr 0 (by rw [hl]; omega)
  simp only [Nat.zero_mul, Nat.zero_add] at hc
  exact ⟨o, cap, rfl, hr, h.og o rfl, h.ob o rfl, own_lt hr o rfl, hc⟩
/-- Behind the eviction of the first entry. -/
theorem Cch.next {w w1 w2 : World} {B g b n bud e o cap : Nat} {D : DataW Value} {p : Ent} {r : List Ent} (h : Cch w B g b (.slice (some ⟨o, 0, none⟩) (r.length + 1) cap) n D bud (p :: r) e)
    (hm : w1.ownsMap Try.prog 29 RI b n (D.del (kl p.1))) (ht1 : w.grownBy w1 (some b)) (ho : w2.ownsRow B 29 5 (.slice (some ⟨o, 0, none⟩) (r.length) cap) (r.length) ((kcs (p.1 :: keys r)).take (0 * 5) ++ (kcs (p.1 :: keys r)).drop ((0 + 1) * 5))) (ht2 : w1.grownBy w2 (some o)) :
    Cch (w2.setCell ⟨g, 2, none⟩ (.slice (some ⟨o, 0, none⟩) (r.length) cap)) B g b (.slice (some ⟨o, 0, none⟩) (r.length) cap) n (D.del (kl p.1)) bud r e ∧
    Tch (foot g b (.slice (some ⟨o, 0, none⟩) (r.length + 1) cap)) w (w2.setCell ⟨g, 2, none⟩ (.slice (some ⟨o, 0, none⟩) (r.length) cap)) := by
  have hog := h.og o rfl
  have hob := h.ob o rfl
  have hgb := h.gb
  have T1 : Tch [b] w w1 := (Tch.refl _ _).grown ht1 (fun k hk => by simp at hk; subst hk; exact .inl (by simp))
  have T2 : Tch [o] w1 w2 := (Tch.refl _ _).grown ht2 (fun k hk => by simp at hk; subst hk; exact .inl (by simp))
  have T3 : Tch [g] w2 (w2.setCell ⟨g, 2, none⟩ (.slice (some ⟨o, 0, none⟩) (r.length) cap)) := (Tch.refl _ _).setCell (.inl (by simp)) _
  have T : Tch (foot g b (.slice (some ⟨o, 0, none⟩) (r.length + 1) cap)) w (w2.setCell ⟨g, 2, none⟩ (.slice (some ⟨o, 0, none⟩) (r.length) cap)) :=
    (((T1.mono (M' := foot g b (.slice (some ⟨o, 0, none⟩) (r.length + 1) cap)) (fun k hk => .inl (by simp at hk; subst hk; simp [foot]))).trans T2 (fun k hk => .inl (by simp at hk; subst hk; simp [foot, bl, Value.ownBlock]))).trans T3 (fun k hk => .inl (by simp at hk; subst hk; simp [foot])))
  have e2 : (keys r).length = r.length := keys_len r
  rw [kcs_cut (p.1 :: keys r) 0 (by simp)] at ho
  refine ⟨⟨⟨?_, ?_, h.ord.low⟩, ?_, ?_, h.low, ?_⟩, T⟩
  · have := (T2.blk (T1.blk h.ord.box (by simp; omega)) (by simp; omega)).set_ 2 (.slice (some ⟨o, 0, none⟩) (r.length) cap)
    simpa using this
  · rw [e2]
    exact T3.own ho (fun k hk => by simp [Value.ownBlock] at hk; subst hk; simp; exact hog)
  · exact T3.map (T2.map hm (by simp; omega)) (by simp; omega)
  · have h1 := h.til.rem p.1 (h.til.kok _ (by simp [keys]))
    rw [rem_head h.nodup] at h1
    exact h1.tch T h.noPix
  · have := h.nodup
    unfold keys at this ⊢
    rw [List.map_cons, List.nodup_cons] at this
    exact this.2

/-- The counter of what was evicted, set. -/
theorem Cch.count {w W : World} {B g b n bud e : Nat} {ov : Value} {D : DataW Value} {l : List Ent} (h : Cch w B g b ov n D bud l e) (hT : Tch [] w W) (z : Int) (v : Nat) (hz : z = v) :
    Cch (W.setCell ⟨g, 3, none⟩ (.int .i64 z)) B g b ov n D bud l v ∧ Tch (foot g b ov) w (W.setCell ⟨g, 3, none⟩ (.int .i64 z)) := by
  subst hz
  have T : Tch (foot g b ov) w (W.setCell ⟨g, 3, none⟩ (.int .i64 v)) := (hT.mono (fun _ hk => by simp at hk)).setCell (.inl (by simp [foot])) _
  have T1 : Tch [g] w (W.setCell ⟨g, 3, none⟩ (.int .i64 v)) := (hT.mono (fun _ hk => by simp at hk)).setCell (.inl (by simp)) _
  have hgb := h.gb
  refine ⟨⟨⟨?_, T1.own h.ord.row (fun k hk => by have := h.og k hk; simpa using this), h.ord.low⟩, T1.map h.map (by simpa using hgb), h.til.tch T h.noPix, h.low, h.nodup⟩, T⟩
  have := (hT.blk h.ord.box (by simp)).set_ 3 (.int .i64 v)
  simpa using this
def Shrunk (B g b n bud : Nat) (ov : Value) (l : List Ent) (e : Nat) (w : World) (en : Ending) (w' : World) : Prop :=
  en = .returned (.int .i64 ((l.length - bud : Nat) : Int)) ∧ ∃ ov' D', Cch w' B g b ov' n D' bud (l.drop (l.length - bud)) (e + (l.length - bud)) ∧ Tch (foot g b ov) w w' ∧ ov'.ownBlock = ov.ownBlock
theorem Shrunk.done {w wr W : World} {B g b n bud e j : Nat} {ov ov' : Value} {D' : DataW Value} {l : List Ent} {v : Value} (hv : v = .int .i64 j) (hj : j = l.length - bud) (hC : Cch wr B g b ov' n D' bud (l.drop j) e) (hT : Tch (foot g b ov) w wr) (hE : ov'.ownBlock = ov.ownBlock) (hW : Tch [] wr W) :
    Shrunk B g b n bud ov l e w (.returned v) (W.setCell ⟨g, 3, none⟩ (.int .i64 ((e : Int) + j))) := by
  subst hv hj
  obtain ⟨h1, h2⟩ := hC.count hW _ (e + (l.length - bud)) rfl
  exact ⟨rfl, ov', D', h1, hT.trans h2 (fun k hk => .inl (foot_eq hE k hk)), hE⟩
set_option maxHeartbeats 2000000 in
theorem shrink_any (B g b n e : Nat) (ov : Value) (D : DataW Value) (bud : Nat) (l : List Ent) (w : World) (h : Cch w B g b ov n D bud l e) (hmax : l.length ≤ 1048576) (hbud : bud ≤ 1024) (he : e ≤ 4398046511105) :
    Calls Try.prog 42 #[.pointer (some ⟨g, 0, none⟩)] w (Shrunk B g b n bud ov l e w) := by
  have H := Lib.hid h
  clear h
  go_enter Try.func42, Try.ntmps42
  go_wp2_with fail
  go_loopw [3] (fun t wr => ∃ (j : Nat) (ov' : Value) (D' : DataW Value), t = .int .i64 j ∧ j ≤ l.length - bud ∧ Cch wr B g b ov' n D' bud (l.drop j) e ∧ Tch (foot g b ov) w wr ∧ ov'.ownBlock = ov.ownBlock) (fun t _ => l.length - (intOf t).toNat)
  case atStart => exact ⟨0, ov, D, rfl, by omega, H.out, Tch.refl _ _, rfl⟩
  case round =>
    obtain ⟨j, ov', D', rfl, hj, hC, hT, hE⟩ := hrel
    by_cases hgt : bud < l.length - j
    · obtain ⟨p, r, hpr⟩ : ∃ p r, l.drop j = p :: r := by
        cases hd : l.drop j with
        | nil => have := congrArg List.length hd; rw [List.length_drop] at this; simp at this; omega
        | cons p r => exact ⟨p, r, rfl⟩
      have hlen : l.length - j = r.length + 1 := by rw [← List.length_drop, hpr]; rfl
      have hdr : l.drop (j + 1) = r := by rw [← List.drop_drop, hpr]; rfl
      rw [hpr] at hC
      rw [hlen] at hgt
      obtain ⟨y0, y1, y2, y3, yf⟩ := blk4 hC.ord.box
      have hkok := hC.til.kok p.1 (by simp [keys])
      have hmap := hC.map
      have hgl := hC.ord.box.lt
      have hgb := hC.gb
      obtain ⟨o, cap, rfl, hrow, hog, hob, hol, z0, z1, z2, z3, z4⟩ := hC.head
      have HC := Lib.hid hC
      have HT := Lib.hid hT
      have HE := Lib.hid hE
      have HL := Lib.hid hlen
      have HD := Lib.hid hdr
      have HP := Lib.hid hpr
      have HK := Lib.hid hkok
      have HM := Lib.hid hmap
      have HR := Lib.hid hrow
      have hq1 : r.length + 1 ≤ 1048576 := by omega
      clear hC hT hE hlen hdr hpr hkok hmap hrow
      go_wp2_with fail
      go_quiet (fail)
      go_wp2_with fail
      go_region_law (refine step_delKey rfl (.tmp 17) (.tmp 23) rfl b n D' HM.out p.1 HK.out rfl rfl (fun w1 hm1 ht1 => ?_))
      all_goals
        have hg1 : wr.grownBy w1 (some b) := ⟨ht1.grown.1, ht1.grown.2, ht1.grown.3, ht1.grown.4, ht1.grown.5⟩
        have bx1 := HC.out.ord.box.grown hg1 (by simp; omega)
        have hr1 := HR.out.kept hg1 (.inr (by simp [Value.ownBlock]; exact hob))
        have q2 := bx1.cell 2
        have hdl := delete_any B o (r.length + 1) cap 0 0 1 rfl rfl (kcs (p.1 :: keys r)) w1 hr1 (by omega) (by omega) (kcs_one _)
        have HG1 := Lib.hid hg1
        have HM1 := Lib.hid hm1
        clear hg1 hm1 ht1 hr1
        go_wp2_with (go_at_call 46; refine hdl.mono ?_; rintro en w2 ⟨rfl, ho2, hg2⟩; have bx2 := bx1.grown hg2 (by simp; omega); have q3 := bx2.cell 2; have qf := bx2.frozen 2; have HO2 := Lib.hid ho2; clear ho2)
        go_roundw
        case rel =>
          have hn := HC.out.next HM1.out HG1.out HO2.out hg2
          exact ⟨j + 1, .slice (some ⟨o, 0, none⟩) r.length cap, D'.del (kl p.1), by go_num, by have := HL.out; omega, by rw [HD.out]; exact hn.1, HT.out.trans hn.2 (fun k hk => .inl (foot_eq HE.out k hk)), HE.out⟩
        case measure => simp [intOf]; have := HL.out; omega
    · have hjj : j = l.length - bud := by omega
      have hlt : (l.drop j).length ≤ bud := by rw [List.length_drop]; omega
      obtain ⟨y0, y1, y2, y3, yf⟩ := blk4 hC.ord.box
      obtain ⟨A, cap, rfl, hcap, hrd⟩ := own_open hC.ord.row
      obtain ⟨q, hq⟩ : ∃ q, (keys (l.drop j)).length = q := ⟨_, rfl⟩
      rw [hq] at y2
      have hqb : q ≤ bud := by rw [← hq, keys_len]; exact hlt
      have HC := Lib.hid hC
      have HT := Lib.hid hT
      have HE := Lib.hid hE
      have HJ := Lib.hid hjj
      have HQ := Lib.hid hq
      have hej : (e : Int) + j ≤ 9223372036854775807 := by omega
      clear hC hT hE hjj hlt hq hrd hcap
      go_wp2_with fail
      go_quiet (fail)
      go_wp2_with fail
      go_ret
      exact Shrunk.done rfl HJ.out HC.out HT.out HE.out ⟨rfl, rfl, rfl, Nat.le_refl _, fun _ _ _ => rfl⟩
end Go.Proofs.Ytkdokipgakncjaa.Cac
