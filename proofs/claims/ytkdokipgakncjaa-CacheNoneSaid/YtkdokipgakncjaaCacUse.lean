/-
  Layer 36: a key made the most recently used one.
-/
import Derived.Test.YtkdokipgakncjaaCacU
import Derived.Maps.AppendAt
import Derived.Deep.RegionLaw
namespace Go.Proofs.Ytkdokipgakncjaa.Cac
open Go.RowKit Go.Proofs.Ytkdokipgakncjaa

theorem own_shape {w : World} {base e size n : Nat} {v : Value} {xs : List Value} (h : w.ownsRow base e size v (n + 1) xs) : ∃ o cap, v = .slice (some ⟨o, 0, none⟩) (n + 1) cap := by
  rcases h.2 with ⟨_, h0⟩ | ⟨g, cap, cur, rfl, _⟩
  · omega
  · exact ⟨g, cap, rfl⟩
theorem step_appKey {ops : Array Oper} {o : Oper} {a : Act} {W : World} {K : Act → World → Prop} {Q : Exit → Act → World → Prop} {E : Prop} (hgd : o.guard = none) (s x : Operand)
    (ho : o.op = .call { callee := .builtin .append, args := #[s, x], argTypes := #[36, 36] }) (B : Nat) (ov : Value) (n : Nat) (xs : List Value) (hs : a.eval s = ov) (hown : W.ownsRow B 29 5 ov n xs)
    (gN : Nat) (k : K5) (hx : a.eval x = .slice (some ⟨gN, 0, none⟩) 1 1) (hb : Blk W gN 29 (kc k).toArray) (hn : n ≤ 1048577) (hB : B ≤ W.heap.size)
    (hK : ∀ o' cap' w', w'.ownsRow B 29 5 (.slice (some ⟨o', 0, none⟩) (n + 1) cap') (n + 1) (xs ++ kc k) → W.grownBy w' ov.ownBlock → (ov.ownBlock = some o' ∨ o' = W.heap.size) → K (a.put o.dst (.slice (some ⟨o', 0, none⟩) (n + 1) cap')) w') :
    if Region.wanted o (yielded ops a.tmps) = true then Oper.wp Try.prog o a W K Q else E := by
  have hw : Region.wanted o (yielded ops a.tmps) = true := by simp [Region.wanted, hgd]
  rw [if_pos hw]
  obtain ⟨i0, hi0, hz0, hz1, hz2⟩ := info_parts infoKey
  obtain ⟨v', w', hrun, h2, h3, _, h5⟩ := run_append_own_at (P := Try.prog) W B 36 o.type 29 i0 (.agg zeroKey) 5 40 Try.underlying36 hi0 hz0 hz1 hz2 rfl (by decide) ov n xs hown ⟨gN, 0, none⟩ 1 1 (kc k) rfl (World.news_of_block hb) (fun u hu => kcs_one [k] u (by simpa [kcs] using hu)) (by unfold maxLen; omega) (by omega) hB
  obtain ⟨o', cap', rfl⟩ := own_shape h2
  unfold Oper.wp execOp
  simp only [ho, resolve, invoke, builtin, Sem.run_bind, Sem.run_pure, Result.andThen_ok, List.map_toArray, List.map_cons, List.map_nil, hs, hx, hrun]
  refine hK o' cap' w' h2 h3 ?_
  rcases h5 with h | h
  · exact .inl (h.symm.trans (by simp [Value.ownBlock]))
  · exact .inr (by simpa [Value.ownBlock] using h)

def Used (B g : Nat) (c0 c1 ov c3 : Value) (L : List K5) (w : World) (e : Ending) (w' : World) : Prop :=
  e = .returned (.tuple #[]) ∧ ∃ ov', Ord w' B g c0 c1 ov' c3 L ∧ Tch (g :: bl ov) w w' ∧ (ov'.ownBlock = ov.ownBlock ∨ ∀ k, ov'.ownBlock = some k → w.heap.size ≤ k)

theorem Used.done {B g o' cap' : Nat} {c0 c1 ov ov1 c3 : Value} {L : List K5} {k : K5} {w w1 w' : World} {o1 o2 : Obj} (hlt : g < w.heap.size) (hlow : B ≤ g)
    (hT : Tch (g :: bl ov) (w.alloc o1) w1) (hE : ov1.ownBlock = ov.ownBlock) (hne : ∀ j, ov1.ownBlock = some j → j ≠ g) (bx : Blk w' g 47 #[c0, c1, ov1, c3])
    (ho : w'.ownsRow B 29 5 (.slice (some ⟨o', 0, none⟩) ((L.erase k).length + 1) cap') ((L.erase k).length + 1) (kcs (L.erase k) ++ kc k)) (hg : (w1.drew.alloc o2).grownBy w' ov1.ownBlock)
    (hl : ov1.ownBlock = some o' ∨ o' = (w1.drew.alloc o2).heap.size) :
    Used B g c0 c1 ov c3 (L.erase k ++ [k]) w (.returned (.tuple #[])) (w'.setCell ⟨g, 2, none⟩ (.slice (some ⟨o', 0, none⟩) ((L.erase k).length + 1) cap')) := by
  have hs := hT.size
  simp at hs
  have hog : o' ≠ g := by
    rcases hl with h | h
    · exact hne _ h
    · simp at h; omega
  have e1 : kcs (L.erase k) ++ kc k = kcs (L.erase k ++ [k]) := by rw [kcs_app]; simp [kcs]
  have e2 : (L.erase k).length + 1 = (L.erase k ++ [k]).length := by simp
  rw [e1, e2] at ho
  refine ⟨rfl, .slice (some ⟨o', 0, none⟩) ((L.erase k).length + 1) cap', ⟨?_, ?_, hlow⟩, ?_, ?_⟩
  · have := bx.set_ 2 (.slice (some ⟨o', 0, none⟩) ((L.erase k).length + 1) cap')
    simpa using this
  · rw [e2]
    exact own_at ho fun j hj => Below.heap_setCell _ _ _ _ (by simp [Value.ownBlock] at hj; subst hj; exact hog)
  · refine Tch.setCell ?_ (.inl (by simp)) _
    refine Tch.grown (((((Tch.refl _ _).alloc o1).trans hT (fun k hk => .inl hk)).drew).alloc o2) hg (fun j hj => .inl ?_)
    rw [hE] at hj
    exact List.mem_cons_of_mem _ (mem_bl.2 hj)
  · rcases hl with h | h
    · exact .inl (by rw [← hE, h]; rfl)
    · refine .inr fun j hj => ?_
      simp [Value.ownBlock] at hj
      simp at h
      omega
set_option maxHeartbeats 1000000 in
theorem use_any (B g : Nat) (c0 c1 ov c3 : Value) (L : List K5) (k : K5) (w : World) (h : Ord w B g c0 c1 ov c3 L) (hmax : L.length ≤ 1048576) :
    Calls Try.prog 37 #[.pointer (some ⟨g, 0, none⟩), kagg k] w (Used B g c0 c1 ov c3 (L.erase k ++ [k]) w) := by
  have hlt := h.box.lt
  have hown := own_lt h.row
  have hu := fun (W : World) (hT : Tch [] w W) => unlist_any B g c0 c1 ov c3 L k W (h.tch hT (by simp) (by simp)) (by omega)
  have H := Lib.hid h
  clear h
  unfold kagg at hu ⊢
  have hu2 := hu (w.alloc (.cells #[.int .i64 k.1, .int .i64 k.2.1, .int .i64 k.2.2.1, .int .i64 k.2.2.2.1, .int .i64 k.2.2.2.2] 29)) ((Tch.refl _ _).alloc _)
  clear hu
  go_enter Try.func37, Try.ntmps37
  go_wp2_with (go_at_call 44; refine hu2.mono ?_; rintro e w1 ⟨rfl, ov1, hO, hT, hE⟩)
  have B0 : Blk w1 w.heap.size 29 #[.int .i64 k.1, .int .i64 k.2.1, .int .i64 k.2.2.1, .int .i64 k.2.2.2.1, .int .i64 k.2.2.2.2] := hT.blk (Blk.new _ _ _) (by simp only [List.mem_cons, mem_bl, not_or]; exact ⟨by omega, fun e => by have := hown _ e; omega⟩)
  obtain ⟨x0, x1, x2, x3, x4, xf⟩ := blk5 B0
  obtain ⟨y0, y1, y2, y3, yf⟩ := blk4 hO.box
  have hz := B0.lt
  have hg1 := hO.box.lt
  have hlen : (L.erase k).length ≤ 1048577 := by have := List.length_erase_le (a := k) (l := L); omega
  have hBl : B ≤ (w1.drew.alloc (.cells (kc k).toArray 29)).heap.size := by have := H.out.low; simp; omega
  have HB := Lib.hid hO.box
  have HR := Lib.hid hO.row
  have hneg : ∀ j, ov1.ownBlock = some j → j ≠ g := own_ne_blk hO.row hO.box (by decide)
  have HG := Lib.hid hneg
  have HO := Lib.hid hO
  have HT := Lib.hid hT
  have HE := Lib.hid hE
  clear hneg hO hT hE
  go_region_law (refine step_appKey rfl (.tmp 11) (.tmp 13) rfl B ov1 (L.erase k).length (kcs (L.erase k)) rfl (HR.out.drew.alloc _) w1.heap.size k rfl (Blk.new w1.drew _ _) hlen hBl (fun o' cap' w' ho hg hl => ?_); have bx := (HB.out.drew.alloc (.cells (kc k).toArray 29)).grown hg (fun e => HG.out g e.symm rfl); have q2 := bx.cell 2; have qf := bx.frozen 2)
  all_goals
    go_end0
    exact Used.done hlt H.out.low HT.out HE.out HG.out bx ho hg hl
end Go.Proofs.Ytkdokipgakncjaa.Cac
