/-
  The reference of layer 8: cofactors and determinants.
-/
import Derived.Test.YtcmaoomcdmjimaaRMatC
import Derived.Laws.OwnMore
import Derived.OwnWalk
namespace Go.Proofs.Ytcmaoomcdmjimaa.Mat
open Go.RowKit Go.Proofs.Ytcmaoomcdmjimaa Go.Proofs.Ytcmaoomcdmjimaa.NumPure Go.Proofs.Ytcmaoomcdmjimaa.MatPure

/-- The elements of the first n that lie neither in row i nor in column j. -/
def ml (m : Nat → Int) (i j : Nat) : Nat → List Int
  | 0 => []
  | n + 1 => ml m i j n ++ (if n / 3 ≠ i ∧ n % 3 ≠ j then [m n] else [])
theorem ml_len (m : Nat → Int) (i j n : Nat) : (ml m i j n).length ≤ n := by
  induction n with
  | zero => simp [ml]
  | succ n ih =>
    simp only [ml, List.length_append]
    split <;> simp <;> omega
theorem ml_skip (m : Nat → Int) (i j y x : Nat) (hx : x < 3) (h : y = i ∨ x = j) : ml m i j (3 * y + (x + 1)) = ml m i j (3 * y + x) := by
  rw [show 3 * y + (x + 1) = (3 * y + x) + 1 by omega]
  simp only [ml]
  rw [show (3 * y + x) / 3 = y by omega, show (3 * y + x) % 3 = x by omega, if_neg (by omega), List.append_nil]
theorem ml_take (m : Nat → Int) (i j y x : Nat) (hx : x < 3) (h1 : y ≠ i) (h2 : x ≠ j) : ml m i j (3 * y + (x + 1)) = ml m i j (3 * y + x) ++ [m (3 * y + x)] := by
  rw [show 3 * y + (x + 1) = (3 * y + x) + 1 by omega]
  simp only [ml]
  rw [show (3 * y + x) / 3 = y by omega, show (3 * y + x) % 3 = x by omega, if_pos ⟨h1, h2⟩]
theorem ml_nine (m : Nat → Int) (hm : okM m = true) (i j : Nat) (hi : i < 3) (hj : j < 3) : ∃ a b c d : Int, ml m i j 9 = [a, b, c, d] ∧ (-1048576 ≤ a ∧ a ≤ 1048576) ∧ (-1048576 ≤ b ∧ b ≤ 1048576) ∧ (-1048576 ≤ c ∧ c ≤ 1048576) ∧ (-1048576 ≤ d ∧ d ≤ 1048576) ∧
    (((i + j) % 2 = 1 ∧ -(a * d - b * c) = cof m i j) ∨ ((i + j) % 2 = 0 ∧ a * d - b * c = cof m i j)) := by
  have h := okM_iff.1 hm
  obtain rfl | rfl | rfl : i = 0 ∨ i = 1 ∨ i = 2 := by omega
  all_goals
    obtain rfl | rfl | rfl : j = 0 ∨ j = 1 ∨ j = 2 := by omega
    all_goals
      refine ⟨_, _, _, _, rfl, h _ (by decide), h _ (by decide), h _ (by decide), h _ (by decide), ?_⟩
      simp only [cof]
      grind

theorem own_blk_ne {w : World} {g : Nat} {t : TypeId} {cs : Array Value} {base : Nat} {e : TypeId} {size n : Nat} {v : Value} {xs : List Value} (h : w.ownsRow base e size v n xs) (hg : Blk w g t cs) (hne : e ≠ t) : v.ownBlock ≠ some g := by
  rcases h.2 with ⟨rfl, _⟩ | ⟨g', cap, cur, rfl, _, hh, _⟩
  · simp [Value.ownBlock]
  · intro he
    have : g' = g := by simpa [Value.ownBlock] using he
    subst this
    unfold Blk at hg
    rw [hh] at hg
    injection hg with hg
    injection hg with _ ht
    exact hne ht
theorem row_cell {w : World} {base : Nat} {e : TypeId} {n cap g : Nat} {xs : List Value} (h : w.ownsRow base e 1 (.slice (some ⟨g, 0, none⟩) n cap) n xs) (j : Nat) (u : Value) (hu : xs[j]? = some u) : w.cell? ⟨g, j, none⟩ = some u := by
  have hc := h.cells (g := g) rfl j u hu
  have ea : (Addr.mk g 0 none).add j = ⟨g, j, none⟩ := by
    unfold Addr.add
    split
    · subst_vars; rfl
    · simp
  rwa [ea] at hc

theorem infoI : (Try.prog.info? 3).map (fun i => (i.zero, i.size, i.bytes)) = some (some (.int .i64 0), 1, 8) := by kernel_rfl

set_option maxHeartbeats 4000000 in
set_option maxRecDepth 100000 in
theorem rCof_any (m : Nat → Int) (hm : okM m = true) (i j : Nat) (hi : i < 3) (hj : j < 3) (w : World) :
    Calls Try.prog 33 #[.agg (ac 9 m), .int .i64 (i : Int), .int .i64 (j : Int)] w fun e w' => e = .returned (.int .i64 (cof m i j)) ∧ Below w.heap.size w w' := by
  obtain ⟨i0, hi0, hz0, hz1, hz2⟩ := info_parts infoI
  obtain ⟨a, b, c, d, hml, ba, bb, bc, bd, hcof⟩ := ml_nine m hm i j hi hj
  have HML := Lib.hid hml
  have HCOF := Lib.hid hcof
  clear hml hcof hm
  obtain ⟨B, hB⟩ : ∃ B, B = w.heap.size := ⟨_, rfl⟩
  rw [← hB]
  go_enter Try.func33, Try.ntmps33
  go_wp2_with fail
  have H0 := Blk.new w 22 (ac 9 m)
  have hb0 : Below B w (w.alloc (.cells (ac 9 m) 22)) := by rw [hB]; exact (Below.refl _ _).alloc (Nat.le_refl _) _
  obtain ⟨W, hW⟩ : ∃ W, W = w.alloc (.cells (ac 9 m) 22) := ⟨_, rfl⟩
  obtain ⟨g, eg⟩ : ∃ g, g = w.heap.size := ⟨_, rfl⟩
  rw [← hW, ← eg] at H0 ⊢
  rw [← hW] at hb0
  have hg : B ≤ g := by omega
  clear hW hB eg
  go_loopw [7, 8] (fun v7 v8 wr => ∃ y : Nat, y ≤ 3 ∧ v8 = .int .i64 y ∧ wr.ownsRow B 3 1 v7 (ml m i j (3 * y)).length ((ml m i j (3 * y)).map (Value.int .i64)) ∧ Blk wr g 22 (ac 9 m) ∧ Below B w wr) (fun _ v8 _ => 3 - (intOf v8).toNat)
  case atStart => exact ⟨0, by omega, rfl, World.ownsRow_nil _ _ _ _, H0, hb0⟩
  case round =>
    clear H0 hb0
    obtain ⟨y, hy, rfl, hown, H1, hb1⟩ := hrel
    by_cases hlt : y < 3
    · have ty : decide ((y : Int) < 3) = true := by simp; omega
      go_wp2_with fail
      go_loopw [7, 9] (fun v7 v9 wr => ∃ x : Nat, x ≤ 3 ∧ v9 = .int .i64 x ∧ wr.ownsRow B 3 1 v7 (ml m i j (3 * y + x)).length ((ml m i j (3 * y + x)).map (Value.int .i64)) ∧ Blk wr g 22 (ac 9 m) ∧ Below B w wr) (fun _ v9 _ => 3 - (intOf v9).toNat)
      case atStart => exact ⟨0, by omega, rfl, hown, H1, hb1⟩
      case round =>
        clear hown H1 hb1
        obtain ⟨x, hx, rfl, hown, H2, hb2⟩ := hrel
        by_cases hlt2 : x < 3
        · have tx : decide ((x : Int) < 3) = true := by simp; omega
          by_cases e1 : y = i
          · have t1 : ((y : Int) != (i : Int)) = false := by simp; omega
            have HK : Hid (ml m i j (3 * y + (x + 1)) = ml m i j (3 * y + x)) := Lib.hid (ml_skip m i j y x hlt2 (.inl e1))
            clear e1
            go_wp2_with fail
            go_roundw
            case rel => exact ⟨x + 1, by omega, by go_num, by rw [HK.out]; exact hown, H2, hb2⟩
            case measure => simp [intOf]; omega
          · have t1 : ((y : Int) != (i : Int)) = true := by simp; omega
            by_cases e2 : x = j
            · have t2 : ((x : Int) != (j : Int)) = false := by simp; omega
              have HK : Hid (ml m i j (3 * y + (x + 1)) = ml m i j (3 * y + x)) := Lib.hid (ml_skip m i j y x hlt2 (.inr e2))
              clear e1 e2
              go_wp2_with fail
              go_roundw
              case rel => exact ⟨x + 1, by omega, by go_num, by rw [HK.out]; exact hown, H2, hb2⟩
              case measure => simp [intOf]; omega
            · have t2 : ((x : Int) != (j : Int)) = true := by simp; omega
              have HK : Hid (ml m i j (3 * y + (x + 1)) = ml m i j (3 * y + x) ++ [m (3 * y + x)]) := Lib.hid (ml_take m i j y x hlt2 e1 e2)
              have hl := ml_len m i j (3 * y + x)
              have cc := H2.cell (3 * y + x)
              rw [ac_at _ (by omega)] at cc
              have hbl := hb2.size
              clear e1 e2
              go_wp2_with (at_builtin; refine wpList_append_own _ rfl _ _ 51 rfl B 3 i0 (.int .i64 0) 1 8 Try.underlying51 hi0 hz0 hz1 hz2 rfl (by decide) _ _ _ rfl (hown.alloc _) ⟨wr.heap.size, 0, none⟩ 1 1 [Value.int .i64 (m (3 * y + x))] rfl rfl ?c1 ?c2 ?c3 ?c4 ?c5 ?_)
              case c1 =>
                intro j u hj
                match j, hj with
                | 0, hj => simp at hj; subst hj; simp [Addr.add]
              case c2 => intro u hu; simp at hu; subst hu; rfl
              case c3 => unfold maxLen; omega
              case c4 => omega
              case c5 => have := H2.lt; simp; omega
              intro v' w1 hown' hgrow _
              have hne := own_blk_ne (hown.alloc (.cells #[Value.int .i64 (m (3 * y + x))] 3)) (H2.alloc (.cells #[Value.int .i64 (m (3 * y + x))] 3)) (by decide)
              have H3 : Blk w1 g 22 (ac 9 m) := (H2.alloc _).grown hgrow (fun e => hne e.symm)
              have hb3 : Below B w w1 := (hb2.alloc (by have := H2.lt; omega) _).grown hgrow (by have := H2.lt; simp; omega) (fun k hk => (hown.lt k hk).1)
              clear cc
              go_wp2_with fail
              go_roundw
              case rel =>
                refine ⟨x + 1, by omega, by go_num, ?_, H3, hb3⟩
                rw [HK.out, List.map_append, List.length_append]
                exact hown'
              case measure => simp [intOf]; omega
        · obtain rfl : x = 3 := by omega
          go_wp2_with fail
          go_roundw
          case rel => exact ⟨y + 1, by omega, by go_num, by rw [show 3 * (y + 1) = 3 * y + 3 by omega]; exact hown, H2, hb2⟩
          case measure => simp [intOf]; omega
    · obtain rfl : y = 3 := by omega
      rw [show 3 * 3 = 9 from rfl, HML.out, show [a, b, c, d].length = 4 from rfl] at hown
      obtain ⟨g', cap, hv, _, _⟩ := hown.form (by decide)
      subst hv
      have c0 := row_cell hown 0 _ rfl
      have c1 := row_cell hown 1 _ rfl
      have c2 := row_cell hown 2 _ rfl
      have c3 := row_cell hown 3 _ rfl
      have p1 := prod_in ba.1 ba.2 bd.1 bd.2
      have p2 := prod_in bb.1 bb.2 bc.1 bc.2
      have i1 : IntKind.i64.wrap (a * d) = a * d := IntWalk.i64_in _ (by omega)
      have i2 : IntKind.i64.wrap (b * c) = b * c := IntWalk.i64_in _ (by omega)
      have i3 : IntKind.i64.wrap (a * d - b * c) = a * d - b * c := IntWalk.i64_in _ (by omega)
      rcases HCOF.out with ⟨hp, hr⟩ | ⟨hp, hr⟩
      · have tp : (((i : Int) + (j : Int)) % 2 == 1) = true := by simp; omega
        have HR := Lib.hid hr
        clear hp hr
        go_wp2_with fail
        go_quiet (fail)
        go_wp2_with fail
        go_ret
        exact ⟨Num.ret_int (by rw [← HR.out]), below_drewN hb1 _⟩
      · have tp : (((i : Int) + (j : Int)) % 2 == 1) = false := by simp; omega
        have HR := Lib.hid hr
        clear hp hr
        go_wp2_with fail
        go_quiet (fail)
        go_wp2_with fail
        go_ret
        exact ⟨Num.ret_int (by rw [← HR.out]), below_drewN hb1 _⟩

end Go.Proofs.Ytcmaoomcdmjimaa.Mat
