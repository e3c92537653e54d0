/-
  Layer 21: the edges of a polygon.
-/
import Derived.Test.YtflopcogalknhaaDoorKStrCp
set_option linter.unusedVariables false
set_option linter.unusedSimpArgs false
namespace Go.Proofs.YtflopcogalknhaaDoor.Str
open Go.RowKit Go.Proofs.YtflopcogalknhaaDoor Go.Proofs.YtflopcogalknhaaDoor.NumPure

/-- The cells of the first n edges. -/
def edV (wd : Int) (l : List P2) : Nat → List Value
  | 0 => []
  | n + 1 => edV wd l n ++ (edc wd (nx l n) (nx l (n + 1))).toList
theorem edV_len (wd : Int) (l : List P2) : ∀ n, (edV wd l n).length = n * 10
  | 0 => rfl
  | n + 1 => by
    have h : (edc wd (nx l n) (nx l (n + 1))).toList.length = 10 := rfl
    rw [edV, List.length_append, edV_len wd l n, h]
    omega
theorem edV_at (wd : Int) (l : List P2) : ∀ (n i k : Nat), i < n → k < 10 → (edV wd l n)[i * 10 + k]? = (edc wd (nx l i) (nx l (i + 1))).toList[k]?
  | 0, i, _, h, _ => absurd h (Nat.not_lt_zero i)
  | n + 1, i, k, h, hk => by
    rw [edV]
    by_cases hi : i < n
    · rw [List.getElem?_append_left (by rw [edV_len]; omega), edV_at wd l n i k hi hk]
    · obtain rfl : i = n := by omega
      rw [List.getElem?_append_right (by rw [edV_len]; omega), edV_len, Nat.add_sub_cancel_left]
theorem infoEd : (Tryd.prog.info? 65).map (fun i => (i.zero, i.size, i.bytes)) = some (some (.agg edz), 10, 80) := by kernel_rfl
theorem wp_appE {o : Oper} {a : Act} {W : World} {K : Act → World → Prop} {Q : Exit → Act → World → Prop} (dd : Tmp) (hd : o.dst = some dd) (s x : Operand)
    (ho : o.op = .call { callee := .builtin .append, args := #[s, x], argTypes := #[61, 61] }) {w0 : World} {v : Value} {n : Nat} {xs : List Value} {gl : Nat} {c : Array Value}
    (h : R1 65 10 w0 v n xs (some (gl, c)) W) (hs : a.eval s = v) (hx : a.eval x = .slice (some ⟨gl, 0, none⟩) 1 1) (hc : c.size = 10) (hu : ∀ y ∈ c.toList, y.oneCell' = true) (hn : (n + 1) * 80 ≤ 140737488355328)
    (hK : ∀ v' w', R1 65 10 w0 v' (n + 1) (xs ++ c.toList) none w' → K (a.put (some dd) v') w') : o.wp Tryd.prog a W K Q := by
  obtain ⟨i0, hi0, hz0, hz1, hz2⟩ := info_parts infoEd
  obtain ⟨v', w', hrun, h2, h3, _, h5⟩ := run_append_own_at (P := Tryd.prog) W w0.heap.size 61 o.type 65 i0 (.agg edz) 10 80 Tryd.underlying61 hi0 hz0 hz1 hz2 rfl (by decide) v n xs h.row ⟨gl, 0, none⟩ 1 1 c.toList (by rw [Array.length_toList, hc]) (World.news_of_block (h.new gl c rfl).1) hu (by unfold maxLen; omega) (by omega) h.below.size
  unfold Oper.wp execOp
  simp only [ho, resolve, invoke, builtin, Sem.run_bind, Sem.run_pure, Result.andThen_ok, List.map_toArray, List.map_cons, List.map_nil, hs, hx, hrun]
  show K (a.put o.dst v') w'
  rw [hd]
  exact hK v' w' (h.app h2 h3)
theorem edc_one (wd : Int) (a b : P2) : ∀ y ∈ (edc wd a b).toList, y.oneCell' = true := by
  intro y hy
  unfold edc at hy
  simp only [List.mem_cons, List.not_mem_nil, or_false] at hy
  rcases hy with rfl | rfl | rfl | rfl | rfl | rfl | rfl | rfl | rfl | rfl <;> rfl
/-- How many edges a polygon of n points has. -/
def nE (o : Bool) (n : Nat) : Nat := if n ≤ 1 then 0 else nEdg o n
/-- A call that returns a row of edges. -/
def EsC (wd : Int) (l : List P2) (n : Nat) (w : World) (e : Ending) (w' : World) : Prop := ∃ v, e = .returned v ∧ w'.ownsRow w.heap.size 65 10 v n (edV wd l n) ∧ Below w.heap.size w w'
set_option maxRecDepth 100000 in
set_option maxHeartbeats 8000000 in
theorem edgesOf_any (A : Option Addr) (l : List P2) (c : Nat) (o : Bool) (wd : Int) (w : World) (h : PtR w A l) (hl : l.length ≤ 1048576) (hin : AllB 16777216 l) (w1 : 1 ≤ wd) (w2 : wd ≤ 4096) : Calls Tryd.prog 31 #[.slice A l.length c, .bool o, .int .i64 wd] w (EsC wd l (nE o l.length) w) := by
  obtain ⟨n, hn⟩ : ∃ n, l.length = n := ⟨_, rfl⟩
  rw [hn] at hl ⊢
  have HN := Lib.hid hn
  have HR := Lib.hid h
  have HI := Lib.hid hin
  clear h hn hin
  go_enter Tryd.func31, Tryd.ntmps31
  go_wp2_with fail
  go_loopw [7, 8] (fun v i wr => ∃ k : Nat, i = .int .i64 ((k : Int) + 1) ∧ (k = 0 ∨ k + 1 ≤ n) ∧ R1 65 10 w v k (edV wd l k) none wr) (fun _ i _ => (n - intOf i).toNat)
  case atStart => exact ⟨0, rfl, Or.inl rfl, R1.start w⟩
  case round =>
    obtain ⟨k, rfl, hk, hr⟩ := hrel
    have HR1 := Lib.hid hr
    clear hr
    by_cases hlt : k + 1 < n
    · have hk0 : k < l.length := by have := HN.out; omega
      have hk1 : k + 1 < l.length := by have := HN.out; omega
      obtain ⟨ad, rfl, _⟩ := HR.out.addr (by omega)
      have hU := nx_in HI.out (by omega) k
      have hV := nx_in HI.out (by omega) (k + 1)
      have HNX : Hid (edV wd l (k + 1) = edV wd l k ++ (edc wd (nx l k) (nx l (k + 1))).toList) := Lib.hid rfl
      rw [nx_at hk0] at hU HNX
      rw [nx_at hk1] at hV HNX
      have SS : Hid (∀ W, Below w.heap.size w W → W.cell? (ad.add (k * 2)) = some (.int .i64 l[k].1) ∧ W.cell? ⟨(ad.add (k * 2)).block, (ad.add (k * 2)).off + 1, none⟩ = some (.int .i64 l[k].2) ∧ W.cell? (ad.add ((k + 1) * 2)) = some (.int .i64 l[k + 1].1) ∧ W.cell? ⟨(ad.add ((k + 1) * 2)).block, (ad.add ((k + 1) * 2)).off + 1, none⟩ = some (.int .i64 l[k + 1].2)) := Lib.hid fun W hW => by
        obtain ⟨a0, a1⟩ := pt_cells (HR.out.below hW) k hk0
        obtain ⟨b0, b1⟩ := pt_cells (HR.out.below hW) (k + 1) hk1
        exact ⟨a0, a1, b0, b1⟩
      obtain ⟨⟨u0, u1⟩, hu⟩ : ∃ p, l[k] = p := ⟨_, rfl⟩
      obtain ⟨⟨v0, v1⟩, hv⟩ : ∃ p, l[k + 1] = p := ⟨_, rfl⟩
      rw [hu] at hU HNX SS
      rw [hv] at hV HNX SS
      dsimp only at SS
      have HU := Lib.hid hU
      have HV := Lib.hid hV
      clear hU hV hu hv
      obtain ⟨e4, e5, e6, e7, e8, e9, hEC⟩ : ∃ e4 e5 e6 e7 e8 e9, edc wd (u0, u1) (v0, v1) = #[.int .i64 u0, .int .i64 u1, .int .i64 v0, .int .i64 v1, .int .i64 e4, .int .i64 e5, .int .i64 e6, .int .i64 e7, .int .i64 e8, .int .i64 e9] := ⟨_, _, _, _, _, _, rfl⟩
      have HE1 : Hid (∀ y ∈ (#[.int .i64 u0, .int .i64 u1, .int .i64 v0, .int .i64 v1, .int .i64 e4, .int .i64 e5, .int .i64 e6, .int .i64 e7, .int .i64 e8, .int .i64 e9] : Array Value).toList, y.oneCell' = true) := Lib.hid (by rw [← hEC]; exact edc_one _ _ _)
      have HCE := Lib.hid (fun W => edgeOf_any (u0, u1) (v0, v1) wd W w1 w2 HU.out HV.out)
      unfold EdC at HCE
      dsimp only at HCE
      rw [hEC] at HCE
      rw [hEC] at HNX
      have k1 : IntKind.i64.wrap (k : Int) = (k : Int) := i64w (by omega) (by omega)
      have k2 : (k : Int) < (n : Int) := by omega
      have k3 : (k : Int) + 1 < (n : Int) := by omega
      have k4 : (0 : Int) ≤ (k : Int) + 1 := by omega
      have k5 : (0 : Int) ≤ (k : Int) := by omega
      clear hEC
      go_wp2_with fail
      have HRq := Lib.hid HR1.out.drew
      have HK := SS.out _ HRq.out.below
      go_region_held3 (fun W => W.cell? (ad.add (k * 2)) = some (.int .i64 u0) ∧ W.cell? ⟨(ad.add (k * 2)).block, (ad.add (k * 2)).off + 1, none⟩ = some (.int .i64 u1) ∧ W.cell? (ad.add ((k + 1) * 2)) = some (.int .i64 v0) ∧ W.cell? ⟨(ad.add ((k + 1) * 2)).block, (ad.add ((k + 1) * 2)).off + 1, none⟩ = some (.int .i64 v1))
        (first | exact HK | exact SS.out _ (R1.lit HRq.out _).below | go_keep)
        (first
          | (go_at_call 50; refine (HCE.out _).mono ?_; rintro e' w' ⟨rfl, hbq⟩; have HRq := Lib.hid (HRq.out.later hbq); have HK := SS.out _ HRq.out.below; clear hbq)
          | (rw [if_pos (by rfl)]; refine wp_appE 28 rfl _ _ rfl (R1.lit HRq.out #[.int .i64 u0, .int .i64 u1, .int .i64 v0, .int .i64 v1, .int .i64 e4, .int .i64 e5, .int .i64 e6, .int .i64 e7, .int .i64 e8, .int .i64 e9]) rfl rfl rfl HE1.out (by omega) (fun vK wk R2 => ?_); have HRq := Lib.hid R2; have HK := SS.out _ HRq.out.below; clear R2))
      have HF : Hid (R1 65 10 w vK (k + 1) (edV wd l (k + 1)) none wk) := Lib.hid (HNX.out ▸ HRq.out)
      clear HRq HK
      go_wp2_with fail
      go_roundw
      case rel => exact ⟨k + 1, by go_num, Or.inr (by omega), HF.out⟩
      case measure => first | (simp [intOf]; done) | (simp [intOf]; omega)
    · have k2 : ¬ (k : Int) + 1 < (n : Int) := by omega
      by_cases hn1 : n ≤ 1
      · have HF : Hid (EsC wd l (nE o n) w (.returned u7) wr) := Lib.hid (by
          obtain rfl : k = 0 := by omega
          unfold nE
          rw [if_pos hn1]
          exact ⟨_, rfl, HR1.out.row, HR1.out.below⟩)
        have k3 : ¬ (1 : Int) < (n : Int) := by omega
        clear HR1
        cases o
        · go_wp2_with fail
          go_ret
          exact HF.out
        · go_wp2_with fail
          go_ret
          exact HF.out
      · have hnk : k + 1 = n := by omega
        have k3 : (1 : Int) < (n : Int) := by omega
        cases o
        · have hk0 : k < l.length := by have := HN.out; omega
          have hk1 : 0 < l.length := by have := HN.out; omega
          obtain ⟨ad, rfl, _⟩ := HR.out.addr (by omega)
          have hU := nx_in HI.out (by omega) k
          have hV := nx_in HI.out (by omega) (k + 1)
          have HNX : Hid (edV wd l n = edV wd l k ++ (edc wd (nx l k) (nx l (k + 1))).toList) := Lib.hid (by rw [← hnk]; rfl)
          have e0 : nx l (k + 1) = l[0] := by rw [← nx_at hk1]; unfold nx; rw [hnk, HN.out, Nat.mod_self, Nat.zero_mod]
          rw [nx_at hk0] at hU HNX
          rw [e0] at hV HNX
          have SS : Hid (∀ W, Below w.heap.size w W → W.cell? (ad.add (k * 2)) = some (.int .i64 l[k].1) ∧ W.cell? ⟨(ad.add (k * 2)).block, (ad.add (k * 2)).off + 1, none⟩ = some (.int .i64 l[k].2) ∧ W.cell? ad = some (.int .i64 l[0].1) ∧ W.cell? ⟨ad.block, ad.off + 1, none⟩ = some (.int .i64 l[0].2)) := Lib.hid fun W hW => by
            obtain ⟨a0, a1⟩ := pt_cells (HR.out.below hW) k hk0
            obtain ⟨b0, b1⟩ := pt_cells (HR.out.below hW) 0 hk1
            have ez : ad.add (0 * 2) = ad := by cases ad; rfl
            rw [ez] at b0 b1
            exact ⟨a0, a1, b0, b1⟩
          obtain ⟨⟨u0, u1⟩, hu⟩ : ∃ p, l[k] = p := ⟨_, rfl⟩
          obtain ⟨⟨v0, v1⟩, hv⟩ : ∃ p, l[0] = p := ⟨_, rfl⟩
          rw [hu] at hU HNX SS
          rw [hv] at hV HNX SS
          dsimp only at SS
          have HU := Lib.hid hU
          have HV := Lib.hid hV
          clear hU hV hu hv e0
          obtain ⟨e4, e5, e6, e7, e8, e9, hEC⟩ : ∃ e4 e5 e6 e7 e8 e9, edc wd (u0, u1) (v0, v1) = #[.int .i64 u0, .int .i64 u1, .int .i64 v0, .int .i64 v1, .int .i64 e4, .int .i64 e5, .int .i64 e6, .int .i64 e7, .int .i64 e8, .int .i64 e9] := ⟨_, _, _, _, _, _, rfl⟩
          have HE1 : Hid (∀ y ∈ (#[.int .i64 u0, .int .i64 u1, .int .i64 v0, .int .i64 v1, .int .i64 e4, .int .i64 e5, .int .i64 e6, .int .i64 e7, .int .i64 e8, .int .i64 e9] : Array Value).toList, y.oneCell' = true) := Lib.hid (by rw [← hEC]; exact edc_one _ _ _)
          have HCE := Lib.hid (fun W => edgeOf_any (u0, u1) (v0, v1) wd W w1 w2 HU.out HV.out)
          unfold EdC at HCE
          dsimp only at HCE
          rw [hEC] at HCE
          rw [hEC] at HNX
          have k1 : IntKind.i64.wrap ((n : Int) - 1) = (k : Int) := by rw [← hnk]; exact (i64w (by omega) (by omega)).trans (by omega)
          have k4 : (k : Int) < (n : Int) := by omega
          have k5 : (0 : Int) ≤ (k : Int) := by omega
          have k6 : (0 : Int) < (n : Int) := by omega
          have k7 : 0 < n := by omega
          clear hEC
          go_wp2_with fail
          have HRq := Lib.hid HR1.out.drew
          have HK := SS.out _ HRq.out.below
          go_region_held3 (fun W => W.cell? (ad.add (k * 2)) = some (.int .i64 u0) ∧ W.cell? ⟨(ad.add (k * 2)).block, (ad.add (k * 2)).off + 1, none⟩ = some (.int .i64 u1) ∧ W.cell? ad = some (.int .i64 v0) ∧ W.cell? ⟨ad.block, ad.off + 1, none⟩ = some (.int .i64 v1))
            (first | exact HK | exact SS.out _ (R1.lit HRq.out _).below | go_keep)
            (first
              | (go_at_call 50; refine (HCE.out _).mono ?_; rintro e' w' ⟨rfl, hbq⟩; have HRq := Lib.hid (HRq.out.later hbq); have HK := SS.out _ HRq.out.below; clear hbq)
              | (rw [if_pos (by rfl)]; refine wp_appE 49 rfl _ _ rfl (R1.lit HRq.out #[.int .i64 u0, .int .i64 u1, .int .i64 v0, .int .i64 v1, .int .i64 e4, .int .i64 e5, .int .i64 e6, .int .i64 e7, .int .i64 e8, .int .i64 e9]) rfl rfl rfl HE1.out (by omega) (fun vK wk R2 => ?_); have HRq := Lib.hid R2; have HK := SS.out _ HRq.out.below; clear R2))
          have HF : Hid (EsC wd l (nE false n) w (.returned vK) wk) := Lib.hid (by
            unfold nE
            rw [if_neg hn1]
            have e := HRq.out.row
            rw [← HNX.out, hnk] at e
            exact ⟨_, rfl, e, HRq.out.below⟩)
          clear HRq HK
          go_wp2_with fail
          go_ret
          exact HF.out
        · have HF : Hid (EsC wd l (nE true n) w (.returned u7) wr) := Lib.hid (by
            unfold nE
            rw [if_neg hn1]
            obtain rfl : n = k + 1 := hnk.symm
            exact ⟨_, rfl, HR1.out.row, HR1.out.below⟩)
          clear HR1
          go_wp2_with fail
          go_ret
          exact HF.out
end Go.Proofs.YtflopcogalknhaaDoor.Str
