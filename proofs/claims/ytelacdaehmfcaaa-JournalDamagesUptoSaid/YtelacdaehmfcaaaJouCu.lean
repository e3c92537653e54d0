/-
  Layer 44's laws: a journal whose end is missing (plain).
-/
import Derived.Test.YtelacdaehmfcaaaJouTl
namespace Go.Proofs.Ytelacdaehmfcaaa.JouL
open Go.RowKit Go.Proofs.Ytelacdaehmfcaaa Go.Proofs.Ytelacdaehmfcaaa.WirePure Go.Proofs.Ytelacdaehmfcaaa.DigPure Go.Proofs.Ytelacdaehmfcaaa.JouPure Go.Proofs.Ytelacdaehmfcaaa.JouC

theorem RDs.more {w : World} {B B' : Nat} {A : Option Addr} {n : Nat} {f : Nat → Int × Int × ByteArray} (h : RDs w B A n f) (hb : B ≤ B') : RDs w B' A n f := fun h0 => by
  obtain ⟨ad, h1, h2, h3⟩ := h h0
  exact ⟨ad, h1, by omega, h3⟩
theorem jou_app (g : Nat) (a b : List (Nat × List UInt8)) : jou g (a ++ b) = jou g a ++ recs (1 + a.length) b := by
  unfold jou
  rw [recs_app, ← List.append_assoc]
theorem jou_split (g k : Nat) (rs : List (Nat × List UInt8)) (h : k ≤ rs.length) : jou g rs = jou g (rs.take k) ++ recs (1 + k) (rs.drop k) := by
  have := jou_app g (rs.take k) (rs.drop k)
  rw [List.take_append_drop, List.length_take, Nat.min_eq_left h] at this
  exact this
theorem cut_whole (g k : Nat) (rs : List (Nat × List UInt8)) (h : k ≤ rs.length) : (jou g rs).take (jou g (rs.take k)).length = jou g (rs.take k) := by
  rw [jou_split g k rs h, List.take_left' rfl]
theorem en_le (g k : Nat) (rs : List (Nat × List UInt8)) (h : k ≤ rs.length) : (jou g (rs.take k)).length ≤ (jou g rs).length := by
  rw [jou_split g k rs h, List.length_append]; omega
theorem okL_take (k : Nat) (rs : List (Nat × List UInt8)) (hok : okL 1 rs) : okL 1 (rs.take k) := by
  rw [← List.take_append_drop k rs] at hok
  exact ((okL_app _ _ _).1 hok).1
theorem jou_step (g k : Nat) (rs : List (Nat × List UInt8)) (h : k < rs.length) : jou g (rs.take (k + 1)) = jou g (rs.take k) ++ frame (pay rs[k].1 (k + 1) rs[k].2) := by
  rw [List.take_succ_eq_append_getElem h, jou_snoc, List.length_take, Nat.min_eq_left (by omega)]
theorem okR_at (k : Nat) (rs : List (Nat × List UInt8)) (h : k < rs.length) (hok : okL 1 rs) : okR (k + 1) rs[k] := by
  have h1 := okL_take (k + 1) rs hok
  rw [List.take_succ_eq_append_getElem h] at h1
  have h2 := ((okL_app _ _ _).1 h1).2.1
  rw [List.length_take, Nat.min_eq_left (by omega), Nat.add_comm] at h2
  exact h2
theorem cut_head (g n : Nat) (rs : List (Nat × List UInt8)) (h2 : g ≤ 1073741824) (h : n < (jou g (rs.take 0)).length) : ∃ e : Int, e ≠ 0 ∧ scanJ ((jou g rs).take n) = (0, [], 0, e) := by
  have hj : jou g (rs.take 0) = magic ++ frame (Lib.uvarint g) := by rw [List.take_zero]; unfold jou; rw [recs, List.append_nil]
  rw [hj] at h
  have ht : (jou g rs).take n = (magic ++ frame (Lib.uvarint g)).take n := by
    unfold jou
    rw [List.take_append_of_le_length (by omega)]
  have he := headS_cut g n h2 h
  rw [ht]
  exact ⟨_, he, scanJ_err _ he⟩
theorem cut_at (g n k : Nat) (rs : List (Nat × List UInt8)) (h1 : 1 ≤ g) (h2 : g ≤ 1073741824) (hok : okL 1 rs) (hl : 1 + rs.length < 18446744073709551616) (hk : k ≤ rs.length) (ha : (jou g (rs.take k)).length ≤ n) (hb : k < rs.length → n < (jou g (rs.take (k + 1))).length) (hn : n ≤ (jou g rs).length) :
    ∃ e : Int, scanJ ((jou g rs).take n) = (g, rs.take k, (jou g (rs.take k)).length, e) ∧ (e = 0 ↔ n = (jou g (rs.take k)).length) := by
  by_cases hlt : k < rs.length
  · have hs := jou_step g k rs hlt
    have hr := okR_at k rs hlt hok
    have hb := hb hlt
    have ht : (jou g rs).take n = jou g (rs.take k) ++ (frame (pay rs[k].1 (k + 1) rs[k].2)).take (n - (jou g (rs.take k)).length) := by
      rw [jou_split g (k + 1) rs hlt, List.take_append_of_le_length (by omega), hs, List.take_append, List.take_of_length_le ha]
    have hlk : (rs.take k).length = k := by rw [List.length_take]; omega
    have hsl := congrArg List.length hs
    rw [List.length_append] at hsl
    obtain ⟨e, he, hi⟩ := scan_part g (rs.take k) rs[k] (n - (jou g (rs.take k)).length) h1 h2 (okL_take k rs hok) (by rw [hlk]; exact hr) (by rw [hlk]; omega) (by rw [hlk]; omega)
    rw [hlk] at he
    rw [ht]
    exact ⟨e, he, by rw [hi]; omega⟩
  · obtain rfl : k = rs.length := by omega
    rw [List.take_length] at ha ⊢
    have : n = (jou g rs).length := by omega
    rw [List.take_of_length_le (by omega)]
    exact ⟨0, scan_returns g rs h1 h2 hok hl, by simp [this]⟩
theorem en_mono (g k k2 : Nat) (rs : List (Nat × List UInt8)) (h : k ≤ k2) (h2 : k2 ≤ rs.length) : (jou g (rs.take k)).length ≤ (jou g (rs.take k2)).length := by
  have := en_le g k (rs.take k2) (by rw [List.length_take]; omega)
  rw [List.take_take, Nat.min_eq_left h] at this
  exact this
theorem cut_find (g n : Nat) (rs : List (Nat × List UInt8)) (h0 : (jou g (rs.take 0)).length ≤ n) : ∃ k, k ≤ rs.length ∧ (jou g (rs.take k)).length ≤ n ∧ (k < rs.length → n < (jou g (rs.take (k + 1))).length) := by
  have key : ∀ d k, k + d = rs.length → (jou g (rs.take k)).length ≤ n → ∃ k, k ≤ rs.length ∧ (jou g (rs.take k)).length ≤ n ∧ (k < rs.length → n < (jou g (rs.take (k + 1))).length) := fun d => by
    induction d with
    | zero => intro k hk h; exact ⟨k, by omega, h, fun h => by omega⟩
    | succ d ih =>
      intro k hk h
      by_cases hlt : n < (jou g (rs.take (k + 1))).length
      · exact ⟨k, by omega, h, fun _ => hlt⟩
      · exact ih (k + 1) (by omega) (by omega)
  exact key rs.length 0 (by omega) h0
theorem ext_size (s : ByteArray) (n : Nat) : (s.extract 0 n).size ≤ s.size := by
  simp only [ByteArray.size_extract]; omega
theorem ext_take (s : ByteArray) (n : Nat) : (s.extract 0 n).data.toList = s.data.toList.take n := by
  simp [ByteArray.data_extract]
theorem reads_part {W : World} {B n k : Nat} {A : Option Addr} {l : List (Nat × List UInt8)} (h : Reads W B 3 A n (rcs 1 l)) (hn : l.length = n) (hk : k ≤ n) : Reads W B 3 A k (rcs 1 (l.take k)) := by
  refine ⟨by rw [rcs_len, List.length_take, hn, Nat.min_eq_left hk], fun h0 => ?_⟩
  obtain ⟨ad, rfl, hb, hc⟩ := h.2 (by omega)
  refine ⟨ad, rfl, hb, fun j u hu => hc j u ?_⟩
  rw [← List.take_append_drop k l, rcs_app]
  rw [List.getElem?_append_left (by have := (List.getElem?_eq_some_iff.1 hu).1; exact this)]
  exact hu

end Go.Proofs.Ytelacdaehmfcaaa.JouL
