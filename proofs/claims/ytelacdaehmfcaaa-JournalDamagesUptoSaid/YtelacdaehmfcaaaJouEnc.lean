/-
  Package journal: Head and Encode, for every argument.
-/
import Derived.Test.YtelacdaehmfcaaaJouC
namespace Go.Proofs.Ytelacdaehmfcaaa.Jou
open Go.RowKit Go.Proofs.Ytelacdaehmfcaaa Go.Proofs.Ytelacdaehmfcaaa.WirePure Go.Proofs.Ytelacdaehmfcaaa.DigPure Go.Proofs.Ytelacdaehmfcaaa.JouPure Go.Proofs.Ytelacdaehmfcaaa.JouC

theorem frame_any (s : ByteArray) (w : World) (hs : s.size ≤ 9223372036854775807) : Calls Try.prog 22 #[.string s] w fun e w' => e = .returned (erV (frR s.data.toList)) ∧ Below w.heap.size w w' := by
  have e : s.data.toList.length = s.size := by simp
  by_cases h : 1048576 < s.size
  · unfold frR
    rw [e, if_pos h]
    exact (Dig.frame_big s w hs h).mono fun _ _ ⟨h1, h2⟩ => ⟨h1, h2 ▸ Below.refl _ _⟩
  · unfold frR
    rw [e, if_neg h]
    exact Dig.frame_ok s w (by omega)

set_option maxHeartbeats 1000000 in
theorem head_any (g : Int) (w : World) : Calls Try.prog 10 #[.int .i64 g] w fun e w' => e = .returned (erV (headR g)) ∧ Below w.heap.size w w' := by
  rcases Int.lt_or_le g 1 with h1 | h1
  · have HF : Hid (headR g = ([], 2)) := Lib.hid (by unfold headR; rw [if_pos (.inl h1)])
    go_enter Try.func10, Try.ntmps10
    go_wp2_with fail
    go_ret2
    exact ⟨by rw [HF.out]; rfl, Below.refl _ _⟩
  rcases Int.lt_or_le 1073741824 g with h2 | h2
  · have HF : Hid (headR g = ([], 2)) := Lib.hid (by unfold headR; rw [if_pos (.inr h2)])
    go_enter Try.func10, Try.ntmps10
    go_wp2_with fail
    go_ret2
    exact ⟨by rw [HF.out]; rfl, Below.refl _ _⟩
  obtain ⟨n, rfl⟩ : ∃ n : Nat, g = n := ⟨g.toNat, by omega⟩
  have hl := Lib.uvarint_length64 (x := n) (by omega)
  have hu := fun W => WireEnc.uint_any n (by omega) W
  have hf := fun W => frame_any ⟨(Lib.uvarint n).toArray⟩ W (by rw [mk_size]; omega)
  have hr : frR (⟨(Lib.uvarint n).toArray⟩ : ByteArray).data.toList = (frame (Lib.uvarint n), 0) := by unfold frR; rw [if_neg (by simp; omega)]
  have hfl := frR_len (⟨(Lib.uvarint n).toArray⟩ : ByteArray).data.toList
  rw [hr] at hf hfl
  obtain ⟨s, hs⟩ : ∃ s : ByteArray, (⟨(Lib.uvarint n).toArray⟩ : ByteArray) = s := ⟨_, rfl⟩
  obtain ⟨u, hu2⟩ : ∃ u : ByteArray, (⟨(frame (Lib.uvarint n)).toArray⟩ : ByteArray) = u := ⟨_, rfl⟩
  have husz : u.size ≤ 1048600 := by rw [← hu2, mk_size]; exact hfl
  unfold erV at hf
  simp only [hs, hu2] at hu hf
  have HF : Hid (erV (headR n) = .tuple #[.string ((⟨#[73, 69, 74, 49]⟩ : ByteArray) ++ u), .int .i64 0]) := Lib.hid (by
    unfold headR erV
    rw [if_neg (by omega), ← hu2, head_eq]
    rfl)
  have HU := Lib.hid hu
  have HV := Lib.hid hf
  clear hl hu hf hr hfl hs hu2
  go_enter Try.func10, Try.ntmps10
  go_wp2_with fail
  refine (HU.out _).mono ?_
  rintro e w1 ⟨rfl, hb1⟩
  go_wp2_with fail
  refine (HV.out _).mono ?_
  rintro e w2 ⟨rfl, hb2⟩
  go_wp2_with fail
  go_ret2
  exact ⟨by rw [HF.out]; rfl, hb1.trans (hb2.mono hb1.size)⟩

set_option maxHeartbeats 2000000 in
theorem encode_any (k q : Int) (hk : k ≤ 9223372036854775807) (d : ByteArray) (w : World) (hd : d.size ≤ 140737488355328) : Calls Try.prog 12 #[.agg #[.int .i64 k, .int .i64 q, .string d]] w fun e w' => e = .returned (erV (encR k q d.data.toList)) ∧ Below w.heap.size w w' := by
  rcases Int.lt_or_le k 1 with h1 | h1
  · have HF : Hid (encR k q d.data.toList = ([], 8)) := Lib.hid (by unfold encR; rw [if_pos (.inl h1)])
    go_enter Try.func12, Try.ntmps12
    go_wp2_with fail
    go_ret2
    exact ⟨by rw [HF.out]; rfl, (Below.refl _ _).alloc (Nat.le_refl _) _⟩
  rcases Int.lt_or_le 6 k with h6 | h6
  · have HF : Hid (encR k q d.data.toList = ([], 8)) := Lib.hid (by unfold encR; rw [if_pos (.inr h6)])
    obtain ⟨n, rfl⟩ : ∃ n : Nat, k = n := ⟨k.toNat, by omega⟩
    go_enter Try.func12, Try.ntmps12
    go_wp2_with fail
    go_ret2
    exact ⟨by rw [HF.out]; rfl, (Below.refl _ _).alloc (Nat.le_refl _) _⟩
  obtain ⟨k, rfl⟩ : ∃ n : Nat, k = n := ⟨k.toNat, by omega⟩
  rcases Int.lt_or_le q 1 with h3 | h3
  · have HF : Hid (encR k q d.data.toList = ([], 2)) := Lib.hid (by unfold encR; rw [if_neg (by omega), if_pos (.inl h3)])
    go_enter Try.func12, Try.ntmps12
    go_wp2_with fail
    go_ret2
    exact ⟨by rw [HF.out]; rfl, (Below.refl _ _).alloc (Nat.le_refl _) _⟩
  rcases Int.lt_or_le 1073741824 q with h4 | h4
  · have HF : Hid (encR k q d.data.toList = ([], 2)) := Lib.hid (by unfold encR; rw [if_neg (by omega), if_pos (.inr h4)])
    go_enter Try.func12, Try.ntmps12
    go_wp2_with fail
    go_ret2
    exact ⟨by rw [HF.out]; rfl, (Below.refl _ _).alloc (Nat.le_refl _) _⟩
  obtain ⟨q, rfl⟩ : ∃ n : Nat, q = n := ⟨q.toNat, by omega⟩
  have hp := encR_fr k q d.data.toList (by omega) (by omega)
  rw [Int.toNat_natCast, Int.toNat_natCast] at hp
  have l1 := Lib.uvarint_length64 (x := k) (by omega)
  have l2 := Lib.uvarint_length64 (x := q) (by omega)
  have l3 := Lib.uvarint_length64 (x := d.size) (by omega)
  have l4 : (WireEnc.encText d).length ≤ 140737488355338 := by rw [text_len]; omega
  have u1 := fun W => WireEnc.uint_any k (by omega) W
  have u2 := fun W => WireEnc.uint_any q (by omega) W
  have u3 := fun W => WireEnc.text_any d (by omega) W
  have he := pay_eq k q d
  have hpl : (⟨(pay k q d.data.toList).toArray⟩ : ByteArray).size ≤ 9223372036854775807 := by
    rw [← he]
    simp only [ByteArray.size_append, mk_size]
    omega
  have hf := fun W => frame_any ⟨(pay k q d.data.toList).toArray⟩ W hpl
  rw [← hp] at hf
  obtain ⟨s1, hs1⟩ : ∃ s : ByteArray, (⟨(Lib.uvarint k).toArray⟩ : ByteArray) = s := ⟨_, rfl⟩
  obtain ⟨s2, hs2⟩ : ∃ s : ByteArray, (⟨(Lib.uvarint q).toArray⟩ : ByteArray) = s := ⟨_, rfl⟩
  obtain ⟨s3, hs3⟩ : ∃ s : ByteArray, (⟨(WireEnc.encText d).toArray⟩ : ByteArray) = s := ⟨_, rfl⟩
  have z1 : s1.size ≤ 10 := by rw [← hs1, mk_size]; exact l1
  have z2 : s2.size ≤ 10 := by rw [← hs2, mk_size]; exact l2
  have z3 : s3.size ≤ 140737488355338 := by rw [← hs3, mk_size]; exact l4
  simp only [hs1, hs2, hs3] at u1 u2 u3 he
  rw [← he] at hf
  obtain ⟨u, x, hux⟩ : ∃ (u : ByteArray) (x : Int), erV (encR k q d.data.toList) = .tuple #[.string u, .int .i64 x] := ⟨_, _, rfl⟩
  rw [hux] at hf ⊢
  have k1 : ∀ W : World, (Op.stringOp .add s1 s2).run Try.prog W = .ok (.string (s1 ++ s2)) W := fun W => run_string_add_sum W _ _ (by omega)
  have k2 : ∀ W : World, (Op.stringOp .add (s1 ++ s2) s3).run Try.prog W = .ok (.string (s1 ++ s2 ++ s3)) W := fun W => run_string_add_sum W _ _ (by simp only [ByteArray.size_append]; omega)
  have i1 : IntKind.u64.wrap (k : Int) = k := by rw [IntKind.wrap_u64]; omega
  have i2 : IntKind.u64.wrap (q : Int) = q := by rw [IntKind.wrap_u64]; omega
  have HS := Lib.hid (startS w k q d 23).drew
  have U1 := Lib.hid u1
  have U2 := Lib.hid u2
  have U3 := Lib.hid u3
  have HV := Lib.hid hf
  clear hp l1 l2 l3 l4 u1 u2 u3 he hpl hf hux hs1 hs2 hs3
  go_enter Try.func12, Try.ntmps12
  go_wp2_with fail
  go_region_held3 (fun w' => w'.cell? ⟨w.heap.size, 0, none⟩ = some (.int .i64 k) ∧ w'.cell? ⟨w.heap.size, 1, none⟩ = some (.int .i64 q) ∧ w'.cell? ⟨w.heap.size, 2, none⟩ = some (.string d) ∧ w.heap.size < w'.heap.size ∧ Below w.heap.size w w')
    (first | exact HS.out | exact keepS (by assumption) hbq | go_keep)
    (first
      | (go_at_call 23; (with_reducible refine (U1.out _).mono ?_); rintro e w' ⟨rfl, hbq⟩)
      | (go_at_call 23; (with_reducible refine (U2.out _).mono ?_); rintro e w' ⟨rfl, hbq⟩)
      | (go_at_call 26; (with_reducible refine (U3.out _).mono ?_); rintro e w' ⟨rfl, hbq⟩)
      | (go_at_call 22; (with_reducible refine (HV.out _).mono ?_); rintro e w' ⟨rfl, hbq⟩))
  go_wp2_with fail
  go_ret2
  exact ⟨rfl, belowS (k := k) (q := q) (d := d) (by assumption)⟩

end Go.Proofs.Ytelacdaehmfcaaa.Jou
