/-
  Layer 44: what package journal's proofs and its reference's share.
-/
import Derived.Test.YtelacdaehmfcaaaJouPure
import Derived.Test.YtelacdaehmfcaaaDigFrm
import Derived.Test.YtelacdaehmfcaaaRef05
import Derived.Test.YtelacdaehmfcaaaRef04Enc
import Derived.Deep.RegionHeld3
namespace Go.Proofs.Ytelacdaehmfcaaa.JouC
open Go.RowKit Go.Proofs.Ytelacdaehmfcaaa Go.Proofs.Ytelacdaehmfcaaa.WirePure Go.Proofs.Ytelacdaehmfcaaa.DigPure Go.Proofs.Ytelacdaehmfcaaa.JouPure

/-- Bytes and an error, as results. -/
def erV (p : List UInt8 × Int) : Value := .tuple #[.string ⟨p.1.toArray⟩, .int .i64 p.2]
def frR (l : List UInt8) : List UInt8 × Int := if 1048576 < l.length then ([], 3) else (frame l, 0)
theorem encR_fr (k q : Int) (d : List UInt8) (h1 : ¬ (k < 1 ∨ 6 < k)) (h2 : ¬ (q < 1 ∨ 1073741824 < q)) : encR k q d = frR (pay k.toNat q.toNat d) := by
  unfold encR frR
  rw [if_neg h1, if_neg h2]
theorem frR_len (l : List UInt8) : (frR l).1.length ≤ 1048600 := by
  unfold frR
  split
  · simp
  · have := Lib.uvarint_length64 (x := l.length) (by omega)
    rw [frame_len]
    omega

/-- The argument's copy of a record, and nothing old turned. -/
def S (w : World) (k q : Int) (d : ByteArray) (w' : World) : Prop :=
  w'.cell? ⟨w.heap.size, 0, none⟩ = some (.int .i64 k) ∧ w'.cell? ⟨w.heap.size, 1, none⟩ = some (.int .i64 q) ∧ w'.cell? ⟨w.heap.size, 2, none⟩ = some (.string d) ∧ w.heap.size < w'.heap.size ∧ Below w.heap.size w w'
theorem keepS {w w1 w2 : World} {k q : Int} {d : ByteArray} (h : S w k q d w1) (hb : Below w1.heap.size w1 w2) : S w k q d w2 := by
  obtain ⟨h0, h1, h2, h4, h6⟩ := h
  exact ⟨(hb.cell h4).trans h0, (hb.cell h4).trans h1, (hb.cell h4).trans h2, Nat.lt_of_lt_of_le h4 hb.size, h6.trans (hb.mono (by omega))⟩
theorem startS (w : World) (k q : Int) (d : ByteArray) (t : TypeId) : S w k q d (w.alloc (.cells #[.int .i64 k, .int .i64 q, .string d] t)) := by
  have hb := Blk.new w t #[.int .i64 k, .int .i64 q, .string d]
  exact ⟨hb.cell 0, hb.cell 1, hb.cell 2, by simp, (Below.refl _ _).alloc (Nat.le_refl _) _⟩
theorem S.drew {w w1 : World} {k q : Int} {d : ByteArray} (h : S w k q d w1) : S w k q d w1.drew := ⟨h.1, h.2.1, h.2.2.1, h.2.2.2.1, h.2.2.2.2.drew⟩
theorem belowS {w w1 : World} {k q : Int} {d : ByteArray} (h : S w k q d w1) : Below w.heap.size w w1 := h.2.2.2.2

theorem pay_eq (n m : Nat) (d : ByteArray) : ((⟨(Lib.uvarint n).toArray⟩ : ByteArray) ++ ⟨(Lib.uvarint m).toArray⟩ ++ ⟨(WireEnc.encText d).toArray⟩) = ⟨(pay n m d.data.toList).toArray⟩ := by
  rw [Dig.app_mk, Dig.app_mk, Dig.enc_eq]
  unfold pay enc
  rw [List.append_assoc]
theorem head_eq (l : List UInt8) : ((⟨#[73, 69, 74, 49]⟩ : ByteArray) ++ ⟨l.toArray⟩) = ⟨(magic ++ l).toArray⟩ := Dig.app_mk magic l
theorem text_len (d : ByteArray) : (WireEnc.encText d).length = (Lib.uvarint d.size).length + d.size := by
  unfold WireEnc.encText
  rw [List.length_append, Array.length_toList]
  rfl
theorem mk_size (l : List UInt8) : (⟨l.toArray⟩ : ByteArray).size = l.length := by simp [ByteArray.size]

end Go.Proofs.Ytelacdaehmfcaaa.JouC
