/-
  Layer 44's laws: the examples, which hold.
-/
import Derived.Test.YtelacdaehmfcaaaJouAp
import Derived.Test.YtelacdaehmfcaaaJouEnc
namespace Go.Proofs.Ytelacdaehmfcaaa.JouL
open Go.RowKit Go.Proofs.Ytelacdaehmfcaaa Go.Proofs.Ytelacdaehmfcaaa.WirePure Go.Proofs.Ytelacdaehmfcaaa.DigPure Go.Proofs.Ytelacdaehmfcaaa.JouPure Go.Proofs.Ytelacdaehmfcaaa.JouC

def HX : List UInt8 := [73, 69, 74, 49, 1, 1, 40, 19, 197, 47]
def JX : List UInt8 := [73, 69, 74, 49, 1, 1, 40, 19, 197, 47, 3, 3, 1, 0, 234, 255, 172, 40]
theorem ex_head : headR 1 = (HX, 0) := by
  unfold headR frame enc
  rw [if_neg (by omega), show (1 : Int).toNat = 1 from rfl, show Lib.uvarint 1 = [1] from Lib.uvarint_small (by decide), show ([1] : List UInt8).length = 1 from rfl, show Lib.uvarint 1 = [1] from Lib.uvarint_small (by decide)]
  decide +kernel
theorem ex_scan : scanJ HX = (1, [], 10, 0) := by decide +kernel
theorem ex_pay : pay 3 1 [] = [3, 1, 0] := by
  unfold pay
  rw [show ([] : List UInt8).length = 0 from rfl, Lib.uvarint_small (by decide), Lib.uvarint_small (by decide), Lib.uvarint_small (by decide)]
  rfl
theorem ex_enc : encR 3 1 [] = ([3, 3, 1, 0, 234, 255, 172, 40], 0) := by
  unfold encR
  rw [if_neg (by omega), if_neg (by omega), show (3 : Int).toNat = 3 from rfl, show (1 : Int).toNat = 1 from rfl, ex_pay, if_neg (by decide)]
  unfold frame enc
  rw [show ([3, 1, 0] : List UInt8).length = 3 from rfl, Lib.uvarint_small (by decide)]
  decide +kernel
theorem ex_order : appJ HX 3 2 [] = ([], 24) := by unfold appJ; rw [ex_scan]; rfl
theorem ex_app : appJ HX 3 1 [] = (JX, 0) := by unfold appJ; rw [ex_scan, ex_enc]; rfl
theorem ex_kind : encR 7 0 [] = ([], 8) := rfl
theorem ex_short : scanJ [73, 69, 74, 49] = (0, [], 0, 5) := by decide +kernel
theorem ex_whole : ((scanJ JX).2.2.2 == 0) = true := by decide +kernel
theorem ex_more : ((scanJ (JX ++ [120])).2.2.2 == 0) = false := by decide +kernel

theorem erV_of {p : List UInt8 × Int} {l : List UInt8} {x : Int} (h : p = (l, x)) : erV p = .tuple #[.string ⟨l.toArray⟩, .int .i64 x] := by subst h; rfl

set_option maxHeartbeats 2000000 in
theorem example_any (w : World) : Calls Try.prog 14 #[] w fun e w' => e = .returned (.bool true) ∧ Below w.heap.size w w' := by
  have h1 := fun W => Jou.head_any 1 W
  rw [erV_of ex_head] at h1
  obtain ⟨h, hh⟩ : ∃ h : ByteArray, (⟨HX.toArray⟩ : ByteArray) = h := ⟨_, rfl⟩
  have hd : h.data.toList = HX := by rw [← hh]
  have hz : h.size = 10 := by rw [← hh]; rfl
  have hx : h.extract 0 6 = ⟨#[73, 69, 74, 49, 1, 1]⟩ := by rw [take_eq, hd]; rfl
  obtain ⟨j, hj⟩ : ∃ j : ByteArray, (⟨JX.toArray⟩ : ByteArray) = j := ⟨_, rfl⟩
  have jd : j.data.toList = JX := by rw [← hj]
  have jz : j.size = 18 := by rw [← hj]; rfl
  have jm : (j ++ ⟨#[120]⟩ : ByteArray).data.toList = JX ++ [120] := by rw [← hj]; rfl
  have h2 := fun W => Jou.append_any h 3 2 (by omega) ⟨#[]⟩ W (by omega) (by decide)
  rw [hd, show (⟨#[]⟩ : ByteArray).data.toList = [] from rfl, erV_of ex_order] at h2
  have h3 := fun W => Jou.encode_any 7 0 (by omega) ⟨#[]⟩ W (by decide)
  rw [show (⟨#[]⟩ : ByteArray).data.toList = [] from rfl, erV_of ex_kind] at h3
  have h4 := fun W => Jou.scan_any ⟨#[73, 69, 74, 49]⟩ W (by decide)
  rw [show (⟨#[73, 69, 74, 49]⟩ : ByteArray).data.toList = [73, 69, 74, 49] from rfl] at h4
  have h5 := fun W => Jou.append_any h 3 1 (by omega) ⟨#[]⟩ W (by omega) (by decide)
  rw [hd, show (⟨#[]⟩ : ByteArray).data.toList = [] from rfl, erV_of ex_app, hj] at h5
  have h6 := fun W => Jou.whole_any j W (by omega)
  rw [jd, ex_whole] at h6
  have h7 := fun W => Jou.whole_any (j ++ ⟨#[120]⟩) W (by rw [ByteArray.size_append, jz]; decide)
  rw [jm, ex_more] at h7
  rw [hh] at h1
  have h8 := ex_short
  have H8 := Lib.hid h8
  have HD := Lib.hid hd
  clear hh hj hd jd jm h8
  have hz6 : (⟨#[120]⟩ : ByteArray).size = 1 := rfl
  go_enter Try.func14, Try.ntmps14
  go_wp2_with fail
  refine (h1 _).mono ?_
  rintro e w1 ⟨rfl, b1⟩
  go_wp2_with fail
  refine (h2 _).mono ?_
  rintro e w2 ⟨rfl, b2⟩
  have b2 := b1.trans (b2.mono b1.size)
  go_wp2_with fail
  refine (h3 _).mono ?_
  rintro e w3 ⟨rfl, b3⟩
  have b3 := b2.trans (b3.mono b2.size)
  go_wp2_with fail
  refine (h4 _).mono ?_
  intro e w4 hsp
  obtain ⟨A, c, rfl, hown, b4⟩ := SP_of H8.out hsp
  have b4 := b3.trans (b4.mono b3.size)
  clear hsp hown
  go_wp2_with fail
  refine (h5 _).mono ?_
  rintro e w5 ⟨rfl, b5⟩
  have b5 := b4.trans (b5.mono b4.size)
  go_wp2_with fail
  refine (h6 _).mono ?_
  rintro e w6 ⟨rfl, b6⟩
  have b6 := b5.trans (b6.mono b5.size)
  go_wp2_with fail
  refine (h7 _).mono ?_
  rintro e w7 ⟨rfl, b7⟩
  go_wp2_with fail
  go_ret
  exact ⟨rfl, b6.trans (b7.mono b6.size)⟩

end Go.Proofs.Ytelacdaehmfcaaa.JouL
