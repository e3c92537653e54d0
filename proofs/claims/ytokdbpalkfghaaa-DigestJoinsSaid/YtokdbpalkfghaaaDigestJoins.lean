/-
  DigestJoins: Adler's checksum of two strings, one after the other, follows from both of their checksums and the second one's length; Fnv's of a string with one more byte follows from that of the string.
-/
import Derived.Test.YtokdbpalkfghaaaDigEx
import Derived.Test.YtokdbpalkfghaaaFrame
import Derived.SizedLaws
import Derived.ChangeMaps5
namespace Go.Proofs.Ytokdbpalkfghaaa.DigestJoins
open Go.RowKit Go.Proofs.Ytokdbpalkfghaaa Go.Proofs.Ytokdbpalkfghaaa.DigPure Go.Proofs.Ytokdbpalkfghaaa.WirePure Go.Proofs.Ytokdbpalkfghaaa.Dig

theorem joins (s t : ByteArray) (a b d f x y z : Nat) (ha : (ad s.data.toList).1 = a) (hb : (ad s.data.toList).2 = b) (hd : (ad t.data.toList).1 = d) (hf : (ad t.data.toList).2 = f)
    (hx : adler s.data.toList = x) (hy : adler t.data.toList = y) (hz : adler (s ++ t).data.toList = z) :
    x = b * 65536 + a ∧ y = f * 65536 + d ∧ z = (b + f + t.size % 65521 * (a + 65520)) % 65521 * 65536 + (a + d + 65520) % 65521 ∧ a < 65521 ∧ b < 65521 ∧ d < 65521 ∧ f < 65521 := by
  have h1 := ad_lt s.data.toList
  have h2 := ad_lt t.data.toList
  have h3 := ad_join s.data.toList t.data.toList
  have e : (s ++ t).data.toList = s.data.toList ++ t.data.toList := by simp
  have e2 : t.data.toList.length = t.size := by simp
  rw [ha, hb] at h1
  rw [hd, hf] at h2
  rw [ha, hb, hd, hf, e2] at h3
  refine ⟨by rw [← hx, ← ha, ← hb]; rfl, by rw [← hy, ← hd, ← hf]; rfl, ?_, h1.1, h1.2, h2.1, h2.2⟩
  rw [← hz, e]
  unfold adler
  rw [h3.1, h3.2]

theorem fnv_more (s : ByteArray) (c : Nat) (hc : c < 256) (h : Nat) (hh : fnv s.data.toList = h) : fnv (s ++ ⟨[c.toUInt8].toArray⟩ : ByteArray).data.toList = (h ^^^ c) * 1099511628211 % 18446744073709551616 := by
  have e : (s ++ ⟨[c.toUInt8].toArray⟩ : ByteArray).data.toList = s.data.toList ++ [c.toUInt8] := by simp
  rw [e, fnv, fnvGo_snoc, toNat_small _ hc, ← hh]
  rfl

theorem conv_one (w : World) (c : Nat) (hc : c < 256) :
    (convert 35 9 (.slice (some ⟨w.heap.size, 0, none⟩) 1 1)).run Try.prog (w.alloc (.cells #[.int .u8 (c : Int)] 5)) = .ok (.string ⟨[c.toUInt8].toArray⟩) (w.alloc (.cells #[.int .u8 (c : Int)] 5)) :=
  run_convert_bytes_back _ _ _ 5 ⟨w.heap.size, 0, none⟩ 1 [c.toUInt8] Try.underlying35 Try.underlying5 Try.underlying9 (fun j hj => by
    obtain rfl : j = 0 := by simpa using hj
    simp [Addr.add, Lib.toUInt8_toNat hc])

theorem big (s t : ByteArray) (c : Nat) (w : World) (hs : s.size ≤ 140737488351232) (ht : t.size ≤ 140737488351232) (hb : 100000 < s.size ∨ (s.size ≤ 100000 ∧ 100000 < t.size)) : Calls Try.prog 9 #[.string s, .string t, .int .u8 (c : Int)] w fun e w' => e = .returned (.bool true) ∧ Below w.heap.size w w' := by
  rcases hb with hb | ⟨hb, hc⟩
  all_goals
    go_enter Try.func9, Try.ntmps9
    go_wp2_with fail
    refine (awake_any _).mono ?_
    rintro e w1 ⟨rfl, hb1⟩
    go_wp2_with fail
    refine (awake_any _).mono ?_
    rintro e w2 ⟨rfl, hb2⟩
    go_wp2_with fail
    go_ret
    exact ⟨rfl, hb1.trans (hb2.mono hb1.size)⟩

set_option maxHeartbeats 4000000 in
set_option maxRecDepth 100000 in
theorem walk (s t : ByteArray) (c : Nat) (w : World) (hs : s.size ≤ 140737488351232) (ht : t.size ≤ 140737488351232) (hc : c < 256) : Calls Try.prog 9 #[.string s, .string t, .int .u8 (c : Int)] w fun e w' => e = .returned (.bool true) ∧ Below w.heap.size w w' := by
  by_cases hbig : 100000 < s.size ∨ 100000 < t.size
  · exact big s t c w hs ht (by omega)
  have hs2 : s.size ≤ 100000 := by omega
  have ht2 : t.size ≤ 100000 := by omega
  clear hbig hs ht
  obtain ⟨a, ha⟩ : ∃ a, (ad s.data.toList).1 = a := ⟨_, rfl⟩
  obtain ⟨b, hb⟩ : ∃ a, (ad s.data.toList).2 = a := ⟨_, rfl⟩
  obtain ⟨d, hd⟩ : ∃ a, (ad t.data.toList).1 = a := ⟨_, rfl⟩
  obtain ⟨f, hf⟩ : ∃ a, (ad t.data.toList).2 = a := ⟨_, rfl⟩
  obtain ⟨x, hx0⟩ : ∃ x, adler s.data.toList = x := ⟨_, rfl⟩
  obtain ⟨y, hy0⟩ : ∃ x, adler t.data.toList = x := ⟨_, rfl⟩
  obtain ⟨z, hz0⟩ : ∃ x, adler (s ++ t).data.toList = x := ⟨_, rfl⟩
  obtain ⟨hx, hy, hz, ba, bb, bd, bf⟩ := joins s t a b d f x y z ha hb hd hf hx0 hy0 hz0
  obtain ⟨l, hl⟩ : ∃ l, t.size = l := ⟨_, rfl⟩
  rw [hl] at hz
  obtain ⟨q, hq⟩ : ∃ q, l % 65521 * (a + 65520) = q := ⟨_, rfl⟩
  have bq : q ≤ 8585871360 := by
    rw [← hq]
    have := Nat.mul_le_mul (show l % 65521 ≤ 65520 by omega) (show a + 65520 ≤ 131040 by omega)
    omega
  rw [hq] at hz
  obtain ⟨H, hH⟩ : ∃ H, (b + f + q) % 65521 = H := ⟨_, rfl⟩
  obtain ⟨L, hL⟩ : ∃ L, (a + d + 65520) % 65521 = L := ⟨_, rfl⟩
  rw [hH, hL] at hz
  have bH : H ≤ 65520 := by omega
  have bL : L ≤ 65520 := by omega
  have bx : x ≤ 4294967295 := by omega
  have byy : y ≤ 4294967295 := by omega
  have bz : z ≤ 4294967295 := by omega
  have k1 : (x : Int) % 65536 = (a : Int) := by omega
  have k2 : (x : Int) / 65536 = (b : Int) := by omega
  have k3 : (y : Int) % 65536 = (d : Int) := by omega
  have k4 : (y : Int) / 65536 = (f : Int) := by omega
  have k5 : ((a : Int) + (d : Int) + 65520) % 65521 = (L : Int) := by omega
  have k6 : ((t.size : Int) % 65521) * ((a : Int) + 65520) = (q : Int) := by rw [hl, ← hq]; simp
  have k7 : ((b : Int) + (f : Int) + (q : Int)) % 65521 = (H : Int) := by omega
  have k8 : ((z : Int) == (H : Int) * 65536 + (L : Int)) = true := by rw [hz]; simp
  have t1 : decide ((65521 : Int) ≤ (a : Int)) = false := by simp; omega
  have t2 : decide ((65521 : Int) ≤ (b : Int)) = false := by simp; omega
  have t3 : decide ((65521 : Int) ≤ (d : Int)) = false := by simp; omega
  have t4 : decide ((65521 : Int) ≤ (f : Int)) = false := by simp; omega
  have h1 := fun W => adler_is s _ hx0 W (by omega)
  have h2 := fun W => adler_is t _ hy0 W (by omega)
  have h3 := fun W => adler_is (s ++ t) _ hz0 W (by rw [ByteArray.size_append]; omega)
  obtain ⟨h, hh⟩ : ∃ h, fnv s.data.toList = h := ⟨_, rfl⟩
  have hlt : h < 18446744073709551616 := by rw [← hh]; exact fnvGo_lt _ _ (by omega)
  have hm := fnv_more s c hc h hh
  obtain ⟨v, hv⟩ : ∃ v, h ^^^ c = v := ⟨_, rfl⟩
  have hvlt : v < 18446744073709551616 := by rw [← hv]; exact Nat.xor_lt_two_pow (n := 64) (by omega) (by omega)
  have hxr : bits .xor .u64 (h : Int) (c : Int) = (v : Int) := by rw [← hv]; exact u64_xor_nat h c hlt (by omega)
  rw [hv] at hm
  have h4 := fun W => fnv_is s _ hh W (by omega)
  obtain ⟨o, ho⟩ : ∃ o : ByteArray, o = ⟨[c.toUInt8].toArray⟩ := ⟨_, rfl⟩
  have hos : o.size = 1 := by rw [ho]; rfl
  have hcv := fun W : World => conv_one W c hc
  rw [← ho] at hm hcv
  have h5 := fun W => fnv_is (s ++ o) _ hm W (by rw [ByteArray.size_append]; omega)
  obtain ⟨m, hmm⟩ : ∃ m, v * 1099511628211 % 18446744073709551616 = m := ⟨_, rfl⟩
  have hwm : IntKind.u64.wrap ((v : Int) * 1099511628211) = (m : Int) := by
    rw [IntKind.wrap_u64, ← hmm]; omega
  rw [hmm] at h5
  clear hmm hm hv hh ho ha hb hd hf hx hy hz hq hlt hvlt hx0 hy0 hz0 hl hH hL
  go_enter Try.func9, Try.ntmps9
  go_wp2_with fail
  refine (awake_any _).mono ?_
  rintro e w1 ⟨rfl, hb1⟩
  go_wp2_with fail
  refine (h1 _).mono ?_
  rintro e w2 ⟨rfl, rfl⟩
  go_wp2_with fail
  refine (h2 _).mono ?_
  rintro e w2 ⟨rfl, rfl⟩
  go_wp2_with fail
  refine (h3 _).mono ?_
  rintro e w2 ⟨rfl, rfl⟩
  go_wp2_with fail
  refine (h5 _).mono ?_
  rintro e w2 ⟨rfl, rfl⟩
  go_wp2_with fail
  refine (h4 _).mono ?_
  rintro e w2 ⟨rfl, rfl⟩
  go_wp2_with fail
  go_ret
  exact ⟨rfl, hb1.alloc hb1.size _⟩

open Go.ChangeShapes Go.WideShapes Go.ChangeAt Go.Joins

theorem contract (H : Type) (enc : TypeId × Value → H) (W : World) (base : Nat) (args : Array Value) (ds gs : List (DataW H)) (before : List MemPlace)
    (hval : ∀ (j : Nat) t v, Try.f9.params[j]? = some t → args[j]? = some v → Value.okWide Try.prog W .any base t v)
    (hW : DataW.Whole enc Try.prog Try.f9.params.toList Rows.digestJoinsSpec.vars false W args.toList ds gs before) (hsz : (DataW.weightsEach Try.prog (Try.f9.params.toList ++ Rows.digestJoinsSpec.plain.varTypes Try.prog) (ds ++ gs)).all (· ≤ reachBytes) = true) :
    Calls Try.prog 9 args W fun e W' => ∃ v, e = .returned v ∧ Rows.digestJoinsSpec.post enc Try.prog Try.f9 false true false false W args v W' := by
  have hW' := hW
  obtain ⟨p, q, hA0, hV, rfl, hfz, hnd⟩ := hW
  have hA : DataW.TrodAll enc Try.prog W 0 (fun _ => true) true Try.f9.params.toList args.toList ds p := hA0
  rw [Try.params9] at hA hval
  obtain ⟨v0, vs0, d0, ds0, p0, q0, hargs, rfl, rfl, g0, r0⟩ := trodAll_cons hA
  obtain ⟨v1, vs1, d1, ds1, p1, q1, rfl, rfl, rfl, g1, r1⟩ := trodAll_cons r0
  obtain ⟨v2, vs2, d2, ds2, p2, q2, rfl, rfl, rfl, g2, r2⟩ := trodAll_cons r1
  obtain ⟨rfl, rfl, rfl⟩ := trodAll_nil r2
  obtain rfl : args = #[v0, v1, v2] := by cases args; simp_all
  obtain ⟨rfl, rfl⟩ := trodVars_none hV
  obtain ⟨s0, rfl, rfl, rfl, w0⟩ := Go.ChangeMaps.open_string Try.underlying9 (hval 0 9 v0 rfl rfl) g0
  obtain ⟨s1, rfl, rfl, rfl, w1⟩ := Go.ChangeMaps.open_string Try.underlying9 (hval 1 9 v1 rfl rfl) g1
  obtain ⟨z2, rfl, rfl, rfl, w2⟩ := open_int Try.underlying5 (hval 2 5 v2 rfl rfl) g2
  have b2 := bounds_u8 w2
  obtain ⟨c, rfl⟩ := Int.eq_ofNat_of_zero_le b2.1
  clear hA0
  simp only [List.append_nil] at hsz
  have z0 : s0.size ≤ 140737488351232 := sized_string hsz (j := 0) (t := 9) rfl rfl
  have z1 : s1.size ≤ 140737488351232 := sized_string hsz (j := 1) (t := 9) rfl rfl
  refine (walk s0 s1 c W z0 z1 (by omega)).mono fun e W' ⟨he, hb⟩ => ?_
  subst he
  exact ⟨_, rfl, Frame.law_post Frame.laidOut (by kernel_rfl) Try.underlying4 (by kernel_rfl) rfl rfl hW' hb⟩

set_option maxRecDepth 100000 in
theorem lifted (os : Os) (started : os.Started) (H : Type) (enc : TypeId × Value → H) :
    ReturnsInHanded {} Try.checked os 9 .any (Rows.digestJoinsSpec.pre6 enc Try.prog Try.f9 Rows.digestJoinsRow.domain false) (Rows.digestJoinsSpec.post enc Try.prog Try.f9 false true false false) := by
  refine returnsInHanded_of_change_sized (C := Try.checked) Frame.own started (by kernel_rfl) Try.func9
    (ChangeSpec.witness6 (enc := enc) (C := Try.checked) false ⟨#[], #[.string .empty, .string .empty, .int .u8 0], []⟩ 8 (by kernel_rfl) (by kernel_rfl) (by kernel_rfl) (by kernel_rfl)) ?_
  intro W base args ds gs before hval hW _ hsz _
  exact contract H enc W base args ds gs before hval hW hsz

theorem proved : Rows.DigestJoinsSaid :=
  OpenClaim.holds_of_wide 9 Try.f9 rfl rfl rfl rfl rfl rfl rfl ⟨rfl, rfl, rfl, rfl, rfl⟩ rfl rfl rfl rfl rfl (by kernel_rfl) Try.func9 (by kernel_rfl)
    (of_decide_eq_true (by kernel_rfl)) (by unfold Func.isWrapper; first | (rw [if_pos (by decide +kernel)]; kernel_rfl) | (rw [if_neg (by decide +kernel)]; exact ⟨rfl, rfl⟩))
    (fun os started H enc _ => lifted os started H enc)

end Go.Proofs.Ytokdbpalkfghaaa.DigestJoins
