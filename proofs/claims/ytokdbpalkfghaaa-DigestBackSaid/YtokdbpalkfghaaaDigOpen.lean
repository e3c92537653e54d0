/-
  The plain side of package digest's frames: what is framed, what is opened, and that a changed byte is told. No program in sight.
-/
import Derived.Test.YtokdbpalkfghaaaDigPure
import Derived.Test.YtokdbpalkfghaaaWirePure3
namespace Go.Proofs.Ytokdbpalkfghaaa.DigPure
open Go.Proofs.Ytokdbpalkfghaaa.WirePure

/-- A number of 32 bits in four bytes, the least significant one first. -/
def le4 (n : Nat) : List UInt8 := [(n % 256).toUInt8, (n / 256 % 256).toUInt8, (n / 65536 % 256).toUInt8, (n / 16777216 % 256).toUInt8]
theorem le4_length (n : Nat) : (le4 n).length = 4 := rfl
theorem u8_eq {a b : Nat} (ha : a < 256) (hb : b < 256) (h : a.toUInt8 = b.toUInt8) : a = b := by
  have := congrArg UInt8.toNat h
  rwa [toNat_small _ ha, toNat_small _ hb] at this
theorem le4_inj {m n : Nat} (hm : m < 4294967296) (hn : n < 4294967296) (h : le4 m = le4 n) : m = n := by
  unfold le4 at h
  simp only [List.cons.injEq, and_true] at h
  have h0 := u8_eq (Nat.mod_lt _ (by omega)) (Nat.mod_lt _ (by omega)) h.1
  have h1 := u8_eq (Nat.mod_lt _ (by omega)) (Nat.mod_lt _ (by omega)) h.2.1
  have h2 := u8_eq (Nat.mod_lt _ (by omega)) (Nat.mod_lt _ (by omega)) h.2.2.1
  have h3 := u8_eq (Nat.mod_lt _ (by omega)) (Nat.mod_lt _ (by omega)) h.2.2.2
  omega

def enc (s : List UInt8) : List UInt8 := Lib.uvarint s.length ++ s
def frame (s : List UInt8) : List UInt8 := enc s ++ le4 (crc (enc s))
/-- Open: the payload, the length, the error. -/
def opn (s : List UInt8) : List UInt8 × Nat × Int :=
  match (A.ready s).text 1048576 with
  | (_, .bad e) => ([], 0, e)
  | (t, .ready l) => if l.length < 4 then ([], 0, 5) else if l.take 4 = le4 (crc (s.take (s.length - l.length))) then (t, s.length - l.length + 4, 0) else ([], 0, 7)

theorem opn_bad (s t : List UInt8) (e : Int) (h : (A.ready s).text 1048576 = (t, .bad e)) : opn s = ([], 0, e) := by unfold opn; rw [h]
theorem opn_short (s t l : List UInt8) (h : (A.ready s).text 1048576 = (t, .ready l)) (hl : l.length < 4) : opn s = ([], 0, 5) := by unfold opn; rw [h]; simp only; rw [if_pos hl]
theorem opn_sum (s t l : List UInt8) (h : (A.ready s).text 1048576 = (t, .ready l)) (hl : ¬ l.length < 4) (hs : ¬ l.take 4 = le4 (crc (s.take (s.length - l.length)))) : opn s = ([], 0, 7) := by
  unfold opn; rw [h]; simp only; rw [if_neg hl, if_neg hs]
theorem opn_ok (s t l : List UInt8) (h : (A.ready s).text 1048576 = (t, .ready l)) (hl : ¬ l.length < 4) (hs : l.take 4 = le4 (crc (s.take (s.length - l.length)))) : opn s = (t, s.length - l.length + 4, 0) := by
  unfold opn; rw [h]; simp only; rw [if_neg hl, if_pos hs]

theorem text_frame (s m : List UInt8) (h : s.length ≤ 1048576) : (A.ready (enc s ++ m)).text 1048576 = (s, .ready m) := by
  unfold enc
  rw [List.append_assoc]
  exact text_enc s m 1048576 (by omega) (by omega)
theorem take_front (s m : List UInt8) : (enc s ++ m).take ((enc s ++ m).length - m.length) = enc s := by
  rw [List.length_append, Nat.add_sub_cancel, List.take_left']
  rfl
/-- What was framed is opened. -/
theorem opn_frame (s m : List UInt8) (h : s.length ≤ 1048576) : opn (frame s ++ m) = (s, (frame s).length, 0) := by
  unfold frame
  rw [List.append_assoc]
  have ht := text_frame s (le4 (crc (enc s)) ++ m) h
  rw [opn_ok _ _ _ ht (by rw [List.length_append, le4_length]; omega) (by rw [take_front, List.take_left' (le4_length _)])]
  congr 2
  simp only [List.length_append, le4_length]
  omega

/-- A frame of which a byte of the payload or of the checksum was changed. -/
theorem opn_told (s : List UInt8) (k : Nat) (c : UInt8) (h : s.length ≤ 1048576) (h0 : (Lib.uvarint s.length).length ≤ k) (h1 : k < (frame s).length) (hc : (frame s)[k]? ≠ some c) : opn ((frame s).set k c) = ([], 0, 7) := by
  have hf : frame s = Lib.uvarint s.length ++ (s ++ le4 (crc (enc s))) := by unfold frame enc; rw [List.append_assoc]
  by_cases hk : k < (enc s).length
  · have e1 : (enc s).set k c = enc (s.set (k - (Lib.uvarint s.length).length) c) := by
      unfold enc
      rw [List.set_append_right _ _ h0, List.length_set]
    have e2 : (frame s).set k c = enc (s.set (k - (Lib.uvarint s.length).length) c) ++ le4 (crc (enc s)) := by
      unfold frame
      rw [List.set_append_left _ _ hk, e1]
    have hl : (s.set (k - (Lib.uvarint s.length).length) c).length ≤ 1048576 := by rw [List.length_set]; exact h
    rw [e2]
    refine opn_sum _ _ _ (text_frame _ _ hl) (by rw [le4_length]; omega) ?_
    rw [take_front, List.take_of_length_le (by rw [le4_length]; omega), ← e1]
    intro he
    have h3 := le4_inj (crc_lt _) (crc_lt _) he
    have h4 : (enc s) = (enc s).take k ++ (enc s)[k] :: (enc s).drop (k + 1) := by rw [← List.drop_eq_getElem_cons hk, List.take_append_drop]
    have h5 : (enc s).set k c = (enc s).take k ++ c :: (enc s).drop (k + 1) := List.set_eq_take_append_cons_drop.trans (if_pos hk)
    rw [h5] at h3
    conv at h3 => lhs; rw [h4]
    have h6 := crc_told _ _ _ _ h3
    refine hc ?_
    unfold frame
    rw [List.getElem?_append_left hk, List.getElem?_eq_getElem hk, h6]
  · have e2 : (frame s).set k c = enc s ++ (le4 (crc (enc s))).set (k - (enc s).length) c := by
      unfold frame
      rw [List.set_append_right _ _ (by omega)]
    rw [e2]
    refine opn_sum _ _ _ (text_frame _ _ h) (by rw [List.length_set, le4_length]; omega) ?_
    rw [take_front, List.take_of_length_le (by rw [List.length_set, le4_length]; omega)]
    intro he
    have hlen : k - (enc s).length < (le4 (crc (enc s))).length := by
      unfold frame at h1
      rw [List.length_append] at h1
      omega
    have h6 := congrArg (fun l => l[k - (enc s).length]?) he
    simp only [List.getElem?_set_self hlen] at h6
    refine hc ?_
    unfold frame
    rw [List.getElem?_append_right (by omega), ← h6]

end Go.Proofs.Ytokdbpalkfghaaa.DigPure
