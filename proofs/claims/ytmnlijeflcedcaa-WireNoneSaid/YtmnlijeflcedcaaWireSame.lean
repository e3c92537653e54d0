/-
  The law's own 'same' at two equal lists.
-/
import Derived.Test.YtmnlijeflcedcaaWireEx
namespace Go.Proofs.Ytmnlijeflcedcaa.WireRd
open Go.RowKit Go.Proofs.Ytmnlijeflcedcaa Go.Proofs.Ytmnlijeflcedcaa.WirePure

set_option maxHeartbeats 1000000 in
theorem same_eq (B : Nat) (A A' : Option Addr) (c c' : Nat) (zs : List Int) (w : World) (h : Reads w B 1 A zs.length (zs.map (Value.int .i64))) (h' : Reads w B 1 A' zs.length (zs.map (Value.int .i64))) (hl : zs.length ≤ 140737488355328) :
    Calls Try.prog 20 #[.slice A zs.length c, .slice A' zs.length c'] w fun e w' => e = .returned (.bool true) ∧ ∃ n, w' = w.drewN n := by
  go_enter Try.func20, Try.ntmps20
  go_wp2
  go_loopw [5] (fun vi wr => ∃ k n : Nat, vi = .int .i64 k ∧ k ≤ zs.length ∧ wr = w.drewN n) (fun vi _ => zs.length - (intOf vi).toNat)
  case atStart => exact ⟨0, 0, rfl, Nat.zero_le _, rfl⟩
  case round =>
    obtain ⟨k, n, rfl, hk, rfl⟩ := hrel
    by_cases hlt : k < zs.length
    · obtain ⟨ad, u, rfl, hbk, hx, hc⟩ := h.at_ hlt
      obtain ⟨ad', u', rfl, hbk', hx', hc'⟩ := h'.at_ hlt
      have hu : u = .int .i64 zs[k] := by simpa [hlt] using hx.symm
      have hu' : u' = .int .i64 zs[k] := by simpa [hlt] using hx'.symm
      subst hu hu'
      clear hx hx'
      go_wp2
      go_quiet (fail)
      go_wp2
      go_roundw
      case rel => exact ⟨k + 1, _, by go_num, hlt, rfl⟩
      case measure => simp [intOf]; omega
    · go_wp2
      go_ret
      exact ⟨rfl, _, rfl⟩

end Go.Proofs.Ytmnlijeflcedcaa.WireRd
