/- icehouseref20.num, high. Conditions: typed in each theorem. -/
import Derived.Test.YtnghmgbmflcngaaZbas
namespace Go.Proofs.Ytnghmgbmflcngaa
set_option linter.unusedVariables false
open Go.RowKit
set_option maxHeartbeats 400000 in
theorem num20_any (A : Option Addr) (n c B : Nat) (l : List UInt8) (w : World) (h : Rd w B A n c l) :
    Calls Try.prog 101 #[.slice A n c] w fun e w' => e = .returned (.int .u64 (numQ l)) ∧ w = w' := by
  have m1 : (n : Int) ≤ 9223372036854775807 := by have := h.cap; have := h.max; unfold maxLen at this; omega
  go_enter Try.func101, Try.ntmps101
  go_wp2
  go_loop [3, 5, 8] (fun x y i => ∃ k z : Nat, k ≤ n ∧ i = .int .i64 k ∧ z = numQ (l.take k) ∧ x = .int .u64 (z : Int)) (fun _ _ i => n - (intOf i).toNat)
  case atStart => exact ⟨0, 0, Nat.zero_le _, rfl, rfl, rfl⟩
  case round =>
    obtain ⟨k, z, hk, rfl, hz, rfl⟩ := hrel
    have hyl : z < 18446744073709551616 := by rw [hz]; exact numQ_lt _
    have HY := Lib.hid hz; clear hz
    by_cases hlt : k < n
    · obtain ⟨a1, x1, rfl, -, hx1, hc1⟩ := h.at_ hlt
      have hxb : x1.toNat < 256 := x1.toNat_lt
      have HO := Lib.hid (numQ_or_int hx1 HY.out)
      go_wp2
      go_round
      case rel => exact ⟨k + 1, numQ (l.take (k + 1)), by omega, by go_num, rfl, by rw [HO.out]⟩
      case measure => simp [intOf]; omega
    · go_wp2
      go_ret
      have hkn : k = n := by omega
      exact ⟨by rw [HY.out, List.take_of_length_le (by rw [h.len]; omega)]; rfl, rfl⟩
end Go.Proofs.Ytnghmgbmflcngaa
