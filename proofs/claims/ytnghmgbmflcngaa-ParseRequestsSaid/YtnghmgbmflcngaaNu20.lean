/- icehouseref20.num, high. Conditions: typed in each theorem. -/
import Derived.Test.YtnghmgbmflcngaaZbas
namespace Go.Proofs.Ytnghmgbmflcngaa
set_option linter.unusedVariables false
open Go.RowKit

set_option maxHeartbeats 400000 in
theorem num20_any (A : Option Addr) (n c B : Nat) (l : List UInt8) (w : World) (h : Rd w B A n c l) :
    Calls Try.prog 101 #[.slice A n c] w fun e w' => e = .returned (.int .u64 (numQ l)) ∧ w = w' := by
  have m1 : (n : Int) ≤ 9223372036854775807 := by have := h.cap; have := h.max; unfold maxLen at this; omega
  go_enter Try.func101, Try.ntmps101
  go_wp2
  go_loop [3, 5, 8] (fun x y i => ∃ k z : Nat, k ≤ n ∧ i = .int .i64 k ∧ z = numQ (l.take k) ∧ x = .int .u64 (z : Int)) (fun _ _ i => n - (intOf i).toNat)
  case atStart => exact ⟨0, 0, Nat.zero_le _, rfl, rfl, rfl⟩
  case round =>
    obtain ⟨k, z, hk, rfl, hz, rfl⟩ := hrel
    have hyl : z < 18446744073709551616 := by rw [hz]; exact numQ_lt _
    have HY := Lib.hid hz; clear hz
    by_cases hlt : k < n
    · obtain ⟨a1, x1, rfl, -, hx1, hc1⟩ := h.at_ hlt
      have hxb : x1.toNat < 256 := x1.toNat_lt
      have HO := Lib.hid (numQ_or_int hx1 HY.out)
      go_wp2
      go_round
      case rel => exact ⟨k + 1, numQ (l.take (k + 1)), by omega, by go_num, rfl, by rw [HO.out]⟩
      case measure => simp [intOf]; omega
    · go_wp2
      go_ret
      have hkn : k = n := by omega
      exact ⟨by rw [HY.out, List.take_of_length_le (by rw [h.len]; omega)]; rfl, rfl⟩

set_option maxHeartbeats 400000 in
theorem high20_any (x m : Nat) (hx : x < 18446744073709551616) (hm : m ≤ 8) (w : World) :
    Calls Try.prog 94 #[.int .u64 x, .int .i64 m] w fun e w' => ∃ A' c', e = .returned (.slice A' m c') ∧ Own w' w.heap.size A' m c' (highB x m) ∧ Below w.heap.size w w' := by
  go_enter Try.func94, Try.ntmps94
  go_wp2_with fail
  go_loopw [5, 6] (fun b i wr => ∃ (j : Nat) (A'' : Option Addr) (c'' : Nat), j ≤ m ∧ i = .int .i64 ((m : Int) - 1 - j) ∧ b = .slice A'' j c'' ∧ Own wr w.heap.size A'' j c'' (highB (x / 256 ^ (m - j)) j) ∧ Below w.heap.size w wr) (fun _ i _ => (intOf i + 1).toNat)
  case atStart => exact ⟨0, none, 0, Nat.zero_le _, by go_num, rfl, Own.nil _ _, Below.refl _ _⟩
  case round =>
    obtain ⟨j, A2, c2, hj, rfl, rfl, ho2, hb2⟩ := hrel
    by_cases hlt : j < m
    · go_wp2_with (at_builtin; refine wpList_app8 _ rfl _ _ rfl w.heap.size A2 j c2 _ rfl (ho2.alloc _) (wr.heap.size + 1) (some ⟨wr.heap.size, 0, none⟩) 1 1 [UInt8.ofNat (x / 256 ^ (m - j - 1))] rfl (Rd.one wr _ _ shr_byte) (by omega) (by simp; have := hb2.size; omega) ?_)
      intro A3 c3 w3 ho3 hb3
      rw [put_step hlt] at ho3
      have hb4 := (hb2.alloc hb2.size _).trans hb3
      go_wp2
      go_roundw
      case rel => exact ⟨j + 1, A3, c3, by omega, by go_num, rfl, ho3, hb4⟩
      case measure => simp [intOf]; omega
    · go_wp2
      go_ret
      obtain rfl : j = m := by omega
      exact ⟨A2, c2, rfl, by simpa using ho2, hb2⟩
end Go.Proofs.Ytnghmgbmflcngaa
