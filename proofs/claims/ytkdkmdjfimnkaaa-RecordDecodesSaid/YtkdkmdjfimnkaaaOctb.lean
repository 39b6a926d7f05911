/- Numbers as bytes: icehouseref01.Number, High, Both; octet.put, Put16, Put32, Put64. Conditions: typed in each theorem. -/
import Derived.Test.YtkdkmdjfimnkaaaOcta
import Derived.Test.YtkdkmdjfimnkaaaPlain
namespace Go.Proofs.Ytkdkmdjfimnkaaa
set_option linter.unusedVariables false
open Go.RowKit

def numQ (l : List UInt8) : Nat := numB l % 18446744073709551616
theorem numQ_lt (l : List UInt8) : numQ l < 18446744073709551616 := Nat.mod_lt _ (by decide)
theorem numQ_step {l : List UInt8} {k : Nat} {x : UInt8} (h : l[k]? = some x) : IntKind.u64.wrap (IntKind.u64.wrap ((numQ (l.take k) : Int) * 256) + (x.toNat : Int)) = (numQ (l.take (k + 1)) : Int) := by
  rw [take_snoc_of h]
  unfold numQ
  rw [numB_snoc, IntKind.wrap_u64, IntKind.wrap_u64]
  omega
theorem numQ_small {l : List UInt8} (h : l.length ≤ 8) : numQ l = numB l := by
  unfold numQ
  refine Nat.mod_eq_of_lt (Nat.lt_of_lt_of_le (numB_lt _ l rfl) ?_)
  exact Nat.le_trans (Nat.pow_le_pow_right (by decide) h) (by decide)
theorem pow28 (k : Nat) : (2 : Int) ^ (8 * k) = ((256 ^ k : Nat) : Int) := by
  rw [Int.pow_mul]; norm_cast
theorem shr_byte {x m j : Nat} : Value.int .u8 ((x : Int) / 2 ^ (8 * (m - 1 - j)) % 256) = cb (UInt8.ofNat (x / 256 ^ (m - j - 1))) := by
  unfold cb
  rw [pow28, show m - 1 - j = m - j - 1 from by omega, ofNat_toNat_int, Int.natCast_ediv]
theorem put_step {x m j : Nat} (h : j < m) : highB (x / 256 ^ (m - j)) j ++ [UInt8.ofNat (x / 256 ^ (m - j - 1))] = highB (x / 256 ^ (m - (j + 1))) (j + 1) := by
  obtain ⟨d, rfl⟩ : ∃ d, m = d + 1 + j := ⟨m - 1 - j, by omega⟩
  rw [highB_snoc, Nat.div_div_eq_div_mul, ← Nat.pow_succ, show d + 1 + j - (j + 1) = d from by omega, show d + 1 + j - j = d + 1 from by omega]
  rfl

set_option maxHeartbeats 400000 in
theorem put_any (A : Option Addr) (n c B : Nat) (x m : Nat) (hx : x < 18446744073709551616) (hm : m ≤ 8) (l : List UInt8) (w : World) (h : Rd w B A n c l) (hB : B ≤ w.heap.size) (hn : n ≤ 140737488355000) :
    Calls Try.prog 43 #[.slice A n c, .int .u64 x, .int .i64 m] w fun e w' => ∃ A' c', e = .returned (.slice A' (n + m) c') ∧ Own w' w.heap.size A' (n + m) c' (l ++ highB x m) ∧ Below w.heap.size w w' := by
  go_enter Try.func43, Try.ntmps43
  go_wp2_with (go_at_call 31; refine (clone_any A n c B l _ h hB (by omega)).mono ?_; rintro e w' ⟨A', c', rfl, ho, hb⟩)
  go_loopw [0, 7] (fun b i wr => ∃ (j : Nat) (A'' : Option Addr) (c'' : Nat), j ≤ m ∧ i = .int .i64 ((m : Int) - 1 - j) ∧ b = .slice A'' (n + j) c'' ∧ Own wr w.heap.size A'' (n + j) c'' (l ++ highB (x / 256 ^ (m - j)) j) ∧ Below w.heap.size w wr) (fun _ i _ => (intOf i + 1).toNat)
  case atStart => exact ⟨0, A', c', Nat.zero_le _, by go_num, rfl, by simpa [highB] using ho, hb⟩
  case round =>
    obtain ⟨j, A2, c2, hj, rfl, rfl, ho2, hb2⟩ := hrel
    by_cases hlt : j < m
    · go_wp2_with (at_builtin; refine wpList_app8 _ rfl _ _ rfl w.heap.size A2 (n + j) c2 _ rfl (ho2.alloc _) (wr.heap.size + 1) (some ⟨wr.heap.size, 0, none⟩) 1 1 [UInt8.ofNat (x / 256 ^ (m - j - 1))] rfl (Rd.one wr _ _ shr_byte) (by omega) (by simp; have := hb2.size; omega) ?_)
      intro A3 c3 w3 ho3 hb3
      rw [put_step hlt] at ho3
      have hb4 := (hb2.alloc hb2.size _).trans hb3
      go_wp2
      go_roundw
      case rel => exact ⟨j + 1, A3, c3, by omega, by go_num, rfl, ho3, hb4⟩
      case measure => simp [intOf]; omega
    · go_wp2
      go_ret
      obtain rfl : j = m := by omega
      exact ⟨A2, c2, rfl, by simpa using ho2, hb2⟩

set_option maxHeartbeats 400000 in
theorem put16_any (A : Option Addr) (n c B : Nat) (x : Nat) (hx : x < 65536) (l : List UInt8) (w : World) (h : Rd w B A n c l) (hB : B ≤ w.heap.size) (hn : n ≤ 140737488355000) :
    Calls Try.prog 34 #[.slice A n c, .int .u16 x] w fun e w' => ∃ A' c', e = .returned (.slice A' (n + 2) c') ∧ Own w' w.heap.size A' (n + 2) c' (l ++ highB x 2) ∧ Below w.heap.size w w' := by
  go_enter Try.func34, Try.ntmps34
  go_wp2_with (go_at_call 43; refine (put_any A n c B x 2 (by omega) (by omega) l _ h hB hn).mono ?_; rintro e w' ⟨A', c', rfl, ho, hb⟩)
  go_ret
  exact ⟨A', c', rfl, ho, hb⟩
set_option maxHeartbeats 400000 in
theorem put32_any (A : Option Addr) (n c B : Nat) (x : Nat) (hx : x < 4294967296) (l : List UInt8) (w : World) (h : Rd w B A n c l) (hB : B ≤ w.heap.size) (hn : n ≤ 140737488355000) :
    Calls Try.prog 32 #[.slice A n c, .int .u32 x] w fun e w' => ∃ A' c', e = .returned (.slice A' (n + 4) c') ∧ Own w' w.heap.size A' (n + 4) c' (l ++ highB x 4) ∧ Below w.heap.size w w' := by
  go_enter Try.func32, Try.ntmps32
  go_wp2_with (go_at_call 43; refine (put_any A n c B x 4 (by omega) (by omega) l _ h hB hn).mono ?_; rintro e w' ⟨A', c', rfl, ho, hb⟩)
  go_ret
  exact ⟨A', c', rfl, ho, hb⟩
set_option maxHeartbeats 400000 in
theorem put64_any (A : Option Addr) (n c B : Nat) (x : Nat) (hx : x < 18446744073709551616) (l : List UInt8) (w : World) (h : Rd w B A n c l) (hB : B ≤ w.heap.size) (hn : n ≤ 140737488355000) :
    Calls Try.prog 33 #[.slice A n c, .int .u64 x] w fun e w' => ∃ A' c', e = .returned (.slice A' (n + 8) c') ∧ Own w' w.heap.size A' (n + 8) c' (l ++ highB x 8) ∧ Below w.heap.size w w' := by
  go_enter Try.func33, Try.ntmps33
  go_wp2_with (go_at_call 43; refine (put_any A n c B x 8 hx (by omega) l _ h hB hn).mono ?_; rintro e w' ⟨A', c', rfl, ho, hb⟩)
  go_ret
  exact ⟨A', c', rfl, ho, hb⟩

theorem high_step {x m j : Nat} (h : j < m) : (List.replicate (m - j) (0 : UInt8) ++ highB x j).set (m - 1 - j) (UInt8.ofNat (x / 256 ^ j)) = List.replicate (m - (j + 1)) 0 ++ highB x (j + 1) := by
  obtain ⟨d, rfl⟩ : ∃ d, m = d + 1 + j := ⟨m - 1 - j, by omega⟩
  have e1 : d + 1 + j - j = d + 1 := by omega
  have e2 : d + 1 + j - 1 - j = d := by omega
  have e3 : d + 1 + j - (j + 1) = d := by omega
  rw [e1, e2, e3, highB_cons, List.replicate_succ', List.append_assoc, List.set_append_right _ _ (by simp)]
  simp
theorem rem_byte {x j : Nat} : Value.int .u8 (((x / 256 ^ j : Nat) : Int) % 256) = cb (UInt8.ofNat (x / 256 ^ j)) := by
  unfold cb; rw [ofNat_toNat_int]

theorem orB_step {l : List UInt8} {k : Nat} {x : UInt8} (h : l[k]? = some x) : orB (l.take k) ||| x.toNat = orB (l.take (k + 1)) := by
  rw [take_snoc_of h]; simp [orB]
theorem beq_zero_int (y : Nat) : ((y : Int) == 0) = (y == 0) := by
  rw [Bool.eq_iff_iff]; simp
end Go.Proofs.Ytkdkmdjfimnkaaa
