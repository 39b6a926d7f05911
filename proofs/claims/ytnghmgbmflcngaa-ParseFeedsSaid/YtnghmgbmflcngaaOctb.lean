/- Numbers as bytes: icehouseref01.Number, High, Both; octet.put, Put16, Put32, Put64. Conditions: typed in each theorem. -/
import Derived.Test.YtnghmgbmflcngaaOcta
import Derived.Test.YtnghmgbmflcngaaPlain
namespace Go.Proofs.Ytnghmgbmflcngaa
set_option linter.unusedVariables false
open Go.RowKit

def numQ (l : List UInt8) : Nat := numB l % 18446744073709551616
theorem numQ_lt (l : List UInt8) : numQ l < 18446744073709551616 := Nat.mod_lt _ (by decide)
theorem numQ_step {l : List UInt8} {k : Nat} {x : UInt8} (h : l[k]? = some x) : IntKind.u64.wrap (IntKind.u64.wrap ((numQ (l.take k) : Int) * 256) + (x.toNat : Int)) = (numQ (l.take (k + 1)) : Int) := by
  rw [take_snoc_of h]
  unfold numQ
  rw [numB_snoc, IntKind.wrap_u64, IntKind.wrap_u64]
  omega
theorem numQ_small {l : List UInt8} (h : l.length ≤ 8) : numQ l = numB l := by
  unfold numQ
  refine Nat.mod_eq_of_lt (Nat.lt_of_lt_of_le (numB_lt _ l rfl) ?_)
  exact Nat.le_trans (Nat.pow_le_pow_right (by decide) h) (by decide)
set_option maxHeartbeats 400000 in
theorem number_any (A : Option Addr) (n c B : Nat) (l : List UInt8) (w : World) (h : Rd w B A n c l) :
    Calls Try.prog 107 #[.slice A n c] w fun e w' => e = .returned (.int .u64 (numQ l)) ∧ w = w' := by
  have m1 : (n : Int) ≤ 9223372036854775807 := by have := h.cap; have := h.max; unfold maxLen at this; omega
  go_enter Try.func107, Try.ntmps107
  go_wp2
  go_loop [3, 4] (fun x i => ∃ k : Nat, k ≤ n ∧ i = .int .i64 k ∧ x = .int .u64 (numQ (l.take k))) (fun _ i => n - (intOf i).toNat)
  case atStart => exact ⟨0, Nat.zero_le _, rfl, rfl⟩
  case round =>
    obtain ⟨k, hk, rfl, rfl⟩ := hrel
    by_cases hlt : k < n
    · obtain ⟨a1, x1, rfl, -, hx1, hc1⟩ := h.at_ hlt
      have hxb : x1.toNat < 256 := x1.toNat_lt
      have HS := Lib.hid (numQ_step hx1)
      go_wp2
      go_round
      case rel => exact ⟨k + 1, by omega, by go_num, by rw [HS.out]⟩
      case measure => simp [intOf]; omega
    · go_wp2
      go_ret
      have hkn : k = n := by omega
      exact ⟨by rw [List.take_of_length_le (by rw [h.len]; omega)]; rfl, rfl⟩

theorem pow28 (k : Nat) : (2 : Int) ^ (8 * k) = ((256 ^ k : Nat) : Int) := by
  rw [Int.pow_mul]; norm_cast
theorem shr_byte {x m j : Nat} : Value.int .u8 ((x : Int) / 2 ^ (8 * (m - 1 - j)) % 256) = cb (UInt8.ofNat (x / 256 ^ (m - j - 1))) := by
  unfold cb
  rw [pow28, show m - 1 - j = m - j - 1 from by omega, ofNat_toNat_int, Int.natCast_ediv]
theorem put_step {x m j : Nat} (h : j < m) : highB (x / 256 ^ (m - j)) j ++ [UInt8.ofNat (x / 256 ^ (m - j - 1))] = highB (x / 256 ^ (m - (j + 1))) (j + 1) := by
  obtain ⟨d, rfl⟩ : ∃ d, m = d + 1 + j := ⟨m - 1 - j, by omega⟩
  rw [highB_snoc, Nat.div_div_eq_div_mul, ← Nat.pow_succ, show d + 1 + j - (j + 1) = d from by omega, show d + 1 + j - j = d + 1 from by omega]
  rfl

set_option maxHeartbeats 400000 in
theorem put_any (A : Option Addr) (n c B : Nat) (x m : Nat) (hx : x < 18446744073709551616) (hm : m ≤ 8) (l : List UInt8) (w : World) (h : Rd w B A n c l) (hB : B ≤ w.heap.size) (hn : n ≤ 140737488355000) :
    Calls Try.prog 119 #[.slice A n c, .int .u64 x, .int .i64 m] w fun e w' => ∃ A' c', e = .returned (.slice A' (n + m) c') ∧ Own w' w.heap.size A' (n + m) c' (l ++ highB x m) ∧ Below w.heap.size w w' := by
  go_enter Try.func119, Try.ntmps119
  go_wp2_with (go_at_call 99; refine (clone_any A n c B l _ h hB (by omega)).mono ?_; rintro e w' ⟨A', c', rfl, ho, hb⟩)
  go_loopw [0, 7] (fun b i wr => ∃ (j : Nat) (A'' : Option Addr) (c'' : Nat), j ≤ m ∧ i = .int .i64 ((m : Int) - 1 - j) ∧ b = .slice A'' (n + j) c'' ∧ Own wr w.heap.size A'' (n + j) c'' (l ++ highB (x / 256 ^ (m - j)) j) ∧ Below w.heap.size w wr) (fun _ i _ => (intOf i + 1).toNat)
  case atStart => exact ⟨0, A', c', Nat.zero_le _, by go_num, rfl, by simpa [highB] using ho, hb⟩
  case round =>
    obtain ⟨j, A2, c2, hj, rfl, rfl, ho2, hb2⟩ := hrel
    by_cases hlt : j < m
    · go_wp2_with (at_builtin; refine wpList_app8 _ rfl _ _ rfl w.heap.size A2 (n + j) c2 _ rfl (ho2.alloc _) (wr.heap.size + 1) (some ⟨wr.heap.size, 0, none⟩) 1 1 [UInt8.ofNat (x / 256 ^ (m - j - 1))] rfl (Rd.one wr _ _ shr_byte) (by omega) (by simp; have := hb2.size; omega) ?_)
      intro A3 c3 w3 ho3 hb3
      rw [put_step hlt] at ho3
      have hb4 := (hb2.alloc hb2.size _).trans hb3
      go_wp2
      go_roundw
      case rel => exact ⟨j + 1, A3, c3, by omega, by go_num, rfl, ho3, hb4⟩
      case measure => simp [intOf]; omega
    · go_wp2
      go_ret
      obtain rfl : j = m := by omega
      exact ⟨A2, c2, rfl, by simpa using ho2, hb2⟩

set_option maxHeartbeats 400000 in
theorem put16_any (A : Option Addr) (n c B : Nat) (x : Nat) (hx : x < 65536) (l : List UInt8) (w : World) (h : Rd w B A n c l) (hB : B ≤ w.heap.size) (hn : n ≤ 140737488355000) :
    Calls Try.prog 126 #[.slice A n c, .int .u16 x] w fun e w' => ∃ A' c', e = .returned (.slice A' (n + 2) c') ∧ Own w' w.heap.size A' (n + 2) c' (l ++ highB x 2) ∧ Below w.heap.size w w' := by
  go_enter Try.func126, Try.ntmps126
  go_wp2_with (go_at_call 119; refine (put_any A n c B x 2 (by omega) (by omega) l _ h hB hn).mono ?_; rintro e w' ⟨A', c', rfl, ho, hb⟩)
  go_ret
  exact ⟨A', c', rfl, ho, hb⟩
set_option maxHeartbeats 400000 in
theorem put32_any (A : Option Addr) (n c B : Nat) (x : Nat) (hx : x < 4294967296) (l : List UInt8) (w : World) (h : Rd w B A n c l) (hB : B ≤ w.heap.size) (hn : n ≤ 140737488355000) :
    Calls Try.prog 87 #[.slice A n c, .int .u32 x] w fun e w' => ∃ A' c', e = .returned (.slice A' (n + 4) c') ∧ Own w' w.heap.size A' (n + 4) c' (l ++ highB x 4) ∧ Below w.heap.size w w' := by
  go_enter Try.func87, Try.ntmps87
  go_wp2_with (go_at_call 119; refine (put_any A n c B x 4 (by omega) (by omega) l _ h hB hn).mono ?_; rintro e w' ⟨A', c', rfl, ho, hb⟩)
  go_ret
  exact ⟨A', c', rfl, ho, hb⟩
set_option maxHeartbeats 400000 in
theorem put64_any (A : Option Addr) (n c B : Nat) (x : Nat) (hx : x < 18446744073709551616) (l : List UInt8) (w : World) (h : Rd w B A n c l) (hB : B ≤ w.heap.size) (hn : n ≤ 140737488355000) :
    Calls Try.prog 88 #[.slice A n c, .int .u64 x] w fun e w' => ∃ A' c', e = .returned (.slice A' (n + 8) c') ∧ Own w' w.heap.size A' (n + 8) c' (l ++ highB x 8) ∧ Below w.heap.size w w' := by
  go_enter Try.func88, Try.ntmps88
  go_wp2_with (go_at_call 119; refine (put_any A n c B x 8 hx (by omega) l _ h hB hn).mono ?_; rintro e w' ⟨A', c', rfl, ho, hb⟩)
  go_ret
  exact ⟨A', c', rfl, ho, hb⟩

theorem high_step {x m j : Nat} (h : j < m) : (List.replicate (m - j) (0 : UInt8) ++ highB x j).set (m - 1 - j) (UInt8.ofNat (x / 256 ^ j)) = List.replicate (m - (j + 1)) 0 ++ highB x (j + 1) := by
  obtain ⟨d, rfl⟩ : ∃ d, m = d + 1 + j := ⟨m - 1 - j, by omega⟩
  have e1 : d + 1 + j - j = d + 1 := by omega
  have e2 : d + 1 + j - 1 - j = d := by omega
  have e3 : d + 1 + j - (j + 1) = d := by omega
  rw [e1, e2, e3, highB_cons, List.replicate_succ', List.append_assoc, List.set_append_right _ _ (by simp)]
  simp
theorem rem_byte {x j : Nat} : Value.int .u8 (((x / 256 ^ j : Nat) : Int) % 256) = cb (UInt8.ofNat (x / 256 ^ j)) := by
  unfold cb; rw [ofNat_toNat_int]

set_option maxHeartbeats 400000 in
theorem high_any (x m : Nat) (hx : x < 18446744073709551616) (hm : m ≤ 1000) (w : World) :
    Calls Try.prog 81 #[.int .u64 x, .int .i64 m] w fun e w' => ∃ A' c', e = .returned (.slice A' m c') ∧ Own w' w.heap.size A' m c' (highB x m) ∧ Below w.heap.size w w' := by
  go_enter Try.func81, Try.ntmps81
  go_wp2_with (at_make; refine wpList_mk8 _ rfl _ _ rfl w.heap.size m rfl rfl (by omega) (Nat.le_refl _) ?_)
  intro w1 ho hb
  go_wp2
  go_loopw [0, 6] (fun y i wr => ∃ (j z : Nat), j ≤ m ∧ i = .int .i64 ((m : Int) - 1 - j) ∧ z = x / 256 ^ j ∧ y = .int .u64 (z : Int) ∧ Own wr w.heap.size (some ⟨w.heap.size, 0, none⟩) m m (List.replicate (m - j) 0 ++ highB x j) ∧ Below w.heap.size w wr) (fun _ i _ => (intOf i + 1).toNat)
  case atStart => exact ⟨0, x, Nat.zero_le _, by go_num, by simp, rfl, by simpa [highB] using ho, hb⟩
  case round =>
    obtain ⟨j, z, hj, rfl, hz, rfl, ho2, hb2⟩ := hrel
    have hy : z < 18446744073709551616 := by rw [hz]; exact Nat.lt_of_le_of_lt (Nat.div_le_self _ _) hx
    have HZ := Lib.hid hz; clear hz
    by_cases hlt : j < m
    · obtain ⟨x1, hx1, hc1⟩ := ho2.cellAt (j := m - 1 - j) (by omega)
      have hf := ho2.frozenAt (m - 1 - j)
      clear hx1
      have ho3 := ho2.stored (m - 1 - j) (UInt8.ofNat (x / 256 ^ j))
      rw [high_step hlt] at ho3
      rw [← rem_byte, ← HZ.out] at ho3
      have hb3 := hb2.setCell (p := ⟨w.heap.size, m - 1 - j, none⟩) (Nat.le_refl _) (.int .u8 ((z : Int) % 256))
      go_wp2
      go_roundw
      case rel => exact ⟨j + 1, z / 256, by omega, by go_num, by rw [HZ.out, Nat.div_div_eq_div_mul, Nat.pow_succ], by go_num, ho3, hb3⟩
      case measure => simp [intOf]; omega
    · go_wp2
      go_ret
      obtain rfl : j = m := by omega
      exact ⟨_, _, rfl, by simpa using ho2, hb2⟩


theorem orB_step {l : List UInt8} {k : Nat} {x : UInt8} (h : l[k]? = some x) : orB (l.take k) ||| x.toNat = orB (l.take (k + 1)) := by
  rw [take_snoc_of h]; simp [orB]
theorem beq_zero_int (y : Nat) : ((y : Int) == 0) = (y == 0) := by
  rw [Bool.eq_iff_iff]; simp
set_option maxHeartbeats 400000 in
theorem both_any (A1 A2 : Option Addr) (n1 c1 n2 c2 B : Nat) (l1 l2 : List UInt8) (w : World) (h1 : Rd w B A1 n1 c1 l1) (h2 : Rd w B A2 n2 c2 l2) (hB : B ≤ w.heap.size) (hn : n1 + n2 ≤ 140737488355328) :
    Calls Try.prog 82 #[.slice A1 n1 c1, .slice A2 n2 c2] w fun e w' => ∃ A' c', e = .returned (.slice A' (n1 + n2) c') ∧ Own w' w.heap.size A' (n1 + n2) c' (l1 ++ l2) ∧ Below w.heap.size w w' := by
  go_enter Try.func82, Try.ntmps82
  go_wp2_with (at_make; refine wpList_mkc8 _ rfl _ _ rfl w.heap.size (n1 + n2) _ rfl rfl (by omega) (by omega) (Nat.le_refl _) ?_)
  intro w1 ho hb
  go_wp2
  go_loopw [5, 6] (fun b i wr => ∃ (k : Nat) (A : Option Addr) (c : Nat), k ≤ n1 ∧ i = .int .i64 k ∧ b = .slice A k c ∧ Own wr w.heap.size A k c (l1.take k) ∧ Below w.heap.size w wr) (fun _ i _ => n1 - (intOf i).toNat)
  case atStart => exact ⟨0, _, _, Nat.zero_le _, rfl, rfl, ho, hb⟩
  case round =>
    obtain ⟨k, A, c, hk, rfl, rfl, ho2, hb2⟩ := hrel
    by_cases hlt : k < n1
    · obtain ⟨a1, x1, rfl, -, hx1, hc1⟩ := ((h1.more hB).below hb2).at_ hlt
      have HT := Lib.hid (take_snoc_of hx1)
      clear hx1
      go_wp2_with (at_builtin; refine wpList_app8 _ rfl _ _ rfl w.heap.size A k c _ rfl (ho2.alloc _) (wr.heap.size + 1) (some ⟨wr.heap.size, 0, none⟩) 1 1 [x1] rfl (Rd.one wr _ _ rfl) (by omega) (by simp; have := hb2.size; omega) ?_)
      intro A3 c3 w3 ho3 hb3
      rw [← HT.out] at ho3
      have hb4 := (hb2.alloc hb2.size _).trans hb3
      go_wp2
      go_roundw
      case rel => exact ⟨k + 1, A3, c3, by omega, by go_num, rfl, ho3, hb4⟩
      case measure => simp [intOf]; omega
    · go_wp2
      obtain rfl : k = n1 := by omega
      rw [List.take_of_length_le (by rw [h1.len]; omega)] at ho2
      go_loopw [5, 7] (fun b i wr => ∃ (j : Nat) (A : Option Addr) (c : Nat), j ≤ n2 ∧ i = .int .i64 j ∧ b = .slice A (k + j) c ∧ Own wr w.heap.size A (k + j) c (l1 ++ l2.take j) ∧ Below w.heap.size w wr) (fun _ i _ => n2 - (intOf i).toNat)
      case atStart => exact ⟨0, _, _, Nat.zero_le _, rfl, rfl, by simpa using ho2, hb2⟩
      case round =>
        obtain ⟨j, A, c, hj, rfl, rfl, ho2, hb2⟩ := hrel
        by_cases hlt2 : j < n2
        · obtain ⟨a1, x1, rfl, -, hx1, hc1⟩ := ((h2.more hB).below hb2).at_ hlt2
          have HT := Lib.hid (take_snoc_of hx1)
          clear hx1
          go_wp2_with (at_builtin; refine wpList_app8 _ rfl _ _ rfl w.heap.size A (k + j) c _ rfl (ho2.alloc _) (wr.heap.size + 1) (some ⟨wr.heap.size, 0, none⟩) 1 1 [x1] rfl (Rd.one wr _ _ rfl) (by omega) (by simp; have := hb2.size; omega) ?_)
          intro A3 c3 w3 ho3 hb3
          rw [← HT.out] at ho3
          have hb4 := (hb2.alloc hb2.size _).trans hb3
          go_wp2
          go_roundw
          case rel => exact ⟨j + 1, A3, c3, by omega, by go_num, rfl, ho3, hb4⟩
          case measure => simp [intOf]; omega
        · go_wp2
          go_ret
          obtain rfl : j = n2 := by omega
          rw [List.take_of_length_le (by rw [h2.len]; omega)] at ho2
          exact ⟨A, c, rfl, ho2, hb2⟩

end Go.Proofs.Ytnghmgbmflcngaa
