/- Probes of a hash: hash.Probes, icehouseref03.Probe, Probes; bloom.at. Conditions: typed in each theorem. -/
import Derived.Test.YtbncjacbggngiaaOctr
import Derived.Test.YtbncjacbggngiaaBlp
namespace Go.Proofs.Ytbncjacbggngiaa
set_option linter.unusedVariables false
open Go.RowKit

def ci (x : Nat) : Value := .int .i64 (x : Int)
def ints (l : List Nat) : List Value := l.map ci
theorem ints_append (a b : List Nat) : ints (a ++ b) = ints a ++ ints b := by simp [ints]
theorem ints_one (l : List Nat) : ∀ u ∈ ints l, u.oneCell' = true := by
  intro u hu
  obtain ⟨_, _, rfl⟩ := List.mem_map.1 hu
  rfl
theorem intinfo : (Try.prog.info? 3).map (fun i => (i.zero, i.size, i.bytes)) = some (some (.int .i64 0), 1, 8) := by kernel_rfl

/-- append to ints of the call's own. -/
theorem wpList_appI (w : World) {ops : Array Oper} {rest : List Oper} {o : Oper} {a : Act} {Q : Exit → Act → World → Prop}
    (hg : Region.wanted o (yielded ops a.tmps) = true) (s x : Operand) (hop : o.op = Op.call { callee := Callee.builtin Builtin.append, args := #[s, x], argTypes := #[57, 57] })
    (B : Nat) (A : Option Addr) (n c : Nat) (l : List Nat) (hs : a.eval s = .slice A n c) (hown : Ov w B 3 A n c (ints l))
    (B2 : Nat) (A2 : Option Addr) (m c2 : Nat) (l2 : List Nat) (hx : a.eval x = .slice A2 m c2) (hr : Rv w B2 A2 m c2 (ints l2))
    (hbytes : (n + m) * 8 ≤ 140737488355328) (hbase : B ≤ w.heap.size)
    (hK : ∀ A' c' w', Ov w' B 3 A' (n + m) c' (ints (l ++ l2)) → Below B w w' → wpList Try.prog ops Q rest (a.put o.dst (.slice A' (n + m) c')) w') :
    wpList Try.prog ops Q (o :: rest) a w := by
  obtain ⟨i0, hi0, hz0, hz1, hz2⟩ := info_parts intinfo
  refine wpList_app w hg s x _ hop B 3 i0 _ 8 Try.underlying57 hi0 hz0 hz1 hz2 rfl A n c (ints l) hs hown B2 A2 m c2 (ints l2) hx hr (ints_one _) (fits_small (by omega)) (by unfold maxLen; omega) hbase ?_
  intro A' c' w' h1 h2 _
  refine hK A' c' w' (by rw [ints_append]; exact h1) ?_
  refine (Below.refl B w).grown h2 hbase fun k hk => ?_
  exact (World.ownsRow.lt hown k hk).1

theorem Rv.oneV (w : World) (v : Value) (e : TypeId) (k : Nat) (hk : w.heap.size = k) : Rv (w.alloc (.cells #[v] e)) (k + 1) (some ⟨k, 0, none⟩) 1 1 [v] := by
  subst hk
  have := Ov.rv (Ov.lit w #[v] e w.heap.size 1 [v] (Nat.le_refl _) (by simp [maxLen]) rfl rfl)
  exact this.more (by simp)

theorem stp_lt {h : Nat} (hh : h < 18446744073709551616) : stp h < 4294967296 := by unfold stp; omega
theorem or_one (x : Nat) : x ||| 1 = x / 2 * 2 + 1 := by
  apply Nat.eq_of_testBit_eq
  intro i
  rw [Nat.testBit_or]
  cases i with
  | zero => simp [Nat.testBit_zero]
  | succ i =>
    rw [Nat.testBit_succ, Nat.testBit_succ, Nat.testBit_succ]
    have e : (x / 2 * 2 + 1) / 2 = x / 2 := by omega
    rw [e]; simp
/-- Probes so far. -/
def prbK (h m k : Nat) : List Nat := (List.range k).map (prb h m)
theorem prbK_four (h m : Nat) : prbK h m 4 = prbs h m := rfl
theorem prbK_succ (h m k : Nat) : prbK h m (k + 1) = prbK h m k ++ [prb h m k] := by
  unfold prbK; rw [List.range_succ, List.map_append]; rfl
def prA (h k : Nat) : Nat := (h % 4294967296 + k * stp h) % 4294967296
theorem prA_lt (h k : Nat) : prA h k < 4294967296 := Nat.mod_lt _ (by decide)
theorem prA_succ (h k : Nat) : (prA h k + stp h) % 4294967296 = prA h (k + 1) := by
  unfold prA; rw [Nat.succ_mul]; omega
def SliceI (n : Nat) (l : List Nat) (w : World) (e : Ending) (w' : World) : Prop := ∃ A' c', e = .returned (.slice A' n c') ∧ Ov w' w.heap.size 3 A' n c' (ints l) ∧ Below w.heap.size w w'

set_option maxHeartbeats 400000 in
theorem probes_any (h m : Nat) (hh : h < 18446744073709551616) (hm : 0 < m) (hm2 : m ≤ 16777216) (w : World) :
    Calls Try.prog 30 #[.int .u64 h, .int .i64 m, .int .i64 4] w (SliceI 4 (prbs h m) w) := by
  have hor : bits .or .u32 ((h : Int) / 4294967296) 1 = (stp h : Int) := by
    have := u32_or_nat (h / 4294967296) 1 (by omega) (by omega)
    rw [or_one] at this
    unfold stp
    rw [show (h : Int) / 4294967296 = ((h / 4294967296 : Nat) : Int) from by omega, show (1 : Int) = ((1 : Nat) : Int) from rfl, this]
    congr 1
    omega
  have hst := stp_lt hh
  have hmI : (1 : Int) ≤ m := by omega
  go_enter Try.func30, Try.ntmps30
  go_wp2
  go_loopw [7, 9, 31] (fun x l i wr => ∃ (k y : Nat) (A : Option Addr) (c : Nat), k ≤ 4 ∧ i = .int .i64 k ∧ y < 4294967296 ∧ y = prA h k ∧ x = .int .u32 (y : Int) ∧ l = .slice A k c ∧ Ov wr w.heap.size 3 A k c (ints (prbK h m k)) ∧ Below w.heap.size w wr) (fun _ _ i _ => 4 - (intOf i).toNat)
  case atStart => exact ⟨0, h % 4294967296, none, 0, by omega, rfl, Nat.mod_lt _ (by decide), by simp [prA], by go_num, rfl, Ov.nil _ _ _, Below.refl _ _⟩
  case round =>
    obtain ⟨k, y, A, c, hk, rfl, hy, hyk, rfl, rfl, ho, hb⟩ := hrel
    by_cases hlt : k < 4
    · have HS := Lib.hid (show prbK h m (k + 1) = prbK h m k ++ [y % m] from by rw [prbK_succ, hyk]; rfl)
      have HY := Lib.hid (show (y + stp h) % 4294967296 = prA h (k + 1) from by rw [hyk, prA_succ])
      clear hyk
      have hym : y % m < m := Nat.mod_lt _ hm
      go_wp2_with (at_builtin; refine wpList_appI _ rfl _ _ rfl w.heap.size A k c (prbK h m k) rfl (ho.alloc _) (wr.heap.size + 1) (some ⟨wr.heap.size, 0, none⟩) 1 1 [y % m] rfl (Rv.oneV wr _ _ _ rfl) (by omega) (by simp; have := hb.size; omega) ?_)
      intro A3 c3 w3 ho3 hb3
      rw [← HS.out] at ho3
      have hb4 := (hb.alloc hb.size _).trans hb3
      go_wp2
      go_roundw
      case rel => exact ⟨k + 1, (y + stp h) % 4294967296, A3, c3, by omega, by go_num, Nat.mod_lt _ (by decide), HY.out, by go_num, by go_num, ho3, hb4⟩
      case measure => simp [intOf]; omega
    · go_wp2
      go_ret
      obtain rfl : k = 4 := by omega
      exact ⟨A, c, rfl, ho, hb⟩

theorem ret_int {k : IntKind} {a b : Int} (h : a = b) : Ending.returned (.int k a) = .returned (.int k b) := by rw [h]
theorem probe_int (h m p : Nat) (hm : 0 < m) (hm2 : m ≤ 16777216) : wrap64 (((h : Int) + (p : Int)) % 4294967296 % (m : Int)) = (((h % 4294967296 + p) % 4294967296 % m : Nat) : Int) := by
  have hlt : (h % 4294967296 + p) % 4294967296 % m < m := Nat.mod_lt _ hm
  rw [show ((h : Int) + (p : Int)) % 4294967296 = (((h % 4294967296 + p) % 4294967296 : Nat) : Int) from by omega, ← Int.natCast_emod]
  exact IntWalk.wrap64_in _ (by omega)
theorem one8_int (k : Nat) (h : k < 8) : ((2 : Int) ^ (7 - k) % 256) = (one8 k : Nat) := by
  rcases (by omega : k = 0 ∨ k = 1 ∨ k = 2 ∨ k = 3 ∨ k = 4 ∨ k = 5 ∨ k = 6 ∨ k = 7) with rfl | rfl | rfl | rfl | rfl | rfl | rfl | rfl <;> rfl
theorem probe_eq (h m i : Nat) (e : h / 4294967296 % 2 = 1) : prb h m i = (h % 4294967296 + i * (h / 4294967296)) % 4294967296 % m := by
  unfold prb stp; rw [show h / 8589934592 * 2 + 1 = h / 4294967296 from by omega]
theorem probe_eq' (h m i : Nat) (e : h / 4294967296 % 2 = 0) : prb h m i = (h % 4294967296 + i * (h / 4294967296 + 1)) % 4294967296 % m := by
  unfold prb stp; rw [show h / 8589934592 * 2 + 1 = h / 4294967296 + 1 from by omega]
set_option maxHeartbeats 400000 in
theorem probe_any (h m i : Nat) (hh : h < 18446744073709551616) (hm : 0 < m) (hm2 : m ≤ 16777216) (hi : i ≤ 16) (w : World) :
    Calls Try.prog 39 #[.int .u64 h, .int .i64 m, .int .i64 i] w fun e w' => e = .returned (.int .i64 (prb h m i : Nat)) ∧ w = w' := by
  obtain ⟨g, hg⟩ : ∃ g, g = h / 4294967296 := ⟨_, rfl⟩
  by_cases he : h / 4294967296 % 2 = 1
  · have t1 : ((h : Int) / 4294967296 % 2 == 0) = false := by rw [beq_eq_false_iff_ne]; omega
    have HP := Lib.hid (probe_eq h m i he)
    have q0 : (0 : Int) ≤ (i : Int) * ((h : Int) / 4294967296) := Int.mul_nonneg (by omega) (by omega)
    have q1 : (i : Int) * ((h : Int) / 4294967296) ≤ 16 * 4294967296 := Int.mul_le_mul (by omega) (by omega) (by omega) (by omega)
    clear he hg
    go_enter Try.func39, Try.ntmps39
    go_wp2
    go_ret
    refine ⟨ret_int ?_, rfl⟩
    rw [HP.out]
    have e := probe_int h m (i * (h / 4294967296)) hm hm2
    rw [Int.natCast_mul, show ((h / 4294967296 : Nat) : Int) = (h : Int) / 4294967296 from by omega] at e
    exact e
  · have t1 : ((h : Int) / 4294967296 % 2 == 0) = true := by rw [beq_iff_eq]; omega
    have HP := Lib.hid (probe_eq' h m i (by omega))
    have q0 : (0 : Int) ≤ (i : Int) * ((h : Int) / 4294967296 + 1) := Int.mul_nonneg (by omega) (by omega)
    have q1 : (i : Int) * ((h : Int) / 4294967296 + 1) ≤ 16 * 4294967297 := Int.mul_le_mul (by omega) (by omega) (by omega) (by omega)
    clear he hg
    go_enter Try.func39, Try.ntmps39
    go_wp2
    go_ret
    refine ⟨ret_int ?_, rfl⟩
    rw [HP.out]
    have e := probe_int h m (i * (h / 4294967296 + 1)) hm hm2
    rw [Int.natCast_mul, show ((h / 4294967296 + 1 : Nat) : Int) = (h : Int) / 4294967296 + 1 from by omega] at e
    exact e

set_option maxHeartbeats 400000 in
theorem at_any (i : Nat) (hi : i ≤ 16777216) (w : World) :
    Calls Try.prog 31 #[.int .i64 i] w (Quiet (.tuple #[.int .i64 (i / 8 : Nat), .int .u8 (one8 (i % 8) : Nat)]) w) := by
  go_enter Try.func31, Try.ntmps31
  go_wp2
  go_quiet (fail)
  go_wp2
  go_ret2
  exact ⟨by rw [← one8_int (i % 8) (Nat.mod_lt _ (by decide))]; rfl, by first | exact ⟨_, rfl⟩ | exact ⟨_, World.drewN_drewN _ _ _⟩⟩

set_option maxHeartbeats 400000 in
theorem rprobes_any (h m : Nat) (hh : h < 18446744073709551616) (hm : 0 < m) (hm2 : m ≤ 16777216) (w : World) :
    Calls Try.prog 32 #[.int .u64 h, .int .i64 m, .int .i64 4] w (SliceI 4 (prbs h m) w) := by
  have hmI : (1 : Int) ≤ m := by omega
  go_enter Try.func32, Try.ntmps32
  go_wp2
  go_loopw [7, 8] (fun l i wr => ∃ (k : Nat) (A : Option Addr) (c : Nat), k ≤ 4 ∧ i = .int .i64 k ∧ l = .slice A k c ∧ Ov wr w.heap.size 3 A k c (ints (prbK h m k)) ∧ Below w.heap.size w wr) (fun _ i _ => 4 - (intOf i).toNat)
  case atStart => exact ⟨0, none, 0, by omega, rfl, rfl, Ov.nil _ _ _, Below.refl _ _⟩
  case round =>
    obtain ⟨k, A, c, hk, rfl, rfl, ho, hb⟩ := hrel
    by_cases hlt : k < 4
    · have HS := Lib.hid (prbK_succ h m k)
      go_wp2_with fail
      refine (probe_any h m k hh hm hm2 (by omega) _).mono ?_
      rintro e w' ⟨rfl, rfl⟩
      go_wp2_with (at_builtin; refine wpList_appI _ rfl _ _ rfl w.heap.size A k c (prbK h m k) rfl (ho.alloc _) (wr.heap.size + 1) (some ⟨wr.heap.size, 0, none⟩) 1 1 [prb h m k] rfl (Rv.oneV wr _ _ _ rfl) (by omega) (by simp; have := hb.size; omega) ?_)
      intro A3 c3 w3 ho3 hb3
      rw [← HS.out] at ho3
      have hb4 := (hb.alloc hb.size _).trans hb3
      go_wp2
      go_roundw
      case rel => exact ⟨k + 1, A3, c3, by omega, by go_num, by go_num, ho3, hb4⟩
      case measure => simp [intOf]; omega
    · go_wp2
      go_ret
      obtain rfl : k = 4 := by omega
      exact ⟨A, c, rfl, ho, hb⟩
end Go.Proofs.Ytbncjacbggngiaa
