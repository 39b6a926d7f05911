/- icehouseref04.Of. Conditions: typed in each theorem. -/
import Derived.Test.YtbncjacbggngiaaBlf
import Derived.Test.YtbncjacbggngiaaBlu
namespace Go.Proofs.Ytbncjacbggngiaa
set_option linter.unusedVariables false
open Go.RowKit

theorem rof_short (A : Option Addr) (n c : Nat) (w : World) (h : n < 4) :
    Calls Try.prog 29 #[.slice A n c] w fun e w' => e = .returned (.tuple #[.slice none 0 0, .int .i64 1]) ∧ w = w' := by
  go_enter Try.func29, Try.ntmps29
  go_wp2
  go_ret2
  exact ⟨rfl, rfl⟩

theorem ofInt_i64 (a : Nat) (h : a < 9223372036854775808) : (BitVec.ofInt 64 (a : Int)).toNat = a := by
  rw [BitVec.toNat_ofInt]; omega
theorem i64_or_nat (a b : Nat) (ha : a < 9223372036854775808) (hb : b < 9223372036854775808) : bits .or .i64 (a : Int) (b : Int) = ((a ||| b : Nat) : Int) := by
  have hx : a ||| b < 2 ^ 63 := Nat.or_lt_two_pow (by omega) (by omega)
  show IntKind.i64.wrap ((BitVec.ofInt 64 (a : Int) ||| BitVec.ofInt 64 (b : Int)).toNat : Int) = _
  rw [BitVec.toNat_or, ofInt_i64 a ha, ofInt_i64 b hb]
  exact IntWalk.i64_in _ (by omega)
theorem or_add (a b k : Nat) (h : b < 2 ^ k) : 2 ^ k * a ||| b = 2 ^ k * a + b := (Nat.two_pow_add_eq_or_of_lt h a).symm
theorem head_facts (x0 x1 x2 x3 : UInt8) : ∃ v0 v1 v2 v01 v012 q : Nat, IntKind.i64.wrap ((x0.toNat : Int) * 16777216) = (v0 : Int) ∧ IntKind.i64.wrap ((x1.toNat : Int) * 65536) = (v1 : Int) ∧ IntKind.i64.wrap ((x2.toNat : Int) * 256) = (v2 : Int) ∧
    bits .or .i64 (v0 : Int) (v1 : Int) = (v01 : Int) ∧ bits .or .i64 (v01 : Int) (v2 : Int) = (v012 : Int) ∧ bits .or .i64 (v012 : Int) (x3.toNat : Int) = (q : Int) ∧ q = numB [x0, x1, x2, x3] := by
  have h0 := x0.toNat_lt
  have h1 := x1.toNat_lt
  have h2 := x2.toNat_lt
  have h3 := x3.toNat_lt
  refine ⟨x0.toNat * 16777216, x1.toNat * 65536, x2.toNat * 256, x0.toNat * 16777216 + x1.toNat * 65536, x0.toNat * 16777216 + x1.toNat * 65536 + x2.toNat * 256, x0.toNat * 16777216 + x1.toNat * 65536 + x2.toNat * 256 + x3.toNat, ?_, ?_, ?_, ?_, ?_, ?_, ?_⟩
  · rw [IntWalk.i64_in _ (by omega)]; omega
  · rw [IntWalk.i64_in _ (by omega)]; omega
  · rw [IntWalk.i64_in _ (by omega)]; omega
  · rw [i64_or_nat _ _ (by omega) (by omega)]
    have := or_add x0.toNat (x1.toNat * 65536) 24 (by omega)
    rw [show 2 ^ 24 * x0.toNat = x0.toNat * 16777216 from by omega] at this
    rw [this]
  · rw [i64_or_nat _ _ (by omega) (by omega)]
    have := or_add (x0.toNat * 256 + x1.toNat) (x2.toNat * 256) 16 (by omega)
    rw [show 2 ^ 16 * (x0.toNat * 256 + x1.toNat) = x0.toNat * 16777216 + x1.toNat * 65536 from by omega] at this
    rw [this]
  · rw [i64_or_nat _ _ (by omega) (by omega)]
    have := or_add (x0.toNat * 65536 + x1.toNat * 256 + x2.toNat) x3.toNat 8 (by omega)
    rw [show 2 ^ 8 * (x0.toNat * 65536 + x1.toNat * 256 + x2.toNat) = x0.toNat * 16777216 + x1.toNat * 65536 + x2.toNat * 256 from by omega] at this
    rw [this]
  · simp [numB]; omega
theorem take4_eq {b : List UInt8} {x0 x1 x2 x3 : UInt8} (h0 : b[0]? = some x0) (h1 : b[1]? = some x1) (h2 : b[2]? = some x2) (h3 : b[3]? = some x3) : b.take 4 = [x0, x1, x2, x3] := by
  rw [take_snoc_of h3, take_snoc_of h2, take_snoc_of h1, take_snoc_of h0]; rfl
/-- What the first four bytes' loads need. -/
theorem head_cells {w : World} {B n c : Nat} {A : Option Addr} {b : List UInt8} (h : Rd w B A n c b) (hn : 4 ≤ n) : ∃ (a : Addr) (x0 x1 x2 x3 : UInt8), A = some a ∧ w.cell? a = some (.int .u8 (x0.toNat : Int)) ∧ w.cell? ⟨a.block, a.off + 1, none⟩ = some (.int .u8 (x1.toNat : Int)) ∧
    w.cell? ⟨a.block, a.off + 2, none⟩ = some (.int .u8 (x2.toNat : Int)) ∧ w.cell? ⟨a.block, a.off + 3, none⟩ = some (.int .u8 (x3.toNat : Int)) ∧ b.take 4 = [x0, x1, x2, x3] := by
  obtain ⟨a, x0, rfl, -, hx0, hc0⟩ := h.at_ (i := 0) (by omega)
  obtain ⟨a1, x1, e1, -, hx1, hc1⟩ := h.at_ (i := 1) (by omega)
  obtain ⟨a2, x2, e2, -, hx2, hc2⟩ := h.at_ (i := 2) (by omega)
  obtain ⟨a3, x3, e3, -, hx3, hc3⟩ := h.at_ (i := 3) (by omega)
  obtain rfl : a = a1 := by injection e1
  obtain rfl : a = a2 := by injection e2
  obtain rfl : a = a3 := by injection e3
  exact ⟨a, x0, x1, x2, x3, rfl, hc0, hc1, hc2, hc3, take4_eq hx0 hx1 hx2 hx3⟩
theorem and_bit (y : UInt8) (i : Nat) (hi : i < 8) : (bits .and .u8 ((y.toNat : Int) / 2 ^ (7 - i)) 1 == 1) = bit8 y i := by
  have hlt : y.toNat / 2 ^ (7 - i) < 256 := Nat.lt_of_le_of_lt (Nat.div_le_self _ _) y.toNat_lt
  have e : (y.toNat : Int) / 2 ^ (7 - i) = ((y.toNat / 2 ^ (7 - i) : Nat) : Int) := by push_cast; rfl
  rw [e, show (1 : Int) = ((1 : Nat) : Int) from rfl, u8_and_nat _ 1 hlt (by decide), Nat.and_one_is_mod]
  unfold bit8
  rw [Nat.testBit_eq_decide_div_mod_eq]
  rw [Bool.eq_iff_iff, beq_iff_eq, decide_eq_true_iff]
  omega
theorem add4_add (a : Addr) (j : Nat) : (a.add 4).add j = ⟨a.block, a.off + 4 + j, none⟩ := by
  unfold Addr.add
  by_cases h : j = 0 <;> simp [h]
theorem wrap_u8_i64 (x : UInt8) : IntKind.i64.wrap (x.toNat : Int) = (x.toNat : Int) := IntWalk.i64_in _ (by have := x.toNat_lt; omega)

def RofNo (w : World) (e : Ending) (w' : World) : Prop := e = .returned (.tuple #[.slice none 0 0, .int .i64 2]) ∧ Below w.heap.size w w'
set_option maxHeartbeats 1000000 in
theorem rof_bits (A : Option Addr) (n c : Nat) (b : List UInt8) (w : World) (h : Rd w w.heap.size A n c b) (hn : 4 ≤ n) (hq : numB (b.take 4) < 8 ∨ 65536 < numB (b.take 4) ∨ numB (b.take 4) % 8 ≠ 0) :
    Calls Try.prog 29 #[.slice A n c] w (RofNo w) := by
  have m1 : (n : Int) ≤ 9223372036854775807 := by have := h.cap; have := h.max; unfold maxLen at this; omega
  obtain ⟨a, x0, x1, x2, x3, rfl, hc0, hc1, hc2, hc3, ht⟩ := head_cells h hn
  obtain ⟨v0, v1, v2, v01, v012, q, f0, f1, f2, f3, f4, f5, hqq⟩ := head_facts x0 x1 x2 x3
  rw [ht, ← hqq] at hq
  have HR := Lib.hid (fun W => right04_no (q : Int) (by omega) W)
  have g0 := wrap_u8_i64 x0
  have g1 := wrap_u8_i64 x1
  have g2 := wrap_u8_i64 x2
  have g3 := wrap_u8_i64 x3
  have j0 : 0 < n := by omega
  have j1 : 1 < n := by omega
  have j2 : 2 < n := by omega
  have j3 : 3 < n := by omega
  have i0 : (0 : Int) < (n : Int) := by omega
  have i1 : (1 : Int) < (n : Int) := by omega
  have i2 : (2 : Int) < (n : Int) := by omega
  have i3 : (3 : Int) < (n : Int) := by omega
  clear ht hqq hq h
  go_enter Try.func29, Try.ntmps29
  go_wp2_with fail
  go_quiet (fail)
  clear f0 f1 f2 f3 f4 f5 g0 g1 g2 g3
  go_wp2_with fail
  refine (HR.out _).mono ?_
  rintro e w' ⟨rfl, rfl⟩
  go_wp2_with fail
  go_ret2
  exact ⟨rfl, below_dq (Below.refl _ _) _⟩
set_option maxHeartbeats 1000000 in
theorem rof_size (A : Option Addr) (n c N : Nat) (b : List UInt8) (w : World) (h : Rd w w.heap.size A n c b) (hn : 4 ≤ n) (hN : 1 ≤ N) (hN2 : N ≤ 8192) (hq : numB (b.take 4) = 8 * N) (hne : n ≠ 4 + N) :
    Calls Try.prog 29 #[.slice A n c] w (RofNo w) := by
  have m1 : (n : Int) ≤ 9223372036854775807 := by have := h.cap; have := h.max; unfold maxLen at this; omega
  obtain ⟨a, x0, x1, x2, x3, rfl, hc0, hc1, hc2, hc3, ht⟩ := head_cells h hn
  obtain ⟨v0, v1, v2, v01, v012, q, f0, f1, f2, f3, f4, f5, hqq⟩ := head_facts x0 x1 x2 x3
  rw [ht, ← hqq] at hq
  have HR := Lib.hid (fun W => right04_yes (q : Int) (by omega) (by omega) (by omega) W)
  have g0 := wrap_u8_i64 x0
  have g1 := wrap_u8_i64 x1
  have g2 := wrap_u8_i64 x2
  have g3 := wrap_u8_i64 x3
  have j0 : 0 < n := by omega
  have j1 : 1 < n := by omega
  have j2 : 2 < n := by omega
  have j3 : 3 < n := by omega
  have i0 : (0 : Int) < (n : Int) := by omega
  have i1 : (1 : Int) < (n : Int) := by omega
  have i2 : (2 : Int) < (n : Int) := by omega
  have i3 : (3 : Int) < (n : Int) := by omega
  have hql : (q : Int) ≤ 65536 := by omega
  have tn : ((n : Int) != 4 + (q : Int) / 8) = true := by rw [bne_iff_ne]; omega
  clear ht hqq hq h hne
  go_enter Try.func29, Try.ntmps29
  go_wp2_with fail
  go_quiet (fail)
  clear f0 f1 f2 f3 f4 f5 g0 g1 g2 g3
  go_wp2_with fail
  refine (HR.out _).mono ?_
  rintro e w' ⟨rfl, rfl⟩
  go_wp2_with fail
  go_ret2
  exact ⟨rfl, below_dq (Below.refl _ _) _⟩
def RofOk (n : Nat) (L : List Bool) (w : World) (e : Ending) (w' : World) : Prop := ∃ A' c', e = .returned (.tuple #[.slice A' n c', .int .i64 0]) ∧ Ov w' w.heap.size 4 A' n c' (bls L) ∧ Below w.heap.size w w'
set_option maxHeartbeats 1000000 in
theorem rof_ok (A : Option Addr) (n c N : Nat) (b : List UInt8) (w : World) (h : Rd w w.heap.size A n c b) (hN : 1 ≤ N) (hN2 : N ≤ 8192) (hq : numB (b.take 4) = 8 * N) (hne : n = 4 + N) :
    Calls Try.prog 29 #[.slice A n c] w (RofOk (8 * N) (bitsL (b.drop 4)) w) := by
  have m1 : (n : Int) ≤ 9223372036854775807 := by have := h.cap; have := h.max; unfold maxLen at this; omega
  obtain ⟨a, x0, x1, x2, x3, rfl, hc0, hc1, hc2, hc3, ht⟩ := head_cells h (by omega)
  obtain ⟨ad, e4, hc4, r4⟩ := rd_from4 h (by omega)
  obtain rfl : a = ad := by injection e4
  obtain ⟨v0, v1, v2, v01, v012, q, f0, f1, f2, f3, f4, f5, hqq⟩ := head_facts x0 x1 x2 x3
  rw [ht, ← hqq] at hq
  have HR := Lib.hid (fun W => right04_yes (q : Int) (by omega) (by omega) (by omega) W)
  have hcap := h.cap
  have hmx := h.max
  unfold maxLen at hmx
  have g0 := wrap_u8_i64 x0
  have g1 := wrap_u8_i64 x1
  have g2 := wrap_u8_i64 x2
  have g3 := wrap_u8_i64 x3
  have j0 : 0 < n := by omega
  have j1 : 1 < n := by omega
  have j2 : 2 < n := by omega
  have j3 : 3 < n := by omega
  have i0 : (0 : Int) < (n : Int) := by omega
  have i1 : (1 : Int) < (n : Int) := by omega
  have i2 : (2 : Int) < (n : Int) := by omega
  have i3 : (3 : Int) < (n : Int) := by omega
  have hql : (q : Int) ≤ 65536 := by omega
  have tn : ((n : Int) != 4 + (q : Int) / 8) = false := by rw [bne_eq_false_iff_eq]; omega
  have HNE := Lib.hid hne
  have hn8 : n ≤ 8196 := by omega
  have h4n : 4 ≤ n := by omega
  clear ht hqq hq h hne e4
  go_enter Try.func29, Try.ntmps29
  go_wp2_with fail
  go_quiet (fail)
  clear f0 f1 f2 f3 f4 f5 g0 g1 g2 g3
  go_wp2_with fail
  refine (HR.out _).mono ?_
  rintro e w' ⟨rfl, rfl⟩
  go_wp2_with fail
  generalize hl : b.drop 4 = l at r4
  have HL := Lib.hid hl
  clear hl tn hc0 hc1 hc2 hc3
  have hll := r4.len
  have HLL := Lib.hid hll
  clear hll
  go_loopw [5, 7, 8, 48] (fun o x k i wr => ∃ (j : Nat) (A' : Option Addr) (c' : Nat), j ≤ n - 4 ∧ i = .int .i64 j ∧ o = .slice A' (8 * j) c' ∧ Ov wr w.heap.size 4 A' (8 * j) c' (bls (bitsL (l.take j))) ∧ Below w.heap.size w wr) (fun _ _ _ i _ => n - 4 - (intOf i).toNat)
  case atStart => exact ⟨0, none, 0, Nat.zero_le _, rfl, rfl, Ov.nil _ _ _, below_dq (Below.refl _ _) _⟩
  case round =>
    obtain ⟨j, A2, c2, hj, rfl, rfl, o2, b2⟩ := hrel
    obtain ⟨wo, rfl⟩ : ∃ wo : World, wo = wr := ⟨_, rfl⟩
    by_cases hlt : j < n - 4
    · obtain ⟨a1, y, e1, -, hy, hcy⟩ := (r4.below b2).at_ hlt
      have HT := Lib.hid (take_snoc_of hy)
      injection e1 with e1
      subst e1
      clear hy
      have hlt' : (j : Int) < (n : Int) - 4 := by omega
      rw [add4_add] at hcy
      go_wp2_with fail
      go_loopw [5, 8] (fun o k wr => ∃ (i : Nat) (A' : Option Addr) (c' : Nat), i ≤ 8 ∧ k = .int .i64 (7 - (i : Int)) ∧ o = .slice A' (8 * j + i) c' ∧ Ov wr w.heap.size 4 A' (8 * j + i) c' (bls (bitsL (l.take j) ++ (bits8 y).take i)) ∧ Below w.heap.size w wr) (fun _ k _ => (intOf k + 1).toNat)
      case atStart => exact ⟨0, A2, c2, Nat.zero_le _, rfl, rfl, by simpa using o2, b2⟩
      case round =>
        obtain ⟨i, A3, c3, hi, rfl, rfl, o3, b3⟩ := hrel
        by_cases hl8 : i < 8
        · have hbit := and_bit y i hl8
          have hst := take_snoc_of (bits8_get y i hl8)
          have HST := Lib.hid hst
          clear hst
          go_wp2_with (at_builtin; refine wpList_appB _ rfl _ _ rfl w.heap.size A3 (8 * j + i) c3 _ rfl (Ov.alloc o3 _) (wr.heap.size + 1) (some ⟨wr.heap.size, 0, none⟩) 1 1 [bit8 y i] rfl (Rv.oneV wr _ _ _ rfl) (by omega) (by simp; have := b3.size; omega) ?_)
          intro A4 c4 w4 o4 b4
          rw [← HST.out] at o4
          have b5 := (b3.alloc b3.size _).trans b4
          clear hbit
          go_wp2_with fail
          go_roundw
          case rel => exact ⟨i + 1, A4, c4, by omega, by go_num, rfl, o4, b5⟩
          case measure => simp [intOf]; omega
        · obtain rfl : i = 8 := by omega
          rw [show (bits8 y).take 8 = bits8 y from rfl] at o3
          have hts : bitsL (l.take (j + 1)) = bitsL (l.take j) ++ bits8 y := by rw [HT.out, bitsL_append, bitsL_cons, bitsL_nil, List.append_nil]
          rw [← hts] at o3
          clear hts
          go_wp2_with fail
          go_roundw
          case rel => exact ⟨j + 1, A3, c3, by omega, by go_num, rfl, o3, b3⟩
          case measure => simp [intOf]; omega
    · go_wp2_with fail
      go_ret2
      obtain rfl : j = n - 4 := by omega
      have e8 : n - 4 = N := by have := HNE.out; omega
      rw [List.take_of_length_le (by rw [HLL.out]; omega), e8] at o2
      exact ⟨A2, c2, by rw [← e8]; rfl, by rw [HL.out]; exact o2, b2⟩
end Go.Proofs.Ytbncjacbggngiaa
