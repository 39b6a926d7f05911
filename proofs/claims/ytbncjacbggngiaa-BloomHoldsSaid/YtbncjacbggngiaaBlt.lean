/- The helpers of icehouselaw04: size, few, bytes.Equal, icehouseref04.Bytes, agree. Conditions: typed in each theorem. -/
import Derived.Test.YtbncjacbggngiaaBlw
namespace Go.Proofs.Ytbncjacbggngiaa
set_option linter.unusedVariables false
open Go.RowKit

/-- How many bytes a filter has that is played with. -/
def szN (x : Int) : Nat := 1 + (x % 18446744073709551616).toNat % 200
theorem szN_bd (x : Int) : 1 ≤ szN x ∧ szN x ≤ 200 := by unfold szN; omega
theorem szN_val (x : Int) : wrap64 (8 * wrap64 (1 + wrap64 ((IntKind.u64.wrap x).tmod 200))) = 8 * (szN x : Int) := by
  have h0 : (0 : Int) ≤ x % 18446744073709551616 := Int.emod_nonneg _ (by decide)
  rw [IntKind.wrap_u64, Int.tmod_eq_emod_of_nonneg h0]
  unfold szN
  rw [IntWalk.wrap64_in (x % 18446744073709551616 % 200) (by omega), IntWalk.wrap64_in (1 + _) (by omega), IntWalk.wrap64_in (8 * _) (by omega)]
  omega
theorem size_any (x : Int) (w : World) (h : -9223372036854775808 ≤ x ∧ x ≤ 9223372036854775807) :
    Calls Try.prog 19 #[.int .i64 x] w fun e w' => e = .returned (.int .i64 (8 * (szN x : Int))) ∧ w = w' := by
  go_enter Try.func19, Try.ntmps19
  go_wp2
  go_ret
  exact ⟨ret_int (szN_val x), rfl⟩

theorem run_str {w : World} {B : Nat} {A : Option Addr} {n c : Nat} {l : List UInt8} (h : Rd w B A n c l) (hn : 0 < n) :
    (convert 41 9 (.slice A n c)).run Try.prog w = .ok (.string ⟨l.toArray⟩) w := by
  obtain ⟨ad, x, rfl, -, -, -⟩ := h.at_ hn
  have hl := h.len
  subst hl
  refine run_convert_bytes_back w 41 9 5 ad c l Try.underlying41 Try.underlying5 Try.underlying9 fun j hj => ?_
  have := h.2.2.2.2.2 ad j (cb l[j]) rfl (by rw [cbs_get?, List.getElem?_eq_getElem hj]; rfl)
  exact this
set_option maxHeartbeats 400000 in
theorem bequal_any (A1 A2 : Option Addr) (n1 c1 n2 c2 B B2 : Nat) (l1 l2 : List UInt8) (w : World) (h1 : Rd w B A1 n1 c1 l1) (h2 : Rd w B2 A2 n2 c2 l2) (p1 : 0 < n1) (p2 : 0 < n2) (he : l1 = l2) :
    Calls Try.prog 21 #[.slice A1 n1 c1, .slice A2 n2 c2] w fun e w' => e = .returned (.bool true) ∧ w = w' := by
  have r1 := run_str h1 p1
  have r2 := run_str h2 p2
  subst he
  go_enter Try.func21, Try.ntmps21
  go_wp2
  go_ret
  exact ⟨rfl, rfl⟩

theorem few_any (A : Option Addr) (n c : Nat) (w : World) (h0 : n ≤ c) (hc : c ≤ maxLen) :
    Calls Try.prog 20 #[.slice A n c] w fun e w' => e = .returned (.slice A (min n 100) c) ∧ w = w' := by
  unfold maxLen at hc
  by_cases h : n ≤ 100
  · rw [Nat.min_eq_left h]
    go_enter Try.func20, Try.ntmps20
    go_wp2
    go_ret
    exact ⟨rfl, rfl⟩
  · rw [Nat.min_eq_right (by omega)]
    go_enter Try.func20, Try.ntmps20
    go_wp2
    go_ret
    exact ⟨rfl, rfl⟩

theorem head4 (x : Nat) (h : x ≤ 65536) (X : Int) (hX : X = x) : [Value.int .u8 (X / 16777216), .int .u8 (X / 65536), .int .u8 (X / 256 % 256), .int .u8 (X % 256)] = cbs (highB x 4) := by
  subst hX
  simp only [highB, cbs, cb, List.nil_append, List.cons_append, List.map_cons, List.map_nil, ofNat_toNat_int]
  congr 2
  · omega
  congr 2
  · omega
theorem byte8_snoc (a : List Bool) (b : Bool) : byte8 (a ++ [b]) = 2 * byte8 a + b.toNat := by simp [byte8]
theorem byte8_lt : ∀ (n : Nat) (a : List Bool), a.length = n → byte8 a < 2 ^ n
  | 0, a, h => by rw [List.eq_nil_of_length_eq_zero h]; decide
  | n + 1, a, h => by
    obtain ⟨m, b, rfl, hm⟩ := snoc_of a n h
    have := byte8_lt n m hm
    rw [byte8_snoc, Nat.pow_succ]
    cases b <;> simp <;> omega
theorem byte8_take_lt (y : UInt8) (k : Nat) (hk : k ≤ 7) : byte8 ((bits8 y).take k) < 128 := by
  have := byte8_lt k ((bits8 y).take k) (by rw [List.length_take]; simp [bits8]; omega)
  refine Nat.lt_of_lt_of_le this ?_
  exact Nat.le_trans (Nat.pow_le_pow_right (by decide) hk) (by decide)
set_option maxHeartbeats 1000000 in
theorem rbytes_any (A : Option Addr) (n c : Nat) (l : List UInt8) (w : World) (hr : Rv w w.heap.size A n c (bls (bitsL l))) (h1 : 1 ≤ l.length) (h2 : l.length ≤ 8192) :
    Calls Try.prog 34 #[.slice A n c] w (OwnQ (l.length + 4) (fltBytes l) w) := by
  have hn := hr.lenB
  rw [length_bitsL] at hn
  subst hn
  have hh4 := Lib.hid (head4 (8 * l.length) (by omega) (8 * (l.length : Int)) (by omega))
  go_enter Try.func34, Try.ntmps34
  go_wp2
  have o0 := Own.lit w #[Value.int .u8 (8 * (l.length : Int) / 16777216), .int .u8 (8 * (l.length : Int) / 65536), .int .u8 (8 * (l.length : Int) / 256 % 256), .int .u8 (8 * (l.length : Int) % 256)] w.heap.size 4 _ (Nat.le_refl _) (by simp [maxLen]) rfl hh4.out
  go_loopw [4, 5, 6, 7] (fun b i x k wr => ∃ (j : Nat) (A' : Option Addr) (c' : Nat), j ≤ l.length ∧ i = .int .i64 (8 * (j : Int)) ∧ b = .slice A' (j + 4) c' ∧ Own wr w.heap.size A' (j + 4) c' (highB (8 * l.length) 4 ++ l.take j) ∧ Below w.heap.size w wr) (fun _ i _ _ _ => 8 * l.length - (intOf i).toNat)
  case atStart => exact ⟨0, _, 4, Nat.zero_le _, rfl, rfl, by simpa using o0, (Below.refl _ _).alloc (Nat.le_refl _) _⟩
  case round =>
    obtain ⟨j, A2, c2, hj, rfl, rfl, o2, b2⟩ := hrel
    obtain ⟨wo, rfl⟩ : ∃ wo : World, wo = wr := ⟨_, rfl⟩
    clear o0
    by_cases hlt : j < l.length
    · obtain ⟨y, hy⟩ : ∃ y, l[j]? = some y := ⟨_, List.getElem?_eq_getElem hlt⟩
      have HT := Lib.hid (take_snoc_of hy)
      have HY := Lib.hid hy
      clear hy
      go_wp2
      go_loop [6, 7] (fun x k => ∃ i m : Nat, i ≤ 8 ∧ m < 256 ∧ (i < 8 → m < 128) ∧ k = .int .i64 i ∧ x = .int .i64 m ∧ m = byte8 ((bits8 y).take i)) (fun _ k => 8 - (intOf k).toNat)
      case atStart => exact ⟨0, 0, by omega, by omega, by omega, rfl, rfl, rfl⟩
      case round =>
        obtain ⟨i, m, hi, hm, hm2, rfl, rfl, hmb⟩ := hrel
        have HM := Lib.hid hmb
        have HM2 := Lib.hid hm2
        clear hmb hm2
        by_cases hl8 : i < 8
        · have hm3 := HM2.out hl8
          obtain ⟨ad, x, rfl, -, hx, hcx⟩ := (hr.below b2).atB (i := 8 * j + i) (by omega)
          have hx2 := bitsL_get l (8 * j + i) y (by rw [show (8 * j + i) / 8 = j from by omega]; exact HY.out)
          rw [hx, show (8 * j + i) % 8 = i from by omega] at hx2
          have hst := byte8_snoc ((bits8 y).take i) (bit8 y i)
          rw [← take_snoc_of (bits8_get y i hl8), ← HM.out, ← Option.some.inj hx2] at hst
          have hlt3 : i + 1 < 8 → byte8 ((bits8 y).take (i + 1)) < 128 := fun h => byte8_take_lt y (i + 1) (by omega)
          have HS := Lib.hid hst
          have HL := Lib.hid hlt3
          clear hx hx2 hst hlt3
          cases x
          · go_wp2_with fail
            go_round
            case rel => exact ⟨i + 1, 2 * m, by omega, by omega, fun h => by have := HL.out h; rw [HS.out] at this; simpa using this, by go_num, by go_num, by rw [HS.out]; simp⟩
            case measure => simp [intOf]; omega
          · go_wp2_with fail
            go_round
            case rel => exact ⟨i + 1, 2 * m + 1, by omega, by omega, fun h => by have := HL.out h; rw [HS.out] at this; simpa using this, by go_num, by go_num, by rw [HS.out]; simp⟩
            case measure => simp [intOf]; omega
        · obtain rfl : i = 8 := by omega
          have hm8 : m = y.toNat := by rw [HM.out, List.take_of_length_le (by simp [bits8]), byte8_bits8]
          subst hm8
          clear HM HM2
          go_wp2_with (at_builtin; refine wpList_app8 _ rfl _ _ rfl w.heap.size A2 (j + 4) c2 _ rfl (o2.alloc _) (wo.heap.size + 1) (some ⟨wo.heap.size, 0, none⟩) 1 1 [y] rfl (Rd.one wo _ _ rfl) (by omega) (by simp; have := b2.size; omega) ?_)
          intro A3 c3 w3 o3 b3
          have b4 := (b2.alloc b2.size _).trans b3
          rw [← HT.out] at o3
          go_wp2
          go_roundw
          case rel => exact ⟨j + 1, A3, c3, by omega, by go_num, by go_num, (by rw [show j + 1 + 4 = j + 4 + 1 from by omega]; exact o3), b4⟩
          case measure => simp [intOf]; omega
    · go_wp2
      go_ret
      obtain rfl : j = l.length := by omega
      rw [List.take_length] at o2
      exact ⟨A2, c2, rfl, o2, b2⟩
end Go.Proofs.Ytbncjacbggngiaa
