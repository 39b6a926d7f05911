/- Plain facts on bytes and numbers, the highest byte first. No program in sight, no conditions beyond those typed. -/
import Derived.Below
namespace Go.Proofs.Ytnghmgbmflcngaa
set_option linter.unusedVariables false

/-- The n lowest bytes of x, the highest first. -/
def highB : Nat → Nat → List UInt8
  | _, 0 => []
  | x, n + 1 => highB (x / 256) n ++ [UInt8.ofNat x]
theorem length_highB : ∀ (n x : Nat), (highB x n).length = n
  | 0, _ => rfl
  | n + 1, x => by simp [highB, length_highB n]
theorem highB_snoc (x n : Nat) : highB x (n + 1) = highB (x / 256) n ++ [UInt8.ofNat x] := rfl
theorem highB_cons : ∀ (n x : Nat), highB x (n + 1) = UInt8.ofNat (x / 256 ^ n) :: highB x n
  | 0, x => by simp [highB]
  | n + 1, x => by
    rw [highB_snoc, highB_cons n (x / 256), highB_snoc x n, Nat.div_div_eq_div_mul, Nat.pow_succ, Nat.mul_comm 256]
    rfl
theorem ofNat_mod (x : Nat) : UInt8.ofNat (x % 256) = UInt8.ofNat x := by
  apply UInt8.toNat_inj.1; simp
theorem highB_mod : ∀ (n x k : Nat), n ≤ k → highB (x % 256 ^ k) n = highB x n
  | 0, _, _, _ => rfl
  | n + 1, x, k, h => by
    obtain ⟨k, rfl⟩ : ∃ k', k = k' + 1 := ⟨k - 1, by omega⟩
    rw [highB_snoc, highB_snoc]
    have e1 : x % 256 ^ (k + 1) / 256 = x / 256 % 256 ^ k := by
      rw [Nat.pow_succ, Nat.mul_comm, Nat.mod_mul_right_div_self]
    have e2 : UInt8.ofNat (x % 256 ^ (k + 1)) = UInt8.ofNat x := by
      rw [← ofNat_mod (x % 256 ^ (k + 1)), ← ofNat_mod x, Nat.mod_mod_of_dvd _ (by rw [Nat.pow_succ]; exact Nat.dvd_mul_left _ _)]
    rw [e1, e2, highB_mod n (x / 256) k (by omega)]

/-- The number of bytes, the highest first. -/
def numB (l : List UInt8) : Nat := l.foldl (fun x c => x * 256 + c.toNat) 0
theorem numB_nil : numB [] = 0 := rfl
theorem numB_snoc (l : List UInt8) (c : UInt8) : numB (l ++ [c]) = numB l * 256 + c.toNat := by simp [numB]
theorem snoc_of {α : Type} (l : List α) (n : Nat) (h : l.length = n + 1) : ∃ (m : List α) (c : α), l = m ++ [c] ∧ m.length = n := by
  refine ⟨l.take n, l[n]'(by omega), ?_, by rw [List.length_take]; omega⟩
  conv => lhs; rw [← List.take_append_drop n l]
  rw [List.drop_eq_getElem_cons (by omega), List.drop_eq_nil_of_le (by omega)]
theorem numB_lt : ∀ (n : Nat) (l : List UInt8), l.length = n → numB l < 256 ^ n
  | 0, l, h => by rw [List.eq_nil_of_length_eq_zero h]; decide
  | n + 1, l, h => by
    obtain ⟨m, c, rfl, hm⟩ := snoc_of l n h
    rw [numB_snoc, Nat.pow_succ]
    have := numB_lt n m hm
    have := c.toNat_lt
    omega
theorem numB_highB : ∀ (n x : Nat), numB (highB x n) = x % 256 ^ n
  | 0, x => by simp [highB, numB, Nat.mod_one]
  | n + 1, x => by
    rw [highB_snoc, numB_snoc, numB_highB n, Nat.pow_succ, Nat.mul_comm (256 ^ n), Nat.mod_mul]
    simp; omega
theorem highB_numB : ∀ (n : Nat) (l : List UInt8), l.length = n → highB (numB l) n = l
  | 0, l, h => by rw [List.eq_nil_of_length_eq_zero h]; rfl
  | n + 1, l, h => by
    obtain ⟨m, c, rfl, hm⟩ := snoc_of l n h
    have hc := c.toNat_lt
    rw [numB_snoc, highB_snoc]
    have e1 : (numB m * 256 + c.toNat) / 256 = numB m := by omega
    have e2 : UInt8.ofNat (numB m * 256 + c.toNat) = c := by
      rw [← ofNat_mod]
      have : (numB m * 256 + c.toNat) % 256 = c.toNat := by omega
      rw [this]; simp
    rw [e1, e2, highB_numB n m hm]
theorem take_snoc_of {α : Type} {l : List α} {k : Nat} {x : α} (h : l[k]? = some x) : l.take (k + 1) = l.take k ++ [x] := by
  rw [List.take_add_one, h]; rfl
theorem list2 {α : Type} {l : List α} (h : l.length = 2) : ∃ c0 c1, l = [c0, c1] := by
  match l, h with
  | [c0, c1], _ => exact ⟨c0, c1, rfl⟩
theorem list3 {α : Type} {l : List α} (h : l.length = 3) : ∃ c0 c1 c2, l = [c0, c1, c2] := by
  match l, h with
  | [c0, c1, c2], _ => exact ⟨c0, c1, c2, rfl⟩
theorem list4 {α : Type} {l : List α} (h : l.length = 4) : ∃ c0 c1 c2 c3, l = [c0, c1, c2, c3] := by
  match l, h with
  | [c0, c1, c2, c3], _ => exact ⟨c0, c1, c2, c3, rfl⟩
theorem list5 {α : Type} {l : List α} (h : l.length = 5) : ∃ c0 c1 c2 c3 c4, l = [c0, c1, c2, c3, c4] := by
  match l, h with
  | [c0, c1, c2, c3, c4], _ => exact ⟨c0, c1, c2, c3, c4, rfl⟩
theorem list6 {α : Type} {l : List α} (h : l.length = 6) : ∃ c0 c1 c2 c3 c4 c5, l = [c0, c1, c2, c3, c4, c5] := by
  match l, h with
  | [c0, c1, c2, c3, c4, c5], _ => exact ⟨c0, c1, c2, c3, c4, c5, rfl⟩
theorem list7 {α : Type} {l : List α} (h : l.length = 7) : ∃ c0 c1 c2 c3 c4 c5 c6, l = [c0, c1, c2, c3, c4, c5, c6] := by
  match l, h with
  | [c0, c1, c2, c3, c4, c5, c6], _ => exact ⟨c0, c1, c2, c3, c4, c5, c6, rfl⟩
theorem list8 {α : Type} {l : List α} (h : l.length = 8) : ∃ c0 c1 c2 c3 c4 c5 c6 c7, l = [c0, c1, c2, c3, c4, c5, c6, c7] := by
  match l, h with
  | [c0, c1, c2, c3, c4, c5, c6, c7], _ => exact ⟨c0, c1, c2, c3, c4, c5, c6, c7, rfl⟩
theorem list9 {α : Type} {l : List α} (h : l.length = 9) : ∃ c0 c1 c2 c3 c4 c5 c6 c7 c8, l = [c0, c1, c2, c3, c4, c5, c6, c7, c8] := by
  match l, h with
  | [c0, c1, c2, c3, c4, c5, c6, c7, c8], _ => exact ⟨c0, c1, c2, c3, c4, c5, c6, c7, c8, rfl⟩
theorem list10 {α : Type} {l : List α} (h : l.length = 10) : ∃ c0 c1 c2 c3 c4 c5 c6 c7 c8 c9, l = [c0, c1, c2, c3, c4, c5, c6, c7, c8, c9] := by
  match l, h with
  | [c0, c1, c2, c3, c4, c5, c6, c7, c8, c9], _ => exact ⟨c0, c1, c2, c3, c4, c5, c6, c7, c8, c9, rfl⟩
theorem list11 {α : Type} {l : List α} (h : l.length = 11) : ∃ c0 c1 c2 c3 c4 c5 c6 c7 c8 c9 c10, l = [c0, c1, c2, c3, c4, c5, c6, c7, c8, c9, c10] := by
  match l, h with
  | [c0, c1, c2, c3, c4, c5, c6, c7, c8, c9, c10], _ => exact ⟨c0, c1, c2, c3, c4, c5, c6, c7, c8, c9, c10, rfl⟩
theorem list12 {α : Type} {l : List α} (h : l.length = 12) : ∃ c0 c1 c2 c3 c4 c5 c6 c7 c8 c9 c10 c11, l = [c0, c1, c2, c3, c4, c5, c6, c7, c8, c9, c10, c11] := by
  match l, h with
  | [c0, c1, c2, c3, c4, c5, c6, c7, c8, c9, c10, c11], _ => exact ⟨c0, c1, c2, c3, c4, c5, c6, c7, c8, c9, c10, c11, rfl⟩
/-- bytes as an int's spelling -/
theorem ofNat_toNat_int (x : Nat) : ((UInt8.ofNat x).toNat : Int) = (x : Int) % 256 := by
  simp
theorem wrapu8 (x : Nat) : IntKind.u8.wrap (x : Int) = ((x % 256 : Nat) : Int) := by simp [IntKind.wrap, IntKind.bits, IntKind.signed]
theorem wrapu16 (x : Nat) : IntKind.u16.wrap (x : Int) = ((x % 65536 : Nat) : Int) := by simp [IntKind.wrap, IntKind.bits, IntKind.signed]
theorem wrapu32 (x : Nat) : IntKind.u32.wrap (x : Int) = ((x % 4294967296 : Nat) : Int) := by simp [IntKind.wrap, IntKind.bits, IntKind.signed]
theorem modu32 (x : Nat) : (x : Int) % 4294967296 = ((x % 4294967296 : Nat) : Int) := by omega
theorem modu16 (x : Nat) : (x : Int) % 65536 = ((x % 65536 : Nat) : Int) := by omega
theorem modu8 (x : Nat) : (x : Int) % 256 = ((x % 256 : Nat) : Int) := by omega
theorem wrapu64 (x : Nat) : IntKind.u64.wrap (x : Int) = ((x % 18446744073709551616 : Nat) : Int) := by simp [IntKind.wrap, IntKind.bits, IntKind.signed]
end Go.Proofs.Ytnghmgbmflcngaa
