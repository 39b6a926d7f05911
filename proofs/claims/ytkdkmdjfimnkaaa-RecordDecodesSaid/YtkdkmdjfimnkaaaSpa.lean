/- Which records may be and how many sectors they fill; an item's charge; the bound of segments. Conditions: typed in each theorem. -/
import Derived.Test.YtkdkmdjfimnkaaaOctb
namespace Go.Proofs.Ytkdkmdjfimnkaaa
set_option linter.unusedVariables false
open Go.RowKit

theorem eq0 {x : Nat} {c : Int} (h : (x : Int) = c) : ((x : Int) == c) = true := by rw [beq_iff_eq]; exact h
theorem ne0 {x : Nat} {c : Int} (h : (x : Int) ≠ c) : ((x : Int) == c) = false := by rw [beq_eq_false_iff_ne]; exact h
theorem eqI {x c : Int} (h : x = c) : (x == c) = true := by rw [beq_iff_eq]; exact h
theorem neI {x c : Int} (h : x ≠ c) : (x == c) = false := by rw [beq_eq_false_iff_ne]; exact h

theorem ret_bool {a b : Bool} (h : a = b) : Ending.returned (.bool a) = .returned (.bool b) := by rw [h]
theorem ret_int {k : IntKind} {a b : Int} (h : a = b) : Ending.returned (.int k a) = .returned (.int k b) := by rw [h]

/-- May a record be, of such a head, whose key and value have so many bytes? -/
def rightR (kind : Int) (fl ex sq k v : Nat) : Bool :=
  decide (sq ≠ 0 ∧ 1 ≤ k ∧ k ≤ 250 ∧ v ≤ 512 ∧ (kind = 1 ∨ kind = 2 ∧ fl = 0 ∧ ex = 0 ∧ v = 0))

/-- A record's cells. -/
def recV (kind : Int) (fl ex sq : Nat) (K V : Value) : Value := .agg #[.int .i64 kind, .int .u32 (fl : Int), .int .u32 (ex : Int), .int .u64 (sq : Int), K, V]

set_option maxHeartbeats 1000000 in
theorem right_any (kind : Int) (fl ex sq k v : Nat) (AK AV : Option Addr) (nk ck nv cv : Nat) (w : World) :
    Calls Try.prog 35 #[recV kind fl ex sq (.slice AK nk ck) (.slice AV nv cv), .int .i64 k, .int .i64 v] w fun e w' => e = .returned (.bool (rightR kind fl ex sq k v)) ∧ Below w.heap.size w w' := by
  unfold recV
  by_cases h1 : sq = 0
  · have b1 := eq0 (x := sq) (c := 0) (by omega)
    have hr : rightR kind fl ex sq k v = false := by unfold rightR; exact decide_eq_false (by omega)
    rw [hr]
    go_enter Try.func35, Try.ntmps35
    go_wp2
    go_ret
    exact ⟨rfl, (Below.refl _ _).alloc (Nat.le_refl _) _⟩
  have b1 := ne0 (x := sq) (c := 0) (by omega)
  by_cases h2 : k < 1
  · have hr : rightR kind fl ex sq k v = false := by unfold rightR; exact decide_eq_false (by omega)
    rw [hr]
    go_enter Try.func35, Try.ntmps35
    go_wp2
    go_ret
    exact ⟨rfl, (Below.refl _ _).alloc (Nat.le_refl _) _⟩
  by_cases h3 : 250 < k
  · have hr : rightR kind fl ex sq k v = false := by unfold rightR; exact decide_eq_false (by omega)
    rw [hr]
    go_enter Try.func35, Try.ntmps35
    go_wp2
    go_ret
    exact ⟨rfl, (Below.refl _ _).alloc (Nat.le_refl _) _⟩
  by_cases h4 : 512 < v
  · have hr : rightR kind fl ex sq k v = false := by unfold rightR; exact decide_eq_false (by omega)
    rw [hr]
    go_enter Try.func35, Try.ntmps35
    go_wp2
    go_ret
    exact ⟨rfl, (Below.refl _ _).alloc (Nat.le_refl _) _⟩
  by_cases h5 : kind = 1
  · have hr : rightR kind fl ex sq k v = true := by unfold rightR; exact decide_eq_true (by omega)
    rw [hr]
    subst h5
    go_enter Try.func35, Try.ntmps35
    go_wp2
    go_ret
    exact ⟨rfl, (Below.refl _ _).alloc (Nat.le_refl _) _⟩
  have b5 := neI h5
  by_cases h6 : kind ≠ 2
  · have hr : rightR kind fl ex sq k v = false := by unfold rightR; exact decide_eq_false (by omega)
    rw [hr]
    have b6 := neI h6
    go_enter Try.func35, Try.ntmps35
    go_wp2
    go_ret
    exact ⟨rfl, (Below.refl _ _).alloc (Nat.le_refl _) _⟩
  have h6 : kind = 2 := by omega
  subst h6
  by_cases h7 : fl ≠ 0
  · have hr : rightR 2 fl ex sq k v = false := by unfold rightR; exact decide_eq_false (by omega)
    rw [hr]
    have b7 := ne0 (x := fl) (c := 0) (by omega)
    go_enter Try.func35, Try.ntmps35
    go_wp2
    go_ret
    exact ⟨rfl, (Below.refl _ _).alloc (Nat.le_refl _) _⟩
  have b7 := eq0 (x := fl) (c := 0) (by omega)
  by_cases h8 : ex ≠ 0
  · have hr : rightR 2 fl ex sq k v = false := by unfold rightR; exact decide_eq_false (by omega)
    rw [hr]
    have b8 := ne0 (x := ex) (c := 0) (by omega)
    go_enter Try.func35, Try.ntmps35
    go_wp2
    go_ret
    exact ⟨rfl, (Below.refl _ _).alloc (Nat.le_refl _) _⟩
  have b8 := eq0 (x := ex) (c := 0) (by omega)
  by_cases h9 : v ≠ 0
  · have hr : rightR 2 fl ex sq k v = false := by unfold rightR; exact decide_eq_false (by omega)
    rw [hr]
    have b9 := ne0 (x := v) (c := 0) (by omega)
    go_enter Try.func35, Try.ntmps35
    go_wp2
    go_ret
    exact ⟨rfl, (Below.refl _ _).alloc (Nat.le_refl _) _⟩
  have b9 := eq0 (x := v) (c := 0) (by omega)
  have hr : rightR 2 fl ex sq k v = true := by unfold rightR; exact decide_eq_true (by omega)
  rw [hr]
  go_enter Try.func35, Try.ntmps35
  go_wp2
  go_ret
  exact ⟨rfl, (Below.refl _ _).alloc (Nat.le_refl _) _⟩

/-- What Check answers. -/
def checkR (kind : Int) (fl ex sq k v : Nat) : Int := if rightR kind fl ex sq k v then 0 else 160
set_option maxHeartbeats 1000000 in
theorem check_any (kind : Int) (fl ex sq : Nat) (AK AV : Option Addr) (nk ck nv cv : Nat) (w : World) :
    Calls Try.prog 18 #[recV kind fl ex sq (.slice AK nk ck) (.slice AV nv cv)] w fun e w' => e = .returned (.int .i64 (checkR kind fl ex sq nk nv)) ∧ Below w.heap.size w w' := by
  have hc := right_any kind fl ex sq nk nv AK AV nk ck nv cv
  unfold recV at hc
  unfold recV
  go_enter Try.func18, Try.ntmps18
  go_wp2_with fail
  refine (hc _).mono ?_
  rintro e w1 ⟨rfl, b1⟩
  have b := ((Below.refl w.heap.size w).alloc (Nat.le_refl _) _).trans (b1.mono (by simp))
  clear hc b1
  cases hr : rightR kind fl ex sq nk nv
  · have HF := Lib.hid (show checkR kind fl ex sq nk nv = 160 from by unfold checkR; rw [hr]; rfl)
    clear hr
    go_wp2_with fail
    go_ret
    exact ⟨by rw [HF.out]; rfl, b⟩
  · have HF := Lib.hid (show checkR kind fl ex sq nk nv = 0 from by unfold checkR; rw [hr]; rfl)
    clear hr
    go_wp2_with fail
    go_ret
    exact ⟨by rw [HF.out]; rfl, b⟩

/-- How many bytes a record has. -/
def sizeR (kind : Int) (fl ex sq k v : Nat) : Nat := if rightR kind fl ex sq k v then 21 + k + v else 0
set_option maxHeartbeats 1000000 in
theorem size_any (kind : Int) (fl ex sq : Nat) (AK AV : Option Addr) (nk ck nv cv : Nat) (w : World) :
    Calls Try.prog 21 #[recV kind fl ex sq (.slice AK nk ck) (.slice AV nv cv)] w fun e w' => e = .returned (.int .i64 (sizeR kind fl ex sq nk nv : Nat)) ∧ Below w.heap.size w w' := by
  have hc := check_any kind fl ex sq AK AV nk ck nv cv
  unfold recV at hc
  unfold recV
  go_enter Try.func21, Try.ntmps21
  go_wp2_with fail
  refine (hc _).mono ?_
  rintro e w1 ⟨rfl, b1⟩
  have c4 : w1.cell? ⟨w.heap.size, 4, none⟩ = some (.slice AK nk ck) := by rw [b1.cell (by simp)]; go_simp
  have c5 : w1.cell? ⟨w.heap.size, 5, none⟩ = some (.slice AV nv cv) := by rw [b1.cell (by simp)]; go_simp
  have b := ((Below.refl w.heap.size w).alloc (Nat.le_refl _) _).trans (b1.mono (by simp))
  clear hc b1
  cases hr : rightR kind fl ex sq nk nv
  · have HF := Lib.hid (show sizeR kind fl ex sq nk nv = 0 from by unfold sizeR; rw [hr]; rfl)
    rw [show checkR kind fl ex sq nk nv = 160 from by unfold checkR; rw [hr]; rfl]
    clear hr
    go_wp2_with fail
    go_ret
    exact ⟨by rw [HF.out]; rfl, b⟩
  · have hb : nk ≤ 250 ∧ nv ≤ 512 := by unfold rightR at hr; have := of_decide_eq_true hr; omega
    obtain ⟨hb1, hb2⟩ := hb
    have HF := Lib.hid (show sizeR kind fl ex sq nk nv = 21 + nk + nv from by unfold sizeR; rw [hr]; rfl)
    rw [show checkR kind fl ex sq nk nv = 0 from by unfold checkR; rw [hr]; rfl]
    clear hr
    go_wp2_with fail
    go_ret
    exact ⟨by rw [HF.out]; simp, b⟩

def secR (kind : Int) (fl ex sq k v : Nat) : Nat := (sizeR kind fl ex sq k v + 47) / 48
theorem sizeR_le (kind : Int) (fl ex sq k v : Nat) : sizeR kind fl ex sq k v ≤ 783 := by
  unfold sizeR
  split
  · rename_i h; unfold rightR at h; have := of_decide_eq_true h; omega
  · omega
set_option maxHeartbeats 1000000 in
theorem sectors_any (kind : Int) (fl ex sq : Nat) (AK AV : Option Addr) (nk ck nv cv : Nat) (w : World) :
    Calls Try.prog 22 #[recV kind fl ex sq (.slice AK nk ck) (.slice AV nv cv)] w fun e w' => e = .returned (.int .i64 (secR kind fl ex sq nk nv : Nat)) ∧ Below w.heap.size w w' := by
  have hc := size_any kind fl ex sq AK AV nk ck nv cv
  have hs := sizeR_le kind fl ex sq nk nv
  unfold recV at hc
  unfold recV
  go_enter Try.func22, Try.ntmps22
  go_wp2_with fail
  refine (hc _).mono ?_
  rintro e w1 ⟨rfl, b1⟩
  have b := ((Below.refl w.heap.size w).alloc (Nat.le_refl _) _).trans (b1.mono (by simp))
  clear hc b1
  have HF := Lib.hid (show secR kind fl ex sq nk nv = (sizeR kind fl ex sq nk nv + 47) / 48 from rfl)
  generalize sizeR kind fl ex sq nk nv = n at hs HF ⊢
  go_wp2_with fail
  go_ret
  refine ⟨?_, b⟩
  rw [HF.out]
  simp
  omega


/-- An item's cells. -/
def itmV (K V : Value) (fl ex sq : Nat) (d : Bool) : Value := .agg #[K, V, .int .u32 (fl : Int), .int .u32 (ex : Int), .int .u64 (sq : Int), .bool d]
/-- May an item be? -/
def rightI (sq k v : Nat) : Bool := decide (1 ≤ k ∧ k ≤ 250 ∧ v ≤ 512 ∧ 0 < sq)
theorem rightI_R (fl ex sq k v : Nat) : rightR 1 fl ex sq k v = rightI sq k v := by
  unfold rightR rightI
  rw [decide_eq_decide]; omega
/-- An item's charge. -/
def chI (k v : Nat) : Nat := (21 + k + v + 47) / 48
theorem secR_I {fl ex sq k v : Nat} : secR 1 fl ex sq k v = if rightI sq k v then chI k v else 0 := by
  unfold secR sizeR
  rw [rightI_R]
  unfold chI
  cases rightI sq k v <;> simp

/-- What Charge answers. -/
def chV (sq k v : Nat) : Value := if rightI sq k v then .tuple #[.int .i64 (chI k v : Nat), .int .i64 0] else .tuple #[.int .i64 0, .int .i64 230]
theorem chV_yes {sq k v : Nat} (h : rightI sq k v = true) : chV sq k v = .tuple #[.int .i64 (chI k v : Nat), .int .i64 0] := by unfold chV; rw [if_pos h]
theorem chV_no {sq k v : Nat} (h : rightI sq k v = false) : chV sq k v = .tuple #[.int .i64 0, .int .i64 230] := by unfold chV; rw [h]; rfl
/-- May there be so many segments and sectors? -/
def sizedB (s n : Int) : Bool := decide (4 ≤ s ∧ s ≤ 16 ∧ 24 ≤ n ∧ n ≤ 64)
/-- New's answer's error. -/
def newE (s n : Int) : Int := if sizedB s n then 0 else 2
theorem newE_yes {s n : Int} (h : sizedB s n = true) : newE s n = 0 := by unfold newE; rw [if_pos h]
theorem newE_no {s n : Int} (h : sizedB s n = false) : newE s n = 2 := by unfold newE; rw [h]; rfl
def NewQ (s n : Int) (w : World) (e : Ending) (w' : World) : Prop := ∃ (x : Int) (A : Option Addr) (m c : Nat), e = .returned (.tuple #[.agg #[.int .i64 x, .slice A m c], .int .i64 (newE s n)]) ∧ Below w.heap.size w w'
/-- What Bound answers. -/
def bndV (s n : Int) : Value := if sizedB s n then .tuple #[.int .i64 ((s - 4) * (n - 17)), .int .i64 0] else .tuple #[.int .i64 0, .int .i64 2]
theorem bndV_yes {s n : Int} (h : sizedB s n = true) : bndV s n = .tuple #[.int .i64 ((s - 4) * (n - 17)), .int .i64 0] := by unfold bndV; rw [if_pos h]
theorem bndV_no {s n : Int} (h : sizedB s n = false) : bndV s n = .tuple #[.int .i64 0, .int .i64 2] := by unfold bndV; rw [h]; rfl
theorem mul_bnd {s n : Int} (h : 4 ≤ s ∧ s ≤ 16 ∧ 24 ≤ n ∧ n ≤ 64) : 0 ≤ (s - 4) * (n - 17) ∧ (s - 4) * (n - 17) ≤ 564 := by
  refine ⟨Int.mul_nonneg (by omega) (by omega), ?_⟩
  calc (s - 4) * (n - 17) ≤ 12 * (n - 17) := Int.mul_le_mul_of_nonneg_right (by omega) (by omega)
    _ ≤ 12 * 47 := Int.mul_le_mul_of_nonneg_left (by omega) (by omega)
    _ = 564 := by decide
/-- Into how many segments: n so far, left in the last. -/
def packB (S : Int) : List Int → Int → Int → Int
  | [], n, _ => n
  | k :: l, n, left => if k > left then packB S l (n + 1) (S - 1 - k) else packB S l n (left - k)
theorem packB_cons (S k n left : Int) (l : List Int) : packB S (k :: l) n left = if k > left then packB S l (n + 1) (S - 1 - k) else packB S l n (left - k) := rfl
def intC (l : List Int) : List Value := l.map (Value.int .i64)

end Go.Proofs.Ytkdkmdjfimnkaaa
