/- icehouseref06.Right. Conditions: typed in each theorem. -/
import Derived.Test.YtkdkmdjfimnkaaaReb
namespace Go.Proofs.Ytkdkmdjfimnkaaa
set_option linter.unusedVariables false
open Go.RowKit

set_option maxHeartbeats 1000000 in
theorem rright_any (kind : Int) (fl ex sq : Nat) (AK AV : Option Addr) (k ck v cv : Nat) (w : World) :
    Calls Try.prog 20 #[recV kind fl ex sq (.slice AK k ck) (.slice AV v cv)] w fun e w' => e = .returned (.bool (rightR kind fl ex sq k v)) ∧ Below w.heap.size w w' := by
  unfold recV
  by_cases h1 : sq = 0
  · have b1 := eq0 (x := sq) (c := 0) (by omega)
    have hr : rightR kind fl ex sq k v = false := by unfold rightR; exact decide_eq_false (by omega)
    rw [hr]
    go_enter Try.func20, Try.ntmps20
    go_wp2
    go_ret
    exact ⟨rfl, (Below.refl _ _).alloc (Nat.le_refl _) _⟩
  have b1 := ne0 (x := sq) (c := 0) (by omega)
  by_cases h2 : k < 1
  · have hr : rightR kind fl ex sq k v = false := by unfold rightR; exact decide_eq_false (by omega)
    rw [hr]
    go_enter Try.func20, Try.ntmps20
    go_wp2
    go_ret
    exact ⟨rfl, (Below.refl _ _).alloc (Nat.le_refl _) _⟩
  by_cases h3 : 250 < k
  · have hr : rightR kind fl ex sq k v = false := by unfold rightR; exact decide_eq_false (by omega)
    rw [hr]
    go_enter Try.func20, Try.ntmps20
    go_wp2
    go_ret
    exact ⟨rfl, (Below.refl _ _).alloc (Nat.le_refl _) _⟩
  by_cases h4 : 512 < v
  · have hr : rightR kind fl ex sq k v = false := by unfold rightR; exact decide_eq_false (by omega)
    rw [hr]
    go_enter Try.func20, Try.ntmps20
    go_wp2
    go_ret
    exact ⟨rfl, (Below.refl _ _).alloc (Nat.le_refl _) _⟩
  by_cases h5 : kind = 1
  · have hr : rightR kind fl ex sq k v = true := by unfold rightR; exact decide_eq_true (by omega)
    rw [hr]
    subst h5
    go_enter Try.func20, Try.ntmps20
    go_wp2
    go_ret
    exact ⟨rfl, (Below.refl _ _).alloc (Nat.le_refl _) _⟩
  have b5 := neI h5
  by_cases h6 : kind ≠ 2
  · have hr : rightR kind fl ex sq k v = false := by unfold rightR; exact decide_eq_false (by omega)
    rw [hr]
    have b6 := neI h6
    go_enter Try.func20, Try.ntmps20
    go_wp2
    go_ret
    exact ⟨rfl, (Below.refl _ _).alloc (Nat.le_refl _) _⟩
  have h6 : kind = 2 := by omega
  subst h6
  by_cases h7 : fl ≠ 0
  · have hr : rightR 2 fl ex sq k v = false := by unfold rightR; exact decide_eq_false (by omega)
    rw [hr]
    have b7 := ne0 (x := fl) (c := 0) (by omega)
    go_enter Try.func20, Try.ntmps20
    go_wp2
    go_ret
    exact ⟨rfl, (Below.refl _ _).alloc (Nat.le_refl _) _⟩
  have b7 := eq0 (x := fl) (c := 0) (by omega)
  by_cases h8 : ex ≠ 0
  · have hr : rightR 2 fl ex sq k v = false := by unfold rightR; exact decide_eq_false (by omega)
    rw [hr]
    have b8 := ne0 (x := ex) (c := 0) (by omega)
    go_enter Try.func20, Try.ntmps20
    go_wp2
    go_ret
    exact ⟨rfl, (Below.refl _ _).alloc (Nat.le_refl _) _⟩
  have b8 := eq0 (x := ex) (c := 0) (by omega)
  by_cases h9 : v ≠ 0
  · have hr : rightR 2 fl ex sq k v = false := by unfold rightR; exact decide_eq_false (by omega)
    rw [hr]
    have b9 := ne0 (x := v) (c := 0) (by omega)
    go_enter Try.func20, Try.ntmps20
    go_wp2
    go_ret
    exact ⟨rfl, (Below.refl _ _).alloc (Nat.le_refl _) _⟩
  have b9 := eq0 (x := v) (c := 0) (by omega)
  have hr : rightR 2 fl ex sq k v = true := by unfold rightR; exact decide_eq_true (by omega)
  rw [hr]
  go_enter Try.func20, Try.ntmps20
  go_wp2
  go_ret
  exact ⟨rfl, (Below.refl _ _).alloc (Nat.le_refl _) _⟩

end Go.Proofs.Ytkdkmdjfimnkaaa
