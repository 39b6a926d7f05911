/- Slices of bytes cut, as equations for the walk. Conditions: typed in each theorem. -/
import Derived.Test.YtnghmgbmflcngaaBase
namespace Go.Proofs.Ytnghmgbmflcngaa
set_option linter.unusedVariables false
open Go.RowKit

theorem sz8 (e : TypeId) (he : e = 5) (wx : World) : (sizeOf e).run Try.prog wx = .ok 1 wx := by
  subst he
  obtain ⟨i0, hi0, hz0, hz1, hz2⟩ := info_parts u8info
  simp [sizeOf, typeInfo, hi0, hz1]
theorem el8 : Try.prog.elem 23 = 5 := by kernel_rfl
theorem un8 : Try.prog.underlying 23 = some (.slice (Try.prog.elem 23)) := by kernel_rfl
/-- A lesser room. -/
theorem Rd.trim {w : World} {B n c m : Nat} {A : Option Addr} {l : List UInt8} (h : Rd w B A n c l) (h1 : n ≤ m) (h2 : m ≤ c) : Rd w B A n m l :=
  ⟨h.1, h1, Nat.le_trans h2 h.2.2.1, fun hA => by have := h.2.2.2.1 hA; omega, h.2.2.2.2.1, h.2.2.2.2.2⟩
theorem rd_fore {w : World} {B n c m : Nat} {A : Option Addr} {l : List UInt8} (h : Rd w B A n c l) (hm : m ≤ n) : Rd w B A m c (l.take m) := by
  obtain ⟨h1, h2, h3, h4, h5, h6⟩ := h
  refine ⟨?_, by omega, h3, h4, fun ad hA hm0 => h5 ad hA (by omega), fun ad i u hA hu => ?_⟩
  · rw [length_cbs] at *; rw [List.length_take]; omega
  · unfold cbs at hu h6
    rw [List.map_take, List.getElem?_take] at hu
    split at hu
    · exact h6 ad i u hA hu
    · cases hu
section
variable {w : World} {B n c : Nat} {A : Option Addr} {l : List UInt8}
/-- s[:k:k] -/
theorem slc_hm (h : Rd w B A n c l) (k : Nat) (hk : k ≤ n) : ∃ X cx, (∀ wx, (Instr.slice 23 (.slice A n c) none (some (.int .i64 (k : Int))) (some (.int .i64 (k : Int)))).run Try.prog wx = .ok (.slice X k cx) wx) ∧ ∀ w' B', Rd w' B' A n c l → Rd w' B' X k cx (l.take k) := by
  have hc := h.cap
  have hcut : ∀ w' B', Rd w' B' A n c l → _ := fun w' B' h' => ((rd_fore h' hk).trim (Nat.le_refl k) (by omega)).cut (i := 0) (j := k) (by omega) (by omega)
  simp only [Nat.sub_zero, List.drop_zero, List.take_take, Nat.min_self] at hcut
  refine ⟨_, _, fun wx => ?_, hcut⟩
  rw [run_slice_hm (P := Try.prog) wx _ A n c un8 .i64 .i64 (k : Int) (k : Int) (by omega) (by omega) (by omega), sz8 _ el8]
  simp [Result.andThen, sliced]
/-- s[i:j:j] -/
theorem slc_lhm (h : Rd w B A n c l) (i j : Nat) (I J : Int) (hI : I = (i : Nat)) (hJ : J = (j : Nat)) (hij : i ≤ j) (hj : j ≤ n) : ∃ X cx, (∀ wx, (Instr.slice 23 (.slice A n c) (some (.int .i64 I)) (some (.int .i64 J)) (some (.int .i64 J))).run Try.prog wx = .ok (.slice X (j - i) cx) wx) ∧ ∀ w' B', Rd w' B' A n c l → Rd w' B' X (j - i) cx ((l.take j).drop i) := by
  have hc := h.cap
  have hcut : ∀ w' B', Rd w' B' A n c l → _ := fun w' B' h' => ((rd_fore h' hj).trim (Nat.le_refl j) (by omega)).cut (i := i) (j := j) hij (by omega)
  simp only [List.take_take, Nat.min_self] at hcut
  refine ⟨_, _, fun wx => ?_, hcut⟩
  rw [run_slice_lhm (P := Try.prog) wx _ A n c un8 .i64 .i64 .i64 I J J (by omega) (by omega) (by omega) (by omega), sz8 _ el8]
  simp [Result.andThen, sliced, hI, hJ]
/-- s[i:] -/
theorem slc_l (h : Rd w B A n c l) (i : Nat) (I : Int) (hI : I = (i : Nat)) (hi : i ≤ n) : ∃ X cx, (∀ wx, (Instr.slice 23 (.slice A n c) (some (.int .i64 I)) none none).run Try.prog wx = .ok (.slice X (n - i) cx) wx) ∧ ∀ w' B', Rd w' B' A n c l → Rd w' B' X (n - i) cx (l.drop i) := by
  have hc := h.cap
  have hl := h.len
  have hcut : ∀ w' B', Rd w' B' A n c l → _ := fun w' B' h' => h'.cut (i := i) (j := n) hi (Nat.le_refl n)
  rw [List.take_of_length_le (by omega)] at hcut
  refine ⟨_, _, fun wx => ?_, hcut⟩
  rw [run_slice_l (P := Try.prog) wx _ A n c un8 .i64 I (by omega) (by omega), sz8 _ el8]
  simp [Result.andThen, sliced, hI]
/-- s[i:j] -/
theorem slc_lh (h : Rd w B A n c l) (i j : Nat) (I J : Int) (hI : I = (i : Nat)) (hJ : J = (j : Nat)) (hij : i ≤ j) (hj : j ≤ n) : ∃ X cx, (∀ wx, (Instr.slice 23 (.slice A n c) (some (.int .i64 I)) (some (.int .i64 J)) none).run Try.prog wx = .ok (.slice X (j - i) cx) wx) ∧ ∀ w' B', Rd w' B' A n c l → Rd w' B' X (j - i) cx ((l.take j).drop i) := by
  have hc := h.cap
  have hcut : ∀ w' B', Rd w' B' A n c l → _ := fun w' B' h' => h'.cut (i := i) (j := j) hij hj
  refine ⟨_, _, fun wx => ?_, hcut⟩
  rw [run_slice_lh (P := Try.prog) wx _ A n c un8 .i64 .i64 I J (by omega) (by omega) (by omega), sz8 _ el8]
  simp [Result.andThen, sliced, hI, hJ]
/-- s[:j] -/
theorem slc_h (h : Rd w B A n c l) (j : Nat) (J : Int) (hJ : J = (j : Nat)) (hj : j ≤ n) : ∃ X cx, (∀ wx, (Instr.slice 23 (.slice A n c) none (some (.int .i64 J)) none).run Try.prog wx = .ok (.slice X j cx) wx) ∧ ∀ w' B', Rd w' B' A n c l → Rd w' B' X j cx (l.take j) := by
  have hc := h.cap
  have hcut : ∀ w' B', Rd w' B' A n c l → _ := fun w' B' h' => h'.cut (i := 0) (j := j) (by omega) hj
  simp only [Nat.sub_zero, List.drop_zero] at hcut
  refine ⟨_, _, fun wx => ?_, hcut⟩
  rw [run_slice_h (P := Try.prog) wx _ A n c un8 .i64 J (by omega) (by omega), sz8 _ el8]
  simp [Result.andThen, sliced, hJ]
end
end Go.Proofs.Ytnghmgbmflcngaa
