/- What is decoded, encoded, is the bytes that it had: the plain law; an array's fore part. Conditions: typed in each theorem. -/
import Derived.Test.YtkdkmdjfimnkaaaWak6
import Derived.Deep.DeepCutAuto
namespace Go.Proofs.Ytkdkmdjfimnkaaa
set_option linter.unusedVariables false
open Go.RowKit

theorem high_fld {l : List UInt8} {o k : Nat} (h : o + k ≤ l.length) : highB (fld l o k) k = (l.drop o).take k :=
  highB_numB k _ (by rw [List.length_take, List.length_drop]; omega)
theorem one_fld {l : List UInt8} {o : Nat} (h : o + 1 ≤ l.length) : [UInt8.ofNat (fld l o 1)] = (l.drop o).take 1 := by
  rw [← high_fld h]; rfl
theorem take_on (l : List UInt8) (o k : Nat) : l.take o ++ (l.drop o).take k = l.take (o + k) := (List.take_add ..).symm
theorem recB_take {l : List UInt8} (h : 21 + fld l 17 2 + fld l 19 2 ≤ l.length) :
    recB (fld l 0 1) (fld l 1 4) (fld l 5 4) (fld l 9 8) ((l.drop 21).take (fld l 17 2)) (((l.drop 21).drop (fld l 17 2)).take (fld l 19 2)) = l.take (21 + fld l 17 2 + fld l 19 2) := by
  have e1 : ((l.drop 21).take (fld l 17 2)).length = fld l 17 2 := by rw [List.length_take, List.length_drop]; omega
  have e2 : (((l.drop 21).drop (fld l 17 2)).take (fld l 19 2)).length = fld l 19 2 := by rw [List.length_take, List.length_drop, List.length_drop]; omega
  unfold recB
  rw [e1, e2, one_fld (o := 0) (by omega), high_fld (o := 1) (by omega), high_fld (o := 5) (by omega), high_fld (o := 9) (by omega), high_fld (o := 17) (by omega), high_fld (o := 19) (by omega)]
  have e0 : (l.drop 0).take 1 = l.take 1 := rfl
  rw [e0]
  simp only [take_on]
  rw [List.drop_drop, take_on]
theorem headE_cases (l : List UInt8) : headE l = 0 ∨ headE l = 9 ∨ headE l = 160 := by
  unfold headE
  split
  · exact Or.inr (Or.inl rfl)
  · split
    · exact Or.inl rfl
    · exact Or.inr (Or.inr rfl)
end Go.Proofs.Ytkdkmdjfimnkaaa
