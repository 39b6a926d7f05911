/- Package icehouselaw04's wakes answers true; BloomNone: a nil filter holds nothing. Conditions: none. -/
import Derived.Test.YtbncjacbggngiaaBls
import Derived.Test.YtbncjacbggngiaaOpen
namespace Go.Proofs.Ytbncjacbggngiaa
set_option linter.unusedVariables false
open Go.ChangeShapes Go.WideShapes Go.ChangeAt Go.RowKit

theorem bIf {x : Nat} {y : Int} (h : (x : Int) = y) : ((x : Int) == y) = true := by rw [beq_iff_eq]; exact h
set_option maxHeartbeats 1000000 in
theorem wakes04 (w : World) :
    Calls Try.prog 10 #[] w fun e w' => e = .returned (.bool true) ∧ Below w.heap.size w w' := by
  go_enter Try.func10, Try.ntmps10
  go_wp2_with fail
  refine (new_ok 2 (by decide) (by decide) 16 (by decide) _).mono ?_
  rintro e w1 ⟨g, rfl, f1, b1⟩
  go_wp2_with fail
  refine (may_any _ _ g 0 _ _ f1 (by decide)).mono ?_
  rintro e w2 ⟨rfl, b2⟩
  rw [show allL (bitsL (List.replicate 2 0)) (prbs 0 (8 * (List.replicate 2 (0 : UInt8)).length)) = false from by decide]
  go_wp2_with fail
  refine (add_any _ _ g 0 _ _ (f1.step b2) (by decide)).mono ?_
  rintro e w3 ⟨rfl, f3, n3⟩
  rw [show setsB (List.replicate 2 0) (prbs 0 (8 * (List.replicate 2 (0 : UInt8)).length)) = [240, 0] from by decide] at f3
  have b3 := (below_step b1 b2).trans (n3.below (Nat.le_refl _) (below_step b1 b2).size)
  go_wp2_with fail
  refine (may_any _ _ g 0 _ _ f3 (by decide)).mono ?_
  rintro e w4 ⟨rfl, b4⟩
  rw [show allL (bitsL [240, 0]) (prbs 0 (8 * [(240 : UInt8), 0].length)) = true from by decide]
  go_wp2_with fail
  refine (set_any _ _ g _ _ (f3.step b4)).mono ?_
  rintro e w5 ⟨rfl, rfl⟩
  rw [show cntB [240, 0] = 4 from by decide]
  go_wp2_with fail
  refine (bits_any _ _ g _ _ (f3.step b4)).mono ?_
  rintro e w5 ⟨rfl, rfl⟩
  rw [show (8 * [(240 : UInt8), 0].length : Nat) = 16 from by decide]
  go_wp2_with fail
  refine (bytes_any _ _ g _ _ (f3.step b4)).mono ?_
  rintro e w6 ⟨A6, c6, rfl, o6, b6⟩
  go_wp2_with fail
  go_ret
  exact ⟨rfl, below_step (below_step b3 b4) b6⟩
end Go.Proofs.Ytbncjacbggngiaa
