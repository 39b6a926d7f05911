/- Package icehouselaw01's wakes answers true. Conditions: none. -/
import Derived.Test.YtbofnmlddpbfeaaOctr
namespace Go.Proofs.Ytbofnmlddpbfeaa
set_option linter.unusedVariables false
open Go.RowKit

set_option maxHeartbeats 400000 in
theorem wakes01 (w : World) :
    Calls Try.prog 19 #[] w fun e w' => e = .returned (.bool true) ∧ Below w.heap.size w w' := by
  go_enter Try.func19, Try.ntmps19
  go_wp2_with fail
  refine (read_any _ 3 3 (w.heap.size + 1) [1, 2, 5] _ (Own.rd (Own.lit w _ w.heap.size 3 [1, 2, 5] (Nat.le_refl _) (by simp [maxLen]) rfl rfl) |>.more (by simp)) (by simp) (by omega)).mono ?_
  rintro e w1 ⟨g, rfl, h1, b1⟩
  have hb1 := ((Below.refl w.heap.size w).alloc (Nat.le_refl _) _).trans (b1.mono (by simp))
  go_wp2_with fail
  refine (u16_rd [1, 2, 5] 0 0 g _ _ h1).mono ?_
  rintro e w2 ⟨rfl, h2, g2⟩
  rw [show numQ (takeR [1, 2, 5] 0 0 2).1 % 65536 = 258 from by decide]
  replace h2 : Rdr w2 _ g [1, 2, 5] 2 0 := h2
  have hb2 := hb1.trans (below_grown g2 (by have := h1.ge; simp at this; omega) h1.lt)
  go_wp2_with fail
  refine (left_any [1, 2, 5] 2 0 g _ _ h2).mono ?_
  rintro e w3 ⟨rfl, hq⟩
  have hb3 := hb2.trans (quiet_below hq _)
  clear hq
  rw [show ((([1, 2, 5] : List UInt8).length : Int) - (2 : Nat)) = 1 from by decide]
  go_wp2_with fail
  refine (equal_any _ _ 1 1 1 1 (w3.heap.size + 2) [7] [7] _ (((Rd.one w3 _ 7 rfl).alloc (by simp) _).more (by simp)) (Rd.oneK (w3.alloc _) (w3.heap.size + 1) _ 7 (by simp) rfl)).mono ?_
  rintro e w4 ⟨rfl, hq⟩
  have hb4 := (below_a2 hb3 (Nat.le_refl _) _ _).trans (quiet_below hq _)
  clear hq
  rw [show eqB [7] [7] = true from by decide]
  go_wp2_with fail
  refine (equal_any _ _ 1 1 1 1 (w4.heap.size + 2) [7] [8] _ (((Rd.one w4 _ 7 rfl).alloc (by simp) _).more (by simp)) (Rd.oneK (w4.alloc _) (w4.heap.size + 1) _ 8 (by simp) rfl)).mono ?_
  rintro e w5 ⟨rfl, hq⟩
  have hb5 := (below_a2 hb4 (Nat.le_refl _) _ _).trans (quiet_below hq _)
  clear hq
  rw [show eqB [7] [8] = false from by decide]
  go_wp2_with fail
  go_ret
  exact ⟨rfl, hb5⟩
end Go.Proofs.Ytbofnmlddpbfeaa
