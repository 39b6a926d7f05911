/- Package icehouselaw05's wakes answers true. Conditions: none. -/
import Derived.Test.YtkemlpcfijfaeaaStc
import Derived.Test.YtkemlpcfijfaeaaOpen
namespace Go.Proofs.Ytkemlpcfijfaeaa
set_option linter.unusedVariables false
open Go.RowKit

def wakB : List UInt8 := packL 1 2 [3]
def wakS : Array Value := #[.int .u64 1, .int .u32 2, .int .i64 1]
def WakRead (W : World) (e : Ending) (w' : World) : Prop := ∃ P cP, e = .returned (.tuple #[.agg #[.int .u64 1, .int .u32 2, .int .i64 1], .slice P 1 cP, .int .i64 0]) ∧ Own w' W.heap.size P 1 cP [3] ∧ Below W.heap.size W w'
theorem wak_read5 (W : World) : Calls Try.prog 20 #[.agg (ar wakB)] W (WakRead W) := by
  refine (read_ok wakB (by decide +kernel) W (by decide +kernel) (by decide +kernel) (by decide +kernel)).mono ?_
  intro e w' h
  unfold ReadOk at h
  rw [show fld wakB 0 8 = 1 from by decide +kernel, show fld wakB 8 4 = 2 from by decide +kernel, show fld wakB 12 2 = 1 from by decide +kernel, show (wakB.drop 16).take 1 = [3] from by decide +kernel] at h
  exact h
theorem wakBl : wakB.length = 64 := by decide +kernel
set_option maxRecDepth 100000 in
set_option maxHeartbeats 8000000 in
theorem wakes05 (w : World) :
    Calls Try.prog 11 #[] w fun e w' => e = .returned (.bool true) ∧ Below w.heap.size w w' := by
  have b0 := below_a1' (Below.refl w.heap.size w) (.cells #[.int .u8 3] 5)
  have r0 : Rd (w.alloc (.cells #[.int .u8 3] 5)) _ (some ⟨w.heap.size, 0, none⟩) 1 1 [3] := Rd.one w _ _ rfl
  have hP := (pack_ok 1 2 (by omega) (by omega) (by omega) _ 1 1 [3] (by omega) _ (r0.more (by simp)))
  rw [show packL 1 2 [3] = wakB from rfl] at hP
  go_enter Try.func11, Try.ntmps11
  go_wp2_with fail
  refine hP.mono ?_
  rintro e w1 ⟨rfl, b1⟩
  have b := below_step b0 b1
  clear hP b1 r0 b0
  have hs1 := b.size
  have k1 := Blk.new w1 (ar zeroA) 47
  replace b := below_a1' b (.cells (ar zeroA) 47)
  go_wp2_with (refine wpl_storeA _ rfl _ _ rfl w1.heap.size zeroA wakB rfl rfl k1 zl wakBl ?_)
  intro w2 k2 g2
  replace b := b.trans (below_grown g2 (by omega) k1.lt)
  clear g2 k1
  go_wp2_with (refine wpl_loadA _ rfl _ rfl w1.heap.size wakB rfl k2 wakBl ?_)
  refine (wak_read5 _).mono ?_
  rintro e w3 ⟨P, cP, rfl, oP, b3⟩
  replace b := below_step b b3
  replace k2 := k2.step b3
  clear b3
  obtain ⟨ad, x, rfl, -, hx, hc⟩ := oP.rd.at_ (i := 0) (by omega)
  obtain rfl : 3 = x := by simpa using hx
  have had : (ad.add 0) = ad := rfl
  rw [had] at hc
  have hlt : ad.block < w3.heap.size := World.block_lt_of_cell? w3 ad hc
  have b9 := below_a1' b (.cells wakS 49)
  unfold wakS at b9
  clear oP k2 had hx
  go_wp2_with fail
  go_ret
  exact ⟨rfl, b9⟩
end Go.Proofs.Ytkemlpcfijfaeaa
