/- icehouseref21.Right in one. Conditions: typed in each theorem. -/
import Derived.Test.YtnghmgbmflcngaaRrta
import Derived.Test.YtnghmgbmflcngaaRrtb
namespace Go.Proofs.Ytnghmgbmflcngaa
set_option linter.unusedVariables false
open Go.RowKit

theorem rright21_any (op : Int) (qt fu : Bool) (bad : Int) (oq : Nat) (KQ VQ : Value) (fl ex cs dl ini : Nat) (st : Int) (VA : Option Addr) (nv cv af ac an : Nat) (SA : Option Addr) (ns sc : Nat) (cl : Bool) (SL : List (ByteArray × ByteArray)) (w : World) (rS : Rz w w.heap.size 2 SA ns sc (SL.map stCells).flatten) (hns : ns ≤ 9223372036854775800) (hsl : SL.length = ns) : Calls Try.prog 24 #[reqV op qt fu bad oq KQ VQ fl ex cs dl ini, ansV st (.slice VA nv cv) af ac an (.slice SA ns sc) cl] w (fun e w' => e = .returned (.bool (!wrongA st op nv af ac an ns SL)) ∧ Below w.heap.size w w') := by
  by_cases hst : st = 0
  · by_cases h1 : 0 < nv
    · cases h2 : isRead op with
      | true => exact rr_z2 op qt fu bad oq KQ VQ fl ex cs dl ini st VA nv cv af ac an SA ns sc cl SL w rS hns hsl hst h1 h2
      | false =>
        by_cases h3 : op = 11
        · exact rr_z3 op qt fu bad oq KQ VQ fl ex cs dl ini st VA nv cv af ac an SA ns sc cl SL w rS hns hsl hst h1 h2 h3
        · exact rr_z4 op qt fu bad oq KQ VQ fl ex cs dl ini st VA nv cv af ac an SA ns sc cl SL w rS hns hsl hst h1 h2 h3
    · exact rr_z1 op qt fu bad oq KQ VQ fl ex cs dl ini st VA nv cv af ac an SA ns sc cl SL w rS hns hsl hst (by omega)
  · exact rr_n op qt fu bad oq KQ VQ fl ex cs dl ini st VA nv cv af ac an SA ns sc cl SL w rS hns hsl hst
end Go.Proofs.Ytnghmgbmflcngaa
