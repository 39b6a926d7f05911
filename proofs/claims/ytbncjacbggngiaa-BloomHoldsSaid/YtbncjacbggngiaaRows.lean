/-
  No cell of these rows narrows 'for every input' (looked for: loops, veiled, ifaces, maps, wideKeys, modest, calm, conditions, laid).
  DERIVED. THE GIVEN ROWS OF THIS SEAT. 7 by the template 'for every input the law returns true; each argument reads behind the call as it read before'; 0 by the template 'total and deterministic' (their statements: YtbncjacbggngiaaTotals.lean).
  GIVEN WITH THE SEED: the statements are not yours to turn. If you find one false, say at which input.
  Laid BY PROGRAM, IN A SANDBOX (cutbox-rows.mjs): the forced cells as the released guide's own fill.sh prints them over the translation 34623749b81ba7ec… (all of the seat's roots in one cut). By AI agents, Wed Nov 11 2026. No macro, syntax, notation, axiom, sorry.
-/
import Derived.Test.YtbncjacbggngiaaChecked
import GoSem.Claim
import GoSem.ClaimJoined
import GoSem.ClaimMapViews
import Derived.JoinedTies
import Derived.KernelRfl
namespace Go.Proofs.Ytbncjacbggngiaa
/- THE CELL 'sum', in the pinned program and in every row, IS THE sha256 OF THE DUMP (.gsa) THAT YtbncjacbggngiaaProg.lean LOADS. Nothing in Lean hashes anything: it is a label: what it is worth is what the hold of that sum in a sandbox is worth. -/
noncomputable def Try.pinned : Pinned := { name := "ytbncjacbggngiaa", sum := "34623749b81ba7eccf4b13566ed4ac9a87428ceeb4ee6f1ae389e9c8a1ff7cb2", checked := Try.checked }
namespace Rows
def none {H : Type} : Left H := { results := [], args := [] }

/-- 'icehouselaw04.BloomSizes': WHATEVER THE INPUT: true; the input reads as it did. -/
def bloomSizesSpec : ChangeSpec := { name := "bloomSizes", fn := fun _ => fun
  | [d1, d2] => { results := [.lit (.bool true)], args := [d1, d2] }
  | _ => none }
def bloomSizesRow : OpenClaim := { program := "ytbncjacbggngiaa", sum := "34623749b81ba7eccf4b13566ed4ac9a87428ceeb4ee6f1ae389e9c8a1ff7cb2", func := "icehouse/icehouselaw04.BloomSizes", spec := "bloomSizes", apart := false }
def BloomSizesSaid : Prop := bloomSizesRow.holds Try.pinned (OpenSpec.ofChange bloomSizesSpec)

/-- ITS FALSE NEIGHBOUR: 'it returns false'. Refute it at one input. -/
def bloomSizesWrong : ChangeSpec := { name := "bloomSizes", fn := fun _ => fun
  | [d1, d2] => { results := [.lit (.bool false)], args := [d1, d2] }
  | _ => none }
def BloomSizesWrongFalsely : Prop := bloomSizesRow.holds Try.pinned (OpenSpec.ofChange bloomSizesWrong)

/-- 'icehouselaw04.BloomOrder': WHATEVER THE INPUT: true; the input reads as it did. -/
def bloomOrderSpec : ChangeSpec := { name := "bloomOrder", fn := fun _ => fun
  | [d1, d2, d3] => { results := [.lit (.bool true)], args := [d1, d2, d3] }
  | _ => none }
def bloomOrderRow : OpenClaim := { program := "ytbncjacbggngiaa", sum := "34623749b81ba7eccf4b13566ed4ac9a87428ceeb4ee6f1ae389e9c8a1ff7cb2", func := "icehouse/icehouselaw04.BloomOrder", spec := "bloomOrder", apart := false }
def BloomOrderSaid : Prop := bloomOrderRow.holds Try.pinned (OpenSpec.ofChange bloomOrderSpec)

/-- ITS FALSE NEIGHBOUR: 'it returns false'. Refute it at one input. -/
def bloomOrderWrong : ChangeSpec := { name := "bloomOrder", fn := fun _ => fun
  | [d1, d2, d3] => { results := [.lit (.bool false)], args := [d1, d2, d3] }
  | _ => none }
def BloomOrderWrongFalsely : Prop := bloomOrderRow.holds Try.pinned (OpenSpec.ofChange bloomOrderWrong)

/-- 'icehouselaw04.BloomDoes': WHATEVER THE INPUT: true; the input reads as it did. -/
def bloomDoesSpec : ChangeSpec := { name := "bloomDoes", fn := fun _ => fun
  | [d1, d2, d3] => { results := [.lit (.bool true)], args := [d1, d2, d3] }
  | _ => none }
def bloomDoesRow : OpenClaim := { program := "ytbncjacbggngiaa", sum := "34623749b81ba7eccf4b13566ed4ac9a87428ceeb4ee6f1ae389e9c8a1ff7cb2", func := "icehouse/icehouselaw04.BloomDoes", spec := "bloomDoes", apart := false }
def BloomDoesSaid : Prop := bloomDoesRow.holds Try.pinned (OpenSpec.ofChange bloomDoesSpec)

/-- ITS FALSE NEIGHBOUR: 'it returns false'. Refute it at one input. -/
def bloomDoesWrong : ChangeSpec := { name := "bloomDoes", fn := fun _ => fun
  | [d1, d2, d3] => { results := [.lit (.bool false)], args := [d1, d2, d3] }
  | _ => none }
def BloomDoesWrongFalsely : Prop := bloomDoesRow.holds Try.pinned (OpenSpec.ofChange bloomDoesWrong)

/-- 'icehouselaw04.BloomJoins': WHATEVER THE INPUT: true; the input reads as it did. -/
def bloomJoinsSpec : ChangeSpec := { name := "bloomJoins", fn := fun _ => fun
  | [d1, d2, d3] => { results := [.lit (.bool true)], args := [d1, d2, d3] }
  | _ => none }
def bloomJoinsRow : OpenClaim := { program := "ytbncjacbggngiaa", sum := "34623749b81ba7eccf4b13566ed4ac9a87428ceeb4ee6f1ae389e9c8a1ff7cb2", func := "icehouse/icehouselaw04.BloomJoins", spec := "bloomJoins", apart := false }
def BloomJoinsSaid : Prop := bloomJoinsRow.holds Try.pinned (OpenSpec.ofChange bloomJoinsSpec)

/-- ITS FALSE NEIGHBOUR: 'it returns false'. Refute it at one input. -/
def bloomJoinsWrong : ChangeSpec := { name := "bloomJoins", fn := fun _ => fun
  | [d1, d2, d3] => { results := [.lit (.bool false)], args := [d1, d2, d3] }
  | _ => none }
def BloomJoinsWrongFalsely : Prop := bloomJoinsRow.holds Try.pinned (OpenSpec.ofChange bloomJoinsWrong)

/-- 'icehouselaw04.BloomNone': WHATEVER THE INPUT: true; the input reads as it did. -/
def bloomNoneSpec : ChangeSpec := { name := "bloomNone", fn := fun _ => fun
  | [d] => { results := [.lit (.bool true)], args := [d] }
  | _ => none }
def bloomNoneRow : OpenClaim := { program := "ytbncjacbggngiaa", sum := "34623749b81ba7eccf4b13566ed4ac9a87428ceeb4ee6f1ae389e9c8a1ff7cb2", func := "icehouse/icehouselaw04.BloomNone", spec := "bloomNone", apart := false }
def BloomNoneSaid : Prop := bloomNoneRow.holds Try.pinned (OpenSpec.ofChange bloomNoneSpec)

/-- ITS FALSE NEIGHBOUR: 'it returns false'. Refute it at one input. -/
def bloomNoneWrong : ChangeSpec := { name := "bloomNone", fn := fun _ => fun
  | [d] => { results := [.lit (.bool false)], args := [d] }
  | _ => none }
def BloomNoneWrongFalsely : Prop := bloomNoneRow.holds Try.pinned (OpenSpec.ofChange bloomNoneWrong)

/-- 'icehouselaw04.BloomBytes': WHATEVER THE INPUT: true; the input reads as it did. -/
def bloomBytesSpec : ChangeSpec := { name := "bloomBytes", fn := fun _ => fun
  | [d1, d2] => { results := [.lit (.bool true)], args := [d1, d2] }
  | _ => none }
def bloomBytesRow : OpenClaim := { program := "ytbncjacbggngiaa", sum := "34623749b81ba7eccf4b13566ed4ac9a87428ceeb4ee6f1ae389e9c8a1ff7cb2", func := "icehouse/icehouselaw04.BloomBytes", spec := "bloomBytes", apart := false }
def BloomBytesSaid : Prop := bloomBytesRow.holds Try.pinned (OpenSpec.ofChange bloomBytesSpec)

/-- ITS FALSE NEIGHBOUR: 'it returns false'. Refute it at one input. -/
def bloomBytesWrong : ChangeSpec := { name := "bloomBytes", fn := fun _ => fun
  | [d1, d2] => { results := [.lit (.bool false)], args := [d1, d2] }
  | _ => none }
def BloomBytesWrongFalsely : Prop := bloomBytesRow.holds Try.pinned (OpenSpec.ofChange bloomBytesWrong)

/-- 'icehouselaw04.BloomHolds': WHATEVER THE INPUT: true; the input reads as it did. -/
def bloomHoldsSpec : ChangeSpec := { name := "bloomHolds", fn := fun _ => fun
  | [d1, d2, d3] => { results := [.lit (.bool true)], args := [d1, d2, d3] }
  | _ => none }
def bloomHoldsRow : OpenClaim := { program := "ytbncjacbggngiaa", sum := "34623749b81ba7eccf4b13566ed4ac9a87428ceeb4ee6f1ae389e9c8a1ff7cb2", func := "icehouse/icehouselaw04.BloomHolds", spec := "bloomHolds", apart := false }
def BloomHoldsSaid : Prop := bloomHoldsRow.holds Try.pinned (OpenSpec.ofChange bloomHoldsSpec)

/-- ITS FALSE NEIGHBOUR: 'it returns false'. Refute it at one input. -/
def bloomHoldsWrong : ChangeSpec := { name := "bloomHolds", fn := fun _ => fun
  | [d1, d2, d3] => { results := [.lit (.bool false)], args := [d1, d2, d3] }
  | _ => none }
def BloomHoldsWrongFalsely : Prop := bloomHoldsRow.holds Try.pinned (OpenSpec.ofChange bloomHoldsWrong)

/- THE SECOND FORM. 'bulk': how many values and letters a reading holds, each counted each time it is reached (what is shared counts as often as it is met; a slice's spare places count too). A statement '..UptoSaid' is the law's where the arguments, and the package variables that the reading takes, are together of bulk at most 1048576: NARROWER than '..Said'. Prove '..Said' where nothing that the law and all that it calls make is longer than what came in: it says more and counts as full. Else prove '..UptoSaid'. A law counts once. -/
mutual
def uptoBulk {H : Type} : DataW H → Nat
  | .lit (.string bytes) => bytes.length + 1
  | .lit _ => 1
  | .nil => 1
  | .ptr d => uptoBulk d + 1
  | .slice elems spare => uptoBulkAll elems + uptoBulkAll spare + 1
  | .agg parts => uptoBulkAll parts + 1
  | .iface _ d => uptoBulk d + 1
  | .map entries => uptoBulkEntries entries + 1
  | .held _ => 1
def uptoBulkAll {H : Type} : List (DataW H) → Nat
  | [] => 0
  | d :: r => uptoBulk d + uptoBulkAll r
def uptoBulkEntries {H : Type} : List (Lit × DataW H) → Nat
  | [] => 0
  | x :: r => uptoBulkEntry x + uptoBulkEntries r
def uptoBulkEntry {H : Type} : Lit × DataW H → Nat
  | (.string bytes, d) => bytes.length + uptoBulk d + 1
  | (_, d) => uptoBulk d + 1
 end
def uptoSmall : (H : Type) → List (DataW H) → Bool := fun _ ds => decide (uptoBulkAll ds ≤ 1048576)
def OpenSpec.upto (s : _root_.Go.ChangeSpec) : _root_.Go.OpenSpec := { _root_.Go.OpenSpec.ofChange s with cond := some uptoSmall }

/-- 'icehouselaw04.BloomSizes', WHERE WHAT IT READS IS OF BULK AT MOST 1048576: true; the input reads as it did. -/
def bloomSizesUptoRow : OpenClaim := { program := "ytbncjacbggngiaa", sum := "34623749b81ba7eccf4b13566ed4ac9a87428ceeb4ee6f1ae389e9c8a1ff7cb2", func := "icehouse/icehouselaw04.BloomSizes", spec := "bloomSizes", apart := false, narrowed := true }
def BloomSizesUptoSaid : Prop := bloomSizesUptoRow.holds Try.pinned (OpenSpec.upto bloomSizesSpec)

/-- 'icehouselaw04.BloomOrder', WHERE WHAT IT READS IS OF BULK AT MOST 1048576: true; the input reads as it did. -/
def bloomOrderUptoRow : OpenClaim := { program := "ytbncjacbggngiaa", sum := "34623749b81ba7eccf4b13566ed4ac9a87428ceeb4ee6f1ae389e9c8a1ff7cb2", func := "icehouse/icehouselaw04.BloomOrder", spec := "bloomOrder", apart := false, narrowed := true }
def BloomOrderUptoSaid : Prop := bloomOrderUptoRow.holds Try.pinned (OpenSpec.upto bloomOrderSpec)

/-- 'icehouselaw04.BloomDoes', WHERE WHAT IT READS IS OF BULK AT MOST 1048576: true; the input reads as it did. -/
def bloomDoesUptoRow : OpenClaim := { program := "ytbncjacbggngiaa", sum := "34623749b81ba7eccf4b13566ed4ac9a87428ceeb4ee6f1ae389e9c8a1ff7cb2", func := "icehouse/icehouselaw04.BloomDoes", spec := "bloomDoes", apart := false, narrowed := true }
def BloomDoesUptoSaid : Prop := bloomDoesUptoRow.holds Try.pinned (OpenSpec.upto bloomDoesSpec)

/-- 'icehouselaw04.BloomJoins', WHERE WHAT IT READS IS OF BULK AT MOST 1048576: true; the input reads as it did. -/
def bloomJoinsUptoRow : OpenClaim := { program := "ytbncjacbggngiaa", sum := "34623749b81ba7eccf4b13566ed4ac9a87428ceeb4ee6f1ae389e9c8a1ff7cb2", func := "icehouse/icehouselaw04.BloomJoins", spec := "bloomJoins", apart := false, narrowed := true }
def BloomJoinsUptoSaid : Prop := bloomJoinsUptoRow.holds Try.pinned (OpenSpec.upto bloomJoinsSpec)

/-- 'icehouselaw04.BloomNone', WHERE WHAT IT READS IS OF BULK AT MOST 1048576: true; the input reads as it did. -/
def bloomNoneUptoRow : OpenClaim := { program := "ytbncjacbggngiaa", sum := "34623749b81ba7eccf4b13566ed4ac9a87428ceeb4ee6f1ae389e9c8a1ff7cb2", func := "icehouse/icehouselaw04.BloomNone", spec := "bloomNone", apart := false, narrowed := true }
def BloomNoneUptoSaid : Prop := bloomNoneUptoRow.holds Try.pinned (OpenSpec.upto bloomNoneSpec)

/-- 'icehouselaw04.BloomBytes', WHERE WHAT IT READS IS OF BULK AT MOST 1048576: true; the input reads as it did. -/
def bloomBytesUptoRow : OpenClaim := { program := "ytbncjacbggngiaa", sum := "34623749b81ba7eccf4b13566ed4ac9a87428ceeb4ee6f1ae389e9c8a1ff7cb2", func := "icehouse/icehouselaw04.BloomBytes", spec := "bloomBytes", apart := false, narrowed := true }
def BloomBytesUptoSaid : Prop := bloomBytesUptoRow.holds Try.pinned (OpenSpec.upto bloomBytesSpec)

/-- 'icehouselaw04.BloomHolds', WHERE WHAT IT READS IS OF BULK AT MOST 1048576: true; the input reads as it did. -/
def bloomHoldsUptoRow : OpenClaim := { program := "ytbncjacbggngiaa", sum := "34623749b81ba7eccf4b13566ed4ac9a87428ceeb4ee6f1ae389e9c8a1ff7cb2", func := "icehouse/icehouselaw04.BloomHolds", spec := "bloomHolds", apart := false, narrowed := true }
def BloomHoldsUptoSaid : Prop := bloomHoldsUptoRow.holds Try.pinned (OpenSpec.upto bloomHoldsSpec)

end Rows
end Go.Proofs.Ytbncjacbggngiaa
