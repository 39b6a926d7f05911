/-
  No cell of these rows narrows 'for every input' (looked for: loops, veiled, ifaces, maps, wideKeys, modest, calm, conditions, laid).
  DERIVED. THE GIVEN ROWS OF THIS SEAT. 10 by the template 'for every input the law returns true; each argument reads behind the call as it read before'; 0 by the template 'total and deterministic' (their statements: YtbofnmlddpbfeaaTotals.lean).
  GIVEN WITH THE SEED: the statements are not yours to turn. If you find one false, say at which input.
  Laid BY PROGRAM, IN A SANDBOX (cutbox-rows.mjs): the forced cells as the released guide's own fill.sh prints them over the translation 7feaf82e2e785211… (all of the seat's roots in one cut). By AI agents, Wed Nov 11 2026. No macro, syntax, notation, axiom, sorry.
-/
import Derived.Test.YtbofnmlddpbfeaaChecked
import GoSem.Claim
import GoSem.ClaimJoined
import GoSem.ClaimMapViews
import Derived.JoinedTies
import Derived.KernelRfl
namespace Go.Proofs.Ytbofnmlddpbfeaa
/- THE CELL 'sum', in the pinned program and in every row, IS THE sha256 OF THE DUMP (.gsa) THAT YtbofnmlddpbfeaaProg.lean LOADS. Nothing in Lean hashes anything: it is a label: what it is worth is what the hold of that sum in a sandbox is worth. -/
noncomputable def Try.pinned : Pinned := { name := "ytbofnmlddpbfeaa", sum := "7feaf82e2e785211af309d83adf57b126e850a5a70a3f01d6c07c510330e4dc5", checked := Try.checked }
namespace Rows
def none {H : Type} : Left H := { results := [], args := [] }

/-- 'icehouselaw25.SpaceCharges': WHATEVER THE INPUT: true; the input reads as it did. -/
def spaceChargesSpec : ChangeSpec := { name := "spaceCharges", fn := fun _ => fun
  | [d1, d2, d3] => { results := [.lit (.bool true)], args := [d1, d2, d3] }
  | _ => none }
def spaceChargesRow : OpenClaim := { program := "ytbofnmlddpbfeaa", sum := "7feaf82e2e785211af309d83adf57b126e850a5a70a3f01d6c07c510330e4dc5", func := "icehouse/icehouselaw25.SpaceCharges", spec := "spaceCharges", apart := false }
def SpaceChargesSaid : Prop := spaceChargesRow.holds Try.pinned (OpenSpec.ofChange spaceChargesSpec)

/-- ITS FALSE NEIGHBOUR: 'it returns false'. Refute it at one input. -/
def spaceChargesWrong : ChangeSpec := { name := "spaceCharges", fn := fun _ => fun
  | [d1, d2, d3] => { results := [.lit (.bool false)], args := [d1, d2, d3] }
  | _ => none }
def SpaceChargesWrongFalsely : Prop := spaceChargesRow.holds Try.pinned (OpenSpec.ofChange spaceChargesWrong)

/-- 'icehouselaw25.SpaceHolds': WHATEVER THE INPUT: true; the input reads as it did. -/
def spaceHoldsSpec : ChangeSpec := { name := "spaceHolds", fn := fun _ => fun
  | [d1, d2, d3] => { results := [.lit (.bool true)], args := [d1, d2, d3] }
  | _ => none }
def spaceHoldsRow : OpenClaim := { program := "ytbofnmlddpbfeaa", sum := "7feaf82e2e785211af309d83adf57b126e850a5a70a3f01d6c07c510330e4dc5", func := "icehouse/icehouselaw25.SpaceHolds", spec := "spaceHolds", apart := false }
def SpaceHoldsSaid : Prop := spaceHoldsRow.holds Try.pinned (OpenSpec.ofChange spaceHoldsSpec)

/-- ITS FALSE NEIGHBOUR: 'it returns false'. Refute it at one input. -/
def spaceHoldsWrong : ChangeSpec := { name := "spaceHolds", fn := fun _ => fun
  | [d1, d2, d3] => { results := [.lit (.bool false)], args := [d1, d2, d3] }
  | _ => none }
def SpaceHoldsWrongFalsely : Prop := spaceHoldsRow.holds Try.pinned (OpenSpec.ofChange spaceHoldsWrong)

/-- 'icehouselaw25.SpaceMost': WHATEVER THE INPUT: true; the input reads as it did. -/
def spaceMostSpec : ChangeSpec := { name := "spaceMost", fn := fun _ => fun
  | [d1, d2] => { results := [.lit (.bool true)], args := [d1, d2] }
  | _ => none }
def spaceMostRow : OpenClaim := { program := "ytbofnmlddpbfeaa", sum := "7feaf82e2e785211af309d83adf57b126e850a5a70a3f01d6c07c510330e4dc5", func := "icehouse/icehouselaw25.SpaceMost", spec := "spaceMost", apart := false }
def SpaceMostSaid : Prop := spaceMostRow.holds Try.pinned (OpenSpec.ofChange spaceMostSpec)

/-- ITS FALSE NEIGHBOUR: 'it returns false'. Refute it at one input. -/
def spaceMostWrong : ChangeSpec := { name := "spaceMost", fn := fun _ => fun
  | [d1, d2] => { results := [.lit (.bool false)], args := [d1, d2] }
  | _ => none }
def SpaceMostWrongFalsely : Prop := spaceMostRow.holds Try.pinned (OpenSpec.ofChange spaceMostWrong)

/-- 'icehouselaw01.OctetHolds': WHATEVER THE INPUT: true; the input reads as it did. -/
def octetHoldsSpec : ChangeSpec := { name := "octetHolds", fn := fun _ => fun
  | [d1, d2] => { results := [.lit (.bool true)], args := [d1, d2] }
  | _ => none }
def octetHoldsRow : OpenClaim := { program := "ytbofnmlddpbfeaa", sum := "7feaf82e2e785211af309d83adf57b126e850a5a70a3f01d6c07c510330e4dc5", func := "icehouse/icehouselaw01.OctetHolds", spec := "octetHolds", apart := false }
def OctetHoldsSaid : Prop := octetHoldsRow.holds Try.pinned (OpenSpec.ofChange octetHoldsSpec)

/-- ITS FALSE NEIGHBOUR: 'it returns false'. Refute it at one input. -/
def octetHoldsWrong : ChangeSpec := { name := "octetHolds", fn := fun _ => fun
  | [d1, d2] => { results := [.lit (.bool false)], args := [d1, d2] }
  | _ => none }
def OctetHoldsWrongFalsely : Prop := octetHoldsRow.holds Try.pinned (OpenSpec.ofChange octetHoldsWrong)

/-- 'icehouselaw01.OctetReads': WHATEVER THE INPUT: true; the input reads as it did. -/
def octetReadsSpec : ChangeSpec := { name := "octetReads", fn := fun _ => fun
  | [d1, d2] => { results := [.lit (.bool true)], args := [d1, d2] }
  | _ => none }
def octetReadsRow : OpenClaim := { program := "ytbofnmlddpbfeaa", sum := "7feaf82e2e785211af309d83adf57b126e850a5a70a3f01d6c07c510330e4dc5", func := "icehouse/icehouselaw01.OctetReads", spec := "octetReads", apart := false }
def OctetReadsSaid : Prop := octetReadsRow.holds Try.pinned (OpenSpec.ofChange octetReadsSpec)

/-- ITS FALSE NEIGHBOUR: 'it returns false'. Refute it at one input. -/
def octetReadsWrong : ChangeSpec := { name := "octetReads", fn := fun _ => fun
  | [d1, d2] => { results := [.lit (.bool false)], args := [d1, d2] }
  | _ => none }
def OctetReadsWrongFalsely : Prop := octetReadsRow.holds Try.pinned (OpenSpec.ofChange octetReadsWrong)

/-- 'icehouselaw01.OctetNone': WHATEVER THE INPUT: true; the input reads as it did. -/
def octetNoneSpec : ChangeSpec := { name := "octetNone", fn := fun _ => fun
  | [d] => { results := [.lit (.bool true)], args := [d] }
  | _ => none }
def octetNoneRow : OpenClaim := { program := "ytbofnmlddpbfeaa", sum := "7feaf82e2e785211af309d83adf57b126e850a5a70a3f01d6c07c510330e4dc5", func := "icehouse/icehouselaw01.OctetNone", spec := "octetNone", apart := false }
def OctetNoneSaid : Prop := octetNoneRow.holds Try.pinned (OpenSpec.ofChange octetNoneSpec)

/-- ITS FALSE NEIGHBOUR: 'it returns false'. Refute it at one input. -/
def octetNoneWrong : ChangeSpec := { name := "octetNone", fn := fun _ => fun
  | [d] => { results := [.lit (.bool false)], args := [d] }
  | _ => none }
def OctetNoneWrongFalsely : Prop := octetNoneRow.holds Try.pinned (OpenSpec.ofChange octetNoneWrong)

/-- 'icehouselaw01.OctetRises': WHATEVER THE INPUT: true; the input reads as it did. -/
def octetRisesSpec : ChangeSpec := { name := "octetRises", fn := fun _ => fun
  | [d1, d2] => { results := [.lit (.bool true)], args := [d1, d2] }
  | _ => none }
def octetRisesRow : OpenClaim := { program := "ytbofnmlddpbfeaa", sum := "7feaf82e2e785211af309d83adf57b126e850a5a70a3f01d6c07c510330e4dc5", func := "icehouse/icehouselaw01.OctetRises", spec := "octetRises", apart := false }
def OctetRisesSaid : Prop := octetRisesRow.holds Try.pinned (OpenSpec.ofChange octetRisesSpec)

/-- ITS FALSE NEIGHBOUR: 'it returns false'. Refute it at one input. -/
def octetRisesWrong : ChangeSpec := { name := "octetRises", fn := fun _ => fun
  | [d1, d2] => { results := [.lit (.bool false)], args := [d1, d2] }
  | _ => none }
def OctetRisesWrongFalsely : Prop := octetRisesRow.holds Try.pinned (OpenSpec.ofChange octetRisesWrong)

/-- 'icehouselaw01.OctetPuts': WHATEVER THE INPUT: true; the input reads as it did. -/
def octetPutsSpec : ChangeSpec := { name := "octetPuts", fn := fun _ => fun
  | [d1, d2] => { results := [.lit (.bool true)], args := [d1, d2] }
  | _ => none }
def octetPutsRow : OpenClaim := { program := "ytbofnmlddpbfeaa", sum := "7feaf82e2e785211af309d83adf57b126e850a5a70a3f01d6c07c510330e4dc5", func := "icehouse/icehouselaw01.OctetPuts", spec := "octetPuts", apart := false }
def OctetPutsSaid : Prop := octetPutsRow.holds Try.pinned (OpenSpec.ofChange octetPutsSpec)

/-- ITS FALSE NEIGHBOUR: 'it returns false'. Refute it at one input. -/
def octetPutsWrong : ChangeSpec := { name := "octetPuts", fn := fun _ => fun
  | [d1, d2] => { results := [.lit (.bool false)], args := [d1, d2] }
  | _ => none }
def OctetPutsWrongFalsely : Prop := octetPutsRow.holds Try.pinned (OpenSpec.ofChange octetPutsWrong)

/-- 'icehouselaw01.OctetBack': WHATEVER THE INPUT: true; the input reads as it did. -/
def octetBackSpec : ChangeSpec := { name := "octetBack", fn := fun _ => fun
  | [d1, d2] => { results := [.lit (.bool true)], args := [d1, d2] }
  | _ => none }
def octetBackRow : OpenClaim := { program := "ytbofnmlddpbfeaa", sum := "7feaf82e2e785211af309d83adf57b126e850a5a70a3f01d6c07c510330e4dc5", func := "icehouse/icehouselaw01.OctetBack", spec := "octetBack", apart := false }
def OctetBackSaid : Prop := octetBackRow.holds Try.pinned (OpenSpec.ofChange octetBackSpec)

/-- ITS FALSE NEIGHBOUR: 'it returns false'. Refute it at one input. -/
def octetBackWrong : ChangeSpec := { name := "octetBack", fn := fun _ => fun
  | [d1, d2] => { results := [.lit (.bool false)], args := [d1, d2] }
  | _ => none }
def OctetBackWrongFalsely : Prop := octetBackRow.holds Try.pinned (OpenSpec.ofChange octetBackWrong)

/-- 'icehouselaw25.SpaceFits': WHATEVER THE INPUT: true; the input reads as it did. -/
def spaceFitsSpec : ChangeSpec := { name := "spaceFits", fn := fun _ => fun
  | [d1, d2] => { results := [.lit (.bool true)], args := [d1, d2] }
  | _ => none }
def spaceFitsRow : OpenClaim := { program := "ytbofnmlddpbfeaa", sum := "7feaf82e2e785211af309d83adf57b126e850a5a70a3f01d6c07c510330e4dc5", func := "icehouse/icehouselaw25.SpaceFits", spec := "spaceFits", unfollowed := true, recurses := true, apart := false }
def SpaceFitsSaid : Prop := spaceFitsRow.holds Try.pinned (OpenSpec.ofChange spaceFitsSpec)

/-- ITS FALSE NEIGHBOUR: 'it returns false'. Refute it at one input. -/
def spaceFitsWrong : ChangeSpec := { name := "spaceFits", fn := fun _ => fun
  | [d1, d2] => { results := [.lit (.bool false)], args := [d1, d2] }
  | _ => none }
def SpaceFitsWrongFalsely : Prop := spaceFitsRow.holds Try.pinned (OpenSpec.ofChange spaceFitsWrong)

/- THE SECOND FORM. 'bulk': how many values and letters a reading holds, each counted each time it is reached (what is shared counts as often as it is met; a slice's spare places count too). A statement '..UptoSaid' is the law's where the arguments, and the package variables that the reading takes, are together of bulk at most 1048576: NARROWER than '..Said'. Prove '..Said' where nothing that the law and all that it calls make is longer than what came in: it says more and counts as full. Else prove '..UptoSaid'. A law counts once. -/
mutual
def uptoBulk {H : Type} : DataW H → Nat
  | .lit (.string bytes) => bytes.length + 1
  | .lit _ => 1
  | .nil => 1
  | .ptr d => uptoBulk d + 1
  | .slice elems spare => uptoBulkAll elems + uptoBulkAll spare + 1
  | .agg parts => uptoBulkAll parts + 1
  | .iface _ d => uptoBulk d + 1
  | .map entries => uptoBulkEntries entries + 1
  | .held _ => 1
def uptoBulkAll {H : Type} : List (DataW H) → Nat
  | [] => 0
  | d :: r => uptoBulk d + uptoBulkAll r
def uptoBulkEntries {H : Type} : List (Lit × DataW H) → Nat
  | [] => 0
  | x :: r => uptoBulkEntry x + uptoBulkEntries r
def uptoBulkEntry {H : Type} : Lit × DataW H → Nat
  | (.string bytes, d) => bytes.length + uptoBulk d + 1
  | (_, d) => uptoBulk d + 1
 end
def uptoSmall : (H : Type) → List (DataW H) → Bool := fun _ ds => decide (uptoBulkAll ds ≤ 1048576)
def OpenSpec.upto (s : _root_.Go.ChangeSpec) : _root_.Go.OpenSpec := { _root_.Go.OpenSpec.ofChange s with cond := some uptoSmall }

/-- 'icehouselaw25.SpaceCharges', WHERE WHAT IT READS IS OF BULK AT MOST 1048576: true; the input reads as it did. -/
def spaceChargesUptoRow : OpenClaim := { program := "ytbofnmlddpbfeaa", sum := "7feaf82e2e785211af309d83adf57b126e850a5a70a3f01d6c07c510330e4dc5", func := "icehouse/icehouselaw25.SpaceCharges", spec := "spaceCharges", apart := false, narrowed := true }
def SpaceChargesUptoSaid : Prop := spaceChargesUptoRow.holds Try.pinned (OpenSpec.upto spaceChargesSpec)

/-- 'icehouselaw25.SpaceHolds', WHERE WHAT IT READS IS OF BULK AT MOST 1048576: true; the input reads as it did. -/
def spaceHoldsUptoRow : OpenClaim := { program := "ytbofnmlddpbfeaa", sum := "7feaf82e2e785211af309d83adf57b126e850a5a70a3f01d6c07c510330e4dc5", func := "icehouse/icehouselaw25.SpaceHolds", spec := "spaceHolds", apart := false, narrowed := true }
def SpaceHoldsUptoSaid : Prop := spaceHoldsUptoRow.holds Try.pinned (OpenSpec.upto spaceHoldsSpec)

/-- 'icehouselaw25.SpaceMost', WHERE WHAT IT READS IS OF BULK AT MOST 1048576: true; the input reads as it did. -/
def spaceMostUptoRow : OpenClaim := { program := "ytbofnmlddpbfeaa", sum := "7feaf82e2e785211af309d83adf57b126e850a5a70a3f01d6c07c510330e4dc5", func := "icehouse/icehouselaw25.SpaceMost", spec := "spaceMost", apart := false, narrowed := true }
def SpaceMostUptoSaid : Prop := spaceMostUptoRow.holds Try.pinned (OpenSpec.upto spaceMostSpec)

/-- 'icehouselaw01.OctetHolds', WHERE WHAT IT READS IS OF BULK AT MOST 1048576: true; the input reads as it did. -/
def octetHoldsUptoRow : OpenClaim := { program := "ytbofnmlddpbfeaa", sum := "7feaf82e2e785211af309d83adf57b126e850a5a70a3f01d6c07c510330e4dc5", func := "icehouse/icehouselaw01.OctetHolds", spec := "octetHolds", apart := false, narrowed := true }
def OctetHoldsUptoSaid : Prop := octetHoldsUptoRow.holds Try.pinned (OpenSpec.upto octetHoldsSpec)

/-- 'icehouselaw01.OctetReads', WHERE WHAT IT READS IS OF BULK AT MOST 1048576: true; the input reads as it did. -/
def octetReadsUptoRow : OpenClaim := { program := "ytbofnmlddpbfeaa", sum := "7feaf82e2e785211af309d83adf57b126e850a5a70a3f01d6c07c510330e4dc5", func := "icehouse/icehouselaw01.OctetReads", spec := "octetReads", apart := false, narrowed := true }
def OctetReadsUptoSaid : Prop := octetReadsUptoRow.holds Try.pinned (OpenSpec.upto octetReadsSpec)

/-- 'icehouselaw01.OctetNone', WHERE WHAT IT READS IS OF BULK AT MOST 1048576: true; the input reads as it did. -/
def octetNoneUptoRow : OpenClaim := { program := "ytbofnmlddpbfeaa", sum := "7feaf82e2e785211af309d83adf57b126e850a5a70a3f01d6c07c510330e4dc5", func := "icehouse/icehouselaw01.OctetNone", spec := "octetNone", apart := false, narrowed := true }
def OctetNoneUptoSaid : Prop := octetNoneUptoRow.holds Try.pinned (OpenSpec.upto octetNoneSpec)

/-- 'icehouselaw01.OctetRises', WHERE WHAT IT READS IS OF BULK AT MOST 1048576: true; the input reads as it did. -/
def octetRisesUptoRow : OpenClaim := { program := "ytbofnmlddpbfeaa", sum := "7feaf82e2e785211af309d83adf57b126e850a5a70a3f01d6c07c510330e4dc5", func := "icehouse/icehouselaw01.OctetRises", spec := "octetRises", apart := false, narrowed := true }
def OctetRisesUptoSaid : Prop := octetRisesUptoRow.holds Try.pinned (OpenSpec.upto octetRisesSpec)

/-- 'icehouselaw01.OctetPuts', WHERE WHAT IT READS IS OF BULK AT MOST 1048576: true; the input reads as it did. -/
def octetPutsUptoRow : OpenClaim := { program := "ytbofnmlddpbfeaa", sum := "7feaf82e2e785211af309d83adf57b126e850a5a70a3f01d6c07c510330e4dc5", func := "icehouse/icehouselaw01.OctetPuts", spec := "octetPuts", apart := false, narrowed := true }
def OctetPutsUptoSaid : Prop := octetPutsUptoRow.holds Try.pinned (OpenSpec.upto octetPutsSpec)

/-- 'icehouselaw01.OctetBack', WHERE WHAT IT READS IS OF BULK AT MOST 1048576: true; the input reads as it did. -/
def octetBackUptoRow : OpenClaim := { program := "ytbofnmlddpbfeaa", sum := "7feaf82e2e785211af309d83adf57b126e850a5a70a3f01d6c07c510330e4dc5", func := "icehouse/icehouselaw01.OctetBack", spec := "octetBack", apart := false, narrowed := true }
def OctetBackUptoSaid : Prop := octetBackUptoRow.holds Try.pinned (OpenSpec.upto octetBackSpec)

/-- 'icehouselaw25.SpaceFits', WHERE WHAT IT READS IS OF BULK AT MOST 1048576: true; the input reads as it did. -/
def spaceFitsUptoRow : OpenClaim := { program := "ytbofnmlddpbfeaa", sum := "7feaf82e2e785211af309d83adf57b126e850a5a70a3f01d6c07c510330e4dc5", func := "icehouse/icehouselaw25.SpaceFits", spec := "spaceFits", unfollowed := true, recurses := true, apart := false, narrowed := true }
def SpaceFitsUptoSaid : Prop := spaceFitsUptoRow.holds Try.pinned (OpenSpec.upto spaceFitsSpec)

end Rows
end Go.Proofs.Ytbofnmlddpbfeaa
