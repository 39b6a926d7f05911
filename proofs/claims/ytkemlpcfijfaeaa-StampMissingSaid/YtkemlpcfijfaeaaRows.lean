/-
  No cell of these rows narrows 'for every input' (looked for: loops, veiled, ifaces, maps, wideKeys, modest, calm, conditions, laid).
  DERIVED. THE GIVEN ROWS OF THIS SEAT. 5 by the template 'for every input the law returns true; each argument reads behind the call as it read before'; 0 by the template 'total and deterministic' (their statements: YtkemlpcfijfaeaaTotals.lean).
  GIVEN WITH THE SEED: the statements are not yours to turn. If you find one false, say at which input.
  Laid BY PROGRAM, IN A SANDBOX (cutbox-rows.mjs): the forced cells as the released guide's own fill.sh prints them over the translation 0c0bc8fa0d7cde3f… (all of the seat's roots in one cut). By AI agents, Wed Nov 11 2026. No macro, syntax, notation, axiom, sorry.
-/
import Derived.Test.YtkemlpcfijfaeaaChecked
import GoSem.Claim
import GoSem.ClaimJoined
import GoSem.ClaimMapViews
import Derived.JoinedTies
import Derived.KernelRfl
namespace Go.Proofs.Ytkemlpcfijfaeaa
/- THE CELL 'sum', in the pinned program and in every row, IS THE sha256 OF THE DUMP (.gsa) THAT YtkemlpcfijfaeaaProg.lean LOADS. Nothing in Lean hashes anything: it is a label: what it is worth is what the hold of that sum in a sandbox is worth. -/
noncomputable def Try.pinned : Pinned := { name := "ytkemlpcfijfaeaa", sum := "0c0bc8fa0d7cde3fd43e0332491dd250fa227613534fb8c5f9fc82a989f4c380", checked := Try.checked }
namespace Rows
def none {H : Type} : Left H := { results := [], args := [] }

/-- 'icehouselaw25.SpaceFits': WHATEVER THE INPUT: true; the input reads as it did. -/
def spaceFitsSpec : ChangeSpec := { name := "spaceFits", fn := fun _ => fun
  | [d1, d2] => { results := [.lit (.bool true)], args := [d1, d2] }
  | _ => none }
def spaceFitsRow : OpenClaim := { program := "ytkemlpcfijfaeaa", sum := "0c0bc8fa0d7cde3fd43e0332491dd250fa227613534fb8c5f9fc82a989f4c380", func := "icehouse/icehouselaw25.SpaceFits", spec := "spaceFits", unfollowed := true, recurses := true, apart := false }
def SpaceFitsSaid : Prop := spaceFitsRow.holds Try.pinned (OpenSpec.ofChange spaceFitsSpec)

/-- ITS FALSE NEIGHBOUR: 'it returns false'. Refute it at one input. -/
def spaceFitsWrong : ChangeSpec := { name := "spaceFits", fn := fun _ => fun
  | [d1, d2] => { results := [.lit (.bool false)], args := [d1, d2] }
  | _ => none }
def SpaceFitsWrongFalsely : Prop := spaceFitsRow.holds Try.pinned (OpenSpec.ofChange spaceFitsWrong)

/-- 'icehouselaw05.StampJoins': WHATEVER THE INPUT: true; the input reads as it did. -/
def stampJoinsSpec : ChangeSpec := { name := "stampJoins", fn := fun _ => fun
  | [d] => { results := [.lit (.bool true)], args := [d] }
  | _ => none }
def stampJoinsRow : OpenClaim := { program := "ytkemlpcfijfaeaa", sum := "0c0bc8fa0d7cde3fd43e0332491dd250fa227613534fb8c5f9fc82a989f4c380", func := "icehouse/icehouselaw05.StampJoins", spec := "stampJoins", apart := false }
def StampJoinsSaid : Prop := stampJoinsRow.holds Try.pinned (OpenSpec.ofChange stampJoinsSpec)

/-- ITS FALSE NEIGHBOUR: 'it returns false'. Refute it at one input. -/
def stampJoinsWrong : ChangeSpec := { name := "stampJoins", fn := fun _ => fun
  | [d] => { results := [.lit (.bool false)], args := [d] }
  | _ => none }
def StampJoinsWrongFalsely : Prop := stampJoinsRow.holds Try.pinned (OpenSpec.ofChange stampJoinsWrong)

/-- 'icehouselaw05.StampSplits': WHATEVER THE INPUT: true; the input reads as it did. -/
def stampSplitsSpec : ChangeSpec := { name := "stampSplits", fn := fun _ => fun
  | [d1, d2, d3] => { results := [.lit (.bool true)], args := [d1, d2, d3] }
  | _ => none }
def stampSplitsRow : OpenClaim := { program := "ytkemlpcfijfaeaa", sum := "0c0bc8fa0d7cde3fd43e0332491dd250fa227613534fb8c5f9fc82a989f4c380", func := "icehouse/icehouselaw05.StampSplits", spec := "stampSplits", apart := false }
def StampSplitsSaid : Prop := stampSplitsRow.holds Try.pinned (OpenSpec.ofChange stampSplitsSpec)

/-- ITS FALSE NEIGHBOUR: 'it returns false'. Refute it at one input. -/
def stampSplitsWrong : ChangeSpec := { name := "stampSplits", fn := fun _ => fun
  | [d1, d2, d3] => { results := [.lit (.bool false)], args := [d1, d2, d3] }
  | _ => none }
def StampSplitsWrongFalsely : Prop := stampSplitsRow.holds Try.pinned (OpenSpec.ofChange stampSplitsWrong)

/-- 'icehouselaw05.StampBack': WHATEVER THE INPUT: true; the input reads as it did. -/
def stampBackSpec : ChangeSpec := { name := "stampBack", fn := fun _ => fun
  | [d1, d2, d3] => { results := [.lit (.bool true)], args := [d1, d2, d3] }
  | _ => none }
def stampBackRow : OpenClaim := { program := "ytkemlpcfijfaeaa", sum := "0c0bc8fa0d7cde3fd43e0332491dd250fa227613534fb8c5f9fc82a989f4c380", func := "icehouse/icehouselaw05.StampBack", spec := "stampBack", apart := false }
def StampBackSaid : Prop := stampBackRow.holds Try.pinned (OpenSpec.ofChange stampBackSpec)

/-- ITS FALSE NEIGHBOUR: 'it returns false'. Refute it at one input. -/
def stampBackWrong : ChangeSpec := { name := "stampBack", fn := fun _ => fun
  | [d1, d2, d3] => { results := [.lit (.bool false)], args := [d1, d2, d3] }
  | _ => none }
def StampBackWrongFalsely : Prop := stampBackRow.holds Try.pinned (OpenSpec.ofChange stampBackWrong)

/-- 'icehouselaw05.StampMissing': WHATEVER THE INPUT: true; the input reads as it did. -/
def stampMissingSpec : ChangeSpec := { name := "stampMissing", fn := fun _ => fun
  | [d1, d2, d3] => { results := [.lit (.bool true)], args := [d1, d2, d3] }
  | _ => none }
def stampMissingRow : OpenClaim := { program := "ytkemlpcfijfaeaa", sum := "0c0bc8fa0d7cde3fd43e0332491dd250fa227613534fb8c5f9fc82a989f4c380", func := "icehouse/icehouselaw05.StampMissing", spec := "stampMissing", apart := false }
def StampMissingSaid : Prop := stampMissingRow.holds Try.pinned (OpenSpec.ofChange stampMissingSpec)

/-- ITS FALSE NEIGHBOUR: 'it returns false'. Refute it at one input. -/
def stampMissingWrong : ChangeSpec := { name := "stampMissing", fn := fun _ => fun
  | [d1, d2, d3] => { results := [.lit (.bool false)], args := [d1, d2, d3] }
  | _ => none }
def StampMissingWrongFalsely : Prop := stampMissingRow.holds Try.pinned (OpenSpec.ofChange stampMissingWrong)

/- THE SECOND FORM. 'bulk': how many values and letters a reading holds, each counted each time it is reached (what is shared counts as often as it is met; a slice's spare places count too). A statement '..UptoSaid' is the law's where the arguments, and the package variables that the reading takes, are together of bulk at most 1048576: NARROWER than '..Said'. Prove '..Said' where nothing that the law and all that it calls make is longer than what came in: it says more and counts as full. Else prove '..UptoSaid'. A law counts once. -/
mutual
def uptoBulk {H : Type} : DataW H → Nat
  | .lit (.string bytes) => bytes.length + 1
  | .lit _ => 1
  | .nil => 1
  | .ptr d => uptoBulk d + 1
  | .slice elems spare => uptoBulkAll elems + uptoBulkAll spare + 1
  | .agg parts => uptoBulkAll parts + 1
  | .iface _ d => uptoBulk d + 1
  | .map entries => uptoBulkEntries entries + 1
  | .held _ => 1
def uptoBulkAll {H : Type} : List (DataW H) → Nat
  | [] => 0
  | d :: r => uptoBulk d + uptoBulkAll r
def uptoBulkEntries {H : Type} : List (Lit × DataW H) → Nat
  | [] => 0
  | x :: r => uptoBulkEntry x + uptoBulkEntries r
def uptoBulkEntry {H : Type} : Lit × DataW H → Nat
  | (.string bytes, d) => bytes.length + uptoBulk d + 1
  | (_, d) => uptoBulk d + 1
 end
def uptoSmall : (H : Type) → List (DataW H) → Bool := fun _ ds => decide (uptoBulkAll ds ≤ 1048576)
def OpenSpec.upto (s : _root_.Go.ChangeSpec) : _root_.Go.OpenSpec := { _root_.Go.OpenSpec.ofChange s with cond := some uptoSmall }

/-- 'icehouselaw25.SpaceFits', WHERE WHAT IT READS IS OF BULK AT MOST 1048576: true; the input reads as it did. -/
def spaceFitsUptoRow : OpenClaim := { program := "ytkemlpcfijfaeaa", sum := "0c0bc8fa0d7cde3fd43e0332491dd250fa227613534fb8c5f9fc82a989f4c380", func := "icehouse/icehouselaw25.SpaceFits", spec := "spaceFits", unfollowed := true, recurses := true, apart := false, narrowed := true }
def SpaceFitsUptoSaid : Prop := spaceFitsUptoRow.holds Try.pinned (OpenSpec.upto spaceFitsSpec)

/-- 'icehouselaw05.StampJoins', WHERE WHAT IT READS IS OF BULK AT MOST 1048576: true; the input reads as it did. -/
def stampJoinsUptoRow : OpenClaim := { program := "ytkemlpcfijfaeaa", sum := "0c0bc8fa0d7cde3fd43e0332491dd250fa227613534fb8c5f9fc82a989f4c380", func := "icehouse/icehouselaw05.StampJoins", spec := "stampJoins", apart := false, narrowed := true }
def StampJoinsUptoSaid : Prop := stampJoinsUptoRow.holds Try.pinned (OpenSpec.upto stampJoinsSpec)

/-- 'icehouselaw05.StampSplits', WHERE WHAT IT READS IS OF BULK AT MOST 1048576: true; the input reads as it did. -/
def stampSplitsUptoRow : OpenClaim := { program := "ytkemlpcfijfaeaa", sum := "0c0bc8fa0d7cde3fd43e0332491dd250fa227613534fb8c5f9fc82a989f4c380", func := "icehouse/icehouselaw05.StampSplits", spec := "stampSplits", apart := false, narrowed := true }
def StampSplitsUptoSaid : Prop := stampSplitsUptoRow.holds Try.pinned (OpenSpec.upto stampSplitsSpec)

/-- 'icehouselaw05.StampBack', WHERE WHAT IT READS IS OF BULK AT MOST 1048576: true; the input reads as it did. -/
def stampBackUptoRow : OpenClaim := { program := "ytkemlpcfijfaeaa", sum := "0c0bc8fa0d7cde3fd43e0332491dd250fa227613534fb8c5f9fc82a989f4c380", func := "icehouse/icehouselaw05.StampBack", spec := "stampBack", apart := false, narrowed := true }
def StampBackUptoSaid : Prop := stampBackUptoRow.holds Try.pinned (OpenSpec.upto stampBackSpec)

/-- 'icehouselaw05.StampMissing', WHERE WHAT IT READS IS OF BULK AT MOST 1048576: true; the input reads as it did. -/
def stampMissingUptoRow : OpenClaim := { program := "ytkemlpcfijfaeaa", sum := "0c0bc8fa0d7cde3fd43e0332491dd250fa227613534fb8c5f9fc82a989f4c380", func := "icehouse/icehouselaw05.StampMissing", spec := "stampMissing", apart := false, narrowed := true }
def StampMissingUptoSaid : Prop := stampMissingUptoRow.holds Try.pinned (OpenSpec.upto stampMissingSpec)

end Rows
end Go.Proofs.Ytkemlpcfijfaeaa
