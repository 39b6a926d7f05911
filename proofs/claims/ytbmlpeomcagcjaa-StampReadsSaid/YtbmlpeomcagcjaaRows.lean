/-
  No cell of these rows narrows 'for every input' (looked for: loops, veiled, ifaces, maps, wideKeys, modest, calm, conditions, laid).
  DERIVED. THE GIVEN ROWS OF THIS SEAT. 12 by the template 'for every input the law returns true; each argument reads behind the call as it read before'; 0 by the template 'total and deterministic' (their statements: YtbmlpeomcagcjaaTotals.lean).
  GIVEN WITH THE SEED: the statements are not yours to turn. If you find one false, say at which input.
  Laid BY PROGRAM, IN A SANDBOX (cutbox-rows.mjs): the forced cells as the released guide's own fill.sh prints them over the translation e054b76e21dae7d5… (all of the seat's roots in one cut). By AI agents, Wed Nov 11 2026. No macro, syntax, notation, axiom, sorry.
-/
import Derived.Test.YtbmlpeomcagcjaaChecked
import GoSem.Claim
import GoSem.ClaimJoined
import GoSem.ClaimMapViews
import Derived.JoinedTies
import Derived.KernelRfl
namespace Go.Proofs.Ytbmlpeomcagcjaa
/- THE CELL 'sum', in the pinned program and in every row, IS THE sha256 OF THE DUMP (.gsa) THAT YtbmlpeomcagcjaaProg.lean LOADS. Nothing in Lean hashes anything: it is a label: what it is worth is what the hold of that sum in a sandbox is worth. -/
noncomputable def Try.pinned : Pinned := { name := "ytbmlpeomcagcjaa", sum := "e054b76e21dae7d522d480839e8a794a87a22988d0609161c9d983df73d3f3af", checked := Try.checked }
namespace Rows
def none {H : Type} : Left H := { results := [], args := [] }

/-- 'icehouselaw19.FramePuts': WHATEVER THE INPUT: true; the input reads as it did. -/
def framePutsSpec : ChangeSpec := { name := "framePuts", fn := fun _ => fun
  | [d] => { results := [.lit (.bool true)], args := [d] }
  | _ => none }
def framePutsRow : OpenClaim := { program := "ytbmlpeomcagcjaa", sum := "e054b76e21dae7d522d480839e8a794a87a22988d0609161c9d983df73d3f3af", func := "icehouse/icehouselaw19.FramePuts", spec := "framePuts", apart := false }
def FramePutsSaid : Prop := framePutsRow.holds Try.pinned (OpenSpec.ofChange framePutsSpec)

/-- ITS FALSE NEIGHBOUR: 'it returns false'. Refute it at one input. -/
def framePutsWrong : ChangeSpec := { name := "framePuts", fn := fun _ => fun
  | [d] => { results := [.lit (.bool false)], args := [d] }
  | _ => none }
def FramePutsWrongFalsely : Prop := framePutsRow.holds Try.pinned (OpenSpec.ofChange framePutsWrong)

/-- 'icehouselaw19.FrameMakes': WHATEVER THE INPUT: true; the input reads as it did. -/
def frameMakesSpec : ChangeSpec := { name := "frameMakes", fn := fun _ => fun
  | [d] => { results := [.lit (.bool true)], args := [d] }
  | _ => none }
def frameMakesRow : OpenClaim := { program := "ytbmlpeomcagcjaa", sum := "e054b76e21dae7d522d480839e8a794a87a22988d0609161c9d983df73d3f3af", func := "icehouse/icehouselaw19.FrameMakes", spec := "frameMakes", apart := false }
def FrameMakesSaid : Prop := frameMakesRow.holds Try.pinned (OpenSpec.ofChange frameMakesSpec)

/-- ITS FALSE NEIGHBOUR: 'it returns false'. Refute it at one input. -/
def frameMakesWrong : ChangeSpec := { name := "frameMakes", fn := fun _ => fun
  | [d] => { results := [.lit (.bool false)], args := [d] }
  | _ => none }
def FrameMakesWrongFalsely : Prop := frameMakesRow.holds Try.pinned (OpenSpec.ofChange frameMakesWrong)

/-- 'icehouselaw05.StampPacks': WHATEVER THE INPUT: true; the input reads as it did. -/
def stampPacksSpec : ChangeSpec := { name := "stampPacks", fn := fun _ => fun
  | [d1, d2, d3] => { results := [.lit (.bool true)], args := [d1, d2, d3] }
  | _ => none }
def stampPacksRow : OpenClaim := { program := "ytbmlpeomcagcjaa", sum := "e054b76e21dae7d522d480839e8a794a87a22988d0609161c9d983df73d3f3af", func := "icehouse/icehouselaw05.StampPacks", spec := "stampPacks", apart := false }
def StampPacksSaid : Prop := stampPacksRow.holds Try.pinned (OpenSpec.ofChange stampPacksSpec)

/-- ITS FALSE NEIGHBOUR: 'it returns false'. Refute it at one input. -/
def stampPacksWrong : ChangeSpec := { name := "stampPacks", fn := fun _ => fun
  | [d1, d2, d3] => { results := [.lit (.bool false)], args := [d1, d2, d3] }
  | _ => none }
def StampPacksWrongFalsely : Prop := stampPacksRow.holds Try.pinned (OpenSpec.ofChange stampPacksWrong)

/-- 'icehouselaw05.StampReads': WHATEVER THE INPUT: true; the input reads as it did. -/
def stampReadsSpec : ChangeSpec := { name := "stampReads", fn := fun _ => fun
  | [d] => { results := [.lit (.bool true)], args := [d] }
  | _ => none }
def stampReadsRow : OpenClaim := { program := "ytbmlpeomcagcjaa", sum := "e054b76e21dae7d522d480839e8a794a87a22988d0609161c9d983df73d3f3af", func := "icehouse/icehouselaw05.StampReads", spec := "stampReads", apart := false }
def StampReadsSaid : Prop := stampReadsRow.holds Try.pinned (OpenSpec.ofChange stampReadsSpec)

/-- ITS FALSE NEIGHBOUR: 'it returns false'. Refute it at one input. -/
def stampReadsWrong : ChangeSpec := { name := "stampReads", fn := fun _ => fun
  | [d] => { results := [.lit (.bool false)], args := [d] }
  | _ => none }
def StampReadsWrongFalsely : Prop := stampReadsRow.holds Try.pinned (OpenSpec.ofChange stampReadsWrong)

/-- 'icehouselaw05.StampJoins': WHATEVER THE INPUT: true; the input reads as it did. -/
def stampJoinsSpec : ChangeSpec := { name := "stampJoins", fn := fun _ => fun
  | [d] => { results := [.lit (.bool true)], args := [d] }
  | _ => none }
def stampJoinsRow : OpenClaim := { program := "ytbmlpeomcagcjaa", sum := "e054b76e21dae7d522d480839e8a794a87a22988d0609161c9d983df73d3f3af", func := "icehouse/icehouselaw05.StampJoins", spec := "stampJoins", apart := false }
def StampJoinsSaid : Prop := stampJoinsRow.holds Try.pinned (OpenSpec.ofChange stampJoinsSpec)

/-- ITS FALSE NEIGHBOUR: 'it returns false'. Refute it at one input. -/
def stampJoinsWrong : ChangeSpec := { name := "stampJoins", fn := fun _ => fun
  | [d] => { results := [.lit (.bool false)], args := [d] }
  | _ => none }
def StampJoinsWrongFalsely : Prop := stampJoinsRow.holds Try.pinned (OpenSpec.ofChange stampJoinsWrong)

/-- 'icehouselaw05.StampSplits': WHATEVER THE INPUT: true; the input reads as it did. -/
def stampSplitsSpec : ChangeSpec := { name := "stampSplits", fn := fun _ => fun
  | [d1, d2, d3] => { results := [.lit (.bool true)], args := [d1, d2, d3] }
  | _ => none }
def stampSplitsRow : OpenClaim := { program := "ytbmlpeomcagcjaa", sum := "e054b76e21dae7d522d480839e8a794a87a22988d0609161c9d983df73d3f3af", func := "icehouse/icehouselaw05.StampSplits", spec := "stampSplits", apart := false }
def StampSplitsSaid : Prop := stampSplitsRow.holds Try.pinned (OpenSpec.ofChange stampSplitsSpec)

/-- ITS FALSE NEIGHBOUR: 'it returns false'. Refute it at one input. -/
def stampSplitsWrong : ChangeSpec := { name := "stampSplits", fn := fun _ => fun
  | [d1, d2, d3] => { results := [.lit (.bool false)], args := [d1, d2, d3] }
  | _ => none }
def StampSplitsWrongFalsely : Prop := stampSplitsRow.holds Try.pinned (OpenSpec.ofChange stampSplitsWrong)

/-- 'icehouselaw19.FrameHeaders': WHATEVER THE INPUT: true; the input reads as it did. -/
def frameHeadersSpec : ChangeSpec := { name := "frameHeaders", fn := fun _ => fun
  | [d1, d2] => { results := [.lit (.bool true)], args := [d1, d2] }
  | _ => none }
def frameHeadersRow : OpenClaim := { program := "ytbmlpeomcagcjaa", sum := "e054b76e21dae7d522d480839e8a794a87a22988d0609161c9d983df73d3f3af", func := "icehouse/icehouselaw19.FrameHeaders", spec := "frameHeaders", apart := false }
def FrameHeadersSaid : Prop := frameHeadersRow.holds Try.pinned (OpenSpec.ofChange frameHeadersSpec)

/-- ITS FALSE NEIGHBOUR: 'it returns false'. Refute it at one input. -/
def frameHeadersWrong : ChangeSpec := { name := "frameHeaders", fn := fun _ => fun
  | [d1, d2] => { results := [.lit (.bool false)], args := [d1, d2] }
  | _ => none }
def FrameHeadersWrongFalsely : Prop := frameHeadersRow.holds Try.pinned (OpenSpec.ofChange frameHeadersWrong)

/-- 'icehouselaw05.StampBack': WHATEVER THE INPUT: true; the input reads as it did. -/
def stampBackSpec : ChangeSpec := { name := "stampBack", fn := fun _ => fun
  | [d1, d2, d3] => { results := [.lit (.bool true)], args := [d1, d2, d3] }
  | _ => none }
def stampBackRow : OpenClaim := { program := "ytbmlpeomcagcjaa", sum := "e054b76e21dae7d522d480839e8a794a87a22988d0609161c9d983df73d3f3af", func := "icehouse/icehouselaw05.StampBack", spec := "stampBack", apart := false }
def StampBackSaid : Prop := stampBackRow.holds Try.pinned (OpenSpec.ofChange stampBackSpec)

/-- ITS FALSE NEIGHBOUR: 'it returns false'. Refute it at one input. -/
def stampBackWrong : ChangeSpec := { name := "stampBack", fn := fun _ => fun
  | [d1, d2, d3] => { results := [.lit (.bool false)], args := [d1, d2, d3] }
  | _ => none }
def StampBackWrongFalsely : Prop := stampBackRow.holds Try.pinned (OpenSpec.ofChange stampBackWrong)

/-- 'icehouselaw05.StampMissing': WHATEVER THE INPUT: true; the input reads as it did. -/
def stampMissingSpec : ChangeSpec := { name := "stampMissing", fn := fun _ => fun
  | [d1, d2, d3] => { results := [.lit (.bool true)], args := [d1, d2, d3] }
  | _ => none }
def stampMissingRow : OpenClaim := { program := "ytbmlpeomcagcjaa", sum := "e054b76e21dae7d522d480839e8a794a87a22988d0609161c9d983df73d3f3af", func := "icehouse/icehouselaw05.StampMissing", spec := "stampMissing", apart := false }
def StampMissingSaid : Prop := stampMissingRow.holds Try.pinned (OpenSpec.ofChange stampMissingSpec)

/-- ITS FALSE NEIGHBOUR: 'it returns false'. Refute it at one input. -/
def stampMissingWrong : ChangeSpec := { name := "stampMissing", fn := fun _ => fun
  | [d1, d2, d3] => { results := [.lit (.bool false)], args := [d1, d2, d3] }
  | _ => none }
def StampMissingWrongFalsely : Prop := stampMissingRow.holds Try.pinned (OpenSpec.ofChange stampMissingWrong)

/-- 'icehouselaw19.FrameGets': WHATEVER THE INPUT: true; the input reads as it did. -/
def frameGetsSpec : ChangeSpec := { name := "frameGets", fn := fun _ => fun
  | [d] => { results := [.lit (.bool true)], args := [d] }
  | _ => none }
def frameGetsRow : OpenClaim := { program := "ytbmlpeomcagcjaa", sum := "e054b76e21dae7d522d480839e8a794a87a22988d0609161c9d983df73d3f3af", func := "icehouse/icehouselaw19.FrameGets", spec := "frameGets", apart := false }
def FrameGetsSaid : Prop := frameGetsRow.holds Try.pinned (OpenSpec.ofChange frameGetsSpec)

/-- ITS FALSE NEIGHBOUR: 'it returns false'. Refute it at one input. -/
def frameGetsWrong : ChangeSpec := { name := "frameGets", fn := fun _ => fun
  | [d] => { results := [.lit (.bool false)], args := [d] }
  | _ => none }
def FrameGetsWrongFalsely : Prop := frameGetsRow.holds Try.pinned (OpenSpec.ofChange frameGetsWrong)

/-- 'icehouselaw19.FrameBack': WHATEVER THE INPUT: true; the input reads as it did. -/
def frameBackSpec : ChangeSpec := { name := "frameBack", fn := fun _ => fun
  | [d1, d2] => { results := [.lit (.bool true)], args := [d1, d2] }
  | _ => none }
def frameBackRow : OpenClaim := { program := "ytbmlpeomcagcjaa", sum := "e054b76e21dae7d522d480839e8a794a87a22988d0609161c9d983df73d3f3af", func := "icehouse/icehouselaw19.FrameBack", spec := "frameBack", apart := false }
def FrameBackSaid : Prop := frameBackRow.holds Try.pinned (OpenSpec.ofChange frameBackSpec)

/-- ITS FALSE NEIGHBOUR: 'it returns false'. Refute it at one input. -/
def frameBackWrong : ChangeSpec := { name := "frameBack", fn := fun _ => fun
  | [d1, d2] => { results := [.lit (.bool false)], args := [d1, d2] }
  | _ => none }
def FrameBackWrongFalsely : Prop := frameBackRow.holds Try.pinned (OpenSpec.ofChange frameBackWrong)

/-- 'icehouselaw19.FrameAgain': WHATEVER THE INPUT: true; the input reads as it did. -/
def frameAgainSpec : ChangeSpec := { name := "frameAgain", fn := fun _ => fun
  | [d] => { results := [.lit (.bool true)], args := [d] }
  | _ => none }
def frameAgainRow : OpenClaim := { program := "ytbmlpeomcagcjaa", sum := "e054b76e21dae7d522d480839e8a794a87a22988d0609161c9d983df73d3f3af", func := "icehouse/icehouselaw19.FrameAgain", spec := "frameAgain", apart := false }
def FrameAgainSaid : Prop := frameAgainRow.holds Try.pinned (OpenSpec.ofChange frameAgainSpec)

/-- ITS FALSE NEIGHBOUR: 'it returns false'. Refute it at one input. -/
def frameAgainWrong : ChangeSpec := { name := "frameAgain", fn := fun _ => fun
  | [d] => { results := [.lit (.bool false)], args := [d] }
  | _ => none }
def FrameAgainWrongFalsely : Prop := frameAgainRow.holds Try.pinned (OpenSpec.ofChange frameAgainWrong)

/- THE SECOND FORM. 'bulk': how many values and letters a reading holds, each counted each time it is reached (what is shared counts as often as it is met; a slice's spare places count too). A statement '..UptoSaid' is the law's where the arguments, and the package variables that the reading takes, are together of bulk at most 1048576: NARROWER than '..Said'. Prove '..Said' where nothing that the law and all that it calls make is longer than what came in: it says more and counts as full. Else prove '..UptoSaid'. A law counts once. -/
mutual
def uptoBulk {H : Type} : DataW H → Nat
  | .lit (.string bytes) => bytes.length + 1
  | .lit _ => 1
  | .nil => 1
  | .ptr d => uptoBulk d + 1
  | .slice elems spare => uptoBulkAll elems + uptoBulkAll spare + 1
  | .agg parts => uptoBulkAll parts + 1
  | .iface _ d => uptoBulk d + 1
  | .map entries => uptoBulkEntries entries + 1
  | .held _ => 1
def uptoBulkAll {H : Type} : List (DataW H) → Nat
  | [] => 0
  | d :: r => uptoBulk d + uptoBulkAll r
def uptoBulkEntries {H : Type} : List (Lit × DataW H) → Nat
  | [] => 0
  | x :: r => uptoBulkEntry x + uptoBulkEntries r
def uptoBulkEntry {H : Type} : Lit × DataW H → Nat
  | (.string bytes, d) => bytes.length + uptoBulk d + 1
  | (_, d) => uptoBulk d + 1
 end
def uptoSmall : (H : Type) → List (DataW H) → Bool := fun _ ds => decide (uptoBulkAll ds ≤ 1048576)
def OpenSpec.upto (s : _root_.Go.ChangeSpec) : _root_.Go.OpenSpec := { _root_.Go.OpenSpec.ofChange s with cond := some uptoSmall }

/-- 'icehouselaw19.FramePuts', WHERE WHAT IT READS IS OF BULK AT MOST 1048576: true; the input reads as it did. -/
def framePutsUptoRow : OpenClaim := { program := "ytbmlpeomcagcjaa", sum := "e054b76e21dae7d522d480839e8a794a87a22988d0609161c9d983df73d3f3af", func := "icehouse/icehouselaw19.FramePuts", spec := "framePuts", apart := false, narrowed := true }
def FramePutsUptoSaid : Prop := framePutsUptoRow.holds Try.pinned (OpenSpec.upto framePutsSpec)

/-- 'icehouselaw19.FrameMakes', WHERE WHAT IT READS IS OF BULK AT MOST 1048576: true; the input reads as it did. -/
def frameMakesUptoRow : OpenClaim := { program := "ytbmlpeomcagcjaa", sum := "e054b76e21dae7d522d480839e8a794a87a22988d0609161c9d983df73d3f3af", func := "icehouse/icehouselaw19.FrameMakes", spec := "frameMakes", apart := false, narrowed := true }
def FrameMakesUptoSaid : Prop := frameMakesUptoRow.holds Try.pinned (OpenSpec.upto frameMakesSpec)

/-- 'icehouselaw05.StampPacks', WHERE WHAT IT READS IS OF BULK AT MOST 1048576: true; the input reads as it did. -/
def stampPacksUptoRow : OpenClaim := { program := "ytbmlpeomcagcjaa", sum := "e054b76e21dae7d522d480839e8a794a87a22988d0609161c9d983df73d3f3af", func := "icehouse/icehouselaw05.StampPacks", spec := "stampPacks", apart := false, narrowed := true }
def StampPacksUptoSaid : Prop := stampPacksUptoRow.holds Try.pinned (OpenSpec.upto stampPacksSpec)

/-- 'icehouselaw05.StampReads', WHERE WHAT IT READS IS OF BULK AT MOST 1048576: true; the input reads as it did. -/
def stampReadsUptoRow : OpenClaim := { program := "ytbmlpeomcagcjaa", sum := "e054b76e21dae7d522d480839e8a794a87a22988d0609161c9d983df73d3f3af", func := "icehouse/icehouselaw05.StampReads", spec := "stampReads", apart := false, narrowed := true }
def StampReadsUptoSaid : Prop := stampReadsUptoRow.holds Try.pinned (OpenSpec.upto stampReadsSpec)

/-- 'icehouselaw05.StampJoins', WHERE WHAT IT READS IS OF BULK AT MOST 1048576: true; the input reads as it did. -/
def stampJoinsUptoRow : OpenClaim := { program := "ytbmlpeomcagcjaa", sum := "e054b76e21dae7d522d480839e8a794a87a22988d0609161c9d983df73d3f3af", func := "icehouse/icehouselaw05.StampJoins", spec := "stampJoins", apart := false, narrowed := true }
def StampJoinsUptoSaid : Prop := stampJoinsUptoRow.holds Try.pinned (OpenSpec.upto stampJoinsSpec)

/-- 'icehouselaw05.StampSplits', WHERE WHAT IT READS IS OF BULK AT MOST 1048576: true; the input reads as it did. -/
def stampSplitsUptoRow : OpenClaim := { program := "ytbmlpeomcagcjaa", sum := "e054b76e21dae7d522d480839e8a794a87a22988d0609161c9d983df73d3f3af", func := "icehouse/icehouselaw05.StampSplits", spec := "stampSplits", apart := false, narrowed := true }
def StampSplitsUptoSaid : Prop := stampSplitsUptoRow.holds Try.pinned (OpenSpec.upto stampSplitsSpec)

/-- 'icehouselaw19.FrameHeaders', WHERE WHAT IT READS IS OF BULK AT MOST 1048576: true; the input reads as it did. -/
def frameHeadersUptoRow : OpenClaim := { program := "ytbmlpeomcagcjaa", sum := "e054b76e21dae7d522d480839e8a794a87a22988d0609161c9d983df73d3f3af", func := "icehouse/icehouselaw19.FrameHeaders", spec := "frameHeaders", apart := false, narrowed := true }
def FrameHeadersUptoSaid : Prop := frameHeadersUptoRow.holds Try.pinned (OpenSpec.upto frameHeadersSpec)

/-- 'icehouselaw05.StampBack', WHERE WHAT IT READS IS OF BULK AT MOST 1048576: true; the input reads as it did. -/
def stampBackUptoRow : OpenClaim := { program := "ytbmlpeomcagcjaa", sum := "e054b76e21dae7d522d480839e8a794a87a22988d0609161c9d983df73d3f3af", func := "icehouse/icehouselaw05.StampBack", spec := "stampBack", apart := false, narrowed := true }
def StampBackUptoSaid : Prop := stampBackUptoRow.holds Try.pinned (OpenSpec.upto stampBackSpec)

/-- 'icehouselaw05.StampMissing', WHERE WHAT IT READS IS OF BULK AT MOST 1048576: true; the input reads as it did. -/
def stampMissingUptoRow : OpenClaim := { program := "ytbmlpeomcagcjaa", sum := "e054b76e21dae7d522d480839e8a794a87a22988d0609161c9d983df73d3f3af", func := "icehouse/icehouselaw05.StampMissing", spec := "stampMissing", apart := false, narrowed := true }
def StampMissingUptoSaid : Prop := stampMissingUptoRow.holds Try.pinned (OpenSpec.upto stampMissingSpec)

/-- 'icehouselaw19.FrameGets', WHERE WHAT IT READS IS OF BULK AT MOST 1048576: true; the input reads as it did. -/
def frameGetsUptoRow : OpenClaim := { program := "ytbmlpeomcagcjaa", sum := "e054b76e21dae7d522d480839e8a794a87a22988d0609161c9d983df73d3f3af", func := "icehouse/icehouselaw19.FrameGets", spec := "frameGets", apart := false, narrowed := true }
def FrameGetsUptoSaid : Prop := frameGetsUptoRow.holds Try.pinned (OpenSpec.upto frameGetsSpec)

/-- 'icehouselaw19.FrameBack', WHERE WHAT IT READS IS OF BULK AT MOST 1048576: true; the input reads as it did. -/
def frameBackUptoRow : OpenClaim := { program := "ytbmlpeomcagcjaa", sum := "e054b76e21dae7d522d480839e8a794a87a22988d0609161c9d983df73d3f3af", func := "icehouse/icehouselaw19.FrameBack", spec := "frameBack", apart := false, narrowed := true }
def FrameBackUptoSaid : Prop := frameBackUptoRow.holds Try.pinned (OpenSpec.upto frameBackSpec)

/-- 'icehouselaw19.FrameAgain', WHERE WHAT IT READS IS OF BULK AT MOST 1048576: true; the input reads as it did. -/
def frameAgainUptoRow : OpenClaim := { program := "ytbmlpeomcagcjaa", sum := "e054b76e21dae7d522d480839e8a794a87a22988d0609161c9d983df73d3f3af", func := "icehouse/icehouselaw19.FrameAgain", spec := "frameAgain", apart := false, narrowed := true }
def FrameAgainUptoSaid : Prop := frameAgainUptoRow.holds Try.pinned (OpenSpec.upto frameAgainSpec)

end Rows
end Go.Proofs.Ytbmlpeomcagcjaa
