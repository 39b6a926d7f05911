/-
  No cell of these rows narrows 'for every input' (looked for: loops, veiled, ifaces, maps, wideKeys, modest, calm, conditions, laid).
  DERIVED. THE GIVEN ROWS OF THIS SEAT. 7 by the template 'for every input the law returns true; each argument reads behind the call as it read before'; 0 by the template 'total and deterministic' (their statements: YtkdkmdjfimnkaaaTotals.lean).
  GIVEN WITH THE SEED: the statements are not yours to turn. If you find one false, say at which input.
  Laid BY PROGRAM, IN A SANDBOX (cutbox-rows.mjs): the forced cells as the released guide's own fill.sh prints them over the translation 89fe7308b4fbba3c… (all of the seat's roots in one cut). By AI agents, Wed Nov 11 2026. No macro, syntax, notation, axiom, sorry.
-/
import Derived.Test.YtkdkmdjfimnkaaaChecked
import GoSem.Claim
import GoSem.ClaimJoined
import GoSem.ClaimMapViews
import Derived.JoinedTies
import Derived.KernelRfl
namespace Go.Proofs.Ytkdkmdjfimnkaaa
/- THE CELL 'sum', in the pinned program and in every row, IS THE sha256 OF THE DUMP (.gsa) THAT YtkdkmdjfimnkaaaProg.lean LOADS. Nothing in Lean hashes anything: it is a label: what it is worth is what the hold of that sum in a sandbox is worth. -/
noncomputable def Try.pinned : Pinned := { name := "ytkdkmdjfimnkaaa", sum := "89fe7308b4fbba3c788f5f972c618c1b08a843fd9b31d75d959ee544c022d656", checked := Try.checked }
namespace Rows
def none {H : Type} : Left H := { results := [], args := [] }

/-- 'icehouselaw06.RecordSame': WHATEVER THE INPUT: true; the input reads as it did. -/
def recordSameSpec : ChangeSpec := { name := "recordSame", fn := fun _ => fun
  | [d1, d2] => { results := [.lit (.bool true)], args := [d1, d2] }
  | _ => none }
def recordSameRow : OpenClaim := { program := "ytkdkmdjfimnkaaa", sum := "89fe7308b4fbba3c788f5f972c618c1b08a843fd9b31d75d959ee544c022d656", func := "icehouse/icehouselaw06.RecordSame", spec := "recordSame", apart := false }
def RecordSameSaid : Prop := recordSameRow.holds Try.pinned (OpenSpec.ofChange recordSameSpec)

/-- ITS FALSE NEIGHBOUR: 'it returns false'. Refute it at one input. -/
def recordSameWrong : ChangeSpec := { name := "recordSame", fn := fun _ => fun
  | [d1, d2] => { results := [.lit (.bool false)], args := [d1, d2] }
  | _ => none }
def RecordSameWrongFalsely : Prop := recordSameRow.holds Try.pinned (OpenSpec.ofChange recordSameWrong)

/-- 'icehouselaw06.RecordThere': WHATEVER THE INPUT: true; the input reads as it did. -/
def recordThereSpec : ChangeSpec := { name := "recordThere", fn := fun _ => fun
  | [d] => { results := [.lit (.bool true)], args := [d] }
  | _ => none }
def recordThereRow : OpenClaim := { program := "ytkdkmdjfimnkaaa", sum := "89fe7308b4fbba3c788f5f972c618c1b08a843fd9b31d75d959ee544c022d656", func := "icehouse/icehouselaw06.RecordThere", spec := "recordThere", apart := false }
def RecordThereSaid : Prop := recordThereRow.holds Try.pinned (OpenSpec.ofChange recordThereSpec)

/-- ITS FALSE NEIGHBOUR: 'it returns false'. Refute it at one input. -/
def recordThereWrong : ChangeSpec := { name := "recordThere", fn := fun _ => fun
  | [d] => { results := [.lit (.bool false)], args := [d] }
  | _ => none }
def RecordThereWrongFalsely : Prop := recordThereRow.holds Try.pinned (OpenSpec.ofChange recordThereWrong)

/-- 'icehouselaw06.RecordTombs': WHATEVER THE INPUT: true; the input reads as it did. -/
def recordTombsSpec : ChangeSpec := { name := "recordTombs", fn := fun _ => fun
  | [d1, d2] => { results := [.lit (.bool true)], args := [d1, d2] }
  | _ => none }
def recordTombsRow : OpenClaim := { program := "ytkdkmdjfimnkaaa", sum := "89fe7308b4fbba3c788f5f972c618c1b08a843fd9b31d75d959ee544c022d656", func := "icehouse/icehouselaw06.RecordTombs", spec := "recordTombs", apart := false }
def RecordTombsSaid : Prop := recordTombsRow.holds Try.pinned (OpenSpec.ofChange recordTombsSpec)

/-- ITS FALSE NEIGHBOUR: 'it returns false'. Refute it at one input. -/
def recordTombsWrong : ChangeSpec := { name := "recordTombs", fn := fun _ => fun
  | [d1, d2] => { results := [.lit (.bool false)], args := [d1, d2] }
  | _ => none }
def RecordTombsWrongFalsely : Prop := recordTombsRow.holds Try.pinned (OpenSpec.ofChange recordTombsWrong)

/-- 'icehouselaw06.RecordBack': WHATEVER THE INPUT: true; the input reads as it did. -/
def recordBackSpec : ChangeSpec := { name := "recordBack", fn := fun _ => fun
  | [d1, d2] => { results := [.lit (.bool true)], args := [d1, d2] }
  | _ => none }
def recordBackRow : OpenClaim := { program := "ytkdkmdjfimnkaaa", sum := "89fe7308b4fbba3c788f5f972c618c1b08a843fd9b31d75d959ee544c022d656", func := "icehouse/icehouselaw06.RecordBack", spec := "recordBack", apart := false }
def RecordBackSaid : Prop := recordBackRow.holds Try.pinned (OpenSpec.ofChange recordBackSpec)

/-- ITS FALSE NEIGHBOUR: 'it returns false'. Refute it at one input. -/
def recordBackWrong : ChangeSpec := { name := "recordBack", fn := fun _ => fun
  | [d1, d2] => { results := [.lit (.bool false)], args := [d1, d2] }
  | _ => none }
def RecordBackWrongFalsely : Prop := recordBackRow.holds Try.pinned (OpenSpec.ofChange recordBackWrong)

/-- 'icehouselaw06.RecordCut': WHATEVER THE INPUT: true; the input reads as it did. -/
def recordCutSpec : ChangeSpec := { name := "recordCut", fn := fun _ => fun
  | [d1, d2] => { results := [.lit (.bool true)], args := [d1, d2] }
  | _ => none }
def recordCutRow : OpenClaim := { program := "ytkdkmdjfimnkaaa", sum := "89fe7308b4fbba3c788f5f972c618c1b08a843fd9b31d75d959ee544c022d656", func := "icehouse/icehouselaw06.RecordCut", spec := "recordCut", apart := false }
def RecordCutSaid : Prop := recordCutRow.holds Try.pinned (OpenSpec.ofChange recordCutSpec)

/-- ITS FALSE NEIGHBOUR: 'it returns false'. Refute it at one input. -/
def recordCutWrong : ChangeSpec := { name := "recordCut", fn := fun _ => fun
  | [d1, d2] => { results := [.lit (.bool false)], args := [d1, d2] }
  | _ => none }
def RecordCutWrongFalsely : Prop := recordCutRow.holds Try.pinned (OpenSpec.ofChange recordCutWrong)

/-- 'icehouselaw06.RecordEncodes': WHATEVER THE INPUT: true; the input reads as it did. -/
def recordEncodesSpec : ChangeSpec := { name := "recordEncodes", fn := fun _ => fun
  | [d] => { results := [.lit (.bool true)], args := [d] }
  | _ => none }
def recordEncodesRow : OpenClaim := { program := "ytkdkmdjfimnkaaa", sum := "89fe7308b4fbba3c788f5f972c618c1b08a843fd9b31d75d959ee544c022d656", func := "icehouse/icehouselaw06.RecordEncodes", spec := "recordEncodes", apart := false }
def RecordEncodesSaid : Prop := recordEncodesRow.holds Try.pinned (OpenSpec.ofChange recordEncodesSpec)

/-- ITS FALSE NEIGHBOUR: 'it returns false'. Refute it at one input. -/
def recordEncodesWrong : ChangeSpec := { name := "recordEncodes", fn := fun _ => fun
  | [d] => { results := [.lit (.bool false)], args := [d] }
  | _ => none }
def RecordEncodesWrongFalsely : Prop := recordEncodesRow.holds Try.pinned (OpenSpec.ofChange recordEncodesWrong)

/-- 'icehouselaw06.RecordDecodes': WHATEVER THE INPUT: true; the input reads as it did. -/
def recordDecodesSpec : ChangeSpec := { name := "recordDecodes", fn := fun _ => fun
  | [d] => { results := [.lit (.bool true)], args := [d] }
  | _ => none }
def recordDecodesRow : OpenClaim := { program := "ytkdkmdjfimnkaaa", sum := "89fe7308b4fbba3c788f5f972c618c1b08a843fd9b31d75d959ee544c022d656", func := "icehouse/icehouselaw06.RecordDecodes", spec := "recordDecodes", apart := false }
def RecordDecodesSaid : Prop := recordDecodesRow.holds Try.pinned (OpenSpec.ofChange recordDecodesSpec)

/-- ITS FALSE NEIGHBOUR: 'it returns false'. Refute it at one input. -/
def recordDecodesWrong : ChangeSpec := { name := "recordDecodes", fn := fun _ => fun
  | [d] => { results := [.lit (.bool false)], args := [d] }
  | _ => none }
def RecordDecodesWrongFalsely : Prop := recordDecodesRow.holds Try.pinned (OpenSpec.ofChange recordDecodesWrong)

/- THE SECOND FORM. 'bulk': how many values and letters a reading holds, each counted each time it is reached (what is shared counts as often as it is met; a slice's spare places count too). A statement '..UptoSaid' is the law's where the arguments, and the package variables that the reading takes, are together of bulk at most 1048576: NARROWER than '..Said'. Prove '..Said' where nothing that the law and all that it calls make is longer than what came in: it says more and counts as full. Else prove '..UptoSaid'. A law counts once. -/
mutual
def uptoBulk {H : Type} : DataW H → Nat
  | .lit (.string bytes) => bytes.length + 1
  | .lit _ => 1
  | .nil => 1
  | .ptr d => uptoBulk d + 1
  | .slice elems spare => uptoBulkAll elems + uptoBulkAll spare + 1
  | .agg parts => uptoBulkAll parts + 1
  | .iface _ d => uptoBulk d + 1
  | .map entries => uptoBulkEntries entries + 1
  | .held _ => 1
def uptoBulkAll {H : Type} : List (DataW H) → Nat
  | [] => 0
  | d :: r => uptoBulk d + uptoBulkAll r
def uptoBulkEntries {H : Type} : List (Lit × DataW H) → Nat
  | [] => 0
  | x :: r => uptoBulkEntry x + uptoBulkEntries r
def uptoBulkEntry {H : Type} : Lit × DataW H → Nat
  | (.string bytes, d) => bytes.length + uptoBulk d + 1
  | (_, d) => uptoBulk d + 1
 end
def uptoSmall : (H : Type) → List (DataW H) → Bool := fun _ ds => decide (uptoBulkAll ds ≤ 1048576)
def OpenSpec.upto (s : _root_.Go.ChangeSpec) : _root_.Go.OpenSpec := { _root_.Go.OpenSpec.ofChange s with cond := some uptoSmall }

/-- 'icehouselaw06.RecordSame', WHERE WHAT IT READS IS OF BULK AT MOST 1048576: true; the input reads as it did. -/
def recordSameUptoRow : OpenClaim := { program := "ytkdkmdjfimnkaaa", sum := "89fe7308b4fbba3c788f5f972c618c1b08a843fd9b31d75d959ee544c022d656", func := "icehouse/icehouselaw06.RecordSame", spec := "recordSame", apart := false, narrowed := true }
def RecordSameUptoSaid : Prop := recordSameUptoRow.holds Try.pinned (OpenSpec.upto recordSameSpec)

/-- 'icehouselaw06.RecordThere', WHERE WHAT IT READS IS OF BULK AT MOST 1048576: true; the input reads as it did. -/
def recordThereUptoRow : OpenClaim := { program := "ytkdkmdjfimnkaaa", sum := "89fe7308b4fbba3c788f5f972c618c1b08a843fd9b31d75d959ee544c022d656", func := "icehouse/icehouselaw06.RecordThere", spec := "recordThere", apart := false, narrowed := true }
def RecordThereUptoSaid : Prop := recordThereUptoRow.holds Try.pinned (OpenSpec.upto recordThereSpec)

/-- 'icehouselaw06.RecordTombs', WHERE WHAT IT READS IS OF BULK AT MOST 1048576: true; the input reads as it did. -/
def recordTombsUptoRow : OpenClaim := { program := "ytkdkmdjfimnkaaa", sum := "89fe7308b4fbba3c788f5f972c618c1b08a843fd9b31d75d959ee544c022d656", func := "icehouse/icehouselaw06.RecordTombs", spec := "recordTombs", apart := false, narrowed := true }
def RecordTombsUptoSaid : Prop := recordTombsUptoRow.holds Try.pinned (OpenSpec.upto recordTombsSpec)

/-- 'icehouselaw06.RecordBack', WHERE WHAT IT READS IS OF BULK AT MOST 1048576: true; the input reads as it did. -/
def recordBackUptoRow : OpenClaim := { program := "ytkdkmdjfimnkaaa", sum := "89fe7308b4fbba3c788f5f972c618c1b08a843fd9b31d75d959ee544c022d656", func := "icehouse/icehouselaw06.RecordBack", spec := "recordBack", apart := false, narrowed := true }
def RecordBackUptoSaid : Prop := recordBackUptoRow.holds Try.pinned (OpenSpec.upto recordBackSpec)

/-- 'icehouselaw06.RecordCut', WHERE WHAT IT READS IS OF BULK AT MOST 1048576: true; the input reads as it did. -/
def recordCutUptoRow : OpenClaim := { program := "ytkdkmdjfimnkaaa", sum := "89fe7308b4fbba3c788f5f972c618c1b08a843fd9b31d75d959ee544c022d656", func := "icehouse/icehouselaw06.RecordCut", spec := "recordCut", apart := false, narrowed := true }
def RecordCutUptoSaid : Prop := recordCutUptoRow.holds Try.pinned (OpenSpec.upto recordCutSpec)

/-- 'icehouselaw06.RecordEncodes', WHERE WHAT IT READS IS OF BULK AT MOST 1048576: true; the input reads as it did. -/
def recordEncodesUptoRow : OpenClaim := { program := "ytkdkmdjfimnkaaa", sum := "89fe7308b4fbba3c788f5f972c618c1b08a843fd9b31d75d959ee544c022d656", func := "icehouse/icehouselaw06.RecordEncodes", spec := "recordEncodes", apart := false, narrowed := true }
def RecordEncodesUptoSaid : Prop := recordEncodesUptoRow.holds Try.pinned (OpenSpec.upto recordEncodesSpec)

/-- 'icehouselaw06.RecordDecodes', WHERE WHAT IT READS IS OF BULK AT MOST 1048576: true; the input reads as it did. -/
def recordDecodesUptoRow : OpenClaim := { program := "ytkdkmdjfimnkaaa", sum := "89fe7308b4fbba3c788f5f972c618c1b08a843fd9b31d75d959ee544c022d656", func := "icehouse/icehouselaw06.RecordDecodes", spec := "recordDecodes", apart := false, narrowed := true }
def RecordDecodesUptoSaid : Prop := recordDecodesUptoRow.holds Try.pinned (OpenSpec.upto recordDecodesSpec)

end Rows
end Go.Proofs.Ytkdkmdjfimnkaaa
