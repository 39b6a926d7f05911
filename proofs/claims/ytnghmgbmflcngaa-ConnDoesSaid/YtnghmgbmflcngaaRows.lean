/-
  No cell of these rows narrows 'for every input' (looked for: loops, veiled, ifaces, maps, wideKeys, modest, calm, conditions, laid).
  DERIVED. THE GIVEN ROWS OF THIS SEAT. 18 by the template 'for every input the law returns true; each argument reads behind the call as it read before'; 0 by the template 'total and deterministic' (their statements: YtnghmgbmflcngaaTotals.lean).
  GIVEN WITH THE SEED: the statements are not yours to turn. If you find one false, say at which input.
  Laid BY PROGRAM, IN A SANDBOX (cutbox-rows.mjs): the forced cells as the released guide's own fill.sh prints them over the translation 016a368eee9993c3… (all of the seat's roots in one cut). By AI agents, Wed Nov 11 2026. No macro, syntax, notation, axiom, sorry.
-/
import Derived.Test.YtnghmgbmflcngaaChecked
import GoSem.Claim
import GoSem.ClaimJoined
import GoSem.ClaimMapViews
import Derived.JoinedTies
import Derived.KernelRfl
namespace Go.Proofs.Ytnghmgbmflcngaa
/- THE CELL 'sum', in the pinned program and in every row, IS THE sha256 OF THE DUMP (.gsa) THAT YtnghmgbmflcngaaProg.lean LOADS. Nothing in Lean hashes anything: it is a label: what it is worth is what the hold of that sum in a sandbox is worth. -/
noncomputable def Try.pinned : Pinned := { name := "ytnghmgbmflcngaa", sum := "016a368eee9993c388312f01b22b5bd2afb4ca73a3d63cba7e3211250ad5ff92", checked := Try.checked }
namespace Rows
def none {H : Type} : Left H := { results := [], args := [] }

/-- 'icehouselaw21.ReplySays': WHATEVER THE INPUT: true; the input reads as it did. -/
def replySaysSpec : ChangeSpec := { name := "replySays", fn := fun _ => fun
  | [d1, d2] => { results := [.lit (.bool true)], args := [d1, d2] }
  | _ => none }
def replySaysRow : OpenClaim := { program := "ytnghmgbmflcngaa", sum := "016a368eee9993c388312f01b22b5bd2afb4ca73a3d63cba7e3211250ad5ff92", func := "icehouse/icehouselaw21.ReplySays", spec := "replySays", unfollowed := true, recurses := true, apart := false }
def ReplySaysSaid : Prop := replySaysRow.holds Try.pinned (OpenSpec.ofChange replySaysSpec)

/-- ITS FALSE NEIGHBOUR: 'it returns false'. Refute it at one input. -/
def replySaysWrong : ChangeSpec := { name := "replySays", fn := fun _ => fun
  | [d1, d2] => { results := [.lit (.bool false)], args := [d1, d2] }
  | _ => none }
def ReplySaysWrongFalsely : Prop := replySaysRow.holds Try.pinned (OpenSpec.ofChange replySaysWrong)

/-- 'icehouselaw21.ReplyTexts': WHATEVER THE INPUT: true; the input reads as it did. -/
def replyTextsSpec : ChangeSpec := { name := "replyTexts", fn := fun _ => fun
  | [d] => { results := [.lit (.bool true)], args := [d] }
  | _ => none }
def replyTextsRow : OpenClaim := { program := "ytnghmgbmflcngaa", sum := "016a368eee9993c388312f01b22b5bd2afb4ca73a3d63cba7e3211250ad5ff92", func := "icehouse/icehouselaw21.ReplyTexts", spec := "replyTexts", unfollowed := true, recurses := true, apart := false }
def ReplyTextsSaid : Prop := replyTextsRow.holds Try.pinned (OpenSpec.ofChange replyTextsSpec)

/-- ITS FALSE NEIGHBOUR: 'it returns false'. Refute it at one input. -/
def replyTextsWrong : ChangeSpec := { name := "replyTexts", fn := fun _ => fun
  | [d] => { results := [.lit (.bool false)], args := [d] }
  | _ => none }
def ReplyTextsWrongFalsely : Prop := replyTextsRow.holds Try.pinned (OpenSpec.ofChange replyTextsWrong)

/-- 'icehouselaw20.ParseFeeds': WHATEVER THE INPUT: true; the input reads as it did. -/
def parseFeedsSpec : ChangeSpec := { name := "parseFeeds", fn := fun _ => fun
  | [d] => { results := [.lit (.bool true)], args := [d] }
  | _ => none }
def parseFeedsRow : OpenClaim := { program := "ytnghmgbmflcngaa", sum := "016a368eee9993c388312f01b22b5bd2afb4ca73a3d63cba7e3211250ad5ff92", func := "icehouse/icehouselaw20.ParseFeeds", spec := "parseFeeds", unfollowed := true, recurses := true, apart := false }
def ParseFeedsSaid : Prop := parseFeedsRow.holds Try.pinned (OpenSpec.ofChange parseFeedsSpec)

/-- ITS FALSE NEIGHBOUR: 'it returns false'. Refute it at one input. -/
def parseFeedsWrong : ChangeSpec := { name := "parseFeeds", fn := fun _ => fun
  | [d] => { results := [.lit (.bool false)], args := [d] }
  | _ => none }
def ParseFeedsWrongFalsely : Prop := parseFeedsRow.holds Try.pinned (OpenSpec.ofChange parseFeedsWrong)

/-- 'icehouselaw20.ParseFrames': WHATEVER THE INPUT: true; the input reads as it did. -/
def parseFramesSpec : ChangeSpec := { name := "parseFrames", fn := fun _ => fun
  | [d] => { results := [.lit (.bool true)], args := [d] }
  | _ => none }
def parseFramesRow : OpenClaim := { program := "ytnghmgbmflcngaa", sum := "016a368eee9993c388312f01b22b5bd2afb4ca73a3d63cba7e3211250ad5ff92", func := "icehouse/icehouselaw20.ParseFrames", spec := "parseFrames", unfollowed := true, recurses := true, apart := false }
def ParseFramesSaid : Prop := parseFramesRow.holds Try.pinned (OpenSpec.ofChange parseFramesSpec)

/-- ITS FALSE NEIGHBOUR: 'it returns false'. Refute it at one input. -/
def parseFramesWrong : ChangeSpec := { name := "parseFrames", fn := fun _ => fun
  | [d] => { results := [.lit (.bool false)], args := [d] }
  | _ => none }
def ParseFramesWrongFalsely : Prop := parseFramesRow.holds Try.pinned (OpenSpec.ofChange parseFramesWrong)

/-- 'icehouselaw20.ParseSame': WHATEVER THE INPUT: true; the input reads as it did. -/
def parseSameSpec : ChangeSpec := { name := "parseSame", fn := fun _ => fun
  | [d1, d2] => { results := [.lit (.bool true)], args := [d1, d2] }
  | _ => none }
def parseSameRow : OpenClaim := { program := "ytnghmgbmflcngaa", sum := "016a368eee9993c388312f01b22b5bd2afb4ca73a3d63cba7e3211250ad5ff92", func := "icehouse/icehouselaw20.ParseSame", spec := "parseSame", unfollowed := true, recurses := true, apart := false }
def ParseSameSaid : Prop := parseSameRow.holds Try.pinned (OpenSpec.ofChange parseSameSpec)

/-- ITS FALSE NEIGHBOUR: 'it returns false'. Refute it at one input. -/
def parseSameWrong : ChangeSpec := { name := "parseSame", fn := fun _ => fun
  | [d1, d2] => { results := [.lit (.bool false)], args := [d1, d2] }
  | _ => none }
def ParseSameWrongFalsely : Prop := parseSameRow.holds Try.pinned (OpenSpec.ofChange parseSameWrong)

/-- 'icehouselaw20.ParseLimits': WHATEVER THE INPUT: true; the input reads as it did. -/
def parseLimitsSpec : ChangeSpec := { name := "parseLimits", fn := fun _ => fun
  | [d1, d2] => { results := [.lit (.bool true)], args := [d1, d2] }
  | _ => none }
def parseLimitsRow : OpenClaim := { program := "ytnghmgbmflcngaa", sum := "016a368eee9993c388312f01b22b5bd2afb4ca73a3d63cba7e3211250ad5ff92", func := "icehouse/icehouselaw20.ParseLimits", spec := "parseLimits", unfollowed := true, recurses := true, apart := false }
def ParseLimitsSaid : Prop := parseLimitsRow.holds Try.pinned (OpenSpec.ofChange parseLimitsSpec)

/-- ITS FALSE NEIGHBOUR: 'it returns false'. Refute it at one input. -/
def parseLimitsWrong : ChangeSpec := { name := "parseLimits", fn := fun _ => fun
  | [d1, d2] => { results := [.lit (.bool false)], args := [d1, d2] }
  | _ => none }
def ParseLimitsWrongFalsely : Prop := parseLimitsRow.holds Try.pinned (OpenSpec.ofChange parseLimitsWrong)

/-- 'icehouselaw20.ParseNone': WHATEVER THE INPUT: true; the input reads as it did. -/
def parseNoneSpec : ChangeSpec := { name := "parseNone", fn := fun _ => fun
  | [d] => { results := [.lit (.bool true)], args := [d] }
  | _ => none }
def parseNoneRow : OpenClaim := { program := "ytnghmgbmflcngaa", sum := "016a368eee9993c388312f01b22b5bd2afb4ca73a3d63cba7e3211250ad5ff92", func := "icehouse/icehouselaw20.ParseNone", spec := "parseNone", unfollowed := true, recurses := true, apart := false }
def ParseNoneSaid : Prop := parseNoneRow.holds Try.pinned (OpenSpec.ofChange parseNoneSpec)

/-- ITS FALSE NEIGHBOUR: 'it returns false'. Refute it at one input. -/
def parseNoneWrong : ChangeSpec := { name := "parseNone", fn := fun _ => fun
  | [d] => { results := [.lit (.bool false)], args := [d] }
  | _ => none }
def ParseNoneWrongFalsely : Prop := parseNoneRow.holds Try.pinned (OpenSpec.ofChange parseNoneWrong)

/-- 'icehouselaw20.ParsePieces': WHATEVER THE INPUT: true; the input reads as it did. -/
def parsePiecesSpec : ChangeSpec := { name := "parsePieces", fn := fun _ => fun
  | [d1, d2, d3] => { results := [.lit (.bool true)], args := [d1, d2, d3] }
  | _ => none }
def parsePiecesRow : OpenClaim := { program := "ytnghmgbmflcngaa", sum := "016a368eee9993c388312f01b22b5bd2afb4ca73a3d63cba7e3211250ad5ff92", func := "icehouse/icehouselaw20.ParsePieces", spec := "parsePieces", unfollowed := true, recurses := true, apart := false }
def ParsePiecesSaid : Prop := parsePiecesRow.holds Try.pinned (OpenSpec.ofChange parsePiecesSpec)

/-- ITS FALSE NEIGHBOUR: 'it returns false'. Refute it at one input. -/
def parsePiecesWrong : ChangeSpec := { name := "parsePieces", fn := fun _ => fun
  | [d1, d2, d3] => { results := [.lit (.bool false)], args := [d1, d2, d3] }
  | _ => none }
def ParsePiecesWrongFalsely : Prop := parsePiecesRow.holds Try.pinned (OpenSpec.ofChange parsePiecesWrong)

/-- 'icehouselaw21.ReplyFrames': WHATEVER THE INPUT: true; the input reads as it did. -/
def replyFramesSpec : ChangeSpec := { name := "replyFrames", fn := fun _ => fun
  | [d1, d2] => { results := [.lit (.bool true)], args := [d1, d2] }
  | _ => none }
def replyFramesRow : OpenClaim := { program := "ytnghmgbmflcngaa", sum := "016a368eee9993c388312f01b22b5bd2afb4ca73a3d63cba7e3211250ad5ff92", func := "icehouse/icehouselaw21.ReplyFrames", spec := "replyFrames", unfollowed := true, recurses := true, apart := false }
def ReplyFramesSaid : Prop := replyFramesRow.holds Try.pinned (OpenSpec.ofChange replyFramesSpec)

/-- ITS FALSE NEIGHBOUR: 'it returns false'. Refute it at one input. -/
def replyFramesWrong : ChangeSpec := { name := "replyFrames", fn := fun _ => fun
  | [d1, d2] => { results := [.lit (.bool false)], args := [d1, d2] }
  | _ => none }
def ReplyFramesWrongFalsely : Prop := replyFramesRow.holds Try.pinned (OpenSpec.ofChange replyFramesWrong)

/-- 'icehouselaw20.ParseRequests': WHATEVER THE INPUT: true; the input reads as it did. -/
def parseRequestsSpec : ChangeSpec := { name := "parseRequests", fn := fun _ => fun
  | [d] => { results := [.lit (.bool true)], args := [d] }
  | _ => none }
def parseRequestsRow : OpenClaim := { program := "ytnghmgbmflcngaa", sum := "016a368eee9993c388312f01b22b5bd2afb4ca73a3d63cba7e3211250ad5ff92", func := "icehouse/icehouselaw20.ParseRequests", spec := "parseRequests", unfollowed := true, recurses := true, apart := false }
def ParseRequestsSaid : Prop := parseRequestsRow.holds Try.pinned (OpenSpec.ofChange parseRequestsSpec)

/-- ITS FALSE NEIGHBOUR: 'it returns false'. Refute it at one input. -/
def parseRequestsWrong : ChangeSpec := { name := "parseRequests", fn := fun _ => fun
  | [d] => { results := [.lit (.bool false)], args := [d] }
  | _ => none }
def ParseRequestsWrongFalsely : Prop := parseRequestsRow.holds Try.pinned (OpenSpec.ofChange parseRequestsWrong)

/-- 'icehouselaw20.ParseBack': WHATEVER THE INPUT: true; the input reads as it did. -/
def parseBackSpec : ChangeSpec := { name := "parseBack", fn := fun _ => fun
  | [d1, d2] => { results := [.lit (.bool true)], args := [d1, d2] }
  | _ => none }
def parseBackRow : OpenClaim := { program := "ytnghmgbmflcngaa", sum := "016a368eee9993c388312f01b22b5bd2afb4ca73a3d63cba7e3211250ad5ff92", func := "icehouse/icehouselaw20.ParseBack", spec := "parseBack", unfollowed := true, recurses := true, apart := false }
def ParseBackSaid : Prop := parseBackRow.holds Try.pinned (OpenSpec.ofChange parseBackSpec)

/-- ITS FALSE NEIGHBOUR: 'it returns false'. Refute it at one input. -/
def parseBackWrong : ChangeSpec := { name := "parseBack", fn := fun _ => fun
  | [d1, d2] => { results := [.lit (.bool false)], args := [d1, d2] }
  | _ => none }
def ParseBackWrongFalsely : Prop := parseBackRow.holds Try.pinned (OpenSpec.ofChange parseBackWrong)

/-- 'icehouselaw20.ParseBad': WHATEVER THE INPUT: true; the input reads as it did. -/
def parseBadSpec : ChangeSpec := { name := "parseBad", fn := fun _ => fun
  | [d] => { results := [.lit (.bool true)], args := [d] }
  | _ => none }
def parseBadRow : OpenClaim := { program := "ytnghmgbmflcngaa", sum := "016a368eee9993c388312f01b22b5bd2afb4ca73a3d63cba7e3211250ad5ff92", func := "icehouse/icehouselaw20.ParseBad", spec := "parseBad", unfollowed := true, recurses := true, apart := false }
def ParseBadSaid : Prop := parseBadRow.holds Try.pinned (OpenSpec.ofChange parseBadSpec)

/-- ITS FALSE NEIGHBOUR: 'it returns false'. Refute it at one input. -/
def parseBadWrong : ChangeSpec := { name := "parseBad", fn := fun _ => fun
  | [d] => { results := [.lit (.bool false)], args := [d] }
  | _ => none }
def ParseBadWrongFalsely : Prop := parseBadRow.holds Try.pinned (OpenSpec.ofChange parseBadWrong)

/-- 'icehouselaw21.ReplyReads': WHATEVER THE INPUT: true; the input reads as it did. -/
def replyReadsSpec : ChangeSpec := { name := "replyReads", fn := fun _ => fun
  | [d1, d2] => { results := [.lit (.bool true)], args := [d1, d2] }
  | _ => none }
def replyReadsRow : OpenClaim := { program := "ytnghmgbmflcngaa", sum := "016a368eee9993c388312f01b22b5bd2afb4ca73a3d63cba7e3211250ad5ff92", func := "icehouse/icehouselaw21.ReplyReads", spec := "replyReads", unfollowed := true, recurses := true, apart := false }
def ReplyReadsSaid : Prop := replyReadsRow.holds Try.pinned (OpenSpec.ofChange replyReadsSpec)

/-- ITS FALSE NEIGHBOUR: 'it returns false'. Refute it at one input. -/
def replyReadsWrong : ChangeSpec := { name := "replyReads", fn := fun _ => fun
  | [d1, d2] => { results := [.lit (.bool false)], args := [d1, d2] }
  | _ => none }
def ReplyReadsWrongFalsely : Prop := replyReadsRow.holds Try.pinned (OpenSpec.ofChange replyReadsWrong)

/-- 'icehouselaw21.ReplyBack': WHATEVER THE INPUT: true; the input reads as it did. -/
def replyBackSpec : ChangeSpec := { name := "replyBack", fn := fun _ => fun
  | [d1, d2, d3] => { results := [.lit (.bool true)], args := [d1, d2, d3] }
  | _ => none }
def replyBackRow : OpenClaim := { program := "ytnghmgbmflcngaa", sum := "016a368eee9993c388312f01b22b5bd2afb4ca73a3d63cba7e3211250ad5ff92", func := "icehouse/icehouselaw21.ReplyBack", spec := "replyBack", unfollowed := true, recurses := true, apart := false }
def ReplyBackSaid : Prop := replyBackRow.holds Try.pinned (OpenSpec.ofChange replyBackSpec)

/-- ITS FALSE NEIGHBOUR: 'it returns false'. Refute it at one input. -/
def replyBackWrong : ChangeSpec := { name := "replyBack", fn := fun _ => fun
  | [d1, d2, d3] => { results := [.lit (.bool false)], args := [d1, d2, d3] }
  | _ => none }
def ReplyBackWrongFalsely : Prop := replyBackRow.holds Try.pinned (OpenSpec.ofChange replyBackWrong)

/-- 'icehouselaw22.ConnNone': WHATEVER THE INPUT: true; the input reads as it did. -/
def connNoneSpec : ChangeSpec := { name := "connNone", fn := fun _ => fun
  | [d1, d2, d3] => { results := [.lit (.bool true)], args := [d1, d2, d3] }
  | _ => none }
def connNoneRow : OpenClaim := { program := "ytnghmgbmflcngaa", sum := "016a368eee9993c388312f01b22b5bd2afb4ca73a3d63cba7e3211250ad5ff92", func := "icehouse/icehouselaw22.ConnNone", spec := "connNone", unfollowed := true, recurses := true, apart := false }
def ConnNoneSaid : Prop := connNoneRow.holds Try.pinned (OpenSpec.ofChange connNoneSpec)

/-- ITS FALSE NEIGHBOUR: 'it returns false'. Refute it at one input. -/
def connNoneWrong : ChangeSpec := { name := "connNone", fn := fun _ => fun
  | [d1, d2, d3] => { results := [.lit (.bool false)], args := [d1, d2, d3] }
  | _ => none }
def ConnNoneWrongFalsely : Prop := connNoneRow.holds Try.pinned (OpenSpec.ofChange connNoneWrong)

/-- 'icehouselaw22.ConnCloses': WHATEVER THE INPUT: true; the input reads as it did. -/
def connClosesSpec : ChangeSpec := { name := "connCloses", fn := fun _ => fun
  | [d1, d2] => { results := [.lit (.bool true)], args := [d1, d2] }
  | _ => none }
def connClosesRow : OpenClaim := { program := "ytnghmgbmflcngaa", sum := "016a368eee9993c388312f01b22b5bd2afb4ca73a3d63cba7e3211250ad5ff92", func := "icehouse/icehouselaw22.ConnCloses", spec := "connCloses", unfollowed := true, recurses := true, apart := false }
def ConnClosesSaid : Prop := connClosesRow.holds Try.pinned (OpenSpec.ofChange connClosesSpec)

/-- ITS FALSE NEIGHBOUR: 'it returns false'. Refute it at one input. -/
def connClosesWrong : ChangeSpec := { name := "connCloses", fn := fun _ => fun
  | [d1, d2] => { results := [.lit (.bool false)], args := [d1, d2] }
  | _ => none }
def ConnClosesWrongFalsely : Prop := connClosesRow.holds Try.pinned (OpenSpec.ofChange connClosesWrong)

/-- 'icehouselaw22.ConnDoes': WHATEVER THE INPUT: true; the input reads as it did. -/
def connDoesSpec : ChangeSpec := { name := "connDoes", fn := fun _ => fun
  | [d] => { results := [.lit (.bool true)], args := [d] }
  | _ => none }
def connDoesRow : OpenClaim := { program := "ytnghmgbmflcngaa", sum := "016a368eee9993c388312f01b22b5bd2afb4ca73a3d63cba7e3211250ad5ff92", func := "icehouse/icehouselaw22.ConnDoes", spec := "connDoes", unfollowed := true, recurses := true, apart := false }
def ConnDoesSaid : Prop := connDoesRow.holds Try.pinned (OpenSpec.ofChange connDoesSpec)

/-- ITS FALSE NEIGHBOUR: 'it returns false'. Refute it at one input. -/
def connDoesWrong : ChangeSpec := { name := "connDoes", fn := fun _ => fun
  | [d] => { results := [.lit (.bool false)], args := [d] }
  | _ => none }
def ConnDoesWrongFalsely : Prop := connDoesRow.holds Try.pinned (OpenSpec.ofChange connDoesWrong)

/-- 'icehouselaw22.ConnPieces': WHATEVER THE INPUT: true; the input reads as it did. -/
def connPiecesSpec : ChangeSpec := { name := "connPieces", fn := fun _ => fun
  | [d1, d2] => { results := [.lit (.bool true)], args := [d1, d2] }
  | _ => none }
def connPiecesRow : OpenClaim := { program := "ytnghmgbmflcngaa", sum := "016a368eee9993c388312f01b22b5bd2afb4ca73a3d63cba7e3211250ad5ff92", func := "icehouse/icehouselaw22.ConnPieces", spec := "connPieces", unfollowed := true, recurses := true, apart := false }
def ConnPiecesSaid : Prop := connPiecesRow.holds Try.pinned (OpenSpec.ofChange connPiecesSpec)

/-- ITS FALSE NEIGHBOUR: 'it returns false'. Refute it at one input. -/
def connPiecesWrong : ChangeSpec := { name := "connPieces", fn := fun _ => fun
  | [d1, d2] => { results := [.lit (.bool false)], args := [d1, d2] }
  | _ => none }
def ConnPiecesWrongFalsely : Prop := connPiecesRow.holds Try.pinned (OpenSpec.ofChange connPiecesWrong)

/- THE SECOND FORM. 'bulk': how many values and letters a reading holds, each counted each time it is reached (what is shared counts as often as it is met; a slice's spare places count too). A statement '..UptoSaid' is the law's where the arguments, and the package variables that the reading takes, are together of bulk at most 1048576: NARROWER than '..Said'. Prove '..Said' where nothing that the law and all that it calls make is longer than what came in: it says more and counts as full. Else prove '..UptoSaid'. A law counts once. -/
mutual
def uptoBulk {H : Type} : DataW H → Nat
  | .lit (.string bytes) => bytes.length + 1
  | .lit _ => 1
  | .nil => 1
  | .ptr d => uptoBulk d + 1
  | .slice elems spare => uptoBulkAll elems + uptoBulkAll spare + 1
  | .agg parts => uptoBulkAll parts + 1
  | .iface _ d => uptoBulk d + 1
  | .map entries => uptoBulkEntries entries + 1
  | .held _ => 1
def uptoBulkAll {H : Type} : List (DataW H) → Nat
  | [] => 0
  | d :: r => uptoBulk d + uptoBulkAll r
def uptoBulkEntries {H : Type} : List (Lit × DataW H) → Nat
  | [] => 0
  | x :: r => uptoBulkEntry x + uptoBulkEntries r
def uptoBulkEntry {H : Type} : Lit × DataW H → Nat
  | (.string bytes, d) => bytes.length + uptoBulk d + 1
  | (_, d) => uptoBulk d + 1
 end
def uptoSmall : (H : Type) → List (DataW H) → Bool := fun _ ds => decide (uptoBulkAll ds ≤ 1048576)
def OpenSpec.upto (s : _root_.Go.ChangeSpec) : _root_.Go.OpenSpec := { _root_.Go.OpenSpec.ofChange s with cond := some uptoSmall }

/-- 'icehouselaw21.ReplySays', WHERE WHAT IT READS IS OF BULK AT MOST 1048576: true; the input reads as it did. -/
def replySaysUptoRow : OpenClaim := { program := "ytnghmgbmflcngaa", sum := "016a368eee9993c388312f01b22b5bd2afb4ca73a3d63cba7e3211250ad5ff92", func := "icehouse/icehouselaw21.ReplySays", spec := "replySays", unfollowed := true, recurses := true, apart := false, narrowed := true }
def ReplySaysUptoSaid : Prop := replySaysUptoRow.holds Try.pinned (OpenSpec.upto replySaysSpec)

/-- 'icehouselaw21.ReplyTexts', WHERE WHAT IT READS IS OF BULK AT MOST 1048576: true; the input reads as it did. -/
def replyTextsUptoRow : OpenClaim := { program := "ytnghmgbmflcngaa", sum := "016a368eee9993c388312f01b22b5bd2afb4ca73a3d63cba7e3211250ad5ff92", func := "icehouse/icehouselaw21.ReplyTexts", spec := "replyTexts", unfollowed := true, recurses := true, apart := false, narrowed := true }
def ReplyTextsUptoSaid : Prop := replyTextsUptoRow.holds Try.pinned (OpenSpec.upto replyTextsSpec)

/-- 'icehouselaw20.ParseFeeds', WHERE WHAT IT READS IS OF BULK AT MOST 1048576: true; the input reads as it did. -/
def parseFeedsUptoRow : OpenClaim := { program := "ytnghmgbmflcngaa", sum := "016a368eee9993c388312f01b22b5bd2afb4ca73a3d63cba7e3211250ad5ff92", func := "icehouse/icehouselaw20.ParseFeeds", spec := "parseFeeds", unfollowed := true, recurses := true, apart := false, narrowed := true }
def ParseFeedsUptoSaid : Prop := parseFeedsUptoRow.holds Try.pinned (OpenSpec.upto parseFeedsSpec)

/-- 'icehouselaw20.ParseFrames', WHERE WHAT IT READS IS OF BULK AT MOST 1048576: true; the input reads as it did. -/
def parseFramesUptoRow : OpenClaim := { program := "ytnghmgbmflcngaa", sum := "016a368eee9993c388312f01b22b5bd2afb4ca73a3d63cba7e3211250ad5ff92", func := "icehouse/icehouselaw20.ParseFrames", spec := "parseFrames", unfollowed := true, recurses := true, apart := false, narrowed := true }
def ParseFramesUptoSaid : Prop := parseFramesUptoRow.holds Try.pinned (OpenSpec.upto parseFramesSpec)

/-- 'icehouselaw20.ParseSame', WHERE WHAT IT READS IS OF BULK AT MOST 1048576: true; the input reads as it did. -/
def parseSameUptoRow : OpenClaim := { program := "ytnghmgbmflcngaa", sum := "016a368eee9993c388312f01b22b5bd2afb4ca73a3d63cba7e3211250ad5ff92", func := "icehouse/icehouselaw20.ParseSame", spec := "parseSame", unfollowed := true, recurses := true, apart := false, narrowed := true }
def ParseSameUptoSaid : Prop := parseSameUptoRow.holds Try.pinned (OpenSpec.upto parseSameSpec)

/-- 'icehouselaw20.ParseLimits', WHERE WHAT IT READS IS OF BULK AT MOST 1048576: true; the input reads as it did. -/
def parseLimitsUptoRow : OpenClaim := { program := "ytnghmgbmflcngaa", sum := "016a368eee9993c388312f01b22b5bd2afb4ca73a3d63cba7e3211250ad5ff92", func := "icehouse/icehouselaw20.ParseLimits", spec := "parseLimits", unfollowed := true, recurses := true, apart := false, narrowed := true }
def ParseLimitsUptoSaid : Prop := parseLimitsUptoRow.holds Try.pinned (OpenSpec.upto parseLimitsSpec)

/-- 'icehouselaw20.ParseNone', WHERE WHAT IT READS IS OF BULK AT MOST 1048576: true; the input reads as it did. -/
def parseNoneUptoRow : OpenClaim := { program := "ytnghmgbmflcngaa", sum := "016a368eee9993c388312f01b22b5bd2afb4ca73a3d63cba7e3211250ad5ff92", func := "icehouse/icehouselaw20.ParseNone", spec := "parseNone", unfollowed := true, recurses := true, apart := false, narrowed := true }
def ParseNoneUptoSaid : Prop := parseNoneUptoRow.holds Try.pinned (OpenSpec.upto parseNoneSpec)

/-- 'icehouselaw20.ParsePieces', WHERE WHAT IT READS IS OF BULK AT MOST 1048576: true; the input reads as it did. -/
def parsePiecesUptoRow : OpenClaim := { program := "ytnghmgbmflcngaa", sum := "016a368eee9993c388312f01b22b5bd2afb4ca73a3d63cba7e3211250ad5ff92", func := "icehouse/icehouselaw20.ParsePieces", spec := "parsePieces", unfollowed := true, recurses := true, apart := false, narrowed := true }
def ParsePiecesUptoSaid : Prop := parsePiecesUptoRow.holds Try.pinned (OpenSpec.upto parsePiecesSpec)

/-- 'icehouselaw21.ReplyFrames', WHERE WHAT IT READS IS OF BULK AT MOST 1048576: true; the input reads as it did. -/
def replyFramesUptoRow : OpenClaim := { program := "ytnghmgbmflcngaa", sum := "016a368eee9993c388312f01b22b5bd2afb4ca73a3d63cba7e3211250ad5ff92", func := "icehouse/icehouselaw21.ReplyFrames", spec := "replyFrames", unfollowed := true, recurses := true, apart := false, narrowed := true }
def ReplyFramesUptoSaid : Prop := replyFramesUptoRow.holds Try.pinned (OpenSpec.upto replyFramesSpec)

/-- 'icehouselaw20.ParseRequests', WHERE WHAT IT READS IS OF BULK AT MOST 1048576: true; the input reads as it did. -/
def parseRequestsUptoRow : OpenClaim := { program := "ytnghmgbmflcngaa", sum := "016a368eee9993c388312f01b22b5bd2afb4ca73a3d63cba7e3211250ad5ff92", func := "icehouse/icehouselaw20.ParseRequests", spec := "parseRequests", unfollowed := true, recurses := true, apart := false, narrowed := true }
def ParseRequestsUptoSaid : Prop := parseRequestsUptoRow.holds Try.pinned (OpenSpec.upto parseRequestsSpec)

/-- 'icehouselaw20.ParseBack', WHERE WHAT IT READS IS OF BULK AT MOST 1048576: true; the input reads as it did. -/
def parseBackUptoRow : OpenClaim := { program := "ytnghmgbmflcngaa", sum := "016a368eee9993c388312f01b22b5bd2afb4ca73a3d63cba7e3211250ad5ff92", func := "icehouse/icehouselaw20.ParseBack", spec := "parseBack", unfollowed := true, recurses := true, apart := false, narrowed := true }
def ParseBackUptoSaid : Prop := parseBackUptoRow.holds Try.pinned (OpenSpec.upto parseBackSpec)

/-- 'icehouselaw20.ParseBad', WHERE WHAT IT READS IS OF BULK AT MOST 1048576: true; the input reads as it did. -/
def parseBadUptoRow : OpenClaim := { program := "ytnghmgbmflcngaa", sum := "016a368eee9993c388312f01b22b5bd2afb4ca73a3d63cba7e3211250ad5ff92", func := "icehouse/icehouselaw20.ParseBad", spec := "parseBad", unfollowed := true, recurses := true, apart := false, narrowed := true }
def ParseBadUptoSaid : Prop := parseBadUptoRow.holds Try.pinned (OpenSpec.upto parseBadSpec)

/-- 'icehouselaw21.ReplyReads', WHERE WHAT IT READS IS OF BULK AT MOST 1048576: true; the input reads as it did. -/
def replyReadsUptoRow : OpenClaim := { program := "ytnghmgbmflcngaa", sum := "016a368eee9993c388312f01b22b5bd2afb4ca73a3d63cba7e3211250ad5ff92", func := "icehouse/icehouselaw21.ReplyReads", spec := "replyReads", unfollowed := true, recurses := true, apart := false, narrowed := true }
def ReplyReadsUptoSaid : Prop := replyReadsUptoRow.holds Try.pinned (OpenSpec.upto replyReadsSpec)

/-- 'icehouselaw21.ReplyBack', WHERE WHAT IT READS IS OF BULK AT MOST 1048576: true; the input reads as it did. -/
def replyBackUptoRow : OpenClaim := { program := "ytnghmgbmflcngaa", sum := "016a368eee9993c388312f01b22b5bd2afb4ca73a3d63cba7e3211250ad5ff92", func := "icehouse/icehouselaw21.ReplyBack", spec := "replyBack", unfollowed := true, recurses := true, apart := false, narrowed := true }
def ReplyBackUptoSaid : Prop := replyBackUptoRow.holds Try.pinned (OpenSpec.upto replyBackSpec)

/-- 'icehouselaw22.ConnNone', WHERE WHAT IT READS IS OF BULK AT MOST 1048576: true; the input reads as it did. -/
def connNoneUptoRow : OpenClaim := { program := "ytnghmgbmflcngaa", sum := "016a368eee9993c388312f01b22b5bd2afb4ca73a3d63cba7e3211250ad5ff92", func := "icehouse/icehouselaw22.ConnNone", spec := "connNone", unfollowed := true, recurses := true, apart := false, narrowed := true }
def ConnNoneUptoSaid : Prop := connNoneUptoRow.holds Try.pinned (OpenSpec.upto connNoneSpec)

/-- 'icehouselaw22.ConnCloses', WHERE WHAT IT READS IS OF BULK AT MOST 1048576: true; the input reads as it did. -/
def connClosesUptoRow : OpenClaim := { program := "ytnghmgbmflcngaa", sum := "016a368eee9993c388312f01b22b5bd2afb4ca73a3d63cba7e3211250ad5ff92", func := "icehouse/icehouselaw22.ConnCloses", spec := "connCloses", unfollowed := true, recurses := true, apart := false, narrowed := true }
def ConnClosesUptoSaid : Prop := connClosesUptoRow.holds Try.pinned (OpenSpec.upto connClosesSpec)

/-- 'icehouselaw22.ConnDoes', WHERE WHAT IT READS IS OF BULK AT MOST 1048576: true; the input reads as it did. -/
def connDoesUptoRow : OpenClaim := { program := "ytnghmgbmflcngaa", sum := "016a368eee9993c388312f01b22b5bd2afb4ca73a3d63cba7e3211250ad5ff92", func := "icehouse/icehouselaw22.ConnDoes", spec := "connDoes", unfollowed := true, recurses := true, apart := false, narrowed := true }
def ConnDoesUptoSaid : Prop := connDoesUptoRow.holds Try.pinned (OpenSpec.upto connDoesSpec)

/-- 'icehouselaw22.ConnPieces', WHERE WHAT IT READS IS OF BULK AT MOST 1048576: true; the input reads as it did. -/
def connPiecesUptoRow : OpenClaim := { program := "ytnghmgbmflcngaa", sum := "016a368eee9993c388312f01b22b5bd2afb4ca73a3d63cba7e3211250ad5ff92", func := "icehouse/icehouselaw22.ConnPieces", spec := "connPieces", unfollowed := true, recurses := true, apart := false, narrowed := true }
def ConnPiecesUptoSaid : Prop := connPiecesUptoRow.holds Try.pinned (OpenSpec.upto connPiecesSpec)

end Rows
end Go.Proofs.Ytnghmgbmflcngaa
