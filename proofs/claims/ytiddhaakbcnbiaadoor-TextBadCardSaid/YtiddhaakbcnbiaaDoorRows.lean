/-
  NARROWER THAN 'FOR EVERY INPUT', by the rows' own cells (each row's printed sentence says how): RunesEdges: laid · RunesAsks: laid · RunesKinds: laid · RunesSplits: laid · RunesNames: laid · RunesBlanks: laid · TextBad: laid · TextAsks: laid · TextRunes: laid · TextEnds: laid · TextMark: laid · TextParts: laid.
  DERIVED. THE GIVEN ROWS OF THIS SEAT. 12 by the template 'for every input the law returns true; each argument reads behind the call as it read before'; 0 by the template 'total and deterministic' (their statements: YtiddhaakbcnbiaaDoorTotals.lean).
  GIVEN WITH THE SEED: the statements are not yours to turn. If you find one false, say at which input.
  Laid BY PROGRAM, IN A SANDBOX (cutbox-rows.mjs): the forced cells as the released guide's own fill.sh prints them over the translation b9cc7085178d2ecb… (all of the seat's roots in one cut). By AI agents, Wed Nov 11 2026. No macro, syntax, notation, axiom, sorry.
-/
import Derived.Test.YtiddhaakbcnbiaaDoorChecked
import GoSem.PinnedTables
import GoSem.Claim
import GoSem.ClaimJoined
import GoSem.ClaimMapViews
import Derived.JoinedTies
import Derived.KernelRfl
namespace Go.Proofs.YtiddhaakbcnbiaaDoor
/- THE CELL 'sum', in the pinned program and in every row, IS THE sha256 OF THE DUMP (.gsa) THAT YtiddhaakbcnbiaaDoorProg.lean LOADS. Nothing in Lean hashes anything: it is a label: what it is worth is what the hold of that sum in a sandbox is worth. -/
noncomputable def Tryd.pinned : Pinned := { name := "ytiddhaakbcnbiaadoor", sum := "b9cc7085178d2ecb984ce7d35133be506df6307c4986717dc19ec6c954886130", checked := Tryd.checked }
namespace Rows
def none {H : Type} : Left H := { results := [], args := [] }

/- WHAT THE LISTED PACKAGE-LEVEL VARIABLES READ AS WHEN THE CALL BEGINS. Each datum BY PROGRAM (the guide's laid-datum.mjs) off the statement by which the dump's own 'gosem.cut.vars' lays the variable. In a bare row this is a premise. The card (YtiddhaakbcnbiaaDoorCards.lean) ties it to the program's text. -/
def laid_unicode_utf8_acceptRanges {H : Type} : DataW H := .agg [.agg [.lit (.int .u8 128), .lit (.int .u8 191)], .agg [.lit (.int .u8 160), .lit (.int .u8 191)], .agg [.lit (.int .u8 128), .lit (.int .u8 159)], .agg [.lit (.int .u8 144), .lit (.int .u8 191)], .agg [.lit (.int .u8 128), .lit (.int .u8 143)], .agg [.lit (.int .u8 0), .lit (.int .u8 0)], .agg [.lit (.int .u8 0), .lit (.int .u8 0)], .agg [.lit (.int .u8 0), .lit (.int .u8 0)], .agg [.lit (.int .u8 0), .lit (.int .u8 0)], .agg [.lit (.int .u8 0), .lit (.int .u8 0)], .agg [.lit (.int .u8 0), .lit (.int .u8 0)], .agg [.lit (.int .u8 0), .lit (.int .u8 0)], .agg [.lit (.int .u8 0), .lit (.int .u8 0)], .agg [.lit (.int .u8 0), .lit (.int .u8 0)], .agg [.lit (.int .u8 0), .lit (.int .u8 0)], .agg [.lit (.int .u8 0), .lit (.int .u8 0)]]
/-- One of Go's own tables, pinned by name: the form's constant. -/
def laid_unicode_utf8_first : DataW Unit := Go.Pinned.utf8First

/-- 'brackenlaw1.RunesEdges': WHATEVER THE INPUT: true; the input reads as it did. -/
def runesEdgesSpec : ChangeSpec := { name := "runesEdges", fn := fun _ => fun
  | [d] => { results := [.lit (.bool true)], args := [d] }
  | _ => none }
def runesEdgesRow : OpenClaim := { program := "ytiddhaakbcnbiaadoor", sum := "b9cc7085178d2ecb984ce7d35133be506df6307c4986717dc19ec6c954886130", func := "bracken/brackenlaw1.RunesEdges", spec := "runesEdges", inPlace := ["internal/bytealg.IndexByteString", "internal/bytealg.IndexString"], named := ["internal/bytealg.MaxLen", "unicode/utf8.first", "unicode/utf8.acceptRanges"], apart := false, laid := [("unicode/utf8.acceptRanges", laid_unicode_utf8_acceptRanges), ("unicode/utf8.first", laid_unicode_utf8_first)] }
def RunesEdgesSaid : Prop := runesEdgesRow.holds Tryd.pinned (OpenSpec.ofChange runesEdgesSpec)

/-- ITS FALSE NEIGHBOUR: 'it returns false'. Refute it at one input. -/
def runesEdgesWrong : ChangeSpec := { name := "runesEdges", fn := fun _ => fun
  | [d] => { results := [.lit (.bool false)], args := [d] }
  | _ => none }
def RunesEdgesWrongFalsely : Prop := runesEdgesRow.holds Tryd.pinned (OpenSpec.ofChange runesEdgesWrong)

/-- 'brackenlaw1.RunesAsks': WHATEVER THE INPUT: true; the input reads as it did. -/
def runesAsksSpec : ChangeSpec := { name := "runesAsks", fn := fun _ => fun
  | [d1, d2] => { results := [.lit (.bool true)], args := [d1, d2] }
  | _ => none }
def runesAsksRow : OpenClaim := { program := "ytiddhaakbcnbiaadoor", sum := "b9cc7085178d2ecb984ce7d35133be506df6307c4986717dc19ec6c954886130", func := "bracken/brackenlaw1.RunesAsks", spec := "runesAsks", inPlace := ["internal/bytealg.IndexByteString", "internal/bytealg.IndexString"], named := ["internal/bytealg.MaxLen", "unicode/utf8.first", "unicode/utf8.acceptRanges"], apart := false, laid := [("unicode/utf8.acceptRanges", laid_unicode_utf8_acceptRanges), ("unicode/utf8.first", laid_unicode_utf8_first)] }
def RunesAsksSaid : Prop := runesAsksRow.holds Tryd.pinned (OpenSpec.ofChange runesAsksSpec)

/-- ITS FALSE NEIGHBOUR: 'it returns false'. Refute it at one input. -/
def runesAsksWrong : ChangeSpec := { name := "runesAsks", fn := fun _ => fun
  | [d1, d2] => { results := [.lit (.bool false)], args := [d1, d2] }
  | _ => none }
def RunesAsksWrongFalsely : Prop := runesAsksRow.holds Tryd.pinned (OpenSpec.ofChange runesAsksWrong)

/-- 'brackenlaw1.RunesKinds': WHATEVER THE INPUT: true; the input reads as it did. -/
def runesKindsSpec : ChangeSpec := { name := "runesKinds", fn := fun _ => fun
  | [d] => { results := [.lit (.bool true)], args := [d] }
  | _ => none }
def runesKindsRow : OpenClaim := { program := "ytiddhaakbcnbiaadoor", sum := "b9cc7085178d2ecb984ce7d35133be506df6307c4986717dc19ec6c954886130", func := "bracken/brackenlaw1.RunesKinds", spec := "runesKinds", inPlace := ["internal/bytealg.IndexByteString", "internal/bytealg.IndexString"], named := ["internal/bytealg.MaxLen", "unicode/utf8.first", "unicode/utf8.acceptRanges"], apart := false, laid := [("unicode/utf8.acceptRanges", laid_unicode_utf8_acceptRanges), ("unicode/utf8.first", laid_unicode_utf8_first)] }
def RunesKindsSaid : Prop := runesKindsRow.holds Tryd.pinned (OpenSpec.ofChange runesKindsSpec)

/-- ITS FALSE NEIGHBOUR: 'it returns false'. Refute it at one input. -/
def runesKindsWrong : ChangeSpec := { name := "runesKinds", fn := fun _ => fun
  | [d] => { results := [.lit (.bool false)], args := [d] }
  | _ => none }
def RunesKindsWrongFalsely : Prop := runesKindsRow.holds Tryd.pinned (OpenSpec.ofChange runesKindsWrong)

/-- 'brackenlaw1.RunesSplits': WHATEVER THE INPUT: true; the input reads as it did. -/
def runesSplitsSpec : ChangeSpec := { name := "runesSplits", fn := fun _ => fun
  | [d1, d2] => { results := [.lit (.bool true)], args := [d1, d2] }
  | _ => none }
def runesSplitsRow : OpenClaim := { program := "ytiddhaakbcnbiaadoor", sum := "b9cc7085178d2ecb984ce7d35133be506df6307c4986717dc19ec6c954886130", func := "bracken/brackenlaw1.RunesSplits", spec := "runesSplits", inPlace := ["internal/bytealg.IndexByteString", "internal/bytealg.IndexString"], named := ["internal/bytealg.MaxLen", "unicode/utf8.first", "unicode/utf8.acceptRanges"], apart := false, laid := [("unicode/utf8.acceptRanges", laid_unicode_utf8_acceptRanges), ("unicode/utf8.first", laid_unicode_utf8_first)] }
def RunesSplitsSaid : Prop := runesSplitsRow.holds Tryd.pinned (OpenSpec.ofChange runesSplitsSpec)

/-- ITS FALSE NEIGHBOUR: 'it returns false'. Refute it at one input. -/
def runesSplitsWrong : ChangeSpec := { name := "runesSplits", fn := fun _ => fun
  | [d1, d2] => { results := [.lit (.bool false)], args := [d1, d2] }
  | _ => none }
def RunesSplitsWrongFalsely : Prop := runesSplitsRow.holds Tryd.pinned (OpenSpec.ofChange runesSplitsWrong)

/-- 'brackenlaw1.RunesNames': WHATEVER THE INPUT: true; the input reads as it did. -/
def runesNamesSpec : ChangeSpec := { name := "runesNames", fn := fun _ => fun
  | [d] => { results := [.lit (.bool true)], args := [d] }
  | _ => none }
def runesNamesRow : OpenClaim := { program := "ytiddhaakbcnbiaadoor", sum := "b9cc7085178d2ecb984ce7d35133be506df6307c4986717dc19ec6c954886130", func := "bracken/brackenlaw1.RunesNames", spec := "runesNames", inPlace := ["internal/bytealg.IndexByteString", "internal/bytealg.IndexString"], named := ["internal/bytealg.MaxLen", "unicode/utf8.first", "unicode/utf8.acceptRanges"], apart := false, laid := [("unicode/utf8.acceptRanges", laid_unicode_utf8_acceptRanges), ("unicode/utf8.first", laid_unicode_utf8_first)] }
def RunesNamesSaid : Prop := runesNamesRow.holds Tryd.pinned (OpenSpec.ofChange runesNamesSpec)

/-- ITS FALSE NEIGHBOUR: 'it returns false'. Refute it at one input. -/
def runesNamesWrong : ChangeSpec := { name := "runesNames", fn := fun _ => fun
  | [d] => { results := [.lit (.bool false)], args := [d] }
  | _ => none }
def RunesNamesWrongFalsely : Prop := runesNamesRow.holds Tryd.pinned (OpenSpec.ofChange runesNamesWrong)

/-- 'brackenlaw1.RunesBlanks': WHATEVER THE INPUT: true; the input reads as it did. -/
def runesBlanksSpec : ChangeSpec := { name := "runesBlanks", fn := fun _ => fun
  | [d1, d2] => { results := [.lit (.bool true)], args := [d1, d2] }
  | _ => none }
def runesBlanksRow : OpenClaim := { program := "ytiddhaakbcnbiaadoor", sum := "b9cc7085178d2ecb984ce7d35133be506df6307c4986717dc19ec6c954886130", func := "bracken/brackenlaw1.RunesBlanks", spec := "runesBlanks", inPlace := ["internal/bytealg.IndexByteString", "internal/bytealg.IndexString"], named := ["internal/bytealg.MaxLen", "unicode/utf8.first", "unicode/utf8.acceptRanges"], apart := false, laid := [("unicode/utf8.acceptRanges", laid_unicode_utf8_acceptRanges), ("unicode/utf8.first", laid_unicode_utf8_first)] }
def RunesBlanksSaid : Prop := runesBlanksRow.holds Tryd.pinned (OpenSpec.ofChange runesBlanksSpec)

/-- ITS FALSE NEIGHBOUR: 'it returns false'. Refute it at one input. -/
def runesBlanksWrong : ChangeSpec := { name := "runesBlanks", fn := fun _ => fun
  | [d1, d2] => { results := [.lit (.bool false)], args := [d1, d2] }
  | _ => none }
def RunesBlanksWrongFalsely : Prop := runesBlanksRow.holds Tryd.pinned (OpenSpec.ofChange runesBlanksWrong)

/-- 'brackenlaw2.TextBad': WHATEVER THE INPUT: true; the input reads as it did. -/
def textBadSpec : ChangeSpec := { name := "textBad", fn := fun _ => fun
  | [d1, d2] => { results := [.lit (.bool true)], args := [d1, d2] }
  | _ => none }
def textBadRow : OpenClaim := { program := "ytiddhaakbcnbiaadoor", sum := "b9cc7085178d2ecb984ce7d35133be506df6307c4986717dc19ec6c954886130", func := "bracken/brackenlaw2.TextBad", spec := "textBad", inPlace := ["internal/bytealg.CountString", "internal/bytealg.IndexByteString", "internal/bytealg.IndexString", "internal/abi.NoEscape", "internal/bytealg.MakeNoZero"], named := ["unicode/utf8.first", "unicode/utf8.acceptRanges", "internal/bytealg.MaxLen"], apart := false, laid := [("unicode/utf8.acceptRanges", laid_unicode_utf8_acceptRanges), ("unicode/utf8.first", laid_unicode_utf8_first)] }
def TextBadSaid : Prop := textBadRow.holds Tryd.pinned (OpenSpec.ofChange textBadSpec)

/-- ITS FALSE NEIGHBOUR: 'it returns false'. Refute it at one input. -/
def textBadWrong : ChangeSpec := { name := "textBad", fn := fun _ => fun
  | [d1, d2] => { results := [.lit (.bool false)], args := [d1, d2] }
  | _ => none }
def TextBadWrongFalsely : Prop := textBadRow.holds Tryd.pinned (OpenSpec.ofChange textBadWrong)

/-- 'brackenlaw2.TextAsks': WHATEVER THE INPUT: true; the input reads as it did. -/
def textAsksSpec : ChangeSpec := { name := "textAsks", fn := fun _ => fun
  | [d] => { results := [.lit (.bool true)], args := [d] }
  | _ => none }
def textAsksRow : OpenClaim := { program := "ytiddhaakbcnbiaadoor", sum := "b9cc7085178d2ecb984ce7d35133be506df6307c4986717dc19ec6c954886130", func := "bracken/brackenlaw2.TextAsks", spec := "textAsks", inPlace := ["internal/bytealg.CountString", "internal/bytealg.IndexByteString", "internal/bytealg.IndexString", "internal/abi.NoEscape", "internal/bytealg.MakeNoZero"], named := ["unicode/utf8.first", "unicode/utf8.acceptRanges", "internal/bytealg.MaxLen"], apart := false, laid := [("unicode/utf8.acceptRanges", laid_unicode_utf8_acceptRanges), ("unicode/utf8.first", laid_unicode_utf8_first)] }
def TextAsksSaid : Prop := textAsksRow.holds Tryd.pinned (OpenSpec.ofChange textAsksSpec)

/-- ITS FALSE NEIGHBOUR: 'it returns false'. Refute it at one input. -/
def textAsksWrong : ChangeSpec := { name := "textAsks", fn := fun _ => fun
  | [d] => { results := [.lit (.bool false)], args := [d] }
  | _ => none }
def TextAsksWrongFalsely : Prop := textAsksRow.holds Tryd.pinned (OpenSpec.ofChange textAsksWrong)

/-- 'brackenlaw2.TextRunes': WHATEVER THE INPUT: true; the input reads as it did. -/
def textRunesSpec : ChangeSpec := { name := "textRunes", fn := fun _ => fun
  | [d] => { results := [.lit (.bool true)], args := [d] }
  | _ => none }
def textRunesRow : OpenClaim := { program := "ytiddhaakbcnbiaadoor", sum := "b9cc7085178d2ecb984ce7d35133be506df6307c4986717dc19ec6c954886130", func := "bracken/brackenlaw2.TextRunes", spec := "textRunes", inPlace := ["internal/bytealg.CountString", "internal/bytealg.IndexByteString", "internal/bytealg.IndexString", "internal/abi.NoEscape", "internal/bytealg.MakeNoZero"], named := ["unicode/utf8.first", "unicode/utf8.acceptRanges", "internal/bytealg.MaxLen"], apart := false, laid := [("unicode/utf8.acceptRanges", laid_unicode_utf8_acceptRanges), ("unicode/utf8.first", laid_unicode_utf8_first)] }
def TextRunesSaid : Prop := textRunesRow.holds Tryd.pinned (OpenSpec.ofChange textRunesSpec)

/-- ITS FALSE NEIGHBOUR: 'it returns false'. Refute it at one input. -/
def textRunesWrong : ChangeSpec := { name := "textRunes", fn := fun _ => fun
  | [d] => { results := [.lit (.bool false)], args := [d] }
  | _ => none }
def TextRunesWrongFalsely : Prop := textRunesRow.holds Tryd.pinned (OpenSpec.ofChange textRunesWrong)

/-- 'brackenlaw2.TextEnds': WHATEVER THE INPUT: true; the input reads as it did. -/
def textEndsSpec : ChangeSpec := { name := "textEnds", fn := fun _ => fun
  | [d] => { results := [.lit (.bool true)], args := [d] }
  | _ => none }
def textEndsRow : OpenClaim := { program := "ytiddhaakbcnbiaadoor", sum := "b9cc7085178d2ecb984ce7d35133be506df6307c4986717dc19ec6c954886130", func := "bracken/brackenlaw2.TextEnds", spec := "textEnds", inPlace := ["internal/bytealg.CountString", "internal/bytealg.IndexByteString", "internal/bytealg.IndexString", "internal/abi.NoEscape", "internal/bytealg.MakeNoZero"], named := ["unicode/utf8.first", "unicode/utf8.acceptRanges", "internal/bytealg.MaxLen"], apart := false, laid := [("unicode/utf8.acceptRanges", laid_unicode_utf8_acceptRanges), ("unicode/utf8.first", laid_unicode_utf8_first)] }
def TextEndsSaid : Prop := textEndsRow.holds Tryd.pinned (OpenSpec.ofChange textEndsSpec)

/-- ITS FALSE NEIGHBOUR: 'it returns false'. Refute it at one input. -/
def textEndsWrong : ChangeSpec := { name := "textEnds", fn := fun _ => fun
  | [d] => { results := [.lit (.bool false)], args := [d] }
  | _ => none }
def TextEndsWrongFalsely : Prop := textEndsRow.holds Tryd.pinned (OpenSpec.ofChange textEndsWrong)

/-- 'brackenlaw2.TextMark': WHATEVER THE INPUT: true; the input reads as it did. -/
def textMarkSpec : ChangeSpec := { name := "textMark", fn := fun _ => fun
  | [d] => { results := [.lit (.bool true)], args := [d] }
  | _ => none }
def textMarkRow : OpenClaim := { program := "ytiddhaakbcnbiaadoor", sum := "b9cc7085178d2ecb984ce7d35133be506df6307c4986717dc19ec6c954886130", func := "bracken/brackenlaw2.TextMark", spec := "textMark", inPlace := ["internal/bytealg.CountString", "internal/bytealg.IndexByteString", "internal/bytealg.IndexString", "internal/abi.NoEscape", "internal/bytealg.MakeNoZero"], named := ["unicode/utf8.first", "unicode/utf8.acceptRanges", "internal/bytealg.MaxLen"], apart := false, laid := [("unicode/utf8.acceptRanges", laid_unicode_utf8_acceptRanges), ("unicode/utf8.first", laid_unicode_utf8_first)] }
def TextMarkSaid : Prop := textMarkRow.holds Tryd.pinned (OpenSpec.ofChange textMarkSpec)

/-- ITS FALSE NEIGHBOUR: 'it returns false'. Refute it at one input. -/
def textMarkWrong : ChangeSpec := { name := "textMark", fn := fun _ => fun
  | [d] => { results := [.lit (.bool false)], args := [d] }
  | _ => none }
def TextMarkWrongFalsely : Prop := textMarkRow.holds Tryd.pinned (OpenSpec.ofChange textMarkWrong)

/-- 'brackenlaw2.TextParts': WHATEVER THE INPUT: true; the input reads as it did. -/
def textPartsSpec : ChangeSpec := { name := "textParts", fn := fun _ => fun
  | [d1, d2] => { results := [.lit (.bool true)], args := [d1, d2] }
  | _ => none }
def textPartsRow : OpenClaim := { program := "ytiddhaakbcnbiaadoor", sum := "b9cc7085178d2ecb984ce7d35133be506df6307c4986717dc19ec6c954886130", func := "bracken/brackenlaw2.TextParts", spec := "textParts", inPlace := ["internal/bytealg.CountString", "internal/bytealg.IndexByteString", "internal/bytealg.IndexString", "internal/abi.NoEscape", "internal/bytealg.MakeNoZero"], named := ["unicode/utf8.first", "unicode/utf8.acceptRanges", "internal/bytealg.MaxLen"], apart := false, laid := [("unicode/utf8.acceptRanges", laid_unicode_utf8_acceptRanges), ("unicode/utf8.first", laid_unicode_utf8_first)] }
def TextPartsSaid : Prop := textPartsRow.holds Tryd.pinned (OpenSpec.ofChange textPartsSpec)

/-- ITS FALSE NEIGHBOUR: 'it returns false'. Refute it at one input. -/
def textPartsWrong : ChangeSpec := { name := "textParts", fn := fun _ => fun
  | [d1, d2] => { results := [.lit (.bool false)], args := [d1, d2] }
  | _ => none }
def TextPartsWrongFalsely : Prop := textPartsRow.holds Tryd.pinned (OpenSpec.ofChange textPartsWrong)

/- THE SECOND FORM. 'bulk': how many values and letters a reading holds, each counted each time it is reached (what is shared counts as often as it is met; a slice's spare places count too). A statement '..UptoSaid' is the law's where the arguments, and the package variables that the reading takes, are together of bulk at most 1048576: NARROWER than '..Said'. Prove '..Said' where nothing that the law and all that it calls make is longer than what came in: it says more and counts as full. Else prove '..UptoSaid'. A law counts once. -/
mutual
def uptoBulk {H : Type} : DataW H → Nat
  | .lit (.string bytes) => bytes.length + 1
  | .lit _ => 1
  | .nil => 1
  | .ptr d => uptoBulk d + 1
  | .slice elems spare => uptoBulkAll elems + uptoBulkAll spare + 1
  | .agg parts => uptoBulkAll parts + 1
  | .iface _ d => uptoBulk d + 1
  | .map entries => uptoBulkEntries entries + 1
  | .held _ => 1
def uptoBulkAll {H : Type} : List (DataW H) → Nat
  | [] => 0
  | d :: r => uptoBulk d + uptoBulkAll r
def uptoBulkEntries {H : Type} : List (Lit × DataW H) → Nat
  | [] => 0
  | x :: r => uptoBulkEntry x + uptoBulkEntries r
def uptoBulkEntry {H : Type} : Lit × DataW H → Nat
  | (.string bytes, d) => bytes.length + uptoBulk d + 1
  | (_, d) => uptoBulk d + 1
 end
def uptoSmall : (H : Type) → List (DataW H) → Bool := fun _ ds => decide (uptoBulkAll ds ≤ 1048576)
def OpenSpec.upto (s : _root_.Go.ChangeSpec) : _root_.Go.OpenSpec := { _root_.Go.OpenSpec.ofChange s with cond := some uptoSmall }

/-- 'brackenlaw1.RunesEdges', WHERE WHAT IT READS IS OF BULK AT MOST 1048576: true; the input reads as it did. -/
def runesEdgesUptoRow : OpenClaim := { program := "ytiddhaakbcnbiaadoor", sum := "b9cc7085178d2ecb984ce7d35133be506df6307c4986717dc19ec6c954886130", func := "bracken/brackenlaw1.RunesEdges", spec := "runesEdges", inPlace := ["internal/bytealg.IndexByteString", "internal/bytealg.IndexString"], named := ["internal/bytealg.MaxLen", "unicode/utf8.first", "unicode/utf8.acceptRanges"], apart := false, laid := [("unicode/utf8.acceptRanges", laid_unicode_utf8_acceptRanges), ("unicode/utf8.first", laid_unicode_utf8_first)], narrowed := true }
def RunesEdgesUptoSaid : Prop := runesEdgesUptoRow.holds Tryd.pinned (OpenSpec.upto runesEdgesSpec)

/-- 'brackenlaw1.RunesAsks', WHERE WHAT IT READS IS OF BULK AT MOST 1048576: true; the input reads as it did. -/
def runesAsksUptoRow : OpenClaim := { program := "ytiddhaakbcnbiaadoor", sum := "b9cc7085178d2ecb984ce7d35133be506df6307c4986717dc19ec6c954886130", func := "bracken/brackenlaw1.RunesAsks", spec := "runesAsks", inPlace := ["internal/bytealg.IndexByteString", "internal/bytealg.IndexString"], named := ["internal/bytealg.MaxLen", "unicode/utf8.first", "unicode/utf8.acceptRanges"], apart := false, laid := [("unicode/utf8.acceptRanges", laid_unicode_utf8_acceptRanges), ("unicode/utf8.first", laid_unicode_utf8_first)], narrowed := true }
def RunesAsksUptoSaid : Prop := runesAsksUptoRow.holds Tryd.pinned (OpenSpec.upto runesAsksSpec)

/-- 'brackenlaw1.RunesKinds', WHERE WHAT IT READS IS OF BULK AT MOST 1048576: true; the input reads as it did. -/
def runesKindsUptoRow : OpenClaim := { program := "ytiddhaakbcnbiaadoor", sum := "b9cc7085178d2ecb984ce7d35133be506df6307c4986717dc19ec6c954886130", func := "bracken/brackenlaw1.RunesKinds", spec := "runesKinds", inPlace := ["internal/bytealg.IndexByteString", "internal/bytealg.IndexString"], named := ["internal/bytealg.MaxLen", "unicode/utf8.first", "unicode/utf8.acceptRanges"], apart := false, laid := [("unicode/utf8.acceptRanges", laid_unicode_utf8_acceptRanges), ("unicode/utf8.first", laid_unicode_utf8_first)], narrowed := true }
def RunesKindsUptoSaid : Prop := runesKindsUptoRow.holds Tryd.pinned (OpenSpec.upto runesKindsSpec)

/-- 'brackenlaw1.RunesSplits', WHERE WHAT IT READS IS OF BULK AT MOST 1048576: true; the input reads as it did. -/
def runesSplitsUptoRow : OpenClaim := { program := "ytiddhaakbcnbiaadoor", sum := "b9cc7085178d2ecb984ce7d35133be506df6307c4986717dc19ec6c954886130", func := "bracken/brackenlaw1.RunesSplits", spec := "runesSplits", inPlace := ["internal/bytealg.IndexByteString", "internal/bytealg.IndexString"], named := ["internal/bytealg.MaxLen", "unicode/utf8.first", "unicode/utf8.acceptRanges"], apart := false, laid := [("unicode/utf8.acceptRanges", laid_unicode_utf8_acceptRanges), ("unicode/utf8.first", laid_unicode_utf8_first)], narrowed := true }
def RunesSplitsUptoSaid : Prop := runesSplitsUptoRow.holds Tryd.pinned (OpenSpec.upto runesSplitsSpec)

/-- 'brackenlaw1.RunesNames', WHERE WHAT IT READS IS OF BULK AT MOST 1048576: true; the input reads as it did. -/
def runesNamesUptoRow : OpenClaim := { program := "ytiddhaakbcnbiaadoor", sum := "b9cc7085178d2ecb984ce7d35133be506df6307c4986717dc19ec6c954886130", func := "bracken/brackenlaw1.RunesNames", spec := "runesNames", inPlace := ["internal/bytealg.IndexByteString", "internal/bytealg.IndexString"], named := ["internal/bytealg.MaxLen", "unicode/utf8.first", "unicode/utf8.acceptRanges"], apart := false, laid := [("unicode/utf8.acceptRanges", laid_unicode_utf8_acceptRanges), ("unicode/utf8.first", laid_unicode_utf8_first)], narrowed := true }
def RunesNamesUptoSaid : Prop := runesNamesUptoRow.holds Tryd.pinned (OpenSpec.upto runesNamesSpec)

/-- 'brackenlaw1.RunesBlanks', WHERE WHAT IT READS IS OF BULK AT MOST 1048576: true; the input reads as it did. -/
def runesBlanksUptoRow : OpenClaim := { program := "ytiddhaakbcnbiaadoor", sum := "b9cc7085178d2ecb984ce7d35133be506df6307c4986717dc19ec6c954886130", func := "bracken/brackenlaw1.RunesBlanks", spec := "runesBlanks", inPlace := ["internal/bytealg.IndexByteString", "internal/bytealg.IndexString"], named := ["internal/bytealg.MaxLen", "unicode/utf8.first", "unicode/utf8.acceptRanges"], apart := false, laid := [("unicode/utf8.acceptRanges", laid_unicode_utf8_acceptRanges), ("unicode/utf8.first", laid_unicode_utf8_first)], narrowed := true }
def RunesBlanksUptoSaid : Prop := runesBlanksUptoRow.holds Tryd.pinned (OpenSpec.upto runesBlanksSpec)

/-- 'brackenlaw2.TextBad', WHERE WHAT IT READS IS OF BULK AT MOST 1048576: true; the input reads as it did. -/
def textBadUptoRow : OpenClaim := { program := "ytiddhaakbcnbiaadoor", sum := "b9cc7085178d2ecb984ce7d35133be506df6307c4986717dc19ec6c954886130", func := "bracken/brackenlaw2.TextBad", spec := "textBad", inPlace := ["internal/bytealg.CountString", "internal/bytealg.IndexByteString", "internal/bytealg.IndexString", "internal/abi.NoEscape", "internal/bytealg.MakeNoZero"], named := ["unicode/utf8.first", "unicode/utf8.acceptRanges", "internal/bytealg.MaxLen"], apart := false, laid := [("unicode/utf8.acceptRanges", laid_unicode_utf8_acceptRanges), ("unicode/utf8.first", laid_unicode_utf8_first)], narrowed := true }
def TextBadUptoSaid : Prop := textBadUptoRow.holds Tryd.pinned (OpenSpec.upto textBadSpec)

/-- 'brackenlaw2.TextAsks', WHERE WHAT IT READS IS OF BULK AT MOST 1048576: true; the input reads as it did. -/
def textAsksUptoRow : OpenClaim := { program := "ytiddhaakbcnbiaadoor", sum := "b9cc7085178d2ecb984ce7d35133be506df6307c4986717dc19ec6c954886130", func := "bracken/brackenlaw2.TextAsks", spec := "textAsks", inPlace := ["internal/bytealg.CountString", "internal/bytealg.IndexByteString", "internal/bytealg.IndexString", "internal/abi.NoEscape", "internal/bytealg.MakeNoZero"], named := ["unicode/utf8.first", "unicode/utf8.acceptRanges", "internal/bytealg.MaxLen"], apart := false, laid := [("unicode/utf8.acceptRanges", laid_unicode_utf8_acceptRanges), ("unicode/utf8.first", laid_unicode_utf8_first)], narrowed := true }
def TextAsksUptoSaid : Prop := textAsksUptoRow.holds Tryd.pinned (OpenSpec.upto textAsksSpec)

/-- 'brackenlaw2.TextRunes', WHERE WHAT IT READS IS OF BULK AT MOST 1048576: true; the input reads as it did. -/
def textRunesUptoRow : OpenClaim := { program := "ytiddhaakbcnbiaadoor", sum := "b9cc7085178d2ecb984ce7d35133be506df6307c4986717dc19ec6c954886130", func := "bracken/brackenlaw2.TextRunes", spec := "textRunes", inPlace := ["internal/bytealg.CountString", "internal/bytealg.IndexByteString", "internal/bytealg.IndexString", "internal/abi.NoEscape", "internal/bytealg.MakeNoZero"], named := ["unicode/utf8.first", "unicode/utf8.acceptRanges", "internal/bytealg.MaxLen"], apart := false, laid := [("unicode/utf8.acceptRanges", laid_unicode_utf8_acceptRanges), ("unicode/utf8.first", laid_unicode_utf8_first)], narrowed := true }
def TextRunesUptoSaid : Prop := textRunesUptoRow.holds Tryd.pinned (OpenSpec.upto textRunesSpec)

/-- 'brackenlaw2.TextEnds', WHERE WHAT IT READS IS OF BULK AT MOST 1048576: true; the input reads as it did. -/
def textEndsUptoRow : OpenClaim := { program := "ytiddhaakbcnbiaadoor", sum := "b9cc7085178d2ecb984ce7d35133be506df6307c4986717dc19ec6c954886130", func := "bracken/brackenlaw2.TextEnds", spec := "textEnds", inPlace := ["internal/bytealg.CountString", "internal/bytealg.IndexByteString", "internal/bytealg.IndexString", "internal/abi.NoEscape", "internal/bytealg.MakeNoZero"], named := ["unicode/utf8.first", "unicode/utf8.acceptRanges", "internal/bytealg.MaxLen"], apart := false, laid := [("unicode/utf8.acceptRanges", laid_unicode_utf8_acceptRanges), ("unicode/utf8.first", laid_unicode_utf8_first)], narrowed := true }
def TextEndsUptoSaid : Prop := textEndsUptoRow.holds Tryd.pinned (OpenSpec.upto textEndsSpec)

/-- 'brackenlaw2.TextMark', WHERE WHAT IT READS IS OF BULK AT MOST 1048576: true; the input reads as it did. -/
def textMarkUptoRow : OpenClaim := { program := "ytiddhaakbcnbiaadoor", sum := "b9cc7085178d2ecb984ce7d35133be506df6307c4986717dc19ec6c954886130", func := "bracken/brackenlaw2.TextMark", spec := "textMark", inPlace := ["internal/bytealg.CountString", "internal/bytealg.IndexByteString", "internal/bytealg.IndexString", "internal/abi.NoEscape", "internal/bytealg.MakeNoZero"], named := ["unicode/utf8.first", "unicode/utf8.acceptRanges", "internal/bytealg.MaxLen"], apart := false, laid := [("unicode/utf8.acceptRanges", laid_unicode_utf8_acceptRanges), ("unicode/utf8.first", laid_unicode_utf8_first)], narrowed := true }
def TextMarkUptoSaid : Prop := textMarkUptoRow.holds Tryd.pinned (OpenSpec.upto textMarkSpec)

/-- 'brackenlaw2.TextParts', WHERE WHAT IT READS IS OF BULK AT MOST 1048576: true; the input reads as it did. -/
def textPartsUptoRow : OpenClaim := { program := "ytiddhaakbcnbiaadoor", sum := "b9cc7085178d2ecb984ce7d35133be506df6307c4986717dc19ec6c954886130", func := "bracken/brackenlaw2.TextParts", spec := "textParts", inPlace := ["internal/bytealg.CountString", "internal/bytealg.IndexByteString", "internal/bytealg.IndexString", "internal/abi.NoEscape", "internal/bytealg.MakeNoZero"], named := ["unicode/utf8.first", "unicode/utf8.acceptRanges", "internal/bytealg.MaxLen"], apart := false, laid := [("unicode/utf8.acceptRanges", laid_unicode_utf8_acceptRanges), ("unicode/utf8.first", laid_unicode_utf8_first)], narrowed := true }
def TextPartsUptoSaid : Prop := textPartsUptoRow.holds Tryd.pinned (OpenSpec.upto textPartsSpec)

end Rows
end Go.Proofs.YtiddhaakbcnbiaaDoor
