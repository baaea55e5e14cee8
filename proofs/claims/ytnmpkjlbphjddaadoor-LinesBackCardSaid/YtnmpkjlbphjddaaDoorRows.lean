/-
  NARROWER THAN 'FOR EVERY INPUT', by the rows' own cells (each row's printed sentence says how): TextRests: laid · LinesWithin: laid · LinesDown: laid · LinesGo: laid · LinesBack: laid · LineLeft: laid · LineRight: laid · LineZero: laid · LineCaret: laid · LineDollar: laid · LineDown: laid · LineUp: laid · LinePlus: laid · LineMinus: laid · LineUnder: laid · LineLast: laid · LineTop: laid · LinesFirst: laid.
  DERIVED. THE GIVEN ROWS OF THIS SEAT. 18 by the template 'for every input the law returns true; each argument reads behind the call as it read before'; 0 by the template 'total and deterministic' (their statements: YtnmpkjlbphjddaaDoorTotals.lean).
  GIVEN WITH THE SEED: the statements are not yours to turn. If you find one false, say at which input.
  Laid BY PROGRAM, IN A SANDBOX (cutbox-rows.mjs): the forced cells as the released guide's own fill.sh prints them over the translation 74483f1d17bb0c32… (all of the seat's roots in one cut). By AI agents, Wed Nov 11 2026. No macro, syntax, notation, axiom, sorry.
-/
import Derived.Test.YtnmpkjlbphjddaaDoorChecked
import GoSem.PinnedTables
import GoSem.Claim
import GoSem.ClaimJoined
import GoSem.ClaimMapViews
import Derived.JoinedTies
import Derived.KernelRfl
namespace Go.Proofs.YtnmpkjlbphjddaaDoor
/- THE CELL 'sum', in the pinned program and in every row, IS THE sha256 OF THE DUMP (.gsa) THAT YtnmpkjlbphjddaaDoorProg.lean LOADS. Nothing in Lean hashes anything: it is a label: what it is worth is what the hold of that sum in a sandbox is worth. -/
noncomputable def Tryd.pinned : Pinned := { name := "ytnmpkjlbphjddaadoor", sum := "74483f1d17bb0c323c72ff7dc9e452417acfafa68132fd88bd566ea89fc05336", checked := Tryd.checked }
namespace Rows
def none {H : Type} : Left H := { results := [], args := [] }

/- WHAT THE LISTED PACKAGE-LEVEL VARIABLES READ AS WHEN THE CALL BEGINS. Each datum BY PROGRAM (the guide's laid-datum.mjs) off the statement by which the dump's own 'gosem.cut.vars' lays the variable. In a bare row this is a premise. The card (YtnmpkjlbphjddaaDoorCards.lean) ties it to the program's text. -/
def laid_unicode_utf8_acceptRanges {H : Type} : DataW H := .agg [.agg [.lit (.int .u8 128), .lit (.int .u8 191)], .agg [.lit (.int .u8 160), .lit (.int .u8 191)], .agg [.lit (.int .u8 128), .lit (.int .u8 159)], .agg [.lit (.int .u8 144), .lit (.int .u8 191)], .agg [.lit (.int .u8 128), .lit (.int .u8 143)], .agg [.lit (.int .u8 0), .lit (.int .u8 0)], .agg [.lit (.int .u8 0), .lit (.int .u8 0)], .agg [.lit (.int .u8 0), .lit (.int .u8 0)], .agg [.lit (.int .u8 0), .lit (.int .u8 0)], .agg [.lit (.int .u8 0), .lit (.int .u8 0)], .agg [.lit (.int .u8 0), .lit (.int .u8 0)], .agg [.lit (.int .u8 0), .lit (.int .u8 0)], .agg [.lit (.int .u8 0), .lit (.int .u8 0)], .agg [.lit (.int .u8 0), .lit (.int .u8 0)], .agg [.lit (.int .u8 0), .lit (.int .u8 0)], .agg [.lit (.int .u8 0), .lit (.int .u8 0)]]
/-- One of Go's own tables, pinned by name: the form's constant. -/
def laid_unicode_utf8_first : DataW Unit := Go.Pinned.utf8First

/-- 'quilllaw1.TextRests': WHATEVER THE INPUT: true; the input reads as it did. -/
def textRestsSpec : ChangeSpec := { name := "textRests", fn := fun _ => fun
  | [d] => { results := [.lit (.bool true)], args := [d] }
  | _ => none }
def textRestsRow : OpenClaim := { program := "ytnmpkjlbphjddaadoor", sum := "74483f1d17bb0c323c72ff7dc9e452417acfafa68132fd88bd566ea89fc05336", func := "quill/quilllaw1.TextRests", spec := "textRests", inPlace := ["internal/bytealg.IndexByteString"], named := ["unicode/utf8.first", "unicode/utf8.acceptRanges"], apart := false, laid := [("unicode/utf8.acceptRanges", laid_unicode_utf8_acceptRanges), ("unicode/utf8.first", laid_unicode_utf8_first)] }
def TextRestsSaid : Prop := textRestsRow.holds Tryd.pinned (OpenSpec.ofChange textRestsSpec)

/-- ITS FALSE NEIGHBOUR: 'it returns false'. Refute it at one input. -/
def textRestsWrong : ChangeSpec := { name := "textRests", fn := fun _ => fun
  | [d] => { results := [.lit (.bool false)], args := [d] }
  | _ => none }
def TextRestsWrongFalsely : Prop := textRestsRow.holds Tryd.pinned (OpenSpec.ofChange textRestsWrong)

/-- 'quilllaw12.LinesWithin': WHATEVER THE INPUT: true; the input reads as it did. -/
def linesWithinSpec : ChangeSpec := { name := "linesWithin", fn := fun _ => fun
  | [d] => { results := [.lit (.bool true)], args := [d] }
  | _ => none }
def linesWithinRow : OpenClaim := { program := "ytnmpkjlbphjddaadoor", sum := "74483f1d17bb0c323c72ff7dc9e452417acfafa68132fd88bd566ea89fc05336", func := "quill/quilllaw12.LinesWithin", spec := "linesWithin", inPlace := ["internal/bytealg.IndexByteString", "internal/bytealg.IndexString"], named := ["unicode/utf8.first", "unicode/utf8.acceptRanges", "internal/bytealg.MaxLen"], apart := false, laid := [("unicode/utf8.acceptRanges", laid_unicode_utf8_acceptRanges), ("unicode/utf8.first", laid_unicode_utf8_first)] }
def LinesWithinSaid : Prop := linesWithinRow.holds Tryd.pinned (OpenSpec.ofChange linesWithinSpec)

/-- ITS FALSE NEIGHBOUR: 'it returns false'. Refute it at one input. -/
def linesWithinWrong : ChangeSpec := { name := "linesWithin", fn := fun _ => fun
  | [d] => { results := [.lit (.bool false)], args := [d] }
  | _ => none }
def LinesWithinWrongFalsely : Prop := linesWithinRow.holds Tryd.pinned (OpenSpec.ofChange linesWithinWrong)

/-- 'quilllaw12.LinesDown': WHATEVER THE INPUT: true; the input reads as it did. -/
def linesDownSpec : ChangeSpec := { name := "linesDown", fn := fun _ => fun
  | [d] => { results := [.lit (.bool true)], args := [d] }
  | _ => none }
def linesDownRow : OpenClaim := { program := "ytnmpkjlbphjddaadoor", sum := "74483f1d17bb0c323c72ff7dc9e452417acfafa68132fd88bd566ea89fc05336", func := "quill/quilllaw12.LinesDown", spec := "linesDown", inPlace := ["internal/bytealg.IndexByteString", "internal/bytealg.IndexString"], named := ["unicode/utf8.first", "unicode/utf8.acceptRanges", "internal/bytealg.MaxLen"], apart := false, laid := [("unicode/utf8.acceptRanges", laid_unicode_utf8_acceptRanges), ("unicode/utf8.first", laid_unicode_utf8_first)] }
def LinesDownSaid : Prop := linesDownRow.holds Tryd.pinned (OpenSpec.ofChange linesDownSpec)

/-- ITS FALSE NEIGHBOUR: 'it returns false'. Refute it at one input. -/
def linesDownWrong : ChangeSpec := { name := "linesDown", fn := fun _ => fun
  | [d] => { results := [.lit (.bool false)], args := [d] }
  | _ => none }
def LinesDownWrongFalsely : Prop := linesDownRow.holds Tryd.pinned (OpenSpec.ofChange linesDownWrong)

/-- 'quilllaw12.LinesGo': WHATEVER THE INPUT: true; the input reads as it did. -/
def linesGoSpec : ChangeSpec := { name := "linesGo", fn := fun _ => fun
  | [d] => { results := [.lit (.bool true)], args := [d] }
  | _ => none }
def linesGoRow : OpenClaim := { program := "ytnmpkjlbphjddaadoor", sum := "74483f1d17bb0c323c72ff7dc9e452417acfafa68132fd88bd566ea89fc05336", func := "quill/quilllaw12.LinesGo", spec := "linesGo", inPlace := ["internal/bytealg.IndexByteString", "internal/bytealg.IndexString"], named := ["unicode/utf8.first", "unicode/utf8.acceptRanges", "internal/bytealg.MaxLen"], apart := false, laid := [("unicode/utf8.acceptRanges", laid_unicode_utf8_acceptRanges), ("unicode/utf8.first", laid_unicode_utf8_first)] }
def LinesGoSaid : Prop := linesGoRow.holds Tryd.pinned (OpenSpec.ofChange linesGoSpec)

/-- ITS FALSE NEIGHBOUR: 'it returns false'. Refute it at one input. -/
def linesGoWrong : ChangeSpec := { name := "linesGo", fn := fun _ => fun
  | [d] => { results := [.lit (.bool false)], args := [d] }
  | _ => none }
def LinesGoWrongFalsely : Prop := linesGoRow.holds Tryd.pinned (OpenSpec.ofChange linesGoWrong)

/-- 'quilllaw12.LinesBack': WHATEVER THE INPUT: true; the input reads as it did. -/
def linesBackSpec : ChangeSpec := { name := "linesBack", fn := fun _ => fun
  | [d] => { results := [.lit (.bool true)], args := [d] }
  | _ => none }
def linesBackRow : OpenClaim := { program := "ytnmpkjlbphjddaadoor", sum := "74483f1d17bb0c323c72ff7dc9e452417acfafa68132fd88bd566ea89fc05336", func := "quill/quilllaw12.LinesBack", spec := "linesBack", inPlace := ["internal/bytealg.IndexByteString", "internal/bytealg.IndexString"], named := ["unicode/utf8.first", "unicode/utf8.acceptRanges", "internal/bytealg.MaxLen"], apart := false, laid := [("unicode/utf8.acceptRanges", laid_unicode_utf8_acceptRanges), ("unicode/utf8.first", laid_unicode_utf8_first)] }
def LinesBackSaid : Prop := linesBackRow.holds Tryd.pinned (OpenSpec.ofChange linesBackSpec)

/-- ITS FALSE NEIGHBOUR: 'it returns false'. Refute it at one input. -/
def linesBackWrong : ChangeSpec := { name := "linesBack", fn := fun _ => fun
  | [d] => { results := [.lit (.bool false)], args := [d] }
  | _ => none }
def LinesBackWrongFalsely : Prop := linesBackRow.holds Tryd.pinned (OpenSpec.ofChange linesBackWrong)

/-- 'quilllaw12.LineLeft': WHATEVER THE INPUT: true; the input reads as it did. -/
def lineLeftSpec : ChangeSpec := { name := "lineLeft", fn := fun _ => fun
  | [d] => { results := [.lit (.bool true)], args := [d] }
  | _ => none }
def lineLeftRow : OpenClaim := { program := "ytnmpkjlbphjddaadoor", sum := "74483f1d17bb0c323c72ff7dc9e452417acfafa68132fd88bd566ea89fc05336", func := "quill/quilllaw12.LineLeft", spec := "lineLeft", inPlace := ["internal/bytealg.IndexByteString", "internal/bytealg.IndexString"], named := ["unicode/utf8.first", "unicode/utf8.acceptRanges", "internal/bytealg.MaxLen"], apart := false, laid := [("unicode/utf8.acceptRanges", laid_unicode_utf8_acceptRanges), ("unicode/utf8.first", laid_unicode_utf8_first)] }
def LineLeftSaid : Prop := lineLeftRow.holds Tryd.pinned (OpenSpec.ofChange lineLeftSpec)

/-- ITS FALSE NEIGHBOUR: 'it returns false'. Refute it at one input. -/
def lineLeftWrong : ChangeSpec := { name := "lineLeft", fn := fun _ => fun
  | [d] => { results := [.lit (.bool false)], args := [d] }
  | _ => none }
def LineLeftWrongFalsely : Prop := lineLeftRow.holds Tryd.pinned (OpenSpec.ofChange lineLeftWrong)

/-- 'quilllaw12.LineRight': WHATEVER THE INPUT: true; the input reads as it did. -/
def lineRightSpec : ChangeSpec := { name := "lineRight", fn := fun _ => fun
  | [d] => { results := [.lit (.bool true)], args := [d] }
  | _ => none }
def lineRightRow : OpenClaim := { program := "ytnmpkjlbphjddaadoor", sum := "74483f1d17bb0c323c72ff7dc9e452417acfafa68132fd88bd566ea89fc05336", func := "quill/quilllaw12.LineRight", spec := "lineRight", inPlace := ["internal/bytealg.IndexByteString", "internal/bytealg.IndexString"], named := ["unicode/utf8.first", "unicode/utf8.acceptRanges", "internal/bytealg.MaxLen"], apart := false, laid := [("unicode/utf8.acceptRanges", laid_unicode_utf8_acceptRanges), ("unicode/utf8.first", laid_unicode_utf8_first)] }
def LineRightSaid : Prop := lineRightRow.holds Tryd.pinned (OpenSpec.ofChange lineRightSpec)

/-- ITS FALSE NEIGHBOUR: 'it returns false'. Refute it at one input. -/
def lineRightWrong : ChangeSpec := { name := "lineRight", fn := fun _ => fun
  | [d] => { results := [.lit (.bool false)], args := [d] }
  | _ => none }
def LineRightWrongFalsely : Prop := lineRightRow.holds Tryd.pinned (OpenSpec.ofChange lineRightWrong)

/-- 'quilllaw12.LineZero': WHATEVER THE INPUT: true; the input reads as it did. -/
def lineZeroSpec : ChangeSpec := { name := "lineZero", fn := fun _ => fun
  | [d] => { results := [.lit (.bool true)], args := [d] }
  | _ => none }
def lineZeroRow : OpenClaim := { program := "ytnmpkjlbphjddaadoor", sum := "74483f1d17bb0c323c72ff7dc9e452417acfafa68132fd88bd566ea89fc05336", func := "quill/quilllaw12.LineZero", spec := "lineZero", inPlace := ["internal/bytealg.IndexByteString", "internal/bytealg.IndexString"], named := ["unicode/utf8.first", "unicode/utf8.acceptRanges", "internal/bytealg.MaxLen"], apart := false, laid := [("unicode/utf8.acceptRanges", laid_unicode_utf8_acceptRanges), ("unicode/utf8.first", laid_unicode_utf8_first)] }
def LineZeroSaid : Prop := lineZeroRow.holds Tryd.pinned (OpenSpec.ofChange lineZeroSpec)

/-- ITS FALSE NEIGHBOUR: 'it returns false'. Refute it at one input. -/
def lineZeroWrong : ChangeSpec := { name := "lineZero", fn := fun _ => fun
  | [d] => { results := [.lit (.bool false)], args := [d] }
  | _ => none }
def LineZeroWrongFalsely : Prop := lineZeroRow.holds Tryd.pinned (OpenSpec.ofChange lineZeroWrong)

/-- 'quilllaw12.LineCaret': WHATEVER THE INPUT: true; the input reads as it did. -/
def lineCaretSpec : ChangeSpec := { name := "lineCaret", fn := fun _ => fun
  | [d] => { results := [.lit (.bool true)], args := [d] }
  | _ => none }
def lineCaretRow : OpenClaim := { program := "ytnmpkjlbphjddaadoor", sum := "74483f1d17bb0c323c72ff7dc9e452417acfafa68132fd88bd566ea89fc05336", func := "quill/quilllaw12.LineCaret", spec := "lineCaret", inPlace := ["internal/bytealg.IndexByteString", "internal/bytealg.IndexString"], named := ["unicode/utf8.first", "unicode/utf8.acceptRanges", "internal/bytealg.MaxLen"], apart := false, laid := [("unicode/utf8.acceptRanges", laid_unicode_utf8_acceptRanges), ("unicode/utf8.first", laid_unicode_utf8_first)] }
def LineCaretSaid : Prop := lineCaretRow.holds Tryd.pinned (OpenSpec.ofChange lineCaretSpec)

/-- ITS FALSE NEIGHBOUR: 'it returns false'. Refute it at one input. -/
def lineCaretWrong : ChangeSpec := { name := "lineCaret", fn := fun _ => fun
  | [d] => { results := [.lit (.bool false)], args := [d] }
  | _ => none }
def LineCaretWrongFalsely : Prop := lineCaretRow.holds Tryd.pinned (OpenSpec.ofChange lineCaretWrong)

/-- 'quilllaw12.LineDollar': WHATEVER THE INPUT: true; the input reads as it did. -/
def lineDollarSpec : ChangeSpec := { name := "lineDollar", fn := fun _ => fun
  | [d] => { results := [.lit (.bool true)], args := [d] }
  | _ => none }
def lineDollarRow : OpenClaim := { program := "ytnmpkjlbphjddaadoor", sum := "74483f1d17bb0c323c72ff7dc9e452417acfafa68132fd88bd566ea89fc05336", func := "quill/quilllaw12.LineDollar", spec := "lineDollar", inPlace := ["internal/bytealg.IndexByteString", "internal/bytealg.IndexString"], named := ["unicode/utf8.first", "unicode/utf8.acceptRanges", "internal/bytealg.MaxLen"], apart := false, laid := [("unicode/utf8.acceptRanges", laid_unicode_utf8_acceptRanges), ("unicode/utf8.first", laid_unicode_utf8_first)] }
def LineDollarSaid : Prop := lineDollarRow.holds Tryd.pinned (OpenSpec.ofChange lineDollarSpec)

/-- ITS FALSE NEIGHBOUR: 'it returns false'. Refute it at one input. -/
def lineDollarWrong : ChangeSpec := { name := "lineDollar", fn := fun _ => fun
  | [d] => { results := [.lit (.bool false)], args := [d] }
  | _ => none }
def LineDollarWrongFalsely : Prop := lineDollarRow.holds Tryd.pinned (OpenSpec.ofChange lineDollarWrong)

/-- 'quilllaw12.LineDown': WHATEVER THE INPUT: true; the input reads as it did. -/
def lineDownSpec : ChangeSpec := { name := "lineDown", fn := fun _ => fun
  | [d] => { results := [.lit (.bool true)], args := [d] }
  | _ => none }
def lineDownRow : OpenClaim := { program := "ytnmpkjlbphjddaadoor", sum := "74483f1d17bb0c323c72ff7dc9e452417acfafa68132fd88bd566ea89fc05336", func := "quill/quilllaw12.LineDown", spec := "lineDown", inPlace := ["internal/bytealg.IndexByteString", "internal/bytealg.IndexString"], named := ["unicode/utf8.first", "unicode/utf8.acceptRanges", "internal/bytealg.MaxLen"], apart := false, laid := [("unicode/utf8.acceptRanges", laid_unicode_utf8_acceptRanges), ("unicode/utf8.first", laid_unicode_utf8_first)] }
def LineDownSaid : Prop := lineDownRow.holds Tryd.pinned (OpenSpec.ofChange lineDownSpec)

/-- ITS FALSE NEIGHBOUR: 'it returns false'. Refute it at one input. -/
def lineDownWrong : ChangeSpec := { name := "lineDown", fn := fun _ => fun
  | [d] => { results := [.lit (.bool false)], args := [d] }
  | _ => none }
def LineDownWrongFalsely : Prop := lineDownRow.holds Tryd.pinned (OpenSpec.ofChange lineDownWrong)

/-- 'quilllaw12.LineUp': WHATEVER THE INPUT: true; the input reads as it did. -/
def lineUpSpec : ChangeSpec := { name := "lineUp", fn := fun _ => fun
  | [d] => { results := [.lit (.bool true)], args := [d] }
  | _ => none }
def lineUpRow : OpenClaim := { program := "ytnmpkjlbphjddaadoor", sum := "74483f1d17bb0c323c72ff7dc9e452417acfafa68132fd88bd566ea89fc05336", func := "quill/quilllaw12.LineUp", spec := "lineUp", inPlace := ["internal/bytealg.IndexByteString", "internal/bytealg.IndexString"], named := ["unicode/utf8.first", "unicode/utf8.acceptRanges", "internal/bytealg.MaxLen"], apart := false, laid := [("unicode/utf8.acceptRanges", laid_unicode_utf8_acceptRanges), ("unicode/utf8.first", laid_unicode_utf8_first)] }
def LineUpSaid : Prop := lineUpRow.holds Tryd.pinned (OpenSpec.ofChange lineUpSpec)

/-- ITS FALSE NEIGHBOUR: 'it returns false'. Refute it at one input. -/
def lineUpWrong : ChangeSpec := { name := "lineUp", fn := fun _ => fun
  | [d] => { results := [.lit (.bool false)], args := [d] }
  | _ => none }
def LineUpWrongFalsely : Prop := lineUpRow.holds Tryd.pinned (OpenSpec.ofChange lineUpWrong)

/-- 'quilllaw12.LinePlus': WHATEVER THE INPUT: true; the input reads as it did. -/
def linePlusSpec : ChangeSpec := { name := "linePlus", fn := fun _ => fun
  | [d] => { results := [.lit (.bool true)], args := [d] }
  | _ => none }
def linePlusRow : OpenClaim := { program := "ytnmpkjlbphjddaadoor", sum := "74483f1d17bb0c323c72ff7dc9e452417acfafa68132fd88bd566ea89fc05336", func := "quill/quilllaw12.LinePlus", spec := "linePlus", inPlace := ["internal/bytealg.IndexByteString", "internal/bytealg.IndexString"], named := ["unicode/utf8.first", "unicode/utf8.acceptRanges", "internal/bytealg.MaxLen"], apart := false, laid := [("unicode/utf8.acceptRanges", laid_unicode_utf8_acceptRanges), ("unicode/utf8.first", laid_unicode_utf8_first)] }
def LinePlusSaid : Prop := linePlusRow.holds Tryd.pinned (OpenSpec.ofChange linePlusSpec)

/-- ITS FALSE NEIGHBOUR: 'it returns false'. Refute it at one input. -/
def linePlusWrong : ChangeSpec := { name := "linePlus", fn := fun _ => fun
  | [d] => { results := [.lit (.bool false)], args := [d] }
  | _ => none }
def LinePlusWrongFalsely : Prop := linePlusRow.holds Tryd.pinned (OpenSpec.ofChange linePlusWrong)

/-- 'quilllaw12.LineMinus': WHATEVER THE INPUT: true; the input reads as it did. -/
def lineMinusSpec : ChangeSpec := { name := "lineMinus", fn := fun _ => fun
  | [d] => { results := [.lit (.bool true)], args := [d] }
  | _ => none }
def lineMinusRow : OpenClaim := { program := "ytnmpkjlbphjddaadoor", sum := "74483f1d17bb0c323c72ff7dc9e452417acfafa68132fd88bd566ea89fc05336", func := "quill/quilllaw12.LineMinus", spec := "lineMinus", inPlace := ["internal/bytealg.IndexByteString", "internal/bytealg.IndexString"], named := ["unicode/utf8.first", "unicode/utf8.acceptRanges", "internal/bytealg.MaxLen"], apart := false, laid := [("unicode/utf8.acceptRanges", laid_unicode_utf8_acceptRanges), ("unicode/utf8.first", laid_unicode_utf8_first)] }
def LineMinusSaid : Prop := lineMinusRow.holds Tryd.pinned (OpenSpec.ofChange lineMinusSpec)

/-- ITS FALSE NEIGHBOUR: 'it returns false'. Refute it at one input. -/
def lineMinusWrong : ChangeSpec := { name := "lineMinus", fn := fun _ => fun
  | [d] => { results := [.lit (.bool false)], args := [d] }
  | _ => none }
def LineMinusWrongFalsely : Prop := lineMinusRow.holds Tryd.pinned (OpenSpec.ofChange lineMinusWrong)

/-- 'quilllaw12.LineUnder': WHATEVER THE INPUT: true; the input reads as it did. -/
def lineUnderSpec : ChangeSpec := { name := "lineUnder", fn := fun _ => fun
  | [d] => { results := [.lit (.bool true)], args := [d] }
  | _ => none }
def lineUnderRow : OpenClaim := { program := "ytnmpkjlbphjddaadoor", sum := "74483f1d17bb0c323c72ff7dc9e452417acfafa68132fd88bd566ea89fc05336", func := "quill/quilllaw12.LineUnder", spec := "lineUnder", inPlace := ["internal/bytealg.IndexByteString", "internal/bytealg.IndexString"], named := ["unicode/utf8.first", "unicode/utf8.acceptRanges", "internal/bytealg.MaxLen"], apart := false, laid := [("unicode/utf8.acceptRanges", laid_unicode_utf8_acceptRanges), ("unicode/utf8.first", laid_unicode_utf8_first)] }
def LineUnderSaid : Prop := lineUnderRow.holds Tryd.pinned (OpenSpec.ofChange lineUnderSpec)

/-- ITS FALSE NEIGHBOUR: 'it returns false'. Refute it at one input. -/
def lineUnderWrong : ChangeSpec := { name := "lineUnder", fn := fun _ => fun
  | [d] => { results := [.lit (.bool false)], args := [d] }
  | _ => none }
def LineUnderWrongFalsely : Prop := lineUnderRow.holds Tryd.pinned (OpenSpec.ofChange lineUnderWrong)

/-- 'quilllaw12.LineLast': WHATEVER THE INPUT: true; the input reads as it did. -/
def lineLastSpec : ChangeSpec := { name := "lineLast", fn := fun _ => fun
  | [d] => { results := [.lit (.bool true)], args := [d] }
  | _ => none }
def lineLastRow : OpenClaim := { program := "ytnmpkjlbphjddaadoor", sum := "74483f1d17bb0c323c72ff7dc9e452417acfafa68132fd88bd566ea89fc05336", func := "quill/quilllaw12.LineLast", spec := "lineLast", inPlace := ["internal/bytealg.IndexByteString", "internal/bytealg.IndexString"], named := ["unicode/utf8.first", "unicode/utf8.acceptRanges", "internal/bytealg.MaxLen"], apart := false, laid := [("unicode/utf8.acceptRanges", laid_unicode_utf8_acceptRanges), ("unicode/utf8.first", laid_unicode_utf8_first)] }
def LineLastSaid : Prop := lineLastRow.holds Tryd.pinned (OpenSpec.ofChange lineLastSpec)

/-- ITS FALSE NEIGHBOUR: 'it returns false'. Refute it at one input. -/
def lineLastWrong : ChangeSpec := { name := "lineLast", fn := fun _ => fun
  | [d] => { results := [.lit (.bool false)], args := [d] }
  | _ => none }
def LineLastWrongFalsely : Prop := lineLastRow.holds Tryd.pinned (OpenSpec.ofChange lineLastWrong)

/-- 'quilllaw12.LineTop': WHATEVER THE INPUT: true; the input reads as it did. -/
def lineTopSpec : ChangeSpec := { name := "lineTop", fn := fun _ => fun
  | [d] => { results := [.lit (.bool true)], args := [d] }
  | _ => none }
def lineTopRow : OpenClaim := { program := "ytnmpkjlbphjddaadoor", sum := "74483f1d17bb0c323c72ff7dc9e452417acfafa68132fd88bd566ea89fc05336", func := "quill/quilllaw12.LineTop", spec := "lineTop", inPlace := ["internal/bytealg.IndexByteString", "internal/bytealg.IndexString"], named := ["unicode/utf8.first", "unicode/utf8.acceptRanges", "internal/bytealg.MaxLen"], apart := false, laid := [("unicode/utf8.acceptRanges", laid_unicode_utf8_acceptRanges), ("unicode/utf8.first", laid_unicode_utf8_first)] }
def LineTopSaid : Prop := lineTopRow.holds Tryd.pinned (OpenSpec.ofChange lineTopSpec)

/-- ITS FALSE NEIGHBOUR: 'it returns false'. Refute it at one input. -/
def lineTopWrong : ChangeSpec := { name := "lineTop", fn := fun _ => fun
  | [d] => { results := [.lit (.bool false)], args := [d] }
  | _ => none }
def LineTopWrongFalsely : Prop := lineTopRow.holds Tryd.pinned (OpenSpec.ofChange lineTopWrong)

/-- 'quilllaw12.LinesFirst': WHATEVER THE INPUT: true; the input reads as it did. -/
def linesFirstSpec : ChangeSpec := { name := "linesFirst", fn := fun _ => fun
  | [d] => { results := [.lit (.bool true)], args := [d] }
  | _ => none }
def linesFirstRow : OpenClaim := { program := "ytnmpkjlbphjddaadoor", sum := "74483f1d17bb0c323c72ff7dc9e452417acfafa68132fd88bd566ea89fc05336", func := "quill/quilllaw12.LinesFirst", spec := "linesFirst", inPlace := ["internal/bytealg.IndexByteString", "internal/bytealg.IndexString"], named := ["unicode/utf8.first", "unicode/utf8.acceptRanges", "internal/bytealg.MaxLen"], apart := false, laid := [("unicode/utf8.acceptRanges", laid_unicode_utf8_acceptRanges), ("unicode/utf8.first", laid_unicode_utf8_first)] }
def LinesFirstSaid : Prop := linesFirstRow.holds Tryd.pinned (OpenSpec.ofChange linesFirstSpec)

/-- ITS FALSE NEIGHBOUR: 'it returns false'. Refute it at one input. -/
def linesFirstWrong : ChangeSpec := { name := "linesFirst", fn := fun _ => fun
  | [d] => { results := [.lit (.bool false)], args := [d] }
  | _ => none }
def LinesFirstWrongFalsely : Prop := linesFirstRow.holds Tryd.pinned (OpenSpec.ofChange linesFirstWrong)

/- THE SECOND FORM. 'bulk': how many values and letters a reading holds, each counted each time it is reached (what is shared counts as often as it is met; a slice's spare places count too). A statement '..UptoSaid' is the law's where the arguments, and the package variables that the reading takes, are together of bulk at most 1048576: NARROWER than '..Said'. Prove '..Said' where nothing that the law and all that it calls make is longer than what came in: it says more and counts as full. Else prove '..UptoSaid'. A law counts once. -/
mutual
def uptoBulk {H : Type} : DataW H → Nat
  | .lit (.string bytes) => bytes.length + 1
  | .lit _ => 1
  | .nil => 1
  | .ptr d => uptoBulk d + 1
  | .slice elems spare => uptoBulkAll elems + uptoBulkAll spare + 1
  | .agg parts => uptoBulkAll parts + 1
  | .iface _ d => uptoBulk d + 1
  | .map entries => uptoBulkEntries entries + 1
  | .held _ => 1
def uptoBulkAll {H : Type} : List (DataW H) → Nat
  | [] => 0
  | d :: r => uptoBulk d + uptoBulkAll r
def uptoBulkEntries {H : Type} : List (Lit × DataW H) → Nat
  | [] => 0
  | x :: r => uptoBulkEntry x + uptoBulkEntries r
def uptoBulkEntry {H : Type} : Lit × DataW H → Nat
  | (.string bytes, d) => bytes.length + uptoBulk d + 1
  | (_, d) => uptoBulk d + 1
 end
def uptoSmall : (H : Type) → List (DataW H) → Bool := fun _ ds => decide (uptoBulkAll ds ≤ 1048576)
def OpenSpec.upto (s : _root_.Go.ChangeSpec) : _root_.Go.OpenSpec := { _root_.Go.OpenSpec.ofChange s with cond := some uptoSmall }

/-- 'quilllaw1.TextRests', WHERE WHAT IT READS IS OF BULK AT MOST 1048576: true; the input reads as it did. -/
def textRestsUptoRow : OpenClaim := { program := "ytnmpkjlbphjddaadoor", sum := "74483f1d17bb0c323c72ff7dc9e452417acfafa68132fd88bd566ea89fc05336", func := "quill/quilllaw1.TextRests", spec := "textRests", inPlace := ["internal/bytealg.IndexByteString"], named := ["unicode/utf8.first", "unicode/utf8.acceptRanges"], apart := false, laid := [("unicode/utf8.acceptRanges", laid_unicode_utf8_acceptRanges), ("unicode/utf8.first", laid_unicode_utf8_first)], narrowed := true }
def TextRestsUptoSaid : Prop := textRestsUptoRow.holds Tryd.pinned (OpenSpec.upto textRestsSpec)

/-- 'quilllaw12.LinesWithin', WHERE WHAT IT READS IS OF BULK AT MOST 1048576: true; the input reads as it did. -/
def linesWithinUptoRow : OpenClaim := { program := "ytnmpkjlbphjddaadoor", sum := "74483f1d17bb0c323c72ff7dc9e452417acfafa68132fd88bd566ea89fc05336", func := "quill/quilllaw12.LinesWithin", spec := "linesWithin", inPlace := ["internal/bytealg.IndexByteString", "internal/bytealg.IndexString"], named := ["unicode/utf8.first", "unicode/utf8.acceptRanges", "internal/bytealg.MaxLen"], apart := false, laid := [("unicode/utf8.acceptRanges", laid_unicode_utf8_acceptRanges), ("unicode/utf8.first", laid_unicode_utf8_first)], narrowed := true }
def LinesWithinUptoSaid : Prop := linesWithinUptoRow.holds Tryd.pinned (OpenSpec.upto linesWithinSpec)

/-- 'quilllaw12.LinesDown', WHERE WHAT IT READS IS OF BULK AT MOST 1048576: true; the input reads as it did. -/
def linesDownUptoRow : OpenClaim := { program := "ytnmpkjlbphjddaadoor", sum := "74483f1d17bb0c323c72ff7dc9e452417acfafa68132fd88bd566ea89fc05336", func := "quill/quilllaw12.LinesDown", spec := "linesDown", inPlace := ["internal/bytealg.IndexByteString", "internal/bytealg.IndexString"], named := ["unicode/utf8.first", "unicode/utf8.acceptRanges", "internal/bytealg.MaxLen"], apart := false, laid := [("unicode/utf8.acceptRanges", laid_unicode_utf8_acceptRanges), ("unicode/utf8.first", laid_unicode_utf8_first)], narrowed := true }
def LinesDownUptoSaid : Prop := linesDownUptoRow.holds Tryd.pinned (OpenSpec.upto linesDownSpec)

/-- 'quilllaw12.LinesGo', WHERE WHAT IT READS IS OF BULK AT MOST 1048576: true; the input reads as it did. -/
def linesGoUptoRow : OpenClaim := { program := "ytnmpkjlbphjddaadoor", sum := "74483f1d17bb0c323c72ff7dc9e452417acfafa68132fd88bd566ea89fc05336", func := "quill/quilllaw12.LinesGo", spec := "linesGo", inPlace := ["internal/bytealg.IndexByteString", "internal/bytealg.IndexString"], named := ["unicode/utf8.first", "unicode/utf8.acceptRanges", "internal/bytealg.MaxLen"], apart := false, laid := [("unicode/utf8.acceptRanges", laid_unicode_utf8_acceptRanges), ("unicode/utf8.first", laid_unicode_utf8_first)], narrowed := true }
def LinesGoUptoSaid : Prop := linesGoUptoRow.holds Tryd.pinned (OpenSpec.upto linesGoSpec)

/-- 'quilllaw12.LinesBack', WHERE WHAT IT READS IS OF BULK AT MOST 1048576: true; the input reads as it did. -/
def linesBackUptoRow : OpenClaim := { program := "ytnmpkjlbphjddaadoor", sum := "74483f1d17bb0c323c72ff7dc9e452417acfafa68132fd88bd566ea89fc05336", func := "quill/quilllaw12.LinesBack", spec := "linesBack", inPlace := ["internal/bytealg.IndexByteString", "internal/bytealg.IndexString"], named := ["unicode/utf8.first", "unicode/utf8.acceptRanges", "internal/bytealg.MaxLen"], apart := false, laid := [("unicode/utf8.acceptRanges", laid_unicode_utf8_acceptRanges), ("unicode/utf8.first", laid_unicode_utf8_first)], narrowed := true }
def LinesBackUptoSaid : Prop := linesBackUptoRow.holds Tryd.pinned (OpenSpec.upto linesBackSpec)

/-- 'quilllaw12.LineLeft', WHERE WHAT IT READS IS OF BULK AT MOST 1048576: true; the input reads as it did. -/
def lineLeftUptoRow : OpenClaim := { program := "ytnmpkjlbphjddaadoor", sum := "74483f1d17bb0c323c72ff7dc9e452417acfafa68132fd88bd566ea89fc05336", func := "quill/quilllaw12.LineLeft", spec := "lineLeft", inPlace := ["internal/bytealg.IndexByteString", "internal/bytealg.IndexString"], named := ["unicode/utf8.first", "unicode/utf8.acceptRanges", "internal/bytealg.MaxLen"], apart := false, laid := [("unicode/utf8.acceptRanges", laid_unicode_utf8_acceptRanges), ("unicode/utf8.first", laid_unicode_utf8_first)], narrowed := true }
def LineLeftUptoSaid : Prop := lineLeftUptoRow.holds Tryd.pinned (OpenSpec.upto lineLeftSpec)

/-- 'quilllaw12.LineRight', WHERE WHAT IT READS IS OF BULK AT MOST 1048576: true; the input reads as it did. -/
def lineRightUptoRow : OpenClaim := { program := "ytnmpkjlbphjddaadoor", sum := "74483f1d17bb0c323c72ff7dc9e452417acfafa68132fd88bd566ea89fc05336", func := "quill/quilllaw12.LineRight", spec := "lineRight", inPlace := ["internal/bytealg.IndexByteString", "internal/bytealg.IndexString"], named := ["unicode/utf8.first", "unicode/utf8.acceptRanges", "internal/bytealg.MaxLen"], apart := false, laid := [("unicode/utf8.acceptRanges", laid_unicode_utf8_acceptRanges), ("unicode/utf8.first", laid_unicode_utf8_first)], narrowed := true }
def LineRightUptoSaid : Prop := lineRightUptoRow.holds Tryd.pinned (OpenSpec.upto lineRightSpec)

/-- 'quilllaw12.LineZero', WHERE WHAT IT READS IS OF BULK AT MOST 1048576: true; the input reads as it did. -/
def lineZeroUptoRow : OpenClaim := { program := "ytnmpkjlbphjddaadoor", sum := "74483f1d17bb0c323c72ff7dc9e452417acfafa68132fd88bd566ea89fc05336", func := "quill/quilllaw12.LineZero", spec := "lineZero", inPlace := ["internal/bytealg.IndexByteString", "internal/bytealg.IndexString"], named := ["unicode/utf8.first", "unicode/utf8.acceptRanges", "internal/bytealg.MaxLen"], apart := false, laid := [("unicode/utf8.acceptRanges", laid_unicode_utf8_acceptRanges), ("unicode/utf8.first", laid_unicode_utf8_first)], narrowed := true }
def LineZeroUptoSaid : Prop := lineZeroUptoRow.holds Tryd.pinned (OpenSpec.upto lineZeroSpec)

/-- 'quilllaw12.LineCaret', WHERE WHAT IT READS IS OF BULK AT MOST 1048576: true; the input reads as it did. -/
def lineCaretUptoRow : OpenClaim := { program := "ytnmpkjlbphjddaadoor", sum := "74483f1d17bb0c323c72ff7dc9e452417acfafa68132fd88bd566ea89fc05336", func := "quill/quilllaw12.LineCaret", spec := "lineCaret", inPlace := ["internal/bytealg.IndexByteString", "internal/bytealg.IndexString"], named := ["unicode/utf8.first", "unicode/utf8.acceptRanges", "internal/bytealg.MaxLen"], apart := false, laid := [("unicode/utf8.acceptRanges", laid_unicode_utf8_acceptRanges), ("unicode/utf8.first", laid_unicode_utf8_first)], narrowed := true }
def LineCaretUptoSaid : Prop := lineCaretUptoRow.holds Tryd.pinned (OpenSpec.upto lineCaretSpec)

/-- 'quilllaw12.LineDollar', WHERE WHAT IT READS IS OF BULK AT MOST 1048576: true; the input reads as it did. -/
def lineDollarUptoRow : OpenClaim := { program := "ytnmpkjlbphjddaadoor", sum := "74483f1d17bb0c323c72ff7dc9e452417acfafa68132fd88bd566ea89fc05336", func := "quill/quilllaw12.LineDollar", spec := "lineDollar", inPlace := ["internal/bytealg.IndexByteString", "internal/bytealg.IndexString"], named := ["unicode/utf8.first", "unicode/utf8.acceptRanges", "internal/bytealg.MaxLen"], apart := false, laid := [("unicode/utf8.acceptRanges", laid_unicode_utf8_acceptRanges), ("unicode/utf8.first", laid_unicode_utf8_first)], narrowed := true }
def LineDollarUptoSaid : Prop := lineDollarUptoRow.holds Tryd.pinned (OpenSpec.upto lineDollarSpec)

/-- 'quilllaw12.LineDown', WHERE WHAT IT READS IS OF BULK AT MOST 1048576: true; the input reads as it did. -/
def lineDownUptoRow : OpenClaim := { program := "ytnmpkjlbphjddaadoor", sum := "74483f1d17bb0c323c72ff7dc9e452417acfafa68132fd88bd566ea89fc05336", func := "quill/quilllaw12.LineDown", spec := "lineDown", inPlace := ["internal/bytealg.IndexByteString", "internal/bytealg.IndexString"], named := ["unicode/utf8.first", "unicode/utf8.acceptRanges", "internal/bytealg.MaxLen"], apart := false, laid := [("unicode/utf8.acceptRanges", laid_unicode_utf8_acceptRanges), ("unicode/utf8.first", laid_unicode_utf8_first)], narrowed := true }
def LineDownUptoSaid : Prop := lineDownUptoRow.holds Tryd.pinned (OpenSpec.upto lineDownSpec)

/-- 'quilllaw12.LineUp', WHERE WHAT IT READS IS OF BULK AT MOST 1048576: true; the input reads as it did. -/
def lineUpUptoRow : OpenClaim := { program := "ytnmpkjlbphjddaadoor", sum := "74483f1d17bb0c323c72ff7dc9e452417acfafa68132fd88bd566ea89fc05336", func := "quill/quilllaw12.LineUp", spec := "lineUp", inPlace := ["internal/bytealg.IndexByteString", "internal/bytealg.IndexString"], named := ["unicode/utf8.first", "unicode/utf8.acceptRanges", "internal/bytealg.MaxLen"], apart := false, laid := [("unicode/utf8.acceptRanges", laid_unicode_utf8_acceptRanges), ("unicode/utf8.first", laid_unicode_utf8_first)], narrowed := true }
def LineUpUptoSaid : Prop := lineUpUptoRow.holds Tryd.pinned (OpenSpec.upto lineUpSpec)

/-- 'quilllaw12.LinePlus', WHERE WHAT IT READS IS OF BULK AT MOST 1048576: true; the input reads as it did. -/
def linePlusUptoRow : OpenClaim := { program := "ytnmpkjlbphjddaadoor", sum := "74483f1d17bb0c323c72ff7dc9e452417acfafa68132fd88bd566ea89fc05336", func := "quill/quilllaw12.LinePlus", spec := "linePlus", inPlace := ["internal/bytealg.IndexByteString", "internal/bytealg.IndexString"], named := ["unicode/utf8.first", "unicode/utf8.acceptRanges", "internal/bytealg.MaxLen"], apart := false, laid := [("unicode/utf8.acceptRanges", laid_unicode_utf8_acceptRanges), ("unicode/utf8.first", laid_unicode_utf8_first)], narrowed := true }
def LinePlusUptoSaid : Prop := linePlusUptoRow.holds Tryd.pinned (OpenSpec.upto linePlusSpec)

/-- 'quilllaw12.LineMinus', WHERE WHAT IT READS IS OF BULK AT MOST 1048576: true; the input reads as it did. -/
def lineMinusUptoRow : OpenClaim := { program := "ytnmpkjlbphjddaadoor", sum := "74483f1d17bb0c323c72ff7dc9e452417acfafa68132fd88bd566ea89fc05336", func := "quill/quilllaw12.LineMinus", spec := "lineMinus", inPlace := ["internal/bytealg.IndexByteString", "internal/bytealg.IndexString"], named := ["unicode/utf8.first", "unicode/utf8.acceptRanges", "internal/bytealg.MaxLen"], apart := false, laid := [("unicode/utf8.acceptRanges", laid_unicode_utf8_acceptRanges), ("unicode/utf8.first", laid_unicode_utf8_first)], narrowed := true }
def LineMinusUptoSaid : Prop := lineMinusUptoRow.holds Tryd.pinned (OpenSpec.upto lineMinusSpec)

/-- 'quilllaw12.LineUnder', WHERE WHAT IT READS IS OF BULK AT MOST 1048576: true; the input reads as it did. -/
def lineUnderUptoRow : OpenClaim := { program := "ytnmpkjlbphjddaadoor", sum := "74483f1d17bb0c323c72ff7dc9e452417acfafa68132fd88bd566ea89fc05336", func := "quill/quilllaw12.LineUnder", spec := "lineUnder", inPlace := ["internal/bytealg.IndexByteString", "internal/bytealg.IndexString"], named := ["unicode/utf8.first", "unicode/utf8.acceptRanges", "internal/bytealg.MaxLen"], apart := false, laid := [("unicode/utf8.acceptRanges", laid_unicode_utf8_acceptRanges), ("unicode/utf8.first", laid_unicode_utf8_first)], narrowed := true }
def LineUnderUptoSaid : Prop := lineUnderUptoRow.holds Tryd.pinned (OpenSpec.upto lineUnderSpec)

/-- 'quilllaw12.LineLast', WHERE WHAT IT READS IS OF BULK AT MOST 1048576: true; the input reads as it did. -/
def lineLastUptoRow : OpenClaim := { program := "ytnmpkjlbphjddaadoor", sum := "74483f1d17bb0c323c72ff7dc9e452417acfafa68132fd88bd566ea89fc05336", func := "quill/quilllaw12.LineLast", spec := "lineLast", inPlace := ["internal/bytealg.IndexByteString", "internal/bytealg.IndexString"], named := ["unicode/utf8.first", "unicode/utf8.acceptRanges", "internal/bytealg.MaxLen"], apart := false, laid := [("unicode/utf8.acceptRanges", laid_unicode_utf8_acceptRanges), ("unicode/utf8.first", laid_unicode_utf8_first)], narrowed := true }
def LineLastUptoSaid : Prop := lineLastUptoRow.holds Tryd.pinned (OpenSpec.upto lineLastSpec)

/-- 'quilllaw12.LineTop', WHERE WHAT IT READS IS OF BULK AT MOST 1048576: true; the input reads as it did. -/
def lineTopUptoRow : OpenClaim := { program := "ytnmpkjlbphjddaadoor", sum := "74483f1d17bb0c323c72ff7dc9e452417acfafa68132fd88bd566ea89fc05336", func := "quill/quilllaw12.LineTop", spec := "lineTop", inPlace := ["internal/bytealg.IndexByteString", "internal/bytealg.IndexString"], named := ["unicode/utf8.first", "unicode/utf8.acceptRanges", "internal/bytealg.MaxLen"], apart := false, laid := [("unicode/utf8.acceptRanges", laid_unicode_utf8_acceptRanges), ("unicode/utf8.first", laid_unicode_utf8_first)], narrowed := true }
def LineTopUptoSaid : Prop := lineTopUptoRow.holds Tryd.pinned (OpenSpec.upto lineTopSpec)

/-- 'quilllaw12.LinesFirst', WHERE WHAT IT READS IS OF BULK AT MOST 1048576: true; the input reads as it did. -/
def linesFirstUptoRow : OpenClaim := { program := "ytnmpkjlbphjddaadoor", sum := "74483f1d17bb0c323c72ff7dc9e452417acfafa68132fd88bd566ea89fc05336", func := "quill/quilllaw12.LinesFirst", spec := "linesFirst", inPlace := ["internal/bytealg.IndexByteString", "internal/bytealg.IndexString"], named := ["unicode/utf8.first", "unicode/utf8.acceptRanges", "internal/bytealg.MaxLen"], apart := false, laid := [("unicode/utf8.acceptRanges", laid_unicode_utf8_acceptRanges), ("unicode/utf8.first", laid_unicode_utf8_first)], narrowed := true }
def LinesFirstUptoSaid : Prop := linesFirstUptoRow.holds Tryd.pinned (OpenSpec.upto linesFirstSpec)

end Rows
end Go.Proofs.YtnmpkjlbphjddaaDoor
