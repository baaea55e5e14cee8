/-
  DERIVED. GIVEN WITH THE SEED: THE CARDS: each row of YtnmpkjlbphjddaaDoorRows.lean that lists a variable, with what it lists TIED to the program's text (the seventh form; the later family's looks); each row that meets fmt, with fmt's text TOLD by the authors' own Lean function (tested against real Go, not proved from fmt's source: count such statements apart). THE CARD IS WHAT COUNTS. Prove the row's statement (the work); the ties are given (YtnmpkjlbphjddaaDoorTie.lean); close each card by the builder's one call (the guide's Derived/Test/ToyasCard.lean, 'card_holds'). Laid BY PROGRAM, IN A SANDBOX (cutbox-door.mjs). By AI agents, Wed Nov 11 2026. No macro, syntax, notation, axiom, sorry.
-/
import Derived.Test.YtnmpkjlbphjddaaDoorRows
import GoSem.ClaimSeven
namespace Go.Proofs.YtnmpkjlbphjddaaDoor
namespace Rows

/-- THE TIED CARD OF 'quilllaw1.TextRests'. -/
def textRestsCard : Claim7 := { stood := { row := textRestsRow, standIns := [], harness := (true, "654f043be124d4c0134f8d33cdf7dbdce7b86d77a7cc505a40ece5dc0a4006b5"), looks := false }, kinds := [], alts := [], laidByText := true, laidKinds := [.data, .pinned], laidTests := true, laidLooks := .later }
def TextRestsCardSaid : Prop := Claim7.holds Tryd.pinned (.plain (OpenSpec.ofChange textRestsSpec)) textRestsCard

/-- THE TIED CARD OF 'quilllaw12.LinesWithin'. -/
def linesWithinCard : Claim7 := { stood := { row := linesWithinRow, standIns := [], harness := (true, "654f043be124d4c0134f8d33cdf7dbdce7b86d77a7cc505a40ece5dc0a4006b5"), looks := false }, kinds := [], alts := [], laidByText := true, laidKinds := [.data, .pinned], laidTests := true, laidLooks := .later }
def LinesWithinCardSaid : Prop := Claim7.holds Tryd.pinned (.plain (OpenSpec.ofChange linesWithinSpec)) linesWithinCard

/-- THE TIED CARD OF 'quilllaw12.LinesDown'. -/
def linesDownCard : Claim7 := { stood := { row := linesDownRow, standIns := [], harness := (true, "654f043be124d4c0134f8d33cdf7dbdce7b86d77a7cc505a40ece5dc0a4006b5"), looks := false }, kinds := [], alts := [], laidByText := true, laidKinds := [.data, .pinned], laidTests := true, laidLooks := .later }
def LinesDownCardSaid : Prop := Claim7.holds Tryd.pinned (.plain (OpenSpec.ofChange linesDownSpec)) linesDownCard

/-- THE TIED CARD OF 'quilllaw12.LinesGo'. -/
def linesGoCard : Claim7 := { stood := { row := linesGoRow, standIns := [], harness := (true, "654f043be124d4c0134f8d33cdf7dbdce7b86d77a7cc505a40ece5dc0a4006b5"), looks := false }, kinds := [], alts := [], laidByText := true, laidKinds := [.data, .pinned], laidTests := true, laidLooks := .later }
def LinesGoCardSaid : Prop := Claim7.holds Tryd.pinned (.plain (OpenSpec.ofChange linesGoSpec)) linesGoCard

/-- THE TIED CARD OF 'quilllaw12.LinesBack'. -/
def linesBackCard : Claim7 := { stood := { row := linesBackRow, standIns := [], harness := (true, "654f043be124d4c0134f8d33cdf7dbdce7b86d77a7cc505a40ece5dc0a4006b5"), looks := false }, kinds := [], alts := [], laidByText := true, laidKinds := [.data, .pinned], laidTests := true, laidLooks := .later }
def LinesBackCardSaid : Prop := Claim7.holds Tryd.pinned (.plain (OpenSpec.ofChange linesBackSpec)) linesBackCard

/-- THE TIED CARD OF 'quilllaw12.LineLeft'. -/
def lineLeftCard : Claim7 := { stood := { row := lineLeftRow, standIns := [], harness := (true, "654f043be124d4c0134f8d33cdf7dbdce7b86d77a7cc505a40ece5dc0a4006b5"), looks := false }, kinds := [], alts := [], laidByText := true, laidKinds := [.data, .pinned], laidTests := true, laidLooks := .later }
def LineLeftCardSaid : Prop := Claim7.holds Tryd.pinned (.plain (OpenSpec.ofChange lineLeftSpec)) lineLeftCard

/-- THE TIED CARD OF 'quilllaw12.LineRight'. -/
def lineRightCard : Claim7 := { stood := { row := lineRightRow, standIns := [], harness := (true, "654f043be124d4c0134f8d33cdf7dbdce7b86d77a7cc505a40ece5dc0a4006b5"), looks := false }, kinds := [], alts := [], laidByText := true, laidKinds := [.data, .pinned], laidTests := true, laidLooks := .later }
def LineRightCardSaid : Prop := Claim7.holds Tryd.pinned (.plain (OpenSpec.ofChange lineRightSpec)) lineRightCard

/-- THE TIED CARD OF 'quilllaw12.LineZero'. -/
def lineZeroCard : Claim7 := { stood := { row := lineZeroRow, standIns := [], harness := (true, "654f043be124d4c0134f8d33cdf7dbdce7b86d77a7cc505a40ece5dc0a4006b5"), looks := false }, kinds := [], alts := [], laidByText := true, laidKinds := [.data, .pinned], laidTests := true, laidLooks := .later }
def LineZeroCardSaid : Prop := Claim7.holds Tryd.pinned (.plain (OpenSpec.ofChange lineZeroSpec)) lineZeroCard

/-- THE TIED CARD OF 'quilllaw12.LineCaret'. -/
def lineCaretCard : Claim7 := { stood := { row := lineCaretRow, standIns := [], harness := (true, "654f043be124d4c0134f8d33cdf7dbdce7b86d77a7cc505a40ece5dc0a4006b5"), looks := false }, kinds := [], alts := [], laidByText := true, laidKinds := [.data, .pinned], laidTests := true, laidLooks := .later }
def LineCaretCardSaid : Prop := Claim7.holds Tryd.pinned (.plain (OpenSpec.ofChange lineCaretSpec)) lineCaretCard

/-- THE TIED CARD OF 'quilllaw12.LineDollar'. -/
def lineDollarCard : Claim7 := { stood := { row := lineDollarRow, standIns := [], harness := (true, "654f043be124d4c0134f8d33cdf7dbdce7b86d77a7cc505a40ece5dc0a4006b5"), looks := false }, kinds := [], alts := [], laidByText := true, laidKinds := [.data, .pinned], laidTests := true, laidLooks := .later }
def LineDollarCardSaid : Prop := Claim7.holds Tryd.pinned (.plain (OpenSpec.ofChange lineDollarSpec)) lineDollarCard

/-- THE TIED CARD OF 'quilllaw12.LineDown'. -/
def lineDownCard : Claim7 := { stood := { row := lineDownRow, standIns := [], harness := (true, "654f043be124d4c0134f8d33cdf7dbdce7b86d77a7cc505a40ece5dc0a4006b5"), looks := false }, kinds := [], alts := [], laidByText := true, laidKinds := [.data, .pinned], laidTests := true, laidLooks := .later }
def LineDownCardSaid : Prop := Claim7.holds Tryd.pinned (.plain (OpenSpec.ofChange lineDownSpec)) lineDownCard

/-- THE TIED CARD OF 'quilllaw12.LineUp'. -/
def lineUpCard : Claim7 := { stood := { row := lineUpRow, standIns := [], harness := (true, "654f043be124d4c0134f8d33cdf7dbdce7b86d77a7cc505a40ece5dc0a4006b5"), looks := false }, kinds := [], alts := [], laidByText := true, laidKinds := [.data, .pinned], laidTests := true, laidLooks := .later }
def LineUpCardSaid : Prop := Claim7.holds Tryd.pinned (.plain (OpenSpec.ofChange lineUpSpec)) lineUpCard

/-- THE TIED CARD OF 'quilllaw12.LinePlus'. -/
def linePlusCard : Claim7 := { stood := { row := linePlusRow, standIns := [], harness := (true, "654f043be124d4c0134f8d33cdf7dbdce7b86d77a7cc505a40ece5dc0a4006b5"), looks := false }, kinds := [], alts := [], laidByText := true, laidKinds := [.data, .pinned], laidTests := true, laidLooks := .later }
def LinePlusCardSaid : Prop := Claim7.holds Tryd.pinned (.plain (OpenSpec.ofChange linePlusSpec)) linePlusCard

/-- THE TIED CARD OF 'quilllaw12.LineMinus'. -/
def lineMinusCard : Claim7 := { stood := { row := lineMinusRow, standIns := [], harness := (true, "654f043be124d4c0134f8d33cdf7dbdce7b86d77a7cc505a40ece5dc0a4006b5"), looks := false }, kinds := [], alts := [], laidByText := true, laidKinds := [.data, .pinned], laidTests := true, laidLooks := .later }
def LineMinusCardSaid : Prop := Claim7.holds Tryd.pinned (.plain (OpenSpec.ofChange lineMinusSpec)) lineMinusCard

/-- THE TIED CARD OF 'quilllaw12.LineUnder'. -/
def lineUnderCard : Claim7 := { stood := { row := lineUnderRow, standIns := [], harness := (true, "654f043be124d4c0134f8d33cdf7dbdce7b86d77a7cc505a40ece5dc0a4006b5"), looks := false }, kinds := [], alts := [], laidByText := true, laidKinds := [.data, .pinned], laidTests := true, laidLooks := .later }
def LineUnderCardSaid : Prop := Claim7.holds Tryd.pinned (.plain (OpenSpec.ofChange lineUnderSpec)) lineUnderCard

/-- THE TIED CARD OF 'quilllaw12.LineLast'. -/
def lineLastCard : Claim7 := { stood := { row := lineLastRow, standIns := [], harness := (true, "654f043be124d4c0134f8d33cdf7dbdce7b86d77a7cc505a40ece5dc0a4006b5"), looks := false }, kinds := [], alts := [], laidByText := true, laidKinds := [.data, .pinned], laidTests := true, laidLooks := .later }
def LineLastCardSaid : Prop := Claim7.holds Tryd.pinned (.plain (OpenSpec.ofChange lineLastSpec)) lineLastCard

/-- THE TIED CARD OF 'quilllaw12.LineTop'. -/
def lineTopCard : Claim7 := { stood := { row := lineTopRow, standIns := [], harness := (true, "654f043be124d4c0134f8d33cdf7dbdce7b86d77a7cc505a40ece5dc0a4006b5"), looks := false }, kinds := [], alts := [], laidByText := true, laidKinds := [.data, .pinned], laidTests := true, laidLooks := .later }
def LineTopCardSaid : Prop := Claim7.holds Tryd.pinned (.plain (OpenSpec.ofChange lineTopSpec)) lineTopCard

/-- THE TIED CARD OF 'quilllaw12.LinesFirst'. -/
def linesFirstCard : Claim7 := { stood := { row := linesFirstRow, standIns := [], harness := (true, "654f043be124d4c0134f8d33cdf7dbdce7b86d77a7cc505a40ece5dc0a4006b5"), looks := false }, kinds := [], alts := [], laidByText := true, laidKinds := [.data, .pinned], laidTests := true, laidLooks := .later }
def LinesFirstCardSaid : Prop := Claim7.holds Tryd.pinned (.plain (OpenSpec.ofChange linesFirstSpec)) linesFirstCard

/-- THE SECOND FORM's CARD OF 'quilllaw1.TextRests'. -/
def textRestsUptoCard : Claim7 := { stood := { row := textRestsUptoRow, standIns := [], harness := (true, "654f043be124d4c0134f8d33cdf7dbdce7b86d77a7cc505a40ece5dc0a4006b5"), looks := false }, kinds := [], alts := [], laidByText := true, laidKinds := [.data, .pinned], laidTests := true, laidLooks := .later }
def TextRestsUptoCardSaid : Prop := Claim7.holds Tryd.pinned (.plain (OpenSpec.upto textRestsSpec)) textRestsUptoCard

/-- THE SECOND FORM's CARD OF 'quilllaw12.LinesWithin'. -/
def linesWithinUptoCard : Claim7 := { stood := { row := linesWithinUptoRow, standIns := [], harness := (true, "654f043be124d4c0134f8d33cdf7dbdce7b86d77a7cc505a40ece5dc0a4006b5"), looks := false }, kinds := [], alts := [], laidByText := true, laidKinds := [.data, .pinned], laidTests := true, laidLooks := .later }
def LinesWithinUptoCardSaid : Prop := Claim7.holds Tryd.pinned (.plain (OpenSpec.upto linesWithinSpec)) linesWithinUptoCard

/-- THE SECOND FORM's CARD OF 'quilllaw12.LinesDown'. -/
def linesDownUptoCard : Claim7 := { stood := { row := linesDownUptoRow, standIns := [], harness := (true, "654f043be124d4c0134f8d33cdf7dbdce7b86d77a7cc505a40ece5dc0a4006b5"), looks := false }, kinds := [], alts := [], laidByText := true, laidKinds := [.data, .pinned], laidTests := true, laidLooks := .later }
def LinesDownUptoCardSaid : Prop := Claim7.holds Tryd.pinned (.plain (OpenSpec.upto linesDownSpec)) linesDownUptoCard

/-- THE SECOND FORM's CARD OF 'quilllaw12.LinesGo'. -/
def linesGoUptoCard : Claim7 := { stood := { row := linesGoUptoRow, standIns := [], harness := (true, "654f043be124d4c0134f8d33cdf7dbdce7b86d77a7cc505a40ece5dc0a4006b5"), looks := false }, kinds := [], alts := [], laidByText := true, laidKinds := [.data, .pinned], laidTests := true, laidLooks := .later }
def LinesGoUptoCardSaid : Prop := Claim7.holds Tryd.pinned (.plain (OpenSpec.upto linesGoSpec)) linesGoUptoCard

/-- THE SECOND FORM's CARD OF 'quilllaw12.LinesBack'. -/
def linesBackUptoCard : Claim7 := { stood := { row := linesBackUptoRow, standIns := [], harness := (true, "654f043be124d4c0134f8d33cdf7dbdce7b86d77a7cc505a40ece5dc0a4006b5"), looks := false }, kinds := [], alts := [], laidByText := true, laidKinds := [.data, .pinned], laidTests := true, laidLooks := .later }
def LinesBackUptoCardSaid : Prop := Claim7.holds Tryd.pinned (.plain (OpenSpec.upto linesBackSpec)) linesBackUptoCard

/-- THE SECOND FORM's CARD OF 'quilllaw12.LineLeft'. -/
def lineLeftUptoCard : Claim7 := { stood := { row := lineLeftUptoRow, standIns := [], harness := (true, "654f043be124d4c0134f8d33cdf7dbdce7b86d77a7cc505a40ece5dc0a4006b5"), looks := false }, kinds := [], alts := [], laidByText := true, laidKinds := [.data, .pinned], laidTests := true, laidLooks := .later }
def LineLeftUptoCardSaid : Prop := Claim7.holds Tryd.pinned (.plain (OpenSpec.upto lineLeftSpec)) lineLeftUptoCard

/-- THE SECOND FORM's CARD OF 'quilllaw12.LineRight'. -/
def lineRightUptoCard : Claim7 := { stood := { row := lineRightUptoRow, standIns := [], harness := (true, "654f043be124d4c0134f8d33cdf7dbdce7b86d77a7cc505a40ece5dc0a4006b5"), looks := false }, kinds := [], alts := [], laidByText := true, laidKinds := [.data, .pinned], laidTests := true, laidLooks := .later }
def LineRightUptoCardSaid : Prop := Claim7.holds Tryd.pinned (.plain (OpenSpec.upto lineRightSpec)) lineRightUptoCard

/-- THE SECOND FORM's CARD OF 'quilllaw12.LineZero'. -/
def lineZeroUptoCard : Claim7 := { stood := { row := lineZeroUptoRow, standIns := [], harness := (true, "654f043be124d4c0134f8d33cdf7dbdce7b86d77a7cc505a40ece5dc0a4006b5"), looks := false }, kinds := [], alts := [], laidByText := true, laidKinds := [.data, .pinned], laidTests := true, laidLooks := .later }
def LineZeroUptoCardSaid : Prop := Claim7.holds Tryd.pinned (.plain (OpenSpec.upto lineZeroSpec)) lineZeroUptoCard

/-- THE SECOND FORM's CARD OF 'quilllaw12.LineCaret'. -/
def lineCaretUptoCard : Claim7 := { stood := { row := lineCaretUptoRow, standIns := [], harness := (true, "654f043be124d4c0134f8d33cdf7dbdce7b86d77a7cc505a40ece5dc0a4006b5"), looks := false }, kinds := [], alts := [], laidByText := true, laidKinds := [.data, .pinned], laidTests := true, laidLooks := .later }
def LineCaretUptoCardSaid : Prop := Claim7.holds Tryd.pinned (.plain (OpenSpec.upto lineCaretSpec)) lineCaretUptoCard

/-- THE SECOND FORM's CARD OF 'quilllaw12.LineDollar'. -/
def lineDollarUptoCard : Claim7 := { stood := { row := lineDollarUptoRow, standIns := [], harness := (true, "654f043be124d4c0134f8d33cdf7dbdce7b86d77a7cc505a40ece5dc0a4006b5"), looks := false }, kinds := [], alts := [], laidByText := true, laidKinds := [.data, .pinned], laidTests := true, laidLooks := .later }
def LineDollarUptoCardSaid : Prop := Claim7.holds Tryd.pinned (.plain (OpenSpec.upto lineDollarSpec)) lineDollarUptoCard

/-- THE SECOND FORM's CARD OF 'quilllaw12.LineDown'. -/
def lineDownUptoCard : Claim7 := { stood := { row := lineDownUptoRow, standIns := [], harness := (true, "654f043be124d4c0134f8d33cdf7dbdce7b86d77a7cc505a40ece5dc0a4006b5"), looks := false }, kinds := [], alts := [], laidByText := true, laidKinds := [.data, .pinned], laidTests := true, laidLooks := .later }
def LineDownUptoCardSaid : Prop := Claim7.holds Tryd.pinned (.plain (OpenSpec.upto lineDownSpec)) lineDownUptoCard

/-- THE SECOND FORM's CARD OF 'quilllaw12.LineUp'. -/
def lineUpUptoCard : Claim7 := { stood := { row := lineUpUptoRow, standIns := [], harness := (true, "654f043be124d4c0134f8d33cdf7dbdce7b86d77a7cc505a40ece5dc0a4006b5"), looks := false }, kinds := [], alts := [], laidByText := true, laidKinds := [.data, .pinned], laidTests := true, laidLooks := .later }
def LineUpUptoCardSaid : Prop := Claim7.holds Tryd.pinned (.plain (OpenSpec.upto lineUpSpec)) lineUpUptoCard

/-- THE SECOND FORM's CARD OF 'quilllaw12.LinePlus'. -/
def linePlusUptoCard : Claim7 := { stood := { row := linePlusUptoRow, standIns := [], harness := (true, "654f043be124d4c0134f8d33cdf7dbdce7b86d77a7cc505a40ece5dc0a4006b5"), looks := false }, kinds := [], alts := [], laidByText := true, laidKinds := [.data, .pinned], laidTests := true, laidLooks := .later }
def LinePlusUptoCardSaid : Prop := Claim7.holds Tryd.pinned (.plain (OpenSpec.upto linePlusSpec)) linePlusUptoCard

/-- THE SECOND FORM's CARD OF 'quilllaw12.LineMinus'. -/
def lineMinusUptoCard : Claim7 := { stood := { row := lineMinusUptoRow, standIns := [], harness := (true, "654f043be124d4c0134f8d33cdf7dbdce7b86d77a7cc505a40ece5dc0a4006b5"), looks := false }, kinds := [], alts := [], laidByText := true, laidKinds := [.data, .pinned], laidTests := true, laidLooks := .later }
def LineMinusUptoCardSaid : Prop := Claim7.holds Tryd.pinned (.plain (OpenSpec.upto lineMinusSpec)) lineMinusUptoCard

/-- THE SECOND FORM's CARD OF 'quilllaw12.LineUnder'. -/
def lineUnderUptoCard : Claim7 := { stood := { row := lineUnderUptoRow, standIns := [], harness := (true, "654f043be124d4c0134f8d33cdf7dbdce7b86d77a7cc505a40ece5dc0a4006b5"), looks := false }, kinds := [], alts := [], laidByText := true, laidKinds := [.data, .pinned], laidTests := true, laidLooks := .later }
def LineUnderUptoCardSaid : Prop := Claim7.holds Tryd.pinned (.plain (OpenSpec.upto lineUnderSpec)) lineUnderUptoCard

/-- THE SECOND FORM's CARD OF 'quilllaw12.LineLast'. -/
def lineLastUptoCard : Claim7 := { stood := { row := lineLastUptoRow, standIns := [], harness := (true, "654f043be124d4c0134f8d33cdf7dbdce7b86d77a7cc505a40ece5dc0a4006b5"), looks := false }, kinds := [], alts := [], laidByText := true, laidKinds := [.data, .pinned], laidTests := true, laidLooks := .later }
def LineLastUptoCardSaid : Prop := Claim7.holds Tryd.pinned (.plain (OpenSpec.upto lineLastSpec)) lineLastUptoCard

/-- THE SECOND FORM's CARD OF 'quilllaw12.LineTop'. -/
def lineTopUptoCard : Claim7 := { stood := { row := lineTopUptoRow, standIns := [], harness := (true, "654f043be124d4c0134f8d33cdf7dbdce7b86d77a7cc505a40ece5dc0a4006b5"), looks := false }, kinds := [], alts := [], laidByText := true, laidKinds := [.data, .pinned], laidTests := true, laidLooks := .later }
def LineTopUptoCardSaid : Prop := Claim7.holds Tryd.pinned (.plain (OpenSpec.upto lineTopSpec)) lineTopUptoCard

/-- THE SECOND FORM's CARD OF 'quilllaw12.LinesFirst'. -/
def linesFirstUptoCard : Claim7 := { stood := { row := linesFirstUptoRow, standIns := [], harness := (true, "654f043be124d4c0134f8d33cdf7dbdce7b86d77a7cc505a40ece5dc0a4006b5"), looks := false }, kinds := [], alts := [], laidByText := true, laidKinds := [.data, .pinned], laidTests := true, laidLooks := .later }
def LinesFirstUptoCardSaid : Prop := Claim7.holds Tryd.pinned (.plain (OpenSpec.upto linesFirstSpec)) linesFirstUptoCard
end Rows
end Go.Proofs.YtnmpkjlbphjddaaDoor
