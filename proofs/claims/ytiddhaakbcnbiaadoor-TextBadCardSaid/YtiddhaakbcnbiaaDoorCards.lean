/-
  DERIVED. GIVEN WITH THE SEED: THE CARDS: each row of YtiddhaakbcnbiaaDoorRows.lean that lists a variable, with what it lists TIED to the program's text (the seventh form; the later family's looks); each row that meets fmt, with fmt's text TOLD by the authors' own Lean function (tested against real Go, not proved from fmt's source: count such statements apart). THE CARD IS WHAT COUNTS. Prove the row's statement (the work); the ties are given (YtiddhaakbcnbiaaDoorTie.lean); close each card by the builder's one call (the guide's Derived/Test/ToyasCard.lean, 'card_holds'). Laid BY PROGRAM, IN A SANDBOX (cutbox-door.mjs). By AI agents, Wed Nov 11 2026. No macro, syntax, notation, axiom, sorry.
-/
import Derived.Test.YtiddhaakbcnbiaaDoorRows
import GoSem.ClaimSeven
namespace Go.Proofs.YtiddhaakbcnbiaaDoor
namespace Rows

/-- THE TIED CARD OF 'brackenlaw1.RunesEdges'. -/
def runesEdgesCard : Claim7 := { stood := { row := runesEdgesRow, standIns := [], harness := (true, "7e0364f07dd27e12d15676d166df36b1fe04818f58c34ee4616903dfdbf8535e"), looks := false }, kinds := [], alts := [], laidByText := true, laidKinds := [.data, .pinned], laidTests := true, laidLooks := .later }
def RunesEdgesCardSaid : Prop := Claim7.holds Tryd.pinned (.plain (OpenSpec.ofChange runesEdgesSpec)) runesEdgesCard

/-- THE TIED CARD OF 'brackenlaw1.RunesAsks'. -/
def runesAsksCard : Claim7 := { stood := { row := runesAsksRow, standIns := [], harness := (true, "7e0364f07dd27e12d15676d166df36b1fe04818f58c34ee4616903dfdbf8535e"), looks := false }, kinds := [], alts := [], laidByText := true, laidKinds := [.data, .pinned], laidTests := true, laidLooks := .later }
def RunesAsksCardSaid : Prop := Claim7.holds Tryd.pinned (.plain (OpenSpec.ofChange runesAsksSpec)) runesAsksCard

/-- THE TIED CARD OF 'brackenlaw1.RunesKinds'. -/
def runesKindsCard : Claim7 := { stood := { row := runesKindsRow, standIns := [], harness := (true, "7e0364f07dd27e12d15676d166df36b1fe04818f58c34ee4616903dfdbf8535e"), looks := false }, kinds := [], alts := [], laidByText := true, laidKinds := [.data, .pinned], laidTests := true, laidLooks := .later }
def RunesKindsCardSaid : Prop := Claim7.holds Tryd.pinned (.plain (OpenSpec.ofChange runesKindsSpec)) runesKindsCard

/-- THE TIED CARD OF 'brackenlaw1.RunesSplits'. -/
def runesSplitsCard : Claim7 := { stood := { row := runesSplitsRow, standIns := [], harness := (true, "7e0364f07dd27e12d15676d166df36b1fe04818f58c34ee4616903dfdbf8535e"), looks := false }, kinds := [], alts := [], laidByText := true, laidKinds := [.data, .pinned], laidTests := true, laidLooks := .later }
def RunesSplitsCardSaid : Prop := Claim7.holds Tryd.pinned (.plain (OpenSpec.ofChange runesSplitsSpec)) runesSplitsCard

/-- THE TIED CARD OF 'brackenlaw1.RunesNames'. -/
def runesNamesCard : Claim7 := { stood := { row := runesNamesRow, standIns := [], harness := (true, "7e0364f07dd27e12d15676d166df36b1fe04818f58c34ee4616903dfdbf8535e"), looks := false }, kinds := [], alts := [], laidByText := true, laidKinds := [.data, .pinned], laidTests := true, laidLooks := .later }
def RunesNamesCardSaid : Prop := Claim7.holds Tryd.pinned (.plain (OpenSpec.ofChange runesNamesSpec)) runesNamesCard

/-- THE TIED CARD OF 'brackenlaw1.RunesBlanks'. -/
def runesBlanksCard : Claim7 := { stood := { row := runesBlanksRow, standIns := [], harness := (true, "7e0364f07dd27e12d15676d166df36b1fe04818f58c34ee4616903dfdbf8535e"), looks := false }, kinds := [], alts := [], laidByText := true, laidKinds := [.data, .pinned], laidTests := true, laidLooks := .later }
def RunesBlanksCardSaid : Prop := Claim7.holds Tryd.pinned (.plain (OpenSpec.ofChange runesBlanksSpec)) runesBlanksCard

/-- THE TIED CARD OF 'brackenlaw2.TextBad'. -/
def textBadCard : Claim7 := { stood := { row := textBadRow, standIns := [], harness := (true, "7e0364f07dd27e12d15676d166df36b1fe04818f58c34ee4616903dfdbf8535e"), looks := false }, kinds := [], alts := [], laidByText := true, laidKinds := [.data, .pinned], laidTests := true, laidLooks := .later }
def TextBadCardSaid : Prop := Claim7.holds Tryd.pinned (.plain (OpenSpec.ofChange textBadSpec)) textBadCard

/-- THE TIED CARD OF 'brackenlaw2.TextAsks'. -/
def textAsksCard : Claim7 := { stood := { row := textAsksRow, standIns := [], harness := (true, "7e0364f07dd27e12d15676d166df36b1fe04818f58c34ee4616903dfdbf8535e"), looks := false }, kinds := [], alts := [], laidByText := true, laidKinds := [.data, .pinned], laidTests := true, laidLooks := .later }
def TextAsksCardSaid : Prop := Claim7.holds Tryd.pinned (.plain (OpenSpec.ofChange textAsksSpec)) textAsksCard

/-- THE TIED CARD OF 'brackenlaw2.TextRunes'. -/
def textRunesCard : Claim7 := { stood := { row := textRunesRow, standIns := [], harness := (true, "7e0364f07dd27e12d15676d166df36b1fe04818f58c34ee4616903dfdbf8535e"), looks := false }, kinds := [], alts := [], laidByText := true, laidKinds := [.data, .pinned], laidTests := true, laidLooks := .later }
def TextRunesCardSaid : Prop := Claim7.holds Tryd.pinned (.plain (OpenSpec.ofChange textRunesSpec)) textRunesCard

/-- THE TIED CARD OF 'brackenlaw2.TextEnds'. -/
def textEndsCard : Claim7 := { stood := { row := textEndsRow, standIns := [], harness := (true, "7e0364f07dd27e12d15676d166df36b1fe04818f58c34ee4616903dfdbf8535e"), looks := false }, kinds := [], alts := [], laidByText := true, laidKinds := [.data, .pinned], laidTests := true, laidLooks := .later }
def TextEndsCardSaid : Prop := Claim7.holds Tryd.pinned (.plain (OpenSpec.ofChange textEndsSpec)) textEndsCard

/-- THE TIED CARD OF 'brackenlaw2.TextMark'. -/
def textMarkCard : Claim7 := { stood := { row := textMarkRow, standIns := [], harness := (true, "7e0364f07dd27e12d15676d166df36b1fe04818f58c34ee4616903dfdbf8535e"), looks := false }, kinds := [], alts := [], laidByText := true, laidKinds := [.data, .pinned], laidTests := true, laidLooks := .later }
def TextMarkCardSaid : Prop := Claim7.holds Tryd.pinned (.plain (OpenSpec.ofChange textMarkSpec)) textMarkCard

/-- THE TIED CARD OF 'brackenlaw2.TextParts'. -/
def textPartsCard : Claim7 := { stood := { row := textPartsRow, standIns := [], harness := (true, "7e0364f07dd27e12d15676d166df36b1fe04818f58c34ee4616903dfdbf8535e"), looks := false }, kinds := [], alts := [], laidByText := true, laidKinds := [.data, .pinned], laidTests := true, laidLooks := .later }
def TextPartsCardSaid : Prop := Claim7.holds Tryd.pinned (.plain (OpenSpec.ofChange textPartsSpec)) textPartsCard

/-- THE SECOND FORM's CARD OF 'brackenlaw1.RunesEdges'. -/
def runesEdgesUptoCard : Claim7 := { stood := { row := runesEdgesUptoRow, standIns := [], harness := (true, "7e0364f07dd27e12d15676d166df36b1fe04818f58c34ee4616903dfdbf8535e"), looks := false }, kinds := [], alts := [], laidByText := true, laidKinds := [.data, .pinned], laidTests := true, laidLooks := .later }
def RunesEdgesUptoCardSaid : Prop := Claim7.holds Tryd.pinned (.plain (OpenSpec.upto runesEdgesSpec)) runesEdgesUptoCard

/-- THE SECOND FORM's CARD OF 'brackenlaw1.RunesAsks'. -/
def runesAsksUptoCard : Claim7 := { stood := { row := runesAsksUptoRow, standIns := [], harness := (true, "7e0364f07dd27e12d15676d166df36b1fe04818f58c34ee4616903dfdbf8535e"), looks := false }, kinds := [], alts := [], laidByText := true, laidKinds := [.data, .pinned], laidTests := true, laidLooks := .later }
def RunesAsksUptoCardSaid : Prop := Claim7.holds Tryd.pinned (.plain (OpenSpec.upto runesAsksSpec)) runesAsksUptoCard

/-- THE SECOND FORM's CARD OF 'brackenlaw1.RunesKinds'. -/
def runesKindsUptoCard : Claim7 := { stood := { row := runesKindsUptoRow, standIns := [], harness := (true, "7e0364f07dd27e12d15676d166df36b1fe04818f58c34ee4616903dfdbf8535e"), looks := false }, kinds := [], alts := [], laidByText := true, laidKinds := [.data, .pinned], laidTests := true, laidLooks := .later }
def RunesKindsUptoCardSaid : Prop := Claim7.holds Tryd.pinned (.plain (OpenSpec.upto runesKindsSpec)) runesKindsUptoCard

/-- THE SECOND FORM's CARD OF 'brackenlaw1.RunesSplits'. -/
def runesSplitsUptoCard : Claim7 := { stood := { row := runesSplitsUptoRow, standIns := [], harness := (true, "7e0364f07dd27e12d15676d166df36b1fe04818f58c34ee4616903dfdbf8535e"), looks := false }, kinds := [], alts := [], laidByText := true, laidKinds := [.data, .pinned], laidTests := true, laidLooks := .later }
def RunesSplitsUptoCardSaid : Prop := Claim7.holds Tryd.pinned (.plain (OpenSpec.upto runesSplitsSpec)) runesSplitsUptoCard

/-- THE SECOND FORM's CARD OF 'brackenlaw1.RunesNames'. -/
def runesNamesUptoCard : Claim7 := { stood := { row := runesNamesUptoRow, standIns := [], harness := (true, "7e0364f07dd27e12d15676d166df36b1fe04818f58c34ee4616903dfdbf8535e"), looks := false }, kinds := [], alts := [], laidByText := true, laidKinds := [.data, .pinned], laidTests := true, laidLooks := .later }
def RunesNamesUptoCardSaid : Prop := Claim7.holds Tryd.pinned (.plain (OpenSpec.upto runesNamesSpec)) runesNamesUptoCard

/-- THE SECOND FORM's CARD OF 'brackenlaw1.RunesBlanks'. -/
def runesBlanksUptoCard : Claim7 := { stood := { row := runesBlanksUptoRow, standIns := [], harness := (true, "7e0364f07dd27e12d15676d166df36b1fe04818f58c34ee4616903dfdbf8535e"), looks := false }, kinds := [], alts := [], laidByText := true, laidKinds := [.data, .pinned], laidTests := true, laidLooks := .later }
def RunesBlanksUptoCardSaid : Prop := Claim7.holds Tryd.pinned (.plain (OpenSpec.upto runesBlanksSpec)) runesBlanksUptoCard

/-- THE SECOND FORM's CARD OF 'brackenlaw2.TextBad'. -/
def textBadUptoCard : Claim7 := { stood := { row := textBadUptoRow, standIns := [], harness := (true, "7e0364f07dd27e12d15676d166df36b1fe04818f58c34ee4616903dfdbf8535e"), looks := false }, kinds := [], alts := [], laidByText := true, laidKinds := [.data, .pinned], laidTests := true, laidLooks := .later }
def TextBadUptoCardSaid : Prop := Claim7.holds Tryd.pinned (.plain (OpenSpec.upto textBadSpec)) textBadUptoCard

/-- THE SECOND FORM's CARD OF 'brackenlaw2.TextAsks'. -/
def textAsksUptoCard : Claim7 := { stood := { row := textAsksUptoRow, standIns := [], harness := (true, "7e0364f07dd27e12d15676d166df36b1fe04818f58c34ee4616903dfdbf8535e"), looks := false }, kinds := [], alts := [], laidByText := true, laidKinds := [.data, .pinned], laidTests := true, laidLooks := .later }
def TextAsksUptoCardSaid : Prop := Claim7.holds Tryd.pinned (.plain (OpenSpec.upto textAsksSpec)) textAsksUptoCard

/-- THE SECOND FORM's CARD OF 'brackenlaw2.TextRunes'. -/
def textRunesUptoCard : Claim7 := { stood := { row := textRunesUptoRow, standIns := [], harness := (true, "7e0364f07dd27e12d15676d166df36b1fe04818f58c34ee4616903dfdbf8535e"), looks := false }, kinds := [], alts := [], laidByText := true, laidKinds := [.data, .pinned], laidTests := true, laidLooks := .later }
def TextRunesUptoCardSaid : Prop := Claim7.holds Tryd.pinned (.plain (OpenSpec.upto textRunesSpec)) textRunesUptoCard

/-- THE SECOND FORM's CARD OF 'brackenlaw2.TextEnds'. -/
def textEndsUptoCard : Claim7 := { stood := { row := textEndsUptoRow, standIns := [], harness := (true, "7e0364f07dd27e12d15676d166df36b1fe04818f58c34ee4616903dfdbf8535e"), looks := false }, kinds := [], alts := [], laidByText := true, laidKinds := [.data, .pinned], laidTests := true, laidLooks := .later }
def TextEndsUptoCardSaid : Prop := Claim7.holds Tryd.pinned (.plain (OpenSpec.upto textEndsSpec)) textEndsUptoCard

/-- THE SECOND FORM's CARD OF 'brackenlaw2.TextMark'. -/
def textMarkUptoCard : Claim7 := { stood := { row := textMarkUptoRow, standIns := [], harness := (true, "7e0364f07dd27e12d15676d166df36b1fe04818f58c34ee4616903dfdbf8535e"), looks := false }, kinds := [], alts := [], laidByText := true, laidKinds := [.data, .pinned], laidTests := true, laidLooks := .later }
def TextMarkUptoCardSaid : Prop := Claim7.holds Tryd.pinned (.plain (OpenSpec.upto textMarkSpec)) textMarkUptoCard

/-- THE SECOND FORM's CARD OF 'brackenlaw2.TextParts'. -/
def textPartsUptoCard : Claim7 := { stood := { row := textPartsUptoRow, standIns := [], harness := (true, "7e0364f07dd27e12d15676d166df36b1fe04818f58c34ee4616903dfdbf8535e"), looks := false }, kinds := [], alts := [], laidByText := true, laidKinds := [.data, .pinned], laidTests := true, laidLooks := .later }
def TextPartsUptoCardSaid : Prop := Claim7.holds Tryd.pinned (.plain (OpenSpec.upto textPartsSpec)) textPartsUptoCard
end Rows
end Go.Proofs.YtiddhaakbcnbiaaDoor
