/-
  DERIVED. GIVEN WITH THE SEED: THE CARDS: each row of YtmjdjpelhhibgaaDoorRows.lean that lists a variable, with what it lists TIED to the program's text (the seventh form; the later family's looks); each row that meets fmt, with fmt's text TOLD by the authors' own Lean function (tested against real Go, not proved from fmt's source: count such statements apart). THE CARD IS WHAT COUNTS. Prove the row's statement (the work); the ties are given (YtmjdjpelhhibgaaDoorTie.lean); close each card by the builder's one call (the guide's Derived/Test/ToyasCard.lean, 'card_holds'). Laid BY PROGRAM, IN A SANDBOX (cutbox-door.mjs). By AI agents, Wed Nov 11 2026. No macro, syntax, notation, axiom, sorry.
-/
import Derived.Test.YtmjdjpelhhibgaaDoorRows
import GoSem.ClaimSeven
namespace Go.Proofs.YtmjdjpelhhibgaaDoor
namespace Rows

/-- THE TIED CARD OF 'brackenlaw10.TokenTexts'. -/
def tokenTextsCard : Claim7 := { stood := { row := tokenTextsRow, standIns := [], harness := (true, "c34e00b0b966b36212c23c4ff992244a23e62ed56528504c137bb390301f77a8"), looks := false }, kinds := [], alts := [], laidByText := true, laidKinds := [.data, .data, .data, .pinned, .pinned], laidTests := true, laidLooks := .later }
def TokenTextsCardSaid : Prop := Claim7.holds Tryd.pinned (.plain (OpenSpec.ofChange tokenTextsSpec)) tokenTextsCard

/-- THE TIED CARD OF 'brackenlaw10.TokenRefs'. -/
def tokenRefsCard : Claim7 := { stood := { row := tokenRefsRow, standIns := [], harness := (true, "c34e00b0b966b36212c23c4ff992244a23e62ed56528504c137bb390301f77a8"), looks := false }, kinds := [], alts := [], laidByText := true, laidKinds := [.data, .data, .data, .pinned, .pinned], laidTests := true, laidLooks := .later }
def TokenRefsCardSaid : Prop := Claim7.holds Tryd.pinned (.plain (OpenSpec.ofChange tokenRefsSpec)) tokenRefsCard

/-- THE TIED CARD OF 'brackenlaw10.TokenRows'. -/
def tokenRowsCard : Claim7 := { stood := { row := tokenRowsRow, standIns := [], harness := (true, "c34e00b0b966b36212c23c4ff992244a23e62ed56528504c137bb390301f77a8"), looks := false }, kinds := [], alts := [], laidByText := true, laidKinds := [.data, .data, .data, .pinned, .pinned], laidTests := true, laidLooks := .later }
def TokenRowsCardSaid : Prop := Claim7.holds Tryd.pinned (.plain (OpenSpec.ofChange tokenRowsSpec)) tokenRowsCard

/-- THE TIED CARD OF 'brackenlaw10.TokenAttrs'. -/
def tokenAttrsCard : Claim7 := { stood := { row := tokenAttrsRow, standIns := [], harness := (true, "c34e00b0b966b36212c23c4ff992244a23e62ed56528504c137bb390301f77a8"), looks := false }, kinds := [], alts := [], laidByText := true, laidKinds := [.data, .data, .data, .pinned, .pinned], laidTests := true, laidLooks := .later }
def TokenAttrsCardSaid : Prop := Claim7.holds Tryd.pinned (.plain (OpenSpec.ofChange tokenAttrsSpec)) tokenAttrsCard

/-- THE TIED CARD OF 'brackenlaw10.TokenAside'. -/
def tokenAsideCard : Claim7 := { stood := { row := tokenAsideRow, standIns := [], harness := (true, "c34e00b0b966b36212c23c4ff992244a23e62ed56528504c137bb390301f77a8"), looks := false }, kinds := [], alts := [], laidByText := true, laidKinds := [.data, .data, .data, .pinned, .pinned], laidTests := true, laidLooks := .later }
def TokenAsideCardSaid : Prop := Claim7.holds Tryd.pinned (.plain (OpenSpec.ofChange tokenAsideSpec)) tokenAsideCard

/-- THE TIED CARD OF 'brackenlaw11.DeclExternal'. -/
def declExternalCard : Claim7 := { stood := { row := declExternalRow, standIns := [], harness := (true, "c34e00b0b966b36212c23c4ff992244a23e62ed56528504c137bb390301f77a8"), looks := false }, kinds := [], alts := [], laidByText := true, laidKinds := [.data, .data, .data, .pinned, .pinned], laidTests := true, laidLooks := .later }
def DeclExternalCardSaid : Prop := Claim7.holds Tryd.pinned (.plain (OpenSpec.ofChange declExternalSpec)) declExternalCard

/-- THE TIED CARD OF 'brackenlaw11.DeclXML'. -/
def declXMLCard : Claim7 := { stood := { row := declXMLRow, standIns := [], harness := (true, "c34e00b0b966b36212c23c4ff992244a23e62ed56528504c137bb390301f77a8"), looks := false }, kinds := [], alts := [], laidByText := true, laidKinds := [.data, .data, .data, .pinned, .pinned], laidTests := true, laidLooks := .later }
def DeclXMLCardSaid : Prop := Claim7.holds Tryd.pinned (.plain (OpenSpec.ofChange declXMLSpec)) declXMLCard

/-- THE TIED CARD OF 'brackenlaw11.DeclFirst'. -/
def declFirstCard : Claim7 := { stood := { row := declFirstRow, standIns := [], harness := (true, "c34e00b0b966b36212c23c4ff992244a23e62ed56528504c137bb390301f77a8"), looks := false }, kinds := [], alts := [], laidByText := true, laidKinds := [.data, .data, .data, .pinned, .pinned], laidTests := true, laidLooks := .later }
def DeclFirstCardSaid : Prop := Claim7.holds Tryd.pinned (.plain (OpenSpec.ofChange declFirstSpec)) declFirstCard

/-- THE TIED CARD OF 'brackenlaw11.DeclLiterals'. -/
def declLiteralsCard : Claim7 := { stood := { row := declLiteralsRow, standIns := [], harness := (true, "c34e00b0b966b36212c23c4ff992244a23e62ed56528504c137bb390301f77a8"), looks := false }, kinds := [], alts := [], laidByText := true, laidKinds := [.data, .data, .data, .pinned, .pinned], laidTests := true, laidLooks := .later }
def DeclLiteralsCardSaid : Prop := Claim7.holds Tryd.pinned (.plain (OpenSpec.ofChange declLiteralsSpec)) declLiteralsCard

/-- THE TIED CARD OF 'brackenlaw11.DeclEntities'. -/
def declEntitiesCard : Claim7 := { stood := { row := declEntitiesRow, standIns := [], harness := (true, "c34e00b0b966b36212c23c4ff992244a23e62ed56528504c137bb390301f77a8"), looks := false }, kinds := [], alts := [], laidByText := true, laidKinds := [.data, .data, .data, .pinned, .pinned], laidTests := true, laidLooks := .later }
def DeclEntitiesCardSaid : Prop := Claim7.holds Tryd.pinned (.plain (OpenSpec.ofChange declEntitiesSpec)) declEntitiesCard

/-- THE TIED CARD OF 'brackenlaw11.DeclTypes'. -/
def declTypesCard : Claim7 := { stood := { row := declTypesRow, standIns := [], harness := (true, "c34e00b0b966b36212c23c4ff992244a23e62ed56528504c137bb390301f77a8"), looks := false }, kinds := [], alts := [], laidByText := true, laidKinds := [.data, .data, .data, .pinned, .pinned], laidTests := true, laidLooks := .later }
def DeclTypesCardSaid : Prop := Claim7.holds Tryd.pinned (.plain (OpenSpec.ofChange declTypesSpec)) declTypesCard

/-- THE SECOND FORM's CARD OF 'brackenlaw10.TokenTexts'. -/
def tokenTextsUptoCard : Claim7 := { stood := { row := tokenTextsUptoRow, standIns := [], harness := (true, "c34e00b0b966b36212c23c4ff992244a23e62ed56528504c137bb390301f77a8"), looks := false }, kinds := [], alts := [], laidByText := true, laidKinds := [.data, .data, .data, .pinned, .pinned], laidTests := true, laidLooks := .later }
def TokenTextsUptoCardSaid : Prop := Claim7.holds Tryd.pinned (.plain (OpenSpec.upto tokenTextsSpec)) tokenTextsUptoCard

/-- THE SECOND FORM's CARD OF 'brackenlaw10.TokenRefs'. -/
def tokenRefsUptoCard : Claim7 := { stood := { row := tokenRefsUptoRow, standIns := [], harness := (true, "c34e00b0b966b36212c23c4ff992244a23e62ed56528504c137bb390301f77a8"), looks := false }, kinds := [], alts := [], laidByText := true, laidKinds := [.data, .data, .data, .pinned, .pinned], laidTests := true, laidLooks := .later }
def TokenRefsUptoCardSaid : Prop := Claim7.holds Tryd.pinned (.plain (OpenSpec.upto tokenRefsSpec)) tokenRefsUptoCard

/-- THE SECOND FORM's CARD OF 'brackenlaw10.TokenRows'. -/
def tokenRowsUptoCard : Claim7 := { stood := { row := tokenRowsUptoRow, standIns := [], harness := (true, "c34e00b0b966b36212c23c4ff992244a23e62ed56528504c137bb390301f77a8"), looks := false }, kinds := [], alts := [], laidByText := true, laidKinds := [.data, .data, .data, .pinned, .pinned], laidTests := true, laidLooks := .later }
def TokenRowsUptoCardSaid : Prop := Claim7.holds Tryd.pinned (.plain (OpenSpec.upto tokenRowsSpec)) tokenRowsUptoCard

/-- THE SECOND FORM's CARD OF 'brackenlaw10.TokenAttrs'. -/
def tokenAttrsUptoCard : Claim7 := { stood := { row := tokenAttrsUptoRow, standIns := [], harness := (true, "c34e00b0b966b36212c23c4ff992244a23e62ed56528504c137bb390301f77a8"), looks := false }, kinds := [], alts := [], laidByText := true, laidKinds := [.data, .data, .data, .pinned, .pinned], laidTests := true, laidLooks := .later }
def TokenAttrsUptoCardSaid : Prop := Claim7.holds Tryd.pinned (.plain (OpenSpec.upto tokenAttrsSpec)) tokenAttrsUptoCard

/-- THE SECOND FORM's CARD OF 'brackenlaw10.TokenAside'. -/
def tokenAsideUptoCard : Claim7 := { stood := { row := tokenAsideUptoRow, standIns := [], harness := (true, "c34e00b0b966b36212c23c4ff992244a23e62ed56528504c137bb390301f77a8"), looks := false }, kinds := [], alts := [], laidByText := true, laidKinds := [.data, .data, .data, .pinned, .pinned], laidTests := true, laidLooks := .later }
def TokenAsideUptoCardSaid : Prop := Claim7.holds Tryd.pinned (.plain (OpenSpec.upto tokenAsideSpec)) tokenAsideUptoCard

/-- THE SECOND FORM's CARD OF 'brackenlaw11.DeclExternal'. -/
def declExternalUptoCard : Claim7 := { stood := { row := declExternalUptoRow, standIns := [], harness := (true, "c34e00b0b966b36212c23c4ff992244a23e62ed56528504c137bb390301f77a8"), looks := false }, kinds := [], alts := [], laidByText := true, laidKinds := [.data, .data, .data, .pinned, .pinned], laidTests := true, laidLooks := .later }
def DeclExternalUptoCardSaid : Prop := Claim7.holds Tryd.pinned (.plain (OpenSpec.upto declExternalSpec)) declExternalUptoCard

/-- THE SECOND FORM's CARD OF 'brackenlaw11.DeclXML'. -/
def declXMLUptoCard : Claim7 := { stood := { row := declXMLUptoRow, standIns := [], harness := (true, "c34e00b0b966b36212c23c4ff992244a23e62ed56528504c137bb390301f77a8"), looks := false }, kinds := [], alts := [], laidByText := true, laidKinds := [.data, .data, .data, .pinned, .pinned], laidTests := true, laidLooks := .later }
def DeclXMLUptoCardSaid : Prop := Claim7.holds Tryd.pinned (.plain (OpenSpec.upto declXMLSpec)) declXMLUptoCard

/-- THE SECOND FORM's CARD OF 'brackenlaw11.DeclFirst'. -/
def declFirstUptoCard : Claim7 := { stood := { row := declFirstUptoRow, standIns := [], harness := (true, "c34e00b0b966b36212c23c4ff992244a23e62ed56528504c137bb390301f77a8"), looks := false }, kinds := [], alts := [], laidByText := true, laidKinds := [.data, .data, .data, .pinned, .pinned], laidTests := true, laidLooks := .later }
def DeclFirstUptoCardSaid : Prop := Claim7.holds Tryd.pinned (.plain (OpenSpec.upto declFirstSpec)) declFirstUptoCard

/-- THE SECOND FORM's CARD OF 'brackenlaw11.DeclLiterals'. -/
def declLiteralsUptoCard : Claim7 := { stood := { row := declLiteralsUptoRow, standIns := [], harness := (true, "c34e00b0b966b36212c23c4ff992244a23e62ed56528504c137bb390301f77a8"), looks := false }, kinds := [], alts := [], laidByText := true, laidKinds := [.data, .data, .data, .pinned, .pinned], laidTests := true, laidLooks := .later }
def DeclLiteralsUptoCardSaid : Prop := Claim7.holds Tryd.pinned (.plain (OpenSpec.upto declLiteralsSpec)) declLiteralsUptoCard

/-- THE SECOND FORM's CARD OF 'brackenlaw11.DeclEntities'. -/
def declEntitiesUptoCard : Claim7 := { stood := { row := declEntitiesUptoRow, standIns := [], harness := (true, "c34e00b0b966b36212c23c4ff992244a23e62ed56528504c137bb390301f77a8"), looks := false }, kinds := [], alts := [], laidByText := true, laidKinds := [.data, .data, .data, .pinned, .pinned], laidTests := true, laidLooks := .later }
def DeclEntitiesUptoCardSaid : Prop := Claim7.holds Tryd.pinned (.plain (OpenSpec.upto declEntitiesSpec)) declEntitiesUptoCard

/-- THE SECOND FORM's CARD OF 'brackenlaw11.DeclTypes'. -/
def declTypesUptoCard : Claim7 := { stood := { row := declTypesUptoRow, standIns := [], harness := (true, "c34e00b0b966b36212c23c4ff992244a23e62ed56528504c137bb390301f77a8"), looks := false }, kinds := [], alts := [], laidByText := true, laidKinds := [.data, .data, .data, .pinned, .pinned], laidTests := true, laidLooks := .later }
def DeclTypesUptoCardSaid : Prop := Claim7.holds Tryd.pinned (.plain (OpenSpec.upto declTypesSpec)) declTypesUptoCard
end Rows
end Go.Proofs.YtmjdjpelhhibgaaDoor
