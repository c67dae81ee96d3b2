/-
  DERIVED. GIVEN WITH THE SEED: THE CARDS: each row of YtmjdjpelhhibgaaGreatDoorRows.lean that lists a variable, with what it lists TIED to the program's text (the seventh form; the later family's looks); each row that meets fmt, with fmt's text TOLD by the authors' own Lean function (tested against real Go, not proved from fmt's source: count such statements apart). THE CARD IS WHAT COUNTS. Prove the row's statement (the work); the ties are given (YtmjdjpelhhibgaaGreatDoorTie.lean); close each card by the builder's one call (the guide's Derived/Test/ToyasCard.lean, 'card_holds'). Laid BY PROGRAM, IN A SANDBOX (cutbox-door.mjs). By AI agents, Wed Nov 11 2026. No macro, syntax, notation, axiom, sorry.
-/
import Derived.Test.YtmjdjpelhhibgaaGreatDoorRows
import GoSem.ClaimSeven
namespace Go.Proofs.YtmjdjpelhhibgaaGreatDoor
namespace Rows

/-- THE TIED CARD OF 'brackenlaw13.ValueSigns'. -/
def valueSignsCard : Claim7 := { stood := { row := valueSignsRow, standIns := [], harness := (true, "e60f3a9a14f520b63242a746ba84fb5d8456dfe1f6c95bd3467f4804666df9d1"), looks := true }, kinds := [], alts := [], laidByText := true, laidKinds := [.data, .pinned], laidTests := true, laidLooks := .later }
def ValueSignsCardSaid : Prop := Claim7.holds Tryz.pinned (.plain (OpenSpec.ofChange valueSignsSpec)) valueSignsCard

/-- THE TIED CARD OF 'brackenlaw13.ValueBack'. -/
def valueBackCard : Claim7 := { stood := { row := valueBackRow, standIns := [], harness := (true, "e60f3a9a14f520b63242a746ba84fb5d8456dfe1f6c95bd3467f4804666df9d1"), looks := true }, kinds := [], alts := [], laidByText := true, laidKinds := [.data, .pinned], laidTests := true, laidLooks := .later }
def ValueBackCardSaid : Prop := Claim7.holds Tryz.pinned (.plain (OpenSpec.ofChange valueBackSpec)) valueBackCard

/-- THE TIED CARD OF 'brackenlaw13.ValueBlanks'. -/
def valueBlanksCard : Claim7 := { stood := { row := valueBlanksRow, standIns := [], harness := (true, "e60f3a9a14f520b63242a746ba84fb5d8456dfe1f6c95bd3467f4804666df9d1"), looks := true }, kinds := [], alts := [], laidByText := true, laidKinds := [.data, .pinned], laidTests := true, laidLooks := .later }
def ValueBlanksCardSaid : Prop := Claim7.holds Tryz.pinned (.plain (OpenSpec.ofChange valueBlanksSpec)) valueBlanksCard

/-- THE TIED CARD OF 'brackenlaw13.ValueTypes'. -/
def valueTypesCard : Claim7 := { stood := { row := valueTypesRow, standIns := [], harness := (true, "e60f3a9a14f520b63242a746ba84fb5d8456dfe1f6c95bd3467f4804666df9d1"), looks := true }, kinds := [], alts := [], laidByText := true, laidKinds := [.data, .pinned], laidTests := true, laidLooks := .later }
def ValueTypesCardSaid : Prop := Claim7.holds Tryz.pinned (.plain (OpenSpec.ofChange valueTypesSpec)) valueTypesCard

/-- THE TIED CARD OF 'brackenlaw13.ValueAsks'. -/
def valueAsksCard : Claim7 := { stood := { row := valueAsksRow, standIns := [], harness := (true, "e60f3a9a14f520b63242a746ba84fb5d8456dfe1f6c95bd3467f4804666df9d1"), looks := true }, kinds := [], alts := [], laidByText := true, laidKinds := [.data, .pinned], laidTests := true, laidLooks := .later }
def ValueAsksCardSaid : Prop := Claim7.holds Tryz.pinned (.plain (OpenSpec.ofChange valueAsksSpec)) valueAsksCard

/-- THE TIED CARD OF 'brackenlaw13.ValueNested'. -/
def valueNestedCard : Claim7 := { stood := { row := valueNestedRow, standIns := [], harness := (true, "e60f3a9a14f520b63242a746ba84fb5d8456dfe1f6c95bd3467f4804666df9d1"), looks := true }, kinds := [], alts := [], laidByText := true, laidKinds := [.data, .pinned], laidTests := true, laidLooks := .later }
def ValueNestedCardSaid : Prop := Claim7.holds Tryz.pinned (.plain (OpenSpec.ofChange valueNestedSpec)) valueNestedCard

/-- THE SECOND FORM's CARD OF 'brackenlaw13.ValueSigns'. -/
def valueSignsUptoCard : Claim7 := { stood := { row := valueSignsUptoRow, standIns := [], harness := (true, "e60f3a9a14f520b63242a746ba84fb5d8456dfe1f6c95bd3467f4804666df9d1"), looks := true }, kinds := [], alts := [], laidByText := true, laidKinds := [.data, .pinned], laidTests := true, laidLooks := .later }
def ValueSignsUptoCardSaid : Prop := Claim7.holds Tryz.pinned (.plain (OpenSpec.upto valueSignsSpec)) valueSignsUptoCard

/-- THE SECOND FORM's CARD OF 'brackenlaw13.ValueBack'. -/
def valueBackUptoCard : Claim7 := { stood := { row := valueBackUptoRow, standIns := [], harness := (true, "e60f3a9a14f520b63242a746ba84fb5d8456dfe1f6c95bd3467f4804666df9d1"), looks := true }, kinds := [], alts := [], laidByText := true, laidKinds := [.data, .pinned], laidTests := true, laidLooks := .later }
def ValueBackUptoCardSaid : Prop := Claim7.holds Tryz.pinned (.plain (OpenSpec.upto valueBackSpec)) valueBackUptoCard

/-- THE SECOND FORM's CARD OF 'brackenlaw13.ValueBlanks'. -/
def valueBlanksUptoCard : Claim7 := { stood := { row := valueBlanksUptoRow, standIns := [], harness := (true, "e60f3a9a14f520b63242a746ba84fb5d8456dfe1f6c95bd3467f4804666df9d1"), looks := true }, kinds := [], alts := [], laidByText := true, laidKinds := [.data, .pinned], laidTests := true, laidLooks := .later }
def ValueBlanksUptoCardSaid : Prop := Claim7.holds Tryz.pinned (.plain (OpenSpec.upto valueBlanksSpec)) valueBlanksUptoCard

/-- THE SECOND FORM's CARD OF 'brackenlaw13.ValueTypes'. -/
def valueTypesUptoCard : Claim7 := { stood := { row := valueTypesUptoRow, standIns := [], harness := (true, "e60f3a9a14f520b63242a746ba84fb5d8456dfe1f6c95bd3467f4804666df9d1"), looks := true }, kinds := [], alts := [], laidByText := true, laidKinds := [.data, .pinned], laidTests := true, laidLooks := .later }
def ValueTypesUptoCardSaid : Prop := Claim7.holds Tryz.pinned (.plain (OpenSpec.upto valueTypesSpec)) valueTypesUptoCard

/-- THE SECOND FORM's CARD OF 'brackenlaw13.ValueAsks'. -/
def valueAsksUptoCard : Claim7 := { stood := { row := valueAsksUptoRow, standIns := [], harness := (true, "e60f3a9a14f520b63242a746ba84fb5d8456dfe1f6c95bd3467f4804666df9d1"), looks := true }, kinds := [], alts := [], laidByText := true, laidKinds := [.data, .pinned], laidTests := true, laidLooks := .later }
def ValueAsksUptoCardSaid : Prop := Claim7.holds Tryz.pinned (.plain (OpenSpec.upto valueAsksSpec)) valueAsksUptoCard

/-- THE SECOND FORM's CARD OF 'brackenlaw13.ValueNested'. -/
def valueNestedUptoCard : Claim7 := { stood := { row := valueNestedUptoRow, standIns := [], harness := (true, "e60f3a9a14f520b63242a746ba84fb5d8456dfe1f6c95bd3467f4804666df9d1"), looks := true }, kinds := [], alts := [], laidByText := true, laidKinds := [.data, .pinned], laidTests := true, laidLooks := .later }
def ValueNestedUptoCardSaid : Prop := Claim7.holds Tryz.pinned (.plain (OpenSpec.upto valueNestedSpec)) valueNestedUptoCard
end Rows
end Go.Proofs.YtmjdjpelhhibgaaGreatDoor
