/-
  DERIVED. GIVEN WITH THE SEED: THE CARDS: each row of YtccknopchddicaaGreatDoorRows.lean that lists a variable, with what it lists TIED to the program's text (the seventh form; the later family's looks); each row that meets fmt, with fmt's text TOLD by the authors' own Lean function (tested against real Go, not proved from fmt's source: count such statements apart). THE CARD IS WHAT COUNTS. Prove the row's statement (the work); the ties are given (YtccknopchddicaaGreatDoorTie.lean); close each card by the builder's one call (the guide's Derived/Test/ToyasCard.lean, 'card_holds'). Laid BY PROGRAM, IN A SANDBOX (cutbox-door.mjs). By AI agents, Wed Nov 11 2026. No macro, syntax, notation, axiom, sorry.
-/
import Derived.Test.YtccknopchddicaaGreatDoorRows
import GoSem.ClaimSeven
namespace Go.Proofs.YtccknopchddicaaGreatDoor
namespace Rows

/-- THE TIED CARD OF 'stilewardtop.FormDenied'. -/
def formDeniedCard : Claim7 := { stood := { row := formDeniedRow, standIns := [], harness := (true, "d9425cf7a6e33042938e75bf34ae183811ad03d9366171b8c458c796eeaf8d69"), looks := true }, kinds := [], alts := [], laidByText := true, laidKinds := [.data, .handle, .pinned], laidTests := true, laidLooks := .later }
def FormDeniedCardSaid : Prop := Claim7.holds Tryz.pinned (.plain (OpenSpec.ofChange formDeniedSpec)) formDeniedCard

/-- THE TIED CARD OF 'stilewardtop.FormSides'. -/
def formSidesCard : Claim7 := { stood := { row := formSidesRow, standIns := [], harness := (true, "d9425cf7a6e33042938e75bf34ae183811ad03d9366171b8c458c796eeaf8d69"), looks := true }, kinds := [], alts := [], laidByText := true, laidKinds := [.data, .handle, .pinned], laidTests := true, laidLooks := .later }
def FormSidesCardSaid : Prop := Claim7.holds Tryz.pinned (.plain (OpenSpec.ofChange formSidesSpec)) formSidesCard

/-- THE TIED CARD OF 'stilewardtop.FormUnrolled'. -/
def formUnrolledCard : Claim7 := { stood := { row := formUnrolledRow, standIns := [], harness := (true, "d9425cf7a6e33042938e75bf34ae183811ad03d9366171b8c458c796eeaf8d69"), looks := true }, kinds := [], alts := [], laidByText := true, laidKinds := [.data, .handle, .pinned], laidTests := true, laidLooks := .later }
def FormUnrolledCardSaid : Prop := Claim7.holds Tryz.pinned (.plain (OpenSpec.ofChange formUnrolledSpec)) formUnrolledCard

/-- THE TIED CARD OF 'stilewardtop.FormDistributed'. -/
def formDistributedCard : Claim7 := { stood := { row := formDistributedRow, standIns := [], harness := (true, "d9425cf7a6e33042938e75bf34ae183811ad03d9366171b8c458c796eeaf8d69"), looks := true }, kinds := [], alts := [], laidByText := true, laidKinds := [.data, .handle, .pinned], laidTests := true, laidLooks := .later }
def FormDistributedCardSaid : Prop := Claim7.holds Tryz.pinned (.plain (OpenSpec.ofChange formDistributedSpec)) formDistributedCard

/-- THE TIED CARD OF 'stilewardtop.FormCrossed'. -/
def formCrossedCard : Claim7 := { stood := { row := formCrossedRow, standIns := [], harness := (true, "d9425cf7a6e33042938e75bf34ae183811ad03d9366171b8c458c796eeaf8d69"), looks := true }, kinds := [], alts := [], laidByText := true, laidKinds := [.data, .handle, .pinned], laidTests := true, laidLooks := .later }
def FormCrossedCardSaid : Prop := Claim7.holds Tryz.pinned (.plain (OpenSpec.ofChange formCrossedSpec)) formCrossedCard

/-- THE TIED CARD OF 'stilewardtop.FormAbsorbed'. -/
def formAbsorbedCard : Claim7 := { stood := { row := formAbsorbedRow, standIns := [], harness := (true, "d9425cf7a6e33042938e75bf34ae183811ad03d9366171b8c458c796eeaf8d69"), looks := true }, kinds := [], alts := [], laidByText := true, laidKinds := [.data, .handle, .pinned], laidTests := true, laidLooks := .later }
def FormAbsorbedCardSaid : Prop := Claim7.holds Tryz.pinned (.plain (OpenSpec.ofChange formAbsorbedSpec)) formAbsorbedCard

/-- THE TIED CARD OF 'stilewardtop.FormTwice'. -/
def formTwiceCard : Claim7 := { stood := { row := formTwiceRow, standIns := [], harness := (true, "d9425cf7a6e33042938e75bf34ae183811ad03d9366171b8c458c796eeaf8d69"), looks := true }, kinds := [], alts := [], laidByText := true, laidKinds := [.data, .handle, .pinned], laidTests := true, laidLooks := .later }
def FormTwiceCardSaid : Prop := Claim7.holds Tryz.pinned (.plain (OpenSpec.ofChange formTwiceSpec)) formTwiceCard

/-- THE TIED CARD OF 'stilewardtop.FormTurned'. -/
def formTurnedCard : Claim7 := { stood := { row := formTurnedRow, standIns := [], harness := (true, "d9425cf7a6e33042938e75bf34ae183811ad03d9366171b8c458c796eeaf8d69"), looks := true }, kinds := [], alts := [], laidByText := true, laidKinds := [.data, .handle, .pinned], laidTests := true, laidLooks := .later }
def FormTurnedCardSaid : Prop := Claim7.holds Tryz.pinned (.plain (OpenSpec.ofChange formTurnedSpec)) formTurnedCard

/-- THE TIED CARD OF 'stilewardtop.FormLettersParted'. -/
def formLettersPartedCard : Claim7 := { stood := { row := formLettersPartedRow, standIns := [], harness := (true, "d9425cf7a6e33042938e75bf34ae183811ad03d9366171b8c458c796eeaf8d69"), looks := true }, kinds := [], alts := [], laidByText := true, laidKinds := [.data, .handle, .pinned], laidTests := true, laidLooks := .later }
def FormLettersPartedCardSaid : Prop := Claim7.holds Tryz.pinned (.plain (OpenSpec.ofChange formLettersPartedSpec)) formLettersPartedCard

/-- THE SECOND FORM's CARD OF 'stilewardtop.FormDenied'. -/
def formDeniedUptoCard : Claim7 := { stood := { row := formDeniedUptoRow, standIns := [], harness := (true, "d9425cf7a6e33042938e75bf34ae183811ad03d9366171b8c458c796eeaf8d69"), looks := true }, kinds := [], alts := [], laidByText := true, laidKinds := [.data, .handle, .pinned], laidTests := true, laidLooks := .later }
def FormDeniedUptoCardSaid : Prop := Claim7.holds Tryz.pinned (.plain (OpenSpec.upto formDeniedSpec)) formDeniedUptoCard

/-- THE SECOND FORM's CARD OF 'stilewardtop.FormSides'. -/
def formSidesUptoCard : Claim7 := { stood := { row := formSidesUptoRow, standIns := [], harness := (true, "d9425cf7a6e33042938e75bf34ae183811ad03d9366171b8c458c796eeaf8d69"), looks := true }, kinds := [], alts := [], laidByText := true, laidKinds := [.data, .handle, .pinned], laidTests := true, laidLooks := .later }
def FormSidesUptoCardSaid : Prop := Claim7.holds Tryz.pinned (.plain (OpenSpec.upto formSidesSpec)) formSidesUptoCard

/-- THE SECOND FORM's CARD OF 'stilewardtop.FormUnrolled'. -/
def formUnrolledUptoCard : Claim7 := { stood := { row := formUnrolledUptoRow, standIns := [], harness := (true, "d9425cf7a6e33042938e75bf34ae183811ad03d9366171b8c458c796eeaf8d69"), looks := true }, kinds := [], alts := [], laidByText := true, laidKinds := [.data, .handle, .pinned], laidTests := true, laidLooks := .later }
def FormUnrolledUptoCardSaid : Prop := Claim7.holds Tryz.pinned (.plain (OpenSpec.upto formUnrolledSpec)) formUnrolledUptoCard

/-- THE SECOND FORM's CARD OF 'stilewardtop.FormDistributed'. -/
def formDistributedUptoCard : Claim7 := { stood := { row := formDistributedUptoRow, standIns := [], harness := (true, "d9425cf7a6e33042938e75bf34ae183811ad03d9366171b8c458c796eeaf8d69"), looks := true }, kinds := [], alts := [], laidByText := true, laidKinds := [.data, .handle, .pinned], laidTests := true, laidLooks := .later }
def FormDistributedUptoCardSaid : Prop := Claim7.holds Tryz.pinned (.plain (OpenSpec.upto formDistributedSpec)) formDistributedUptoCard

/-- THE SECOND FORM's CARD OF 'stilewardtop.FormCrossed'. -/
def formCrossedUptoCard : Claim7 := { stood := { row := formCrossedUptoRow, standIns := [], harness := (true, "d9425cf7a6e33042938e75bf34ae183811ad03d9366171b8c458c796eeaf8d69"), looks := true }, kinds := [], alts := [], laidByText := true, laidKinds := [.data, .handle, .pinned], laidTests := true, laidLooks := .later }
def FormCrossedUptoCardSaid : Prop := Claim7.holds Tryz.pinned (.plain (OpenSpec.upto formCrossedSpec)) formCrossedUptoCard

/-- THE SECOND FORM's CARD OF 'stilewardtop.FormAbsorbed'. -/
def formAbsorbedUptoCard : Claim7 := { stood := { row := formAbsorbedUptoRow, standIns := [], harness := (true, "d9425cf7a6e33042938e75bf34ae183811ad03d9366171b8c458c796eeaf8d69"), looks := true }, kinds := [], alts := [], laidByText := true, laidKinds := [.data, .handle, .pinned], laidTests := true, laidLooks := .later }
def FormAbsorbedUptoCardSaid : Prop := Claim7.holds Tryz.pinned (.plain (OpenSpec.upto formAbsorbedSpec)) formAbsorbedUptoCard

/-- THE SECOND FORM's CARD OF 'stilewardtop.FormTwice'. -/
def formTwiceUptoCard : Claim7 := { stood := { row := formTwiceUptoRow, standIns := [], harness := (true, "d9425cf7a6e33042938e75bf34ae183811ad03d9366171b8c458c796eeaf8d69"), looks := true }, kinds := [], alts := [], laidByText := true, laidKinds := [.data, .handle, .pinned], laidTests := true, laidLooks := .later }
def FormTwiceUptoCardSaid : Prop := Claim7.holds Tryz.pinned (.plain (OpenSpec.upto formTwiceSpec)) formTwiceUptoCard

/-- THE SECOND FORM's CARD OF 'stilewardtop.FormTurned'. -/
def formTurnedUptoCard : Claim7 := { stood := { row := formTurnedUptoRow, standIns := [], harness := (true, "d9425cf7a6e33042938e75bf34ae183811ad03d9366171b8c458c796eeaf8d69"), looks := true }, kinds := [], alts := [], laidByText := true, laidKinds := [.data, .handle, .pinned], laidTests := true, laidLooks := .later }
def FormTurnedUptoCardSaid : Prop := Claim7.holds Tryz.pinned (.plain (OpenSpec.upto formTurnedSpec)) formTurnedUptoCard

/-- THE SECOND FORM's CARD OF 'stilewardtop.FormLettersParted'. -/
def formLettersPartedUptoCard : Claim7 := { stood := { row := formLettersPartedUptoRow, standIns := [], harness := (true, "d9425cf7a6e33042938e75bf34ae183811ad03d9366171b8c458c796eeaf8d69"), looks := true }, kinds := [], alts := [], laidByText := true, laidKinds := [.data, .handle, .pinned], laidTests := true, laidLooks := .later }
def FormLettersPartedUptoCardSaid : Prop := Claim7.holds Tryz.pinned (.plain (OpenSpec.upto formLettersPartedSpec)) formLettersPartedUptoCard
end Rows
end Go.Proofs.YtccknopchddicaaGreatDoor
