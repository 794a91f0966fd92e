/-
  DERIVED. GIVEN WITH THE SEED: THE CARDS: each row of YtccknopchddicaaDoorRows.lean that lists a variable, with what it lists TIED to the program's text (the seventh form; the later family's looks); each row that meets fmt, with fmt's text TOLD by the authors' own Lean function (tested against real Go, not proved from fmt's source: count such statements apart). THE CARD IS WHAT COUNTS. Prove the row's statement (the work); the ties are given (YtccknopchddicaaDoorTie.lean); close each card by the builder's one call (the guide's Derived/Test/ToyasCard.lean, 'card_holds'). Laid BY PROGRAM, IN A SANDBOX (cutbox-door.mjs). By AI agents, Wed Nov 11 2026. No macro, syntax, notation, axiom, sorry.
-/
import Derived.Test.YtccknopchddicaaDoorRows
import GoSem.ClaimSeven
namespace Go.Proofs.YtccknopchddicaaDoor
namespace Rows

/-- THE TIED CARD OF 'stilewardtop.FormLettersTurned'. -/
def formLettersTurnedCard : Claim7 := { stood := { row := formLettersTurnedRow, standIns := [], harness := (true, "4c981184f3a592993e3c0623c4a79cc9386fbdabe21ab78410f90306c90b30ae"), looks := true }, kinds := [], alts := [], laidByText := true, laidKinds := [.handle], laidTests := true, laidLooks := .later }
def FormLettersTurnedCardSaid : Prop := Claim7.holds Tryd.pinned (.plain (OpenSpec.ofChange formLettersTurnedSpec)) formLettersTurnedCard

/-- THE TIED CARD OF 'stilewardtop.FormLettersMore'. -/
def formLettersMoreCard : Claim7 := { stood := { row := formLettersMoreRow, standIns := [], harness := (true, "4c981184f3a592993e3c0623c4a79cc9386fbdabe21ab78410f90306c90b30ae"), looks := true }, kinds := [], alts := [], laidByText := true, laidKinds := [.handle], laidTests := true, laidLooks := .later }
def FormLettersMoreCardSaid : Prop := Claim7.holds Tryd.pinned (.plain (OpenSpec.ofChange formLettersMoreSpec)) formLettersMoreCard

/-- THE SECOND FORM's CARD OF 'stilewardtop.FormLettersTurned'. -/
def formLettersTurnedUptoCard : Claim7 := { stood := { row := formLettersTurnedUptoRow, standIns := [], harness := (true, "4c981184f3a592993e3c0623c4a79cc9386fbdabe21ab78410f90306c90b30ae"), looks := true }, kinds := [], alts := [], laidByText := true, laidKinds := [.handle], laidTests := true, laidLooks := .later }
def FormLettersTurnedUptoCardSaid : Prop := Claim7.holds Tryd.pinned (.plain (OpenSpec.upto formLettersTurnedSpec)) formLettersTurnedUptoCard

/-- THE SECOND FORM's CARD OF 'stilewardtop.FormLettersMore'. -/
def formLettersMoreUptoCard : Claim7 := { stood := { row := formLettersMoreUptoRow, standIns := [], harness := (true, "4c981184f3a592993e3c0623c4a79cc9386fbdabe21ab78410f90306c90b30ae"), looks := true }, kinds := [], alts := [], laidByText := true, laidKinds := [.handle], laidTests := true, laidLooks := .later }
def FormLettersMoreUptoCardSaid : Prop := Claim7.holds Tryd.pinned (.plain (OpenSpec.upto formLettersMoreSpec)) formLettersMoreUptoCard
end Rows
end Go.Proofs.YtccknopchddicaaDoor
