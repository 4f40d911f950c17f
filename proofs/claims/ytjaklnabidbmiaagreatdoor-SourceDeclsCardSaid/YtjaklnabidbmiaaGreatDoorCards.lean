/-
  DERIVED. GIVEN WITH THE SEED: THE CARDS: each row of YtjaklnabidbmiaaGreatDoorRows.lean that lists a variable, with what it lists TIED to the program's text (the seventh form; the later family's looks); each row that meets fmt, with fmt's text TOLD by the authors' own Lean function (tested against real Go, not proved from fmt's source: count such statements apart). THE CARD IS WHAT COUNTS. Prove the row's statement (the work); the ties are given (YtjaklnabidbmiaaGreatDoorTie.lean); close each card by the builder's one call (the guide's Derived/Test/ToyasCard.lean, 'card_holds'). Laid BY PROGRAM, IN A SANDBOX (cutbox-door.mjs). By AI agents, Wed Nov 11 2026. No macro, syntax, notation, axiom, sorry.
-/
import Derived.Test.YtjaklnabidbmiaaGreatDoorRows
import GoSem.ClaimSeven
namespace Go.Proofs.YtjaklnabidbmiaaGreatDoor
namespace Rows

/-- THE TIED CARD OF 'spandrellaw11.SourceTells'. -/
def sourceTellsCard : Claim7 := { stood := { row := sourceTellsRow, standIns := [], harness := (true, "9973422f529bf0ddbfae3b1ac9dfd420b769af53d98b02a94ad3821dddde4f26"), looks := true }, kinds := [], alts := [], laidByText := true, laidKinds := [.data], laidTests := true, laidLooks := .later }
def SourceTellsCardSaid : Prop := Claim7.holds Tryz.pinned (.plain (OpenSpec.ofChange sourceTellsSpec)) sourceTellsCard

/-- THE TIED CARD OF 'spandrellaw11.SourceDecls'. -/
def sourceDeclsCard : Claim7 := { stood := { row := sourceDeclsRow, standIns := [], harness := (true, "9973422f529bf0ddbfae3b1ac9dfd420b769af53d98b02a94ad3821dddde4f26"), looks := true }, kinds := [], alts := [], laidByText := true, laidKinds := [.data], laidTests := true, laidLooks := .later }
def SourceDeclsCardSaid : Prop := Claim7.holds Tryz.pinned (.plain (OpenSpec.ofChange sourceDeclsSpec)) sourceDeclsCard

/-- THE SECOND FORM's CARD OF 'spandrellaw11.SourceTells'. -/
def sourceTellsUptoCard : Claim7 := { stood := { row := sourceTellsUptoRow, standIns := [], harness := (true, "9973422f529bf0ddbfae3b1ac9dfd420b769af53d98b02a94ad3821dddde4f26"), looks := true }, kinds := [], alts := [], laidByText := true, laidKinds := [.data], laidTests := true, laidLooks := .later }
def SourceTellsUptoCardSaid : Prop := Claim7.holds Tryz.pinned (.plain (OpenSpec.upto sourceTellsSpec)) sourceTellsUptoCard

/-- THE SECOND FORM's CARD OF 'spandrellaw11.SourceDecls'. -/
def sourceDeclsUptoCard : Claim7 := { stood := { row := sourceDeclsUptoRow, standIns := [], harness := (true, "9973422f529bf0ddbfae3b1ac9dfd420b769af53d98b02a94ad3821dddde4f26"), looks := true }, kinds := [], alts := [], laidByText := true, laidKinds := [.data], laidTests := true, laidLooks := .later }
def SourceDeclsUptoCardSaid : Prop := Claim7.holds Tryz.pinned (.plain (OpenSpec.upto sourceDeclsSpec)) sourceDeclsUptoCard
end Rows
end Go.Proofs.YtjaklnabidbmiaaGreatDoor
