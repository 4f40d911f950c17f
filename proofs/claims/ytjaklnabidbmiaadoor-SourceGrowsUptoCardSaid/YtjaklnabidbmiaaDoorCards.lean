/-
  DERIVED. GIVEN WITH THE SEED: THE CARDS: each row of YtjaklnabidbmiaaDoorRows.lean that lists a variable, with what it lists TIED to the program's text (the seventh form; the later family's looks); each row that meets fmt, with fmt's text TOLD by the authors' own Lean function (tested against real Go, not proved from fmt's source: count such statements apart). THE CARD IS WHAT COUNTS. Prove the row's statement (the work); the ties are given (YtjaklnabidbmiaaDoorTie.lean); close each card by the builder's one call (the guide's Derived/Test/ToyasCard.lean, 'card_holds'). Laid BY PROGRAM, IN A SANDBOX (cutbox-door.mjs). By AI agents, Wed Nov 11 2026. No macro, syntax, notation, axiom, sorry.
-/
import Derived.Test.YtjaklnabidbmiaaDoorRows
import GoSem.ClaimSeven
namespace Go.Proofs.YtjaklnabidbmiaaDoor
namespace Rows

/-- THE TIED CARD OF 'spandrellaw11.SourceCases'. -/
def sourceCasesCard : Claim7 := { stood := { row := sourceCasesRow, standIns := [], harness := (true, "9bed743e375c55cfc754bc544fde901d7cc8f6f645efe325e4e14df07bd781ed"), looks := true }, kinds := [], alts := [], laidByText := true, laidKinds := [.data], laidTests := true, laidLooks := .later }
def SourceCasesCardSaid : Prop := Claim7.holds Tryd.pinned (.plain (OpenSpec.ofChange sourceCasesSpec)) sourceCasesCard

/-- THE TIED CARD OF 'spandrellaw11.SourceGrows'. -/
def sourceGrowsCard : Claim7 := { stood := { row := sourceGrowsRow, standIns := [], harness := (true, "9bed743e375c55cfc754bc544fde901d7cc8f6f645efe325e4e14df07bd781ed"), looks := true }, kinds := [], alts := [], laidByText := true, laidKinds := [.data], laidTests := true, laidLooks := .later }
def SourceGrowsCardSaid : Prop := Claim7.holds Tryd.pinned (.plain (OpenSpec.ofChange sourceGrowsSpec)) sourceGrowsCard

/-- THE TIED CARD OF 'spandrellaw11.SourceRows'. -/
def sourceRowsCard : Claim7 := { stood := { row := sourceRowsRow, standIns := [], harness := (true, "9bed743e375c55cfc754bc544fde901d7cc8f6f645efe325e4e14df07bd781ed"), looks := true }, kinds := [], alts := [], laidByText := true, laidKinds := [.data], laidTests := true, laidLooks := .later }
def SourceRowsCardSaid : Prop := Claim7.holds Tryd.pinned (.plain (OpenSpec.ofChange sourceRowsSpec)) sourceRowsCard

/-- THE SECOND FORM's CARD OF 'spandrellaw11.SourceCases'. -/
def sourceCasesUptoCard : Claim7 := { stood := { row := sourceCasesUptoRow, standIns := [], harness := (true, "9bed743e375c55cfc754bc544fde901d7cc8f6f645efe325e4e14df07bd781ed"), looks := true }, kinds := [], alts := [], laidByText := true, laidKinds := [.data], laidTests := true, laidLooks := .later }
def SourceCasesUptoCardSaid : Prop := Claim7.holds Tryd.pinned (.plain (OpenSpec.upto sourceCasesSpec)) sourceCasesUptoCard

/-- THE SECOND FORM's CARD OF 'spandrellaw11.SourceGrows'. -/
def sourceGrowsUptoCard : Claim7 := { stood := { row := sourceGrowsUptoRow, standIns := [], harness := (true, "9bed743e375c55cfc754bc544fde901d7cc8f6f645efe325e4e14df07bd781ed"), looks := true }, kinds := [], alts := [], laidByText := true, laidKinds := [.data], laidTests := true, laidLooks := .later }
def SourceGrowsUptoCardSaid : Prop := Claim7.holds Tryd.pinned (.plain (OpenSpec.upto sourceGrowsSpec)) sourceGrowsUptoCard

/-- THE SECOND FORM's CARD OF 'spandrellaw11.SourceRows'. -/
def sourceRowsUptoCard : Claim7 := { stood := { row := sourceRowsUptoRow, standIns := [], harness := (true, "9bed743e375c55cfc754bc544fde901d7cc8f6f645efe325e4e14df07bd781ed"), looks := true }, kinds := [], alts := [], laidByText := true, laidKinds := [.data], laidTests := true, laidLooks := .later }
def SourceRowsUptoCardSaid : Prop := Claim7.holds Tryd.pinned (.plain (OpenSpec.upto sourceRowsSpec)) sourceRowsUptoCard
end Rows
end Go.Proofs.YtjaklnabidbmiaaDoor
