/-
  DERIVED. GIVEN WITH THE SEED: THE CARDS: each row of YthpjpaginggjaaaDoorRows.lean that lists a variable, with what it lists TIED to the program's text (the seventh form; the later family's looks); each row that meets fmt, with fmt's text TOLD by the authors' own Lean function (tested against real Go, not proved from fmt's source: count such statements apart). THE CARD IS WHAT COUNTS. Prove the row's statement (the work); the ties are given (YthpjpaginggjaaaDoorTie.lean); close each card by the builder's one call (the guide's Derived/Test/ToyasCard.lean, 'card_holds'). Laid BY PROGRAM, IN A SANDBOX (cutbox-door.mjs). By AI agents, Wed Nov 11 2026. No macro, syntax, notation, axiom, sorry.
-/
import Derived.Test.YthpjpaginggjaaaDoorRows
import GoSem.ClaimSeven
namespace Go.Proofs.YthpjpaginggjaaaDoor
namespace Rows

/-- THE TIED CARD OF 'laws.FnExactCostText'. -/
def fnExactCostTextCard : Claim7 := { stood := { row := fnExactCostTextRow, standIns := [], harness := (true, "47c80393e6fd1948689987a5d86a150371a8b6624646f6ddea2033606ce2cb22"), looks := false }, kinds := [], alts := [], laidByText := true, laidKinds := [.data, .data, .data], laidTests := true, laidLooks := .later }
def FnExactCostTextCardSaid : Prop := Claim7.holds Tryd.pinned (.plain (OpenSpec.ofChange fnExactCostTextSpec)) fnExactCostTextCard

/-- THE TIED CARD OF 'laws.FnExactSeenText'. -/
def fnExactSeenTextCard : Claim7 := { stood := { row := fnExactSeenTextRow, standIns := [], harness := (true, "47c80393e6fd1948689987a5d86a150371a8b6624646f6ddea2033606ce2cb22"), looks := false }, kinds := [], alts := [], laidByText := true, laidKinds := [.data, .data, .data], laidTests := true, laidLooks := .later }
def FnExactSeenTextCardSaid : Prop := Claim7.holds Tryd.pinned (.plain (OpenSpec.ofChange fnExactSeenTextSpec)) fnExactSeenTextCard

/-- THE SECOND FORM's CARD OF 'laws.FnExactCostText'. -/
def fnExactCostTextUptoCard : Claim7 := { stood := { row := fnExactCostTextUptoRow, standIns := [], harness := (true, "47c80393e6fd1948689987a5d86a150371a8b6624646f6ddea2033606ce2cb22"), looks := false }, kinds := [], alts := [], laidByText := true, laidKinds := [.data, .data, .data], laidTests := true, laidLooks := .later }
def FnExactCostTextUptoCardSaid : Prop := Claim7.holds Tryd.pinned (.plain (OpenSpec.upto fnExactCostTextSpec)) fnExactCostTextUptoCard

/-- THE SECOND FORM's CARD OF 'laws.FnExactSeenText'. -/
def fnExactSeenTextUptoCard : Claim7 := { stood := { row := fnExactSeenTextUptoRow, standIns := [], harness := (true, "47c80393e6fd1948689987a5d86a150371a8b6624646f6ddea2033606ce2cb22"), looks := false }, kinds := [], alts := [], laidByText := true, laidKinds := [.data, .data, .data], laidTests := true, laidLooks := .later }
def FnExactSeenTextUptoCardSaid : Prop := Claim7.holds Tryd.pinned (.plain (OpenSpec.upto fnExactSeenTextSpec)) fnExactSeenTextUptoCard
end Rows
end Go.Proofs.YthpjpaginggjaaaDoor
