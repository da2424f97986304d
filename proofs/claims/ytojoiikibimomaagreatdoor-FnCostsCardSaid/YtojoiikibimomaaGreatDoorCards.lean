/-
  DERIVED. GIVEN WITH THE SEED: THE CARDS: each row of YtojoiikibimomaaGreatDoorRows.lean that lists a variable, with what it lists TIED to the program's text (the seventh form; the later family's looks); each row that meets fmt, with fmt's text TOLD by the authors' own Lean function (tested against real Go, not proved from fmt's source: count such statements apart). THE CARD IS WHAT COUNTS. Prove the row's statement (the work); the ties are given (YtojoiikibimomaaGreatDoorTie.lean); close each card by the builder's one call (the guide's Derived/Test/ToyasCard.lean, 'card_holds'). Laid BY PROGRAM, IN A SANDBOX (cutbox-door.mjs). By AI agents, Wed Nov 11 2026. No macro, syntax, notation, axiom, sorry.
-/
import Derived.Test.YtojoiikibimomaaGreatDoorRows
import GoSem.ClaimSeven
namespace Go.Proofs.YtojoiikibimomaaGreatDoor
namespace Rows

/-- THE TIED CARD OF 'laws.FnCosts'. -/
def fnCostsCard : Claim7 := { stood := { row := fnCostsRow, standIns := [], harness := (true, "31db36eace29b94f7be88ccec885d6b32da145bca90fe8d0d68889089bb2ff17"), looks := true }, kinds := [], alts := [], laidByText := true, laidKinds := [.data, .data, .data], laidTests := true, laidLooks := .later }
def FnCostsCardSaid : Prop := Claim7.holds Tryz.pinned (.plain (OpenSpec.ofChange fnCostsSpec)) fnCostsCard

/-- THE TIED CARD OF 'laws.FnExactDeskLine'. -/
def fnExactDeskLineCard : Claim7 := { stood := { row := fnExactDeskLineRow, standIns := [], harness := (true, "31db36eace29b94f7be88ccec885d6b32da145bca90fe8d0d68889089bb2ff17"), looks := true }, kinds := [], alts := [], laidByText := true, laidKinds := [.data, .data, .data, .sentinel, .sentinel], laidTests := true, laidLooks := .later }
def FnExactDeskLineCardSaid : Prop := Claim7.holds Tryz.pinned (.plain (OpenSpec.ofChange fnExactDeskLineSpec)) fnExactDeskLineCard

/-- THE SECOND FORM's CARD OF 'laws.FnCosts'. -/
def fnCostsUptoCard : Claim7 := { stood := { row := fnCostsUptoRow, standIns := [], harness := (true, "31db36eace29b94f7be88ccec885d6b32da145bca90fe8d0d68889089bb2ff17"), looks := true }, kinds := [], alts := [], laidByText := true, laidKinds := [.data, .data, .data], laidTests := true, laidLooks := .later }
def FnCostsUptoCardSaid : Prop := Claim7.holds Tryz.pinned (.plain (OpenSpec.upto fnCostsSpec)) fnCostsUptoCard

/-- THE SECOND FORM's CARD OF 'laws.FnExactDeskLine'. -/
def fnExactDeskLineUptoCard : Claim7 := { stood := { row := fnExactDeskLineUptoRow, standIns := [], harness := (true, "31db36eace29b94f7be88ccec885d6b32da145bca90fe8d0d68889089bb2ff17"), looks := true }, kinds := [], alts := [], laidByText := true, laidKinds := [.data, .data, .data, .sentinel, .sentinel], laidTests := true, laidLooks := .later }
def FnExactDeskLineUptoCardSaid : Prop := Claim7.holds Tryz.pinned (.plain (OpenSpec.upto fnExactDeskLineSpec)) fnExactDeskLineUptoCard
end Rows
end Go.Proofs.YtojoiikibimomaaGreatDoor
