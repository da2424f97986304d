/-
  DERIVED. GIVEN WITH THE SEED: THE CARDS: each row of YtlbfghplkadacaaGreatDoorRows.lean that lists a variable, with what it lists TIED to the program's text (the seventh form; the later family's looks); each row that meets fmt, with fmt's text TOLD by the authors' own Lean function (tested against real Go, not proved from fmt's source: count such statements apart). THE CARD IS WHAT COUNTS. Prove the row's statement (the work); the ties are given (YtlbfghplkadacaaGreatDoorTie.lean); close each card by the builder's one call (the guide's Derived/Test/ToyasCard.lean, 'card_holds'). Laid BY PROGRAM, IN A SANDBOX (cutbox-door.mjs). By AI agents, Wed Nov 11 2026. No macro, syntax, notation, axiom, sorry.
-/
import Derived.Test.YtlbfghplkadacaaGreatDoorRows
import GoSem.ClaimSeven
namespace Go.Proofs.YtlbfghplkadacaaGreatDoor
namespace Rows

/-- THE TIED CARD OF 'laws.FnTouched'. -/
def fnTouchedCard : Claim7 := { stood := { row := fnTouchedRow, standIns := [], harness := (true, "e57a5f2b3b5ba3654695f7e1934c3b574343bd5f7908e11b5a92ce1295270af1"), looks := false }, kinds := [], alts := [], laidByText := true, laidKinds := [.data, .data, .data], laidTests := true, laidLooks := .later }
def FnTouchedCardSaid : Prop := Claim7.holds Tryz.pinned (.plain (OpenSpec.ofChange fnTouchedSpec)) fnTouchedCard

/-- THE SECOND FORM's CARD OF 'laws.FnTouched'. -/
def fnTouchedUptoCard : Claim7 := { stood := { row := fnTouchedUptoRow, standIns := [], harness := (true, "e57a5f2b3b5ba3654695f7e1934c3b574343bd5f7908e11b5a92ce1295270af1"), looks := false }, kinds := [], alts := [], laidByText := true, laidKinds := [.data, .data, .data], laidTests := true, laidLooks := .later }
def FnTouchedUptoCardSaid : Prop := Claim7.holds Tryz.pinned (.plain (OpenSpec.upto fnTouchedSpec)) fnTouchedUptoCard
end Rows
end Go.Proofs.YtlbfghplkadacaaGreatDoor
