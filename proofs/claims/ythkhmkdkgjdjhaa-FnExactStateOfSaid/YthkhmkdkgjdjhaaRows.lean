/-
  No cell of these rows narrows 'for every input' (looked for: loops, veiled, ifaces, maps, wideKeys, modest, calm, conditions, laid).
  DERIVED. THE GIVEN ROWS OF THIS SEAT. 10 by the template 'for every input the law returns true; each argument reads behind the call as it read before'; 0 by the template 'total and deterministic' (their statements: YthkhmkdkgjdjhaaTotals.lean).
  GIVEN WITH THE SEED: the statements are not yours to turn. If you find one false, say at which input.
  Laid BY PROGRAM, IN A SANDBOX (cutbox-rows.mjs): the forced cells as the released guide's own fill.sh prints them over the translation 9204782e51798c25… (all of the seat's roots in one cut). By AI agents, Wed Nov 11 2026. No macro, syntax, notation, axiom, sorry.
-/
import Derived.Test.YthkhmkdkgjdjhaaChecked
import GoSem.Claim
import GoSem.ClaimJoined
import GoSem.ClaimMapViews
import Derived.JoinedTies
import Derived.KernelRfl
namespace Go.Proofs.Ythkhmkdkgjdjhaa
/- THE CELL 'sum', in the pinned program and in every row, IS THE sha256 OF THE DUMP (.gsa) THAT YthkhmkdkgjdjhaaProg.lean LOADS. Nothing in Lean hashes anything: it is a label: what it is worth is what the hold of that sum in a sandbox is worth. -/
noncomputable def Try.pinned : Pinned := { name := "ythkhmkdkgjdjhaa", sum := "9204782e51798c25ae81ecad6a39677d5cbdd3f44eafb0659a447f09d7149f66", checked := Try.checked }
namespace Rows
def none {H : Type} : Left H := { results := [], args := [] }

/-- 'laws.FnExactWordBytes': WHATEVER THE INPUT: true; the input reads as it did. -/
def fnExactWordBytesSpec : ChangeSpec := { name := "fnExactWordBytes", fn := fun _ => fun
  | [d] => { results := [.lit (.bool true)], args := [d] }
  | _ => none }
def fnExactWordBytesRow : OpenClaim := { program := "ythkhmkdkgjdjhaa", sum := "9204782e51798c25ae81ecad6a39677d5cbdd3f44eafb0659a447f09d7149f66", func := "loop.example/g00249/laws.FnExactWordBytes", spec := "fnExactWordBytes", inPlace := ["internal/bytealg.MakeNoZero"], apart := false }
def FnExactWordBytesSaid : Prop := fnExactWordBytesRow.holds Try.pinned (OpenSpec.ofChange fnExactWordBytesSpec)

/-- ITS FALSE NEIGHBOUR: 'it returns false'. Refute it at one input. -/
def fnExactWordBytesWrong : ChangeSpec := { name := "fnExactWordBytes", fn := fun _ => fun
  | [d] => { results := [.lit (.bool false)], args := [d] }
  | _ => none }
def FnExactWordBytesWrongFalsely : Prop := fnExactWordBytesRow.holds Try.pinned (OpenSpec.ofChange fnExactWordBytesWrong)

/-- 'laws.FnExactStateBytes': WHATEVER THE INPUT: true; the input reads as it did. -/
def fnExactStateBytesSpec : ChangeSpec := { name := "fnExactStateBytes", fn := fun _ => fun
  | [d] => { results := [.lit (.bool true)], args := [d] }
  | _ => none }
def fnExactStateBytesRow : OpenClaim := { program := "ythkhmkdkgjdjhaa", sum := "9204782e51798c25ae81ecad6a39677d5cbdd3f44eafb0659a447f09d7149f66", func := "loop.example/g00249/laws.FnExactStateBytes", spec := "fnExactStateBytes", inPlace := ["internal/bytealg.MakeNoZero"], unfollowed := true, recurses := true, apart := false }
def FnExactStateBytesSaid : Prop := fnExactStateBytesRow.holds Try.pinned (OpenSpec.ofChange fnExactStateBytesSpec)

/-- ITS FALSE NEIGHBOUR: 'it returns false'. Refute it at one input. -/
def fnExactStateBytesWrong : ChangeSpec := { name := "fnExactStateBytes", fn := fun _ => fun
  | [d] => { results := [.lit (.bool false)], args := [d] }
  | _ => none }
def FnExactStateBytesWrongFalsely : Prop := fnExactStateBytesRow.holds Try.pinned (OpenSpec.ofChange fnExactStateBytesWrong)

/-- 'laws.FnExactStateOf': WHATEVER THE INPUT: true; the input reads as it did. -/
def fnExactStateOfSpec : ChangeSpec := { name := "fnExactStateOf", fn := fun _ => fun
  | [d] => { results := [.lit (.bool true)], args := [d] }
  | _ => none }
def fnExactStateOfRow : OpenClaim := { program := "ythkhmkdkgjdjhaa", sum := "9204782e51798c25ae81ecad6a39677d5cbdd3f44eafb0659a447f09d7149f66", func := "loop.example/g00249/laws.FnExactStateOf", spec := "fnExactStateOf", inPlace := ["internal/bytealg.MakeNoZero"], unfollowed := true, recurses := true, apart := false }
def FnExactStateOfSaid : Prop := fnExactStateOfRow.holds Try.pinned (OpenSpec.ofChange fnExactStateOfSpec)

/-- ITS FALSE NEIGHBOUR: 'it returns false'. Refute it at one input. -/
def fnExactStateOfWrong : ChangeSpec := { name := "fnExactStateOf", fn := fun _ => fun
  | [d] => { results := [.lit (.bool false)], args := [d] }
  | _ => none }
def FnExactStateOfWrongFalsely : Prop := fnExactStateOfRow.holds Try.pinned (OpenSpec.ofChange fnExactStateOfWrong)

/-- 'laws.FnExactFreeCells': WHATEVER THE INPUT: true; the input reads as it did. -/
def fnExactFreeCellsSpec : ChangeSpec := { name := "fnExactFreeCells", fn := fun _ => fun
  | [d] => { results := [.lit (.bool true)], args := [d] }
  | _ => none }
def fnExactFreeCellsRow : OpenClaim := { program := "ythkhmkdkgjdjhaa", sum := "9204782e51798c25ae81ecad6a39677d5cbdd3f44eafb0659a447f09d7149f66", func := "loop.example/g00249/laws.FnExactFreeCells", spec := "fnExactFreeCells", unfollowed := true, recurses := true, apart := false }
def FnExactFreeCellsSaid : Prop := fnExactFreeCellsRow.holds Try.pinned (OpenSpec.ofChange fnExactFreeCellsSpec)

/-- ITS FALSE NEIGHBOUR: 'it returns false'. Refute it at one input. -/
def fnExactFreeCellsWrong : ChangeSpec := { name := "fnExactFreeCells", fn := fun _ => fun
  | [d] => { results := [.lit (.bool false)], args := [d] }
  | _ => none }
def FnExactFreeCellsWrongFalsely : Prop := fnExactFreeCellsRow.holds Try.pinned (OpenSpec.ofChange fnExactFreeCellsWrong)

/-- 'laws.FnExactGiveBack': WHATEVER THE INPUT: true; the input reads as it did. -/
def fnExactGiveBackSpec : ChangeSpec := { name := "fnExactGiveBack", fn := fun _ => fun
  | [d1, d2] => { results := [.lit (.bool true)], args := [d1, d2] }
  | _ => none }
def fnExactGiveBackRow : OpenClaim := { program := "ythkhmkdkgjdjhaa", sum := "9204782e51798c25ae81ecad6a39677d5cbdd3f44eafb0659a447f09d7149f66", func := "loop.example/g00249/laws.FnExactGiveBack", spec := "fnExactGiveBack", inPlace := ["slices.overlaps[loop.example/g00249/impl.Span]"], unfollowed := true, recurses := true, apart := false }
def FnExactGiveBackSaid : Prop := fnExactGiveBackRow.holds Try.pinned (OpenSpec.ofChange fnExactGiveBackSpec)

/-- ITS FALSE NEIGHBOUR: 'it returns false'. Refute it at one input. -/
def fnExactGiveBackWrong : ChangeSpec := { name := "fnExactGiveBack", fn := fun _ => fun
  | [d1, d2] => { results := [.lit (.bool false)], args := [d1, d2] }
  | _ => none }
def FnExactGiveBackWrongFalsely : Prop := fnExactGiveBackRow.holds Try.pinned (OpenSpec.ofChange fnExactGiveBackWrong)

/-- 'laws.FnExactGrant': WHATEVER THE INPUT: true; the input reads as it did. -/
def fnExactGrantSpec : ChangeSpec := { name := "fnExactGrant", fn := fun _ => fun
  | [d1, d2] => { results := [.lit (.bool true)], args := [d1, d2] }
  | _ => none }
def fnExactGrantRow : OpenClaim := { program := "ythkhmkdkgjdjhaa", sum := "9204782e51798c25ae81ecad6a39677d5cbdd3f44eafb0659a447f09d7149f66", func := "loop.example/g00249/laws.FnExactGrant", spec := "fnExactGrant", inPlace := ["slices.overlaps[loop.example/g00249/impl.Span]"], unfollowed := true, recurses := true, apart := false }
def FnExactGrantSaid : Prop := fnExactGrantRow.holds Try.pinned (OpenSpec.ofChange fnExactGrantSpec)

/-- ITS FALSE NEIGHBOUR: 'it returns false'. Refute it at one input. -/
def fnExactGrantWrong : ChangeSpec := { name := "fnExactGrant", fn := fun _ => fun
  | [d1, d2] => { results := [.lit (.bool false)], args := [d1, d2] }
  | _ => none }
def FnExactGrantWrongFalsely : Prop := fnExactGrantRow.holds Try.pinned (OpenSpec.ofChange fnExactGrantWrong)

/-- 'laws.FnExactTouched': WHATEVER THE INPUT: true; the input reads as it did. -/
def fnExactTouchedSpec : ChangeSpec := { name := "fnExactTouched", fn := fun _ => fun
  | [d] => { results := [.lit (.bool true)], args := [d] }
  | _ => none }
def fnExactTouchedRow : OpenClaim := { program := "ythkhmkdkgjdjhaa", sum := "9204782e51798c25ae81ecad6a39677d5cbdd3f44eafb0659a447f09d7149f66", func := "loop.example/g00249/laws.FnExactTouched", spec := "fnExactTouched", recurses := true, apart := false }
def FnExactTouchedSaid : Prop := fnExactTouchedRow.holds Try.pinned (OpenSpec.ofChange fnExactTouchedSpec)

/-- ITS FALSE NEIGHBOUR: 'it returns false'. Refute it at one input. -/
def fnExactTouchedWrong : ChangeSpec := { name := "fnExactTouched", fn := fun _ => fun
  | [d] => { results := [.lit (.bool false)], args := [d] }
  | _ => none }
def FnExactTouchedWrongFalsely : Prop := fnExactTouchedRow.holds Try.pinned (OpenSpec.ofChange fnExactTouchedWrong)

/-- 'laws.FnExactNextPlaces': WHATEVER THE INPUT: true; the input reads as it did. -/
def fnExactNextPlacesSpec : ChangeSpec := { name := "fnExactNextPlaces", fn := fun _ => fun
  | [d1, d2] => { results := [.lit (.bool true)], args := [d1, d2] }
  | _ => none }
def fnExactNextPlacesRow : OpenClaim := { program := "ythkhmkdkgjdjhaa", sum := "9204782e51798c25ae81ecad6a39677d5cbdd3f44eafb0659a447f09d7149f66", func := "loop.example/g00249/laws.FnExactNextPlaces", spec := "fnExactNextPlaces", unfollowed := true, recurses := true, apart := false }
def FnExactNextPlacesSaid : Prop := fnExactNextPlacesRow.holds Try.pinned (OpenSpec.ofChange fnExactNextPlacesSpec)

/-- ITS FALSE NEIGHBOUR: 'it returns false'. Refute it at one input. -/
def fnExactNextPlacesWrong : ChangeSpec := { name := "fnExactNextPlaces", fn := fun _ => fun
  | [d1, d2] => { results := [.lit (.bool false)], args := [d1, d2] }
  | _ => none }
def FnExactNextPlacesWrongFalsely : Prop := fnExactNextPlacesRow.holds Try.pinned (OpenSpec.ofChange fnExactNextPlacesWrong)

/-- 'laws.FnExactOnlyNumbers': WHATEVER THE INPUT: true; the input reads as it did. -/
def fnExactOnlyNumbersSpec : ChangeSpec := { name := "fnExactOnlyNumbers", fn := fun _ => fun
  | [d1, d2] => { results := [.lit (.bool true)], args := [d1, d2] }
  | _ => none }
def fnExactOnlyNumbersRow : OpenClaim := { program := "ythkhmkdkgjdjhaa", sum := "9204782e51798c25ae81ecad6a39677d5cbdd3f44eafb0659a447f09d7149f66", func := "loop.example/g00249/laws.FnExactOnlyNumbers", spec := "fnExactOnlyNumbers", unfollowed := true, recurses := true, apart := false }
def FnExactOnlyNumbersSaid : Prop := fnExactOnlyNumbersRow.holds Try.pinned (OpenSpec.ofChange fnExactOnlyNumbersSpec)

/-- ITS FALSE NEIGHBOUR: 'it returns false'. Refute it at one input. -/
def fnExactOnlyNumbersWrong : ChangeSpec := { name := "fnExactOnlyNumbers", fn := fun _ => fun
  | [d1, d2] => { results := [.lit (.bool false)], args := [d1, d2] }
  | _ => none }
def FnExactOnlyNumbersWrongFalsely : Prop := fnExactOnlyNumbersRow.holds Try.pinned (OpenSpec.ofChange fnExactOnlyNumbersWrong)

/-- 'laws.FnExactMayHold': WHATEVER THE INPUT: true; the input reads as it did. -/
def fnExactMayHoldSpec : ChangeSpec := { name := "fnExactMayHold", fn := fun _ => fun
  | [d1, d2] => { results := [.lit (.bool true)], args := [d1, d2] }
  | _ => none }
def fnExactMayHoldRow : OpenClaim := { program := "ythkhmkdkgjdjhaa", sum := "9204782e51798c25ae81ecad6a39677d5cbdd3f44eafb0659a447f09d7149f66", func := "loop.example/g00249/laws.FnExactMayHold", spec := "fnExactMayHold", unfollowed := true, recurses := true, apart := false }
def FnExactMayHoldSaid : Prop := fnExactMayHoldRow.holds Try.pinned (OpenSpec.ofChange fnExactMayHoldSpec)

/-- ITS FALSE NEIGHBOUR: 'it returns false'. Refute it at one input. -/
def fnExactMayHoldWrong : ChangeSpec := { name := "fnExactMayHold", fn := fun _ => fun
  | [d1, d2] => { results := [.lit (.bool false)], args := [d1, d2] }
  | _ => none }
def FnExactMayHoldWrongFalsely : Prop := fnExactMayHoldRow.holds Try.pinned (OpenSpec.ofChange fnExactMayHoldWrong)

/- THE SECOND FORM. 'bulk': how many values and letters a reading holds, each counted each time it is reached (what is shared counts as often as it is met; a slice's spare places count too). A statement '..UptoSaid' is the law's where the arguments, and the package variables that the reading takes, are together of bulk at most 1048576: NARROWER than '..Said'. Prove '..Said' where nothing that the law and all that it calls make is longer than what came in: it says more and counts as full. Else prove '..UptoSaid'. A law counts once. -/
mutual
def uptoBulk {H : Type} : DataW H → Nat
  | .lit (.string bytes) => bytes.length + 1
  | .lit _ => 1
  | .nil => 1
  | .ptr d => uptoBulk d + 1
  | .slice elems spare => uptoBulkAll elems + uptoBulkAll spare + 1
  | .agg parts => uptoBulkAll parts + 1
  | .iface _ d => uptoBulk d + 1
  | .map entries => uptoBulkEntries entries + 1
  | .held _ => 1
def uptoBulkAll {H : Type} : List (DataW H) → Nat
  | [] => 0
  | d :: r => uptoBulk d + uptoBulkAll r
def uptoBulkEntries {H : Type} : List (Lit × DataW H) → Nat
  | [] => 0
  | x :: r => uptoBulkEntry x + uptoBulkEntries r
def uptoBulkEntry {H : Type} : Lit × DataW H → Nat
  | (.string bytes, d) => bytes.length + uptoBulk d + 1
  | (_, d) => uptoBulk d + 1
 end
def uptoSmall : (H : Type) → List (DataW H) → Bool := fun _ ds => decide (uptoBulkAll ds ≤ 1048576)
def OpenSpec.upto (s : _root_.Go.ChangeSpec) : _root_.Go.OpenSpec := { _root_.Go.OpenSpec.ofChange s with cond := some uptoSmall }

/-- 'laws.FnExactWordBytes', WHERE WHAT IT READS IS OF BULK AT MOST 1048576: true; the input reads as it did. -/
def fnExactWordBytesUptoRow : OpenClaim := { program := "ythkhmkdkgjdjhaa", sum := "9204782e51798c25ae81ecad6a39677d5cbdd3f44eafb0659a447f09d7149f66", func := "loop.example/g00249/laws.FnExactWordBytes", spec := "fnExactWordBytes", inPlace := ["internal/bytealg.MakeNoZero"], apart := false, narrowed := true }
def FnExactWordBytesUptoSaid : Prop := fnExactWordBytesUptoRow.holds Try.pinned (OpenSpec.upto fnExactWordBytesSpec)

/-- 'laws.FnExactStateBytes', WHERE WHAT IT READS IS OF BULK AT MOST 1048576: true; the input reads as it did. -/
def fnExactStateBytesUptoRow : OpenClaim := { program := "ythkhmkdkgjdjhaa", sum := "9204782e51798c25ae81ecad6a39677d5cbdd3f44eafb0659a447f09d7149f66", func := "loop.example/g00249/laws.FnExactStateBytes", spec := "fnExactStateBytes", inPlace := ["internal/bytealg.MakeNoZero"], unfollowed := true, recurses := true, apart := false, narrowed := true }
def FnExactStateBytesUptoSaid : Prop := fnExactStateBytesUptoRow.holds Try.pinned (OpenSpec.upto fnExactStateBytesSpec)

/-- 'laws.FnExactStateOf', WHERE WHAT IT READS IS OF BULK AT MOST 1048576: true; the input reads as it did. -/
def fnExactStateOfUptoRow : OpenClaim := { program := "ythkhmkdkgjdjhaa", sum := "9204782e51798c25ae81ecad6a39677d5cbdd3f44eafb0659a447f09d7149f66", func := "loop.example/g00249/laws.FnExactStateOf", spec := "fnExactStateOf", inPlace := ["internal/bytealg.MakeNoZero"], unfollowed := true, recurses := true, apart := false, narrowed := true }
def FnExactStateOfUptoSaid : Prop := fnExactStateOfUptoRow.holds Try.pinned (OpenSpec.upto fnExactStateOfSpec)

/-- 'laws.FnExactFreeCells', WHERE WHAT IT READS IS OF BULK AT MOST 1048576: true; the input reads as it did. -/
def fnExactFreeCellsUptoRow : OpenClaim := { program := "ythkhmkdkgjdjhaa", sum := "9204782e51798c25ae81ecad6a39677d5cbdd3f44eafb0659a447f09d7149f66", func := "loop.example/g00249/laws.FnExactFreeCells", spec := "fnExactFreeCells", unfollowed := true, recurses := true, apart := false, narrowed := true }
def FnExactFreeCellsUptoSaid : Prop := fnExactFreeCellsUptoRow.holds Try.pinned (OpenSpec.upto fnExactFreeCellsSpec)

/-- 'laws.FnExactGiveBack', WHERE WHAT IT READS IS OF BULK AT MOST 1048576: true; the input reads as it did. -/
def fnExactGiveBackUptoRow : OpenClaim := { program := "ythkhmkdkgjdjhaa", sum := "9204782e51798c25ae81ecad6a39677d5cbdd3f44eafb0659a447f09d7149f66", func := "loop.example/g00249/laws.FnExactGiveBack", spec := "fnExactGiveBack", inPlace := ["slices.overlaps[loop.example/g00249/impl.Span]"], unfollowed := true, recurses := true, apart := false, narrowed := true }
def FnExactGiveBackUptoSaid : Prop := fnExactGiveBackUptoRow.holds Try.pinned (OpenSpec.upto fnExactGiveBackSpec)

/-- 'laws.FnExactGrant', WHERE WHAT IT READS IS OF BULK AT MOST 1048576: true; the input reads as it did. -/
def fnExactGrantUptoRow : OpenClaim := { program := "ythkhmkdkgjdjhaa", sum := "9204782e51798c25ae81ecad6a39677d5cbdd3f44eafb0659a447f09d7149f66", func := "loop.example/g00249/laws.FnExactGrant", spec := "fnExactGrant", inPlace := ["slices.overlaps[loop.example/g00249/impl.Span]"], unfollowed := true, recurses := true, apart := false, narrowed := true }
def FnExactGrantUptoSaid : Prop := fnExactGrantUptoRow.holds Try.pinned (OpenSpec.upto fnExactGrantSpec)

/-- 'laws.FnExactTouched', WHERE WHAT IT READS IS OF BULK AT MOST 1048576: true; the input reads as it did. -/
def fnExactTouchedUptoRow : OpenClaim := { program := "ythkhmkdkgjdjhaa", sum := "9204782e51798c25ae81ecad6a39677d5cbdd3f44eafb0659a447f09d7149f66", func := "loop.example/g00249/laws.FnExactTouched", spec := "fnExactTouched", recurses := true, apart := false, narrowed := true }
def FnExactTouchedUptoSaid : Prop := fnExactTouchedUptoRow.holds Try.pinned (OpenSpec.upto fnExactTouchedSpec)

/-- 'laws.FnExactNextPlaces', WHERE WHAT IT READS IS OF BULK AT MOST 1048576: true; the input reads as it did. -/
def fnExactNextPlacesUptoRow : OpenClaim := { program := "ythkhmkdkgjdjhaa", sum := "9204782e51798c25ae81ecad6a39677d5cbdd3f44eafb0659a447f09d7149f66", func := "loop.example/g00249/laws.FnExactNextPlaces", spec := "fnExactNextPlaces", unfollowed := true, recurses := true, apart := false, narrowed := true }
def FnExactNextPlacesUptoSaid : Prop := fnExactNextPlacesUptoRow.holds Try.pinned (OpenSpec.upto fnExactNextPlacesSpec)

/-- 'laws.FnExactOnlyNumbers', WHERE WHAT IT READS IS OF BULK AT MOST 1048576: true; the input reads as it did. -/
def fnExactOnlyNumbersUptoRow : OpenClaim := { program := "ythkhmkdkgjdjhaa", sum := "9204782e51798c25ae81ecad6a39677d5cbdd3f44eafb0659a447f09d7149f66", func := "loop.example/g00249/laws.FnExactOnlyNumbers", spec := "fnExactOnlyNumbers", unfollowed := true, recurses := true, apart := false, narrowed := true }
def FnExactOnlyNumbersUptoSaid : Prop := fnExactOnlyNumbersUptoRow.holds Try.pinned (OpenSpec.upto fnExactOnlyNumbersSpec)

/-- 'laws.FnExactMayHold', WHERE WHAT IT READS IS OF BULK AT MOST 1048576: true; the input reads as it did. -/
def fnExactMayHoldUptoRow : OpenClaim := { program := "ythkhmkdkgjdjhaa", sum := "9204782e51798c25ae81ecad6a39677d5cbdd3f44eafb0659a447f09d7149f66", func := "loop.example/g00249/laws.FnExactMayHold", spec := "fnExactMayHold", unfollowed := true, recurses := true, apart := false, narrowed := true }
def FnExactMayHoldUptoSaid : Prop := fnExactMayHoldUptoRow.holds Try.pinned (OpenSpec.upto fnExactMayHoldSpec)

end Rows
end Go.Proofs.Ythkhmkdkgjdjhaa
