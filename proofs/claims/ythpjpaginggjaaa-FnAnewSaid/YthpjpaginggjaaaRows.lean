/-
  No cell of these rows narrows 'for every input' (looked for: loops, veiled, ifaces, maps, wideKeys, modest, calm, conditions, laid).
  DERIVED. THE GIVEN ROWS OF THIS SEAT. 9 by the template 'for every input the law returns true; each argument reads behind the call as it read before'; 0 by the template 'total and deterministic' (their statements: YthpjpaginggjaaaTotals.lean).
  GIVEN WITH THE SEED: the statements are not yours to turn. If you find one false, say at which input.
  Laid BY PROGRAM, IN A SANDBOX (cutbox-rows.mjs): the forced cells as the released guide's own fill.sh prints them over the translation d0685bedffc394f7… (all of the seat's roots in one cut). By AI agents, Wed Nov 11 2026. No macro, syntax, notation, axiom, sorry.
-/
import Derived.Test.YthpjpaginggjaaaChecked
import GoSem.Claim
import GoSem.ClaimJoined
import GoSem.ClaimMapViews
import Derived.JoinedTies
import Derived.KernelRfl
namespace Go.Proofs.Ythpjpaginggjaaa
/- THE CELL 'sum', in the pinned program and in every row, IS THE sha256 OF THE DUMP (.gsa) THAT YthpjpaginggjaaaProg.lean LOADS. Nothing in Lean hashes anything: it is a label: what it is worth is what the hold of that sum in a sandbox is worth. -/
noncomputable def Try.pinned : Pinned := { name := "ythpjpaginggjaaa", sum := "d0685bedffc394f780d1434c021cf22ff87845e0a1954535538375da88b27009", checked := Try.checked }
namespace Rows
def none {H : Type} : Left H := { results := [], args := [] }

/-- 'laws.FnReached': WHATEVER THE INPUT: true; the input reads as it did. -/
def fnReachedSpec : ChangeSpec := { name := "fnReached", fn := fun _ => fun
  | [d] => { results := [.lit (.bool true)], args := [d] }
  | _ => none }
def fnReachedRow : OpenClaim := { program := "ythpjpaginggjaaa", sum := "d0685bedffc394f780d1434c021cf22ff87845e0a1954535538375da88b27009", func := "loop.example/g00249/laws.FnReached", spec := "fnReached", unfollowed := true, recurses := true, apart := false }
def FnReachedSaid : Prop := fnReachedRow.holds Try.pinned (OpenSpec.ofChange fnReachedSpec)

/-- ITS FALSE NEIGHBOUR: 'it returns false'. Refute it at one input. -/
def fnReachedWrong : ChangeSpec := { name := "fnReached", fn := fun _ => fun
  | [d] => { results := [.lit (.bool false)], args := [d] }
  | _ => none }
def FnReachedWrongFalsely : Prop := fnReachedRow.holds Try.pinned (OpenSpec.ofChange fnReachedWrong)

/-- 'laws.FnSaves': WHATEVER THE INPUT: true; the input reads as it did. -/
def fnSavesSpec : ChangeSpec := { name := "fnSaves", fn := fun _ => fun
  | [d] => { results := [.lit (.bool true)], args := [d] }
  | _ => none }
def fnSavesRow : OpenClaim := { program := "ythpjpaginggjaaa", sum := "d0685bedffc394f780d1434c021cf22ff87845e0a1954535538375da88b27009", func := "loop.example/g00249/laws.FnSaves", spec := "fnSaves", inPlace := ["internal/bytealg.MakeNoZero"], unfollowed := true, recurses := true, apart := false }
def FnSavesSaid : Prop := fnSavesRow.holds Try.pinned (OpenSpec.ofChange fnSavesSpec)

/-- ITS FALSE NEIGHBOUR: 'it returns false'. Refute it at one input. -/
def fnSavesWrong : ChangeSpec := { name := "fnSaves", fn := fun _ => fun
  | [d] => { results := [.lit (.bool false)], args := [d] }
  | _ => none }
def FnSavesWrongFalsely : Prop := fnSavesRow.holds Try.pinned (OpenSpec.ofChange fnSavesWrong)

/-- 'laws.FnCopied': WHATEVER THE INPUT: true; the input reads as it did. -/
def fnCopiedSpec : ChangeSpec := { name := "fnCopied", fn := fun _ => fun
  | [d] => { results := [.lit (.bool true)], args := [d] }
  | _ => none }
def fnCopiedRow : OpenClaim := { program := "ythpjpaginggjaaa", sum := "d0685bedffc394f780d1434c021cf22ff87845e0a1954535538375da88b27009", func := "loop.example/g00249/laws.FnCopied", spec := "fnCopied", unfollowed := true, recurses := true, apart := false }
def FnCopiedSaid : Prop := fnCopiedRow.holds Try.pinned (OpenSpec.ofChange fnCopiedSpec)

/-- ITS FALSE NEIGHBOUR: 'it returns false'. Refute it at one input. -/
def fnCopiedWrong : ChangeSpec := { name := "fnCopied", fn := fun _ => fun
  | [d] => { results := [.lit (.bool false)], args := [d] }
  | _ => none }
def FnCopiedWrongFalsely : Prop := fnCopiedRow.holds Try.pinned (OpenSpec.ofChange fnCopiedWrong)

/-- 'laws.FnWiped': WHATEVER THE INPUT: true; the input reads as it did. -/
def fnWipedSpec : ChangeSpec := { name := "fnWiped", fn := fun _ => fun
  | [d] => { results := [.lit (.bool true)], args := [d] }
  | _ => none }
def fnWipedRow : OpenClaim := { program := "ythpjpaginggjaaa", sum := "d0685bedffc394f780d1434c021cf22ff87845e0a1954535538375da88b27009", func := "loop.example/g00249/laws.FnWiped", spec := "fnWiped", unfollowed := true, recurses := true, apart := false }
def FnWipedSaid : Prop := fnWipedRow.holds Try.pinned (OpenSpec.ofChange fnWipedSpec)

/-- ITS FALSE NEIGHBOUR: 'it returns false'. Refute it at one input. -/
def fnWipedWrong : ChangeSpec := { name := "fnWiped", fn := fun _ => fun
  | [d] => { results := [.lit (.bool false)], args := [d] }
  | _ => none }
def FnWipedWrongFalsely : Prop := fnWipedRow.holds Try.pinned (OpenSpec.ofChange fnWipedWrong)

/-- 'laws.FnExactFreeCells': WHATEVER THE INPUT: true; the input reads as it did. -/
def fnExactFreeCellsSpec : ChangeSpec := { name := "fnExactFreeCells", fn := fun _ => fun
  | [d] => { results := [.lit (.bool true)], args := [d] }
  | _ => none }
def fnExactFreeCellsRow : OpenClaim := { program := "ythpjpaginggjaaa", sum := "d0685bedffc394f780d1434c021cf22ff87845e0a1954535538375da88b27009", func := "loop.example/g00249/laws.FnExactFreeCells", spec := "fnExactFreeCells", unfollowed := true, recurses := true, apart := false }
def FnExactFreeCellsSaid : Prop := fnExactFreeCellsRow.holds Try.pinned (OpenSpec.ofChange fnExactFreeCellsSpec)

/-- ITS FALSE NEIGHBOUR: 'it returns false'. Refute it at one input. -/
def fnExactFreeCellsWrong : ChangeSpec := { name := "fnExactFreeCells", fn := fun _ => fun
  | [d] => { results := [.lit (.bool false)], args := [d] }
  | _ => none }
def FnExactFreeCellsWrongFalsely : Prop := fnExactFreeCellsRow.holds Try.pinned (OpenSpec.ofChange fnExactFreeCellsWrong)

/-- 'laws.FnExactGiveBack': WHATEVER THE INPUT: true; the input reads as it did. -/
def fnExactGiveBackSpec : ChangeSpec := { name := "fnExactGiveBack", fn := fun _ => fun
  | [d1, d2] => { results := [.lit (.bool true)], args := [d1, d2] }
  | _ => none }
def fnExactGiveBackRow : OpenClaim := { program := "ythpjpaginggjaaa", sum := "d0685bedffc394f780d1434c021cf22ff87845e0a1954535538375da88b27009", func := "loop.example/g00249/laws.FnExactGiveBack", spec := "fnExactGiveBack", inPlace := ["slices.overlaps[loop.example/g00249/impl.Span]"], unfollowed := true, recurses := true, apart := false }
def FnExactGiveBackSaid : Prop := fnExactGiveBackRow.holds Try.pinned (OpenSpec.ofChange fnExactGiveBackSpec)

/-- ITS FALSE NEIGHBOUR: 'it returns false'. Refute it at one input. -/
def fnExactGiveBackWrong : ChangeSpec := { name := "fnExactGiveBack", fn := fun _ => fun
  | [d1, d2] => { results := [.lit (.bool false)], args := [d1, d2] }
  | _ => none }
def FnExactGiveBackWrongFalsely : Prop := fnExactGiveBackRow.holds Try.pinned (OpenSpec.ofChange fnExactGiveBackWrong)

/-- 'laws.FnExactGrant': WHATEVER THE INPUT: true; the input reads as it did. -/
def fnExactGrantSpec : ChangeSpec := { name := "fnExactGrant", fn := fun _ => fun
  | [d1, d2] => { results := [.lit (.bool true)], args := [d1, d2] }
  | _ => none }
def fnExactGrantRow : OpenClaim := { program := "ythpjpaginggjaaa", sum := "d0685bedffc394f780d1434c021cf22ff87845e0a1954535538375da88b27009", func := "loop.example/g00249/laws.FnExactGrant", spec := "fnExactGrant", inPlace := ["slices.overlaps[loop.example/g00249/impl.Span]"], unfollowed := true, recurses := true, apart := false }
def FnExactGrantSaid : Prop := fnExactGrantRow.holds Try.pinned (OpenSpec.ofChange fnExactGrantSpec)

/-- ITS FALSE NEIGHBOUR: 'it returns false'. Refute it at one input. -/
def fnExactGrantWrong : ChangeSpec := { name := "fnExactGrant", fn := fun _ => fun
  | [d1, d2] => { results := [.lit (.bool false)], args := [d1, d2] }
  | _ => none }
def FnExactGrantWrongFalsely : Prop := fnExactGrantRow.holds Try.pinned (OpenSpec.ofChange fnExactGrantWrong)

/-- 'laws.FnOnlyLive': WHATEVER THE INPUT: true; the input reads as it did. -/
def fnOnlyLiveSpec : ChangeSpec := { name := "fnOnlyLive", fn := fun _ => fun
  | [d] => { results := [.lit (.bool true)], args := [d] }
  | _ => none }
def fnOnlyLiveRow : OpenClaim := { program := "ythpjpaginggjaaa", sum := "d0685bedffc394f780d1434c021cf22ff87845e0a1954535538375da88b27009", func := "loop.example/g00249/laws.FnOnlyLive", spec := "fnOnlyLive", unfollowed := true, recurses := true, apart := false }
def FnOnlyLiveSaid : Prop := fnOnlyLiveRow.holds Try.pinned (OpenSpec.ofChange fnOnlyLiveSpec)

/-- ITS FALSE NEIGHBOUR: 'it returns false'. Refute it at one input. -/
def fnOnlyLiveWrong : ChangeSpec := { name := "fnOnlyLive", fn := fun _ => fun
  | [d] => { results := [.lit (.bool false)], args := [d] }
  | _ => none }
def FnOnlyLiveWrongFalsely : Prop := fnOnlyLiveRow.holds Try.pinned (OpenSpec.ofChange fnOnlyLiveWrong)

/-- 'laws.FnAnew': WHATEVER THE INPUT: true; the input reads as it did. -/
def fnAnewSpec : ChangeSpec := { name := "fnAnew", fn := fun _ => fun
  | [d] => { results := [.lit (.bool true)], args := [d] }
  | _ => none }
def fnAnewRow : OpenClaim := { program := "ythpjpaginggjaaa", sum := "d0685bedffc394f780d1434c021cf22ff87845e0a1954535538375da88b27009", func := "loop.example/g00249/laws.FnAnew", spec := "fnAnew", inPlace := ["slices.overlaps[loop.example/g00249/impl.Span]"], unfollowed := true, recurses := true, apart := false }
def FnAnewSaid : Prop := fnAnewRow.holds Try.pinned (OpenSpec.ofChange fnAnewSpec)

/-- ITS FALSE NEIGHBOUR: 'it returns false'. Refute it at one input. -/
def fnAnewWrong : ChangeSpec := { name := "fnAnew", fn := fun _ => fun
  | [d] => { results := [.lit (.bool false)], args := [d] }
  | _ => none }
def FnAnewWrongFalsely : Prop := fnAnewRow.holds Try.pinned (OpenSpec.ofChange fnAnewWrong)

/- THE SECOND FORM. 'bulk': how many values and letters a reading holds, each counted each time it is reached (what is shared counts as often as it is met; a slice's spare places count too). A statement '..UptoSaid' is the law's where the arguments, and the package variables that the reading takes, are together of bulk at most 1048576: NARROWER than '..Said'. Prove '..Said' where nothing that the law and all that it calls make is longer than what came in: it says more and counts as full. Else prove '..UptoSaid'. A law counts once. -/
mutual
def uptoBulk {H : Type} : DataW H → Nat
  | .lit (.string bytes) => bytes.length + 1
  | .lit _ => 1
  | .nil => 1
  | .ptr d => uptoBulk d + 1
  | .slice elems spare => uptoBulkAll elems + uptoBulkAll spare + 1
  | .agg parts => uptoBulkAll parts + 1
  | .iface _ d => uptoBulk d + 1
  | .map entries => uptoBulkEntries entries + 1
  | .held _ => 1
def uptoBulkAll {H : Type} : List (DataW H) → Nat
  | [] => 0
  | d :: r => uptoBulk d + uptoBulkAll r
def uptoBulkEntries {H : Type} : List (Lit × DataW H) → Nat
  | [] => 0
  | x :: r => uptoBulkEntry x + uptoBulkEntries r
def uptoBulkEntry {H : Type} : Lit × DataW H → Nat
  | (.string bytes, d) => bytes.length + uptoBulk d + 1
  | (_, d) => uptoBulk d + 1
 end
def uptoSmall : (H : Type) → List (DataW H) → Bool := fun _ ds => decide (uptoBulkAll ds ≤ 1048576)
def OpenSpec.upto (s : _root_.Go.ChangeSpec) : _root_.Go.OpenSpec := { _root_.Go.OpenSpec.ofChange s with cond := some uptoSmall }

/-- 'laws.FnReached', WHERE WHAT IT READS IS OF BULK AT MOST 1048576: true; the input reads as it did. -/
def fnReachedUptoRow : OpenClaim := { program := "ythpjpaginggjaaa", sum := "d0685bedffc394f780d1434c021cf22ff87845e0a1954535538375da88b27009", func := "loop.example/g00249/laws.FnReached", spec := "fnReached", unfollowed := true, recurses := true, apart := false, narrowed := true }
def FnReachedUptoSaid : Prop := fnReachedUptoRow.holds Try.pinned (OpenSpec.upto fnReachedSpec)

/-- 'laws.FnSaves', WHERE WHAT IT READS IS OF BULK AT MOST 1048576: true; the input reads as it did. -/
def fnSavesUptoRow : OpenClaim := { program := "ythpjpaginggjaaa", sum := "d0685bedffc394f780d1434c021cf22ff87845e0a1954535538375da88b27009", func := "loop.example/g00249/laws.FnSaves", spec := "fnSaves", inPlace := ["internal/bytealg.MakeNoZero"], unfollowed := true, recurses := true, apart := false, narrowed := true }
def FnSavesUptoSaid : Prop := fnSavesUptoRow.holds Try.pinned (OpenSpec.upto fnSavesSpec)

/-- 'laws.FnCopied', WHERE WHAT IT READS IS OF BULK AT MOST 1048576: true; the input reads as it did. -/
def fnCopiedUptoRow : OpenClaim := { program := "ythpjpaginggjaaa", sum := "d0685bedffc394f780d1434c021cf22ff87845e0a1954535538375da88b27009", func := "loop.example/g00249/laws.FnCopied", spec := "fnCopied", unfollowed := true, recurses := true, apart := false, narrowed := true }
def FnCopiedUptoSaid : Prop := fnCopiedUptoRow.holds Try.pinned (OpenSpec.upto fnCopiedSpec)

/-- 'laws.FnWiped', WHERE WHAT IT READS IS OF BULK AT MOST 1048576: true; the input reads as it did. -/
def fnWipedUptoRow : OpenClaim := { program := "ythpjpaginggjaaa", sum := "d0685bedffc394f780d1434c021cf22ff87845e0a1954535538375da88b27009", func := "loop.example/g00249/laws.FnWiped", spec := "fnWiped", unfollowed := true, recurses := true, apart := false, narrowed := true }
def FnWipedUptoSaid : Prop := fnWipedUptoRow.holds Try.pinned (OpenSpec.upto fnWipedSpec)

/-- 'laws.FnExactFreeCells', WHERE WHAT IT READS IS OF BULK AT MOST 1048576: true; the input reads as it did. -/
def fnExactFreeCellsUptoRow : OpenClaim := { program := "ythpjpaginggjaaa", sum := "d0685bedffc394f780d1434c021cf22ff87845e0a1954535538375da88b27009", func := "loop.example/g00249/laws.FnExactFreeCells", spec := "fnExactFreeCells", unfollowed := true, recurses := true, apart := false, narrowed := true }
def FnExactFreeCellsUptoSaid : Prop := fnExactFreeCellsUptoRow.holds Try.pinned (OpenSpec.upto fnExactFreeCellsSpec)

/-- 'laws.FnExactGiveBack', WHERE WHAT IT READS IS OF BULK AT MOST 1048576: true; the input reads as it did. -/
def fnExactGiveBackUptoRow : OpenClaim := { program := "ythpjpaginggjaaa", sum := "d0685bedffc394f780d1434c021cf22ff87845e0a1954535538375da88b27009", func := "loop.example/g00249/laws.FnExactGiveBack", spec := "fnExactGiveBack", inPlace := ["slices.overlaps[loop.example/g00249/impl.Span]"], unfollowed := true, recurses := true, apart := false, narrowed := true }
def FnExactGiveBackUptoSaid : Prop := fnExactGiveBackUptoRow.holds Try.pinned (OpenSpec.upto fnExactGiveBackSpec)

/-- 'laws.FnExactGrant', WHERE WHAT IT READS IS OF BULK AT MOST 1048576: true; the input reads as it did. -/
def fnExactGrantUptoRow : OpenClaim := { program := "ythpjpaginggjaaa", sum := "d0685bedffc394f780d1434c021cf22ff87845e0a1954535538375da88b27009", func := "loop.example/g00249/laws.FnExactGrant", spec := "fnExactGrant", inPlace := ["slices.overlaps[loop.example/g00249/impl.Span]"], unfollowed := true, recurses := true, apart := false, narrowed := true }
def FnExactGrantUptoSaid : Prop := fnExactGrantUptoRow.holds Try.pinned (OpenSpec.upto fnExactGrantSpec)

/-- 'laws.FnOnlyLive', WHERE WHAT IT READS IS OF BULK AT MOST 1048576: true; the input reads as it did. -/
def fnOnlyLiveUptoRow : OpenClaim := { program := "ythpjpaginggjaaa", sum := "d0685bedffc394f780d1434c021cf22ff87845e0a1954535538375da88b27009", func := "loop.example/g00249/laws.FnOnlyLive", spec := "fnOnlyLive", unfollowed := true, recurses := true, apart := false, narrowed := true }
def FnOnlyLiveUptoSaid : Prop := fnOnlyLiveUptoRow.holds Try.pinned (OpenSpec.upto fnOnlyLiveSpec)

/-- 'laws.FnAnew', WHERE WHAT IT READS IS OF BULK AT MOST 1048576: true; the input reads as it did. -/
def fnAnewUptoRow : OpenClaim := { program := "ythpjpaginggjaaa", sum := "d0685bedffc394f780d1434c021cf22ff87845e0a1954535538375da88b27009", func := "loop.example/g00249/laws.FnAnew", spec := "fnAnew", inPlace := ["slices.overlaps[loop.example/g00249/impl.Span]"], unfollowed := true, recurses := true, apart := false, narrowed := true }
def FnAnewUptoSaid : Prop := fnAnewUptoRow.holds Try.pinned (OpenSpec.upto fnAnewSpec)

end Rows
end Go.Proofs.Ythpjpaginggjaaa
