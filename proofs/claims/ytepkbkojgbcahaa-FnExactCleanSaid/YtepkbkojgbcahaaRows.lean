/-
  No cell of these rows narrows 'for every input' (looked for: loops, veiled, ifaces, maps, wideKeys, modest, calm, conditions, laid).
  DERIVED. THE GIVEN ROWS OF THIS SEAT. 9 by the template 'for every input the law returns true; each argument reads behind the call as it read before'; 0 by the template 'total and deterministic' (their statements: YtepkbkojgbcahaaTotals.lean).
  GIVEN WITH THE SEED: the statements are not yours to turn. If you find one false, say at which input.
  Laid BY PROGRAM, IN A SANDBOX (cutbox-rows.mjs): the forced cells as the released guide's own fill.sh prints them over the translation a247e79625ca503c… (all of the seat's roots in one cut). By AI agents, Wed Nov 11 2026. No macro, syntax, notation, axiom, sorry.
-/
import Derived.Test.YtepkbkojgbcahaaChecked
import GoSem.Claim
import GoSem.ClaimJoined
import GoSem.ClaimMapViews
import Derived.JoinedTies
import Derived.KernelRfl
namespace Go.Proofs.Ytepkbkojgbcahaa
/- THE CELL 'sum', in the pinned program and in every row, IS THE sha256 OF THE DUMP (.gsa) THAT YtepkbkojgbcahaaProg.lean LOADS. Nothing in Lean hashes anything: it is a label: what it is worth is what the hold of that sum in a sandbox is worth. -/
noncomputable def Try.pinned : Pinned := { name := "ytepkbkojgbcahaa", sum := "a247e79625ca503ca3a3a1ca49b2b71219c2338f6434ac763c00ef2e7e7bf4fb", checked := Try.checked }
namespace Rows
def none {H : Type} : Left H := { results := [], args := [] }

/-- 'laws.FnExactClosure': WHATEVER THE INPUT: true; the input reads as it did. -/
def fnExactClosureSpec : ChangeSpec := { name := "fnExactClosure", fn := fun _ => fun
  | [d1, d2] => { results := [.lit (.bool true)], args := [d1, d2] }
  | _ => none }
def fnExactClosureRow : OpenClaim := { program := "ytepkbkojgbcahaa", sum := "a247e79625ca503ca3a3a1ca49b2b71219c2338f6434ac763c00ef2e7e7bf4fb", func := "loop.example/g00249/laws.FnExactClosure", spec := "fnExactClosure", unfollowed := true, recurses := true, apart := false }
def FnExactClosureSaid : Prop := fnExactClosureRow.holds Try.pinned (OpenSpec.ofChange fnExactClosureSpec)

/-- ITS FALSE NEIGHBOUR: 'it returns false'. Refute it at one input. -/
def fnExactClosureWrong : ChangeSpec := { name := "fnExactClosure", fn := fun _ => fun
  | [d1, d2] => { results := [.lit (.bool false)], args := [d1, d2] }
  | _ => none }
def FnExactClosureWrongFalsely : Prop := fnExactClosureRow.holds Try.pinned (OpenSpec.ofChange fnExactClosureWrong)

/-- 'laws.FnExactHeapOk': WHATEVER THE INPUT: true; the input reads as it did. -/
def fnExactHeapOkSpec : ChangeSpec := { name := "fnExactHeapOk", fn := fun _ => fun
  | [d] => { results := [.lit (.bool true)], args := [d] }
  | _ => none }
def fnExactHeapOkRow : OpenClaim := { program := "ytepkbkojgbcahaa", sum := "a247e79625ca503ca3a3a1ca49b2b71219c2338f6434ac763c00ef2e7e7bf4fb", func := "loop.example/g00249/laws.FnExactHeapOk", spec := "fnExactHeapOk", unfollowed := true, recurses := true, apart := false }
def FnExactHeapOkSaid : Prop := fnExactHeapOkRow.holds Try.pinned (OpenSpec.ofChange fnExactHeapOkSpec)

/-- ITS FALSE NEIGHBOUR: 'it returns false'. Refute it at one input. -/
def fnExactHeapOkWrong : ChangeSpec := { name := "fnExactHeapOk", fn := fun _ => fun
  | [d] => { results := [.lit (.bool false)], args := [d] }
  | _ => none }
def FnExactHeapOkWrongFalsely : Prop := fnExactHeapOkRow.holds Try.pinned (OpenSpec.ofChange fnExactHeapOkWrong)

/-- 'laws.FnExactLoadCells': WHATEVER THE INPUT: true; the input reads as it did. -/
def fnExactLoadCellsSpec : ChangeSpec := { name := "fnExactLoadCells", fn := fun _ => fun
  | [d1, d2] => { results := [.lit (.bool true)], args := [d1, d2] }
  | _ => none }
def fnExactLoadCellsRow : OpenClaim := { program := "ytepkbkojgbcahaa", sum := "a247e79625ca503ca3a3a1ca49b2b71219c2338f6434ac763c00ef2e7e7bf4fb", func := "loop.example/g00249/laws.FnExactLoadCells", spec := "fnExactLoadCells", unfollowed := true, recurses := true, apart := false }
def FnExactLoadCellsSaid : Prop := fnExactLoadCellsRow.holds Try.pinned (OpenSpec.ofChange fnExactLoadCellsSpec)

/-- ITS FALSE NEIGHBOUR: 'it returns false'. Refute it at one input. -/
def fnExactLoadCellsWrong : ChangeSpec := { name := "fnExactLoadCells", fn := fun _ => fun
  | [d1, d2] => { results := [.lit (.bool false)], args := [d1, d2] }
  | _ => none }
def FnExactLoadCellsWrongFalsely : Prop := fnExactLoadCellsRow.holds Try.pinned (OpenSpec.ofChange fnExactLoadCellsWrong)

/-- 'laws.FnExactStoreCells': WHATEVER THE INPUT: true; the input reads as it did. -/
def fnExactStoreCellsSpec : ChangeSpec := { name := "fnExactStoreCells", fn := fun _ => fun
  | [d1, d2] => { results := [.lit (.bool true)], args := [d1, d2] }
  | _ => none }
def fnExactStoreCellsRow : OpenClaim := { program := "ytepkbkojgbcahaa", sum := "a247e79625ca503ca3a3a1ca49b2b71219c2338f6434ac763c00ef2e7e7bf4fb", func := "loop.example/g00249/laws.FnExactStoreCells", spec := "fnExactStoreCells", unfollowed := true, recurses := true, apart := false }
def FnExactStoreCellsSaid : Prop := fnExactStoreCellsRow.holds Try.pinned (OpenSpec.ofChange fnExactStoreCellsSpec)

/-- ITS FALSE NEIGHBOUR: 'it returns false'. Refute it at one input. -/
def fnExactStoreCellsWrong : ChangeSpec := { name := "fnExactStoreCells", fn := fun _ => fun
  | [d1, d2] => { results := [.lit (.bool false)], args := [d1, d2] }
  | _ => none }
def FnExactStoreCellsWrongFalsely : Prop := fnExactStoreCellsRow.holds Try.pinned (OpenSpec.ofChange fnExactStoreCellsWrong)

/-- 'laws.FnExactFreeCells': WHATEVER THE INPUT: true; the input reads as it did. -/
def fnExactFreeCellsSpec : ChangeSpec := { name := "fnExactFreeCells", fn := fun _ => fun
  | [d] => { results := [.lit (.bool true)], args := [d] }
  | _ => none }
def fnExactFreeCellsRow : OpenClaim := { program := "ytepkbkojgbcahaa", sum := "a247e79625ca503ca3a3a1ca49b2b71219c2338f6434ac763c00ef2e7e7bf4fb", func := "loop.example/g00249/laws.FnExactFreeCells", spec := "fnExactFreeCells", unfollowed := true, recurses := true, apart := false }
def FnExactFreeCellsSaid : Prop := fnExactFreeCellsRow.holds Try.pinned (OpenSpec.ofChange fnExactFreeCellsSpec)

/-- ITS FALSE NEIGHBOUR: 'it returns false'. Refute it at one input. -/
def fnExactFreeCellsWrong : ChangeSpec := { name := "fnExactFreeCells", fn := fun _ => fun
  | [d] => { results := [.lit (.bool false)], args := [d] }
  | _ => none }
def FnExactFreeCellsWrongFalsely : Prop := fnExactFreeCellsRow.holds Try.pinned (OpenSpec.ofChange fnExactFreeCellsWrong)

/-- 'laws.FnExactApart': WHATEVER THE INPUT: true; the input reads as it did. -/
def fnExactApartSpec : ChangeSpec := { name := "fnExactApart", fn := fun _ => fun
  | [d] => { results := [.lit (.bool true)], args := [d] }
  | _ => none }
def fnExactApartRow : OpenClaim := { program := "ytepkbkojgbcahaa", sum := "a247e79625ca503ca3a3a1ca49b2b71219c2338f6434ac763c00ef2e7e7bf4fb", func := "loop.example/g00249/laws.FnExactApart", spec := "fnExactApart", unfollowed := true, recurses := true, apart := false }
def FnExactApartSaid : Prop := fnExactApartRow.holds Try.pinned (OpenSpec.ofChange fnExactApartSpec)

/-- ITS FALSE NEIGHBOUR: 'it returns false'. Refute it at one input. -/
def fnExactApartWrong : ChangeSpec := { name := "fnExactApart", fn := fun _ => fun
  | [d] => { results := [.lit (.bool false)], args := [d] }
  | _ => none }
def FnExactApartWrongFalsely : Prop := fnExactApartRow.holds Try.pinned (OpenSpec.ofChange fnExactApartWrong)

/-- 'laws.FnExactClean': WHATEVER THE INPUT: true; the input reads as it did. -/
def fnExactCleanSpec : ChangeSpec := { name := "fnExactClean", fn := fun _ => fun
  | [d1, d2] => { results := [.lit (.bool true)], args := [d1, d2] }
  | _ => none }
def fnExactCleanRow : OpenClaim := { program := "ytepkbkojgbcahaa", sum := "a247e79625ca503ca3a3a1ca49b2b71219c2338f6434ac763c00ef2e7e7bf4fb", func := "loop.example/g00249/laws.FnExactClean", spec := "fnExactClean", unfollowed := true, recurses := true, apart := false }
def FnExactCleanSaid : Prop := fnExactCleanRow.holds Try.pinned (OpenSpec.ofChange fnExactCleanSpec)

/-- ITS FALSE NEIGHBOUR: 'it returns false'. Refute it at one input. -/
def fnExactCleanWrong : ChangeSpec := { name := "fnExactClean", fn := fun _ => fun
  | [d1, d2] => { results := [.lit (.bool false)], args := [d1, d2] }
  | _ => none }
def FnExactCleanWrongFalsely : Prop := fnExactCleanRow.holds Try.pinned (OpenSpec.ofChange fnExactCleanWrong)

/-- 'laws.FnExactGiveBack': WHATEVER THE INPUT: true; the input reads as it did. -/
def fnExactGiveBackSpec : ChangeSpec := { name := "fnExactGiveBack", fn := fun _ => fun
  | [d1, d2] => { results := [.lit (.bool true)], args := [d1, d2] }
  | _ => none }
def fnExactGiveBackRow : OpenClaim := { program := "ytepkbkojgbcahaa", sum := "a247e79625ca503ca3a3a1ca49b2b71219c2338f6434ac763c00ef2e7e7bf4fb", func := "loop.example/g00249/laws.FnExactGiveBack", spec := "fnExactGiveBack", inPlace := ["slices.overlaps[loop.example/g00249/impl.Span]"], unfollowed := true, recurses := true, apart := false }
def FnExactGiveBackSaid : Prop := fnExactGiveBackRow.holds Try.pinned (OpenSpec.ofChange fnExactGiveBackSpec)

/-- ITS FALSE NEIGHBOUR: 'it returns false'. Refute it at one input. -/
def fnExactGiveBackWrong : ChangeSpec := { name := "fnExactGiveBack", fn := fun _ => fun
  | [d1, d2] => { results := [.lit (.bool false)], args := [d1, d2] }
  | _ => none }
def FnExactGiveBackWrongFalsely : Prop := fnExactGiveBackRow.holds Try.pinned (OpenSpec.ofChange fnExactGiveBackWrong)

/-- 'laws.FnExactGrant': WHATEVER THE INPUT: true; the input reads as it did. -/
def fnExactGrantSpec : ChangeSpec := { name := "fnExactGrant", fn := fun _ => fun
  | [d1, d2] => { results := [.lit (.bool true)], args := [d1, d2] }
  | _ => none }
def fnExactGrantRow : OpenClaim := { program := "ytepkbkojgbcahaa", sum := "a247e79625ca503ca3a3a1ca49b2b71219c2338f6434ac763c00ef2e7e7bf4fb", func := "loop.example/g00249/laws.FnExactGrant", spec := "fnExactGrant", inPlace := ["slices.overlaps[loop.example/g00249/impl.Span]"], unfollowed := true, recurses := true, apart := false }
def FnExactGrantSaid : Prop := fnExactGrantRow.holds Try.pinned (OpenSpec.ofChange fnExactGrantSpec)

/-- ITS FALSE NEIGHBOUR: 'it returns false'. Refute it at one input. -/
def fnExactGrantWrong : ChangeSpec := { name := "fnExactGrant", fn := fun _ => fun
  | [d1, d2] => { results := [.lit (.bool false)], args := [d1, d2] }
  | _ => none }
def FnExactGrantWrongFalsely : Prop := fnExactGrantRow.holds Try.pinned (OpenSpec.ofChange fnExactGrantWrong)

/- THE SECOND FORM. 'bulk': how many values and letters a reading holds, each counted each time it is reached (what is shared counts as often as it is met; a slice's spare places count too). A statement '..UptoSaid' is the law's where the arguments, and the package variables that the reading takes, are together of bulk at most 1048576: NARROWER than '..Said'. Prove '..Said' where nothing that the law and all that it calls make is longer than what came in: it says more and counts as full. Else prove '..UptoSaid'. A law counts once. -/
mutual
def uptoBulk {H : Type} : DataW H → Nat
  | .lit (.string bytes) => bytes.length + 1
  | .lit _ => 1
  | .nil => 1
  | .ptr d => uptoBulk d + 1
  | .slice elems spare => uptoBulkAll elems + uptoBulkAll spare + 1
  | .agg parts => uptoBulkAll parts + 1
  | .iface _ d => uptoBulk d + 1
  | .map entries => uptoBulkEntries entries + 1
  | .held _ => 1
def uptoBulkAll {H : Type} : List (DataW H) → Nat
  | [] => 0
  | d :: r => uptoBulk d + uptoBulkAll r
def uptoBulkEntries {H : Type} : List (Lit × DataW H) → Nat
  | [] => 0
  | x :: r => uptoBulkEntry x + uptoBulkEntries r
def uptoBulkEntry {H : Type} : Lit × DataW H → Nat
  | (.string bytes, d) => bytes.length + uptoBulk d + 1
  | (_, d) => uptoBulk d + 1
 end
def uptoSmall : (H : Type) → List (DataW H) → Bool := fun _ ds => decide (uptoBulkAll ds ≤ 1048576)
def OpenSpec.upto (s : _root_.Go.ChangeSpec) : _root_.Go.OpenSpec := { _root_.Go.OpenSpec.ofChange s with cond := some uptoSmall }

/-- 'laws.FnExactClosure', WHERE WHAT IT READS IS OF BULK AT MOST 1048576: true; the input reads as it did. -/
def fnExactClosureUptoRow : OpenClaim := { program := "ytepkbkojgbcahaa", sum := "a247e79625ca503ca3a3a1ca49b2b71219c2338f6434ac763c00ef2e7e7bf4fb", func := "loop.example/g00249/laws.FnExactClosure", spec := "fnExactClosure", unfollowed := true, recurses := true, apart := false, narrowed := true }
def FnExactClosureUptoSaid : Prop := fnExactClosureUptoRow.holds Try.pinned (OpenSpec.upto fnExactClosureSpec)

/-- 'laws.FnExactHeapOk', WHERE WHAT IT READS IS OF BULK AT MOST 1048576: true; the input reads as it did. -/
def fnExactHeapOkUptoRow : OpenClaim := { program := "ytepkbkojgbcahaa", sum := "a247e79625ca503ca3a3a1ca49b2b71219c2338f6434ac763c00ef2e7e7bf4fb", func := "loop.example/g00249/laws.FnExactHeapOk", spec := "fnExactHeapOk", unfollowed := true, recurses := true, apart := false, narrowed := true }
def FnExactHeapOkUptoSaid : Prop := fnExactHeapOkUptoRow.holds Try.pinned (OpenSpec.upto fnExactHeapOkSpec)

/-- 'laws.FnExactLoadCells', WHERE WHAT IT READS IS OF BULK AT MOST 1048576: true; the input reads as it did. -/
def fnExactLoadCellsUptoRow : OpenClaim := { program := "ytepkbkojgbcahaa", sum := "a247e79625ca503ca3a3a1ca49b2b71219c2338f6434ac763c00ef2e7e7bf4fb", func := "loop.example/g00249/laws.FnExactLoadCells", spec := "fnExactLoadCells", unfollowed := true, recurses := true, apart := false, narrowed := true }
def FnExactLoadCellsUptoSaid : Prop := fnExactLoadCellsUptoRow.holds Try.pinned (OpenSpec.upto fnExactLoadCellsSpec)

/-- 'laws.FnExactStoreCells', WHERE WHAT IT READS IS OF BULK AT MOST 1048576: true; the input reads as it did. -/
def fnExactStoreCellsUptoRow : OpenClaim := { program := "ytepkbkojgbcahaa", sum := "a247e79625ca503ca3a3a1ca49b2b71219c2338f6434ac763c00ef2e7e7bf4fb", func := "loop.example/g00249/laws.FnExactStoreCells", spec := "fnExactStoreCells", unfollowed := true, recurses := true, apart := false, narrowed := true }
def FnExactStoreCellsUptoSaid : Prop := fnExactStoreCellsUptoRow.holds Try.pinned (OpenSpec.upto fnExactStoreCellsSpec)

/-- 'laws.FnExactFreeCells', WHERE WHAT IT READS IS OF BULK AT MOST 1048576: true; the input reads as it did. -/
def fnExactFreeCellsUptoRow : OpenClaim := { program := "ytepkbkojgbcahaa", sum := "a247e79625ca503ca3a3a1ca49b2b71219c2338f6434ac763c00ef2e7e7bf4fb", func := "loop.example/g00249/laws.FnExactFreeCells", spec := "fnExactFreeCells", unfollowed := true, recurses := true, apart := false, narrowed := true }
def FnExactFreeCellsUptoSaid : Prop := fnExactFreeCellsUptoRow.holds Try.pinned (OpenSpec.upto fnExactFreeCellsSpec)

/-- 'laws.FnExactApart', WHERE WHAT IT READS IS OF BULK AT MOST 1048576: true; the input reads as it did. -/
def fnExactApartUptoRow : OpenClaim := { program := "ytepkbkojgbcahaa", sum := "a247e79625ca503ca3a3a1ca49b2b71219c2338f6434ac763c00ef2e7e7bf4fb", func := "loop.example/g00249/laws.FnExactApart", spec := "fnExactApart", unfollowed := true, recurses := true, apart := false, narrowed := true }
def FnExactApartUptoSaid : Prop := fnExactApartUptoRow.holds Try.pinned (OpenSpec.upto fnExactApartSpec)

/-- 'laws.FnExactClean', WHERE WHAT IT READS IS OF BULK AT MOST 1048576: true; the input reads as it did. -/
def fnExactCleanUptoRow : OpenClaim := { program := "ytepkbkojgbcahaa", sum := "a247e79625ca503ca3a3a1ca49b2b71219c2338f6434ac763c00ef2e7e7bf4fb", func := "loop.example/g00249/laws.FnExactClean", spec := "fnExactClean", unfollowed := true, recurses := true, apart := false, narrowed := true }
def FnExactCleanUptoSaid : Prop := fnExactCleanUptoRow.holds Try.pinned (OpenSpec.upto fnExactCleanSpec)

/-- 'laws.FnExactGiveBack', WHERE WHAT IT READS IS OF BULK AT MOST 1048576: true; the input reads as it did. -/
def fnExactGiveBackUptoRow : OpenClaim := { program := "ytepkbkojgbcahaa", sum := "a247e79625ca503ca3a3a1ca49b2b71219c2338f6434ac763c00ef2e7e7bf4fb", func := "loop.example/g00249/laws.FnExactGiveBack", spec := "fnExactGiveBack", inPlace := ["slices.overlaps[loop.example/g00249/impl.Span]"], unfollowed := true, recurses := true, apart := false, narrowed := true }
def FnExactGiveBackUptoSaid : Prop := fnExactGiveBackUptoRow.holds Try.pinned (OpenSpec.upto fnExactGiveBackSpec)

/-- 'laws.FnExactGrant', WHERE WHAT IT READS IS OF BULK AT MOST 1048576: true; the input reads as it did. -/
def fnExactGrantUptoRow : OpenClaim := { program := "ytepkbkojgbcahaa", sum := "a247e79625ca503ca3a3a1ca49b2b71219c2338f6434ac763c00ef2e7e7bf4fb", func := "loop.example/g00249/laws.FnExactGrant", spec := "fnExactGrant", inPlace := ["slices.overlaps[loop.example/g00249/impl.Span]"], unfollowed := true, recurses := true, apart := false, narrowed := true }
def FnExactGrantUptoSaid : Prop := fnExactGrantUptoRow.holds Try.pinned (OpenSpec.upto fnExactGrantSpec)

end Rows
end Go.Proofs.Ytepkbkojgbcahaa
