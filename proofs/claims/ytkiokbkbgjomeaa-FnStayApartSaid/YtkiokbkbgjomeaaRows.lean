/-
  No cell of these rows narrows 'for every input' (looked for: loops, veiled, ifaces, maps, wideKeys, modest, calm, conditions, laid).
  DERIVED. THE GIVEN ROWS OF THIS SEAT. 5 by the template 'for every input the law returns true; each argument reads behind the call as it read before'; 0 by the template 'total and deterministic' (their statements: YtkiokbkbgjomeaaTotals.lean).
  GIVEN WITH THE SEED: the statements are not yours to turn. If you find one false, say at which input.
  Laid BY PROGRAM, IN A SANDBOX (cutbox-rows.mjs): the forced cells as the released guide's own fill.sh prints them over the translation dca6c20a7fc35830… (all of the seat's roots in one cut). By AI agents, Wed Nov 11 2026. No macro, syntax, notation, axiom, sorry.
-/
import Derived.Test.YtkiokbkbgjomeaaChecked
import GoSem.Claim
import GoSem.ClaimJoined
import GoSem.ClaimMapViews
import Derived.JoinedTies
import Derived.KernelRfl
namespace Go.Proofs.Ytkiokbkbgjomeaa
/- THE CELL 'sum', in the pinned program and in every row, IS THE sha256 OF THE DUMP (.gsa) THAT YtkiokbkbgjomeaaProg.lean LOADS. Nothing in Lean hashes anything: it is a label: what it is worth is what the hold of that sum in a sandbox is worth. -/
noncomputable def Try.pinned : Pinned := { name := "ytkiokbkbgjomeaa", sum := "dca6c20a7fc358306abce187970b38f979ef8e37ecdf15a9aecf72f811fb6334", checked := Try.checked }
namespace Rows
def none {H : Type} : Left H := { results := [], args := [] }

/-- 'laws.FnReached': WHATEVER THE INPUT: true; the input reads as it did. -/
def fnReachedSpec : ChangeSpec := { name := "fnReached", fn := fun _ => fun
  | [d] => { results := [.lit (.bool true)], args := [d] }
  | _ => none }
def fnReachedRow : OpenClaim := { program := "ytkiokbkbgjomeaa", sum := "dca6c20a7fc358306abce187970b38f979ef8e37ecdf15a9aecf72f811fb6334", func := "loop.example/g00249/laws.FnReached", spec := "fnReached", unfollowed := true, recurses := true, apart := false }
def FnReachedSaid : Prop := fnReachedRow.holds Try.pinned (OpenSpec.ofChange fnReachedSpec)

/-- ITS FALSE NEIGHBOUR: 'it returns false'. Refute it at one input. -/
def fnReachedWrong : ChangeSpec := { name := "fnReached", fn := fun _ => fun
  | [d] => { results := [.lit (.bool false)], args := [d] }
  | _ => none }
def FnReachedWrongFalsely : Prop := fnReachedRow.holds Try.pinned (OpenSpec.ofChange fnReachedWrong)

/-- 'laws.FnSaves': WHATEVER THE INPUT: true; the input reads as it did. -/
def fnSavesSpec : ChangeSpec := { name := "fnSaves", fn := fun _ => fun
  | [d] => { results := [.lit (.bool true)], args := [d] }
  | _ => none }
def fnSavesRow : OpenClaim := { program := "ytkiokbkbgjomeaa", sum := "dca6c20a7fc358306abce187970b38f979ef8e37ecdf15a9aecf72f811fb6334", func := "loop.example/g00249/laws.FnSaves", spec := "fnSaves", inPlace := ["internal/bytealg.MakeNoZero"], unfollowed := true, recurses := true, apart := false }
def FnSavesSaid : Prop := fnSavesRow.holds Try.pinned (OpenSpec.ofChange fnSavesSpec)

/-- ITS FALSE NEIGHBOUR: 'it returns false'. Refute it at one input. -/
def fnSavesWrong : ChangeSpec := { name := "fnSaves", fn := fun _ => fun
  | [d] => { results := [.lit (.bool false)], args := [d] }
  | _ => none }
def FnSavesWrongFalsely : Prop := fnSavesRow.holds Try.pinned (OpenSpec.ofChange fnSavesWrong)

/-- 'laws.FnStayApart': WHATEVER THE INPUT: true; the input reads as it did. -/
def fnStayApartSpec : ChangeSpec := { name := "fnStayApart", fn := fun _ => fun
  | [d] => { results := [.lit (.bool true)], args := [d] }
  | _ => none }
def fnStayApartRow : OpenClaim := { program := "ytkiokbkbgjomeaa", sum := "dca6c20a7fc358306abce187970b38f979ef8e37ecdf15a9aecf72f811fb6334", func := "loop.example/g00249/laws.FnStayApart", spec := "fnStayApart", unfollowed := true, recurses := true, apart := false }
def FnStayApartSaid : Prop := fnStayApartRow.holds Try.pinned (OpenSpec.ofChange fnStayApartSpec)

/-- ITS FALSE NEIGHBOUR: 'it returns false'. Refute it at one input. -/
def fnStayApartWrong : ChangeSpec := { name := "fnStayApart", fn := fun _ => fun
  | [d] => { results := [.lit (.bool false)], args := [d] }
  | _ => none }
def FnStayApartWrongFalsely : Prop := fnStayApartRow.holds Try.pinned (OpenSpec.ofChange fnStayApartWrong)

/-- 'laws.FnCopied': WHATEVER THE INPUT: true; the input reads as it did. -/
def fnCopiedSpec : ChangeSpec := { name := "fnCopied", fn := fun _ => fun
  | [d] => { results := [.lit (.bool true)], args := [d] }
  | _ => none }
def fnCopiedRow : OpenClaim := { program := "ytkiokbkbgjomeaa", sum := "dca6c20a7fc358306abce187970b38f979ef8e37ecdf15a9aecf72f811fb6334", func := "loop.example/g00249/laws.FnCopied", spec := "fnCopied", unfollowed := true, recurses := true, apart := false }
def FnCopiedSaid : Prop := fnCopiedRow.holds Try.pinned (OpenSpec.ofChange fnCopiedSpec)

/-- ITS FALSE NEIGHBOUR: 'it returns false'. Refute it at one input. -/
def fnCopiedWrong : ChangeSpec := { name := "fnCopied", fn := fun _ => fun
  | [d] => { results := [.lit (.bool false)], args := [d] }
  | _ => none }
def FnCopiedWrongFalsely : Prop := fnCopiedRow.holds Try.pinned (OpenSpec.ofChange fnCopiedWrong)

/-- 'laws.FnWiped': WHATEVER THE INPUT: true; the input reads as it did. -/
def fnWipedSpec : ChangeSpec := { name := "fnWiped", fn := fun _ => fun
  | [d] => { results := [.lit (.bool true)], args := [d] }
  | _ => none }
def fnWipedRow : OpenClaim := { program := "ytkiokbkbgjomeaa", sum := "dca6c20a7fc358306abce187970b38f979ef8e37ecdf15a9aecf72f811fb6334", func := "loop.example/g00249/laws.FnWiped", spec := "fnWiped", unfollowed := true, recurses := true, apart := false }
def FnWipedSaid : Prop := fnWipedRow.holds Try.pinned (OpenSpec.ofChange fnWipedSpec)

/-- ITS FALSE NEIGHBOUR: 'it returns false'. Refute it at one input. -/
def fnWipedWrong : ChangeSpec := { name := "fnWiped", fn := fun _ => fun
  | [d] => { results := [.lit (.bool false)], args := [d] }
  | _ => none }
def FnWipedWrongFalsely : Prop := fnWipedRow.holds Try.pinned (OpenSpec.ofChange fnWipedWrong)

/- THE SECOND FORM. 'bulk': how many values and letters a reading holds, each counted each time it is reached (what is shared counts as often as it is met; a slice's spare places count too). A statement '..UptoSaid' is the law's where the arguments, and the package variables that the reading takes, are together of bulk at most 1048576: NARROWER than '..Said'. Prove '..Said' where nothing that the law and all that it calls make is longer than what came in: it says more and counts as full. Else prove '..UptoSaid'. A law counts once. -/
mutual
def uptoBulk {H : Type} : DataW H → Nat
  | .lit (.string bytes) => bytes.length + 1
  | .lit _ => 1
  | .nil => 1
  | .ptr d => uptoBulk d + 1
  | .slice elems spare => uptoBulkAll elems + uptoBulkAll spare + 1
  | .agg parts => uptoBulkAll parts + 1
  | .iface _ d => uptoBulk d + 1
  | .map entries => uptoBulkEntries entries + 1
  | .held _ => 1
def uptoBulkAll {H : Type} : List (DataW H) → Nat
  | [] => 0
  | d :: r => uptoBulk d + uptoBulkAll r
def uptoBulkEntries {H : Type} : List (Lit × DataW H) → Nat
  | [] => 0
  | x :: r => uptoBulkEntry x + uptoBulkEntries r
def uptoBulkEntry {H : Type} : Lit × DataW H → Nat
  | (.string bytes, d) => bytes.length + uptoBulk d + 1
  | (_, d) => uptoBulk d + 1
 end
def uptoSmall : (H : Type) → List (DataW H) → Bool := fun _ ds => decide (uptoBulkAll ds ≤ 1048576)
def OpenSpec.upto (s : _root_.Go.ChangeSpec) : _root_.Go.OpenSpec := { _root_.Go.OpenSpec.ofChange s with cond := some uptoSmall }

/-- 'laws.FnReached', WHERE WHAT IT READS IS OF BULK AT MOST 1048576: true; the input reads as it did. -/
def fnReachedUptoRow : OpenClaim := { program := "ytkiokbkbgjomeaa", sum := "dca6c20a7fc358306abce187970b38f979ef8e37ecdf15a9aecf72f811fb6334", func := "loop.example/g00249/laws.FnReached", spec := "fnReached", unfollowed := true, recurses := true, apart := false, narrowed := true }
def FnReachedUptoSaid : Prop := fnReachedUptoRow.holds Try.pinned (OpenSpec.upto fnReachedSpec)

/-- 'laws.FnSaves', WHERE WHAT IT READS IS OF BULK AT MOST 1048576: true; the input reads as it did. -/
def fnSavesUptoRow : OpenClaim := { program := "ytkiokbkbgjomeaa", sum := "dca6c20a7fc358306abce187970b38f979ef8e37ecdf15a9aecf72f811fb6334", func := "loop.example/g00249/laws.FnSaves", spec := "fnSaves", inPlace := ["internal/bytealg.MakeNoZero"], unfollowed := true, recurses := true, apart := false, narrowed := true }
def FnSavesUptoSaid : Prop := fnSavesUptoRow.holds Try.pinned (OpenSpec.upto fnSavesSpec)

/-- 'laws.FnStayApart', WHERE WHAT IT READS IS OF BULK AT MOST 1048576: true; the input reads as it did. -/
def fnStayApartUptoRow : OpenClaim := { program := "ytkiokbkbgjomeaa", sum := "dca6c20a7fc358306abce187970b38f979ef8e37ecdf15a9aecf72f811fb6334", func := "loop.example/g00249/laws.FnStayApart", spec := "fnStayApart", unfollowed := true, recurses := true, apart := false, narrowed := true }
def FnStayApartUptoSaid : Prop := fnStayApartUptoRow.holds Try.pinned (OpenSpec.upto fnStayApartSpec)

/-- 'laws.FnCopied', WHERE WHAT IT READS IS OF BULK AT MOST 1048576: true; the input reads as it did. -/
def fnCopiedUptoRow : OpenClaim := { program := "ytkiokbkbgjomeaa", sum := "dca6c20a7fc358306abce187970b38f979ef8e37ecdf15a9aecf72f811fb6334", func := "loop.example/g00249/laws.FnCopied", spec := "fnCopied", unfollowed := true, recurses := true, apart := false, narrowed := true }
def FnCopiedUptoSaid : Prop := fnCopiedUptoRow.holds Try.pinned (OpenSpec.upto fnCopiedSpec)

/-- 'laws.FnWiped', WHERE WHAT IT READS IS OF BULK AT MOST 1048576: true; the input reads as it did. -/
def fnWipedUptoRow : OpenClaim := { program := "ytkiokbkbgjomeaa", sum := "dca6c20a7fc358306abce187970b38f979ef8e37ecdf15a9aecf72f811fb6334", func := "loop.example/g00249/laws.FnWiped", spec := "fnWiped", unfollowed := true, recurses := true, apart := false, narrowed := true }
def FnWipedUptoSaid : Prop := fnWipedUptoRow.holds Try.pinned (OpenSpec.upto fnWipedSpec)

end Rows
end Go.Proofs.Ytkiokbkbgjomeaa
