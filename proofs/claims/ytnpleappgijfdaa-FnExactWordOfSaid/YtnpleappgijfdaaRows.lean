/-
  No cell of these rows narrows 'for every input' (looked for: loops, veiled, ifaces, maps, wideKeys, modest, calm, conditions, laid).
  DERIVED. THE GIVEN ROWS OF THIS SEAT. 10 by the template 'for every input the law returns true; each argument reads behind the call as it read before'; 0 by the template 'total and deterministic' (their statements: YtnpleappgijfdaaTotals.lean).
  GIVEN WITH THE SEED: the statements are not yours to turn. If you find one false, say at which input.
  Laid BY PROGRAM, IN A SANDBOX (cutbox-rows.mjs): the forced cells as the released guide's own fill.sh prints them over the translation 65f655d5f0231688… (all of the seat's roots in one cut). By AI agents, Wed Nov 11 2026. No macro, syntax, notation, axiom, sorry.
-/
import Derived.Test.YtnpleappgijfdaaChecked
import GoSem.Claim
import GoSem.ClaimJoined
import GoSem.ClaimMapViews
import Derived.JoinedTies
import Derived.KernelRfl
namespace Go.Proofs.Ytnpleappgijfdaa
/- THE CELL 'sum', in the pinned program and in every row, IS THE sha256 OF THE DUMP (.gsa) THAT YtnpleappgijfdaaProg.lean LOADS. Nothing in Lean hashes anything: it is a label: what it is worth is what the hold of that sum in a sandbox is worth. -/
noncomputable def Try.pinned : Pinned := { name := "ytnpleappgijfdaa", sum := "65f655d5f0231688fd1afeea2bc125a8bd8fe7d55daf4e4cfaa3f73b327cff98", checked := Try.checked }
namespace Rows
def none {H : Type} : Left H := { results := [], args := [] }

/-- 'laws.FnExactCostAdd': WHATEVER THE INPUT: true; the input reads as it did. -/
def fnExactCostAddSpec : ChangeSpec := { name := "fnExactCostAdd", fn := fun _ => fun
  | [d1, d2] => { results := [.lit (.bool true)], args := [d1, d2] }
  | _ => none }
def fnExactCostAddRow : OpenClaim := { program := "ytnpleappgijfdaa", sum := "65f655d5f0231688fd1afeea2bc125a8bd8fe7d55daf4e4cfaa3f73b327cff98", func := "loop.example/g00249/laws.FnExactCostAdd", spec := "fnExactCostAdd", apart := false }
def FnExactCostAddSaid : Prop := fnExactCostAddRow.holds Try.pinned (OpenSpec.ofChange fnExactCostAddSpec)

/-- ITS FALSE NEIGHBOUR: 'it returns false'. Refute it at one input. -/
def fnExactCostAddWrong : ChangeSpec := { name := "fnExactCostAdd", fn := fun _ => fun
  | [d1, d2] => { results := [.lit (.bool false)], args := [d1, d2] }
  | _ => none }
def FnExactCostAddWrongFalsely : Prop := fnExactCostAddRow.holds Try.pinned (OpenSpec.ofChange fnExactCostAddWrong)

/-- 'laws.FnExactMarkCode': WHATEVER THE INPUT: true; the input reads as it did. -/
def fnExactMarkCodeSpec : ChangeSpec := { name := "fnExactMarkCode", fn := fun _ => fun
  | [d1, d2] => { results := [.lit (.bool true)], args := [d1, d2] }
  | _ => none }
def fnExactMarkCodeRow : OpenClaim := { program := "ytnpleappgijfdaa", sum := "65f655d5f0231688fd1afeea2bc125a8bd8fe7d55daf4e4cfaa3f73b327cff98", func := "loop.example/g00249/laws.FnExactMarkCode", spec := "fnExactMarkCode", apart := false }
def FnExactMarkCodeSaid : Prop := fnExactMarkCodeRow.holds Try.pinned (OpenSpec.ofChange fnExactMarkCodeSpec)

/-- ITS FALSE NEIGHBOUR: 'it returns false'. Refute it at one input. -/
def fnExactMarkCodeWrong : ChangeSpec := { name := "fnExactMarkCode", fn := fun _ => fun
  | [d1, d2] => { results := [.lit (.bool false)], args := [d1, d2] }
  | _ => none }
def FnExactMarkCodeWrongFalsely : Prop := fnExactMarkCodeRow.holds Try.pinned (OpenSpec.ofChange fnExactMarkCodeWrong)

/-- 'laws.FnExactCopyCode': WHATEVER THE INPUT: true; the input reads as it did. -/
def fnExactCopyCodeSpec : ChangeSpec := { name := "fnExactCopyCode", fn := fun _ => fun
  | [d1, d2, d3] => { results := [.lit (.bool true)], args := [d1, d2, d3] }
  | _ => none }
def fnExactCopyCodeRow : OpenClaim := { program := "ytnpleappgijfdaa", sum := "65f655d5f0231688fd1afeea2bc125a8bd8fe7d55daf4e4cfaa3f73b327cff98", func := "loop.example/g00249/laws.FnExactCopyCode", spec := "fnExactCopyCode", apart := false }
def FnExactCopyCodeSaid : Prop := fnExactCopyCodeRow.holds Try.pinned (OpenSpec.ofChange fnExactCopyCodeSpec)

/-- ITS FALSE NEIGHBOUR: 'it returns false'. Refute it at one input. -/
def fnExactCopyCodeWrong : ChangeSpec := { name := "fnExactCopyCode", fn := fun _ => fun
  | [d1, d2, d3] => { results := [.lit (.bool false)], args := [d1, d2, d3] }
  | _ => none }
def FnExactCopyCodeWrongFalsely : Prop := fnExactCopyCodeRow.holds Try.pinned (OpenSpec.ofChange fnExactCopyCodeWrong)

/-- 'laws.FnExactWipeCode': WHATEVER THE INPUT: true; the input reads as it did. -/
def fnExactWipeCodeSpec : ChangeSpec := { name := "fnExactWipeCode", fn := fun _ => fun
  | [d1, d2] => { results := [.lit (.bool true)], args := [d1, d2] }
  | _ => none }
def fnExactWipeCodeRow : OpenClaim := { program := "ytnpleappgijfdaa", sum := "65f655d5f0231688fd1afeea2bc125a8bd8fe7d55daf4e4cfaa3f73b327cff98", func := "loop.example/g00249/laws.FnExactWipeCode", spec := "fnExactWipeCode", apart := false }
def FnExactWipeCodeSaid : Prop := fnExactWipeCodeRow.holds Try.pinned (OpenSpec.ofChange fnExactWipeCodeSpec)

/-- ITS FALSE NEIGHBOUR: 'it returns false'. Refute it at one input. -/
def fnExactWipeCodeWrong : ChangeSpec := { name := "fnExactWipeCode", fn := fun _ => fun
  | [d1, d2] => { results := [.lit (.bool false)], args := [d1, d2] }
  | _ => none }
def FnExactWipeCodeWrongFalsely : Prop := fnExactWipeCodeRow.holds Try.pinned (OpenSpec.ofChange fnExactWipeCodeWrong)

/-- 'laws.FnExactWordBytes': WHATEVER THE INPUT: true; the input reads as it did. -/
def fnExactWordBytesSpec : ChangeSpec := { name := "fnExactWordBytes", fn := fun _ => fun
  | [d] => { results := [.lit (.bool true)], args := [d] }
  | _ => none }
def fnExactWordBytesRow : OpenClaim := { program := "ytnpleappgijfdaa", sum := "65f655d5f0231688fd1afeea2bc125a8bd8fe7d55daf4e4cfaa3f73b327cff98", func := "loop.example/g00249/laws.FnExactWordBytes", spec := "fnExactWordBytes", inPlace := ["internal/bytealg.MakeNoZero"], apart := false }
def FnExactWordBytesSaid : Prop := fnExactWordBytesRow.holds Try.pinned (OpenSpec.ofChange fnExactWordBytesSpec)

/-- ITS FALSE NEIGHBOUR: 'it returns false'. Refute it at one input. -/
def fnExactWordBytesWrong : ChangeSpec := { name := "fnExactWordBytes", fn := fun _ => fun
  | [d] => { results := [.lit (.bool false)], args := [d] }
  | _ => none }
def FnExactWordBytesWrongFalsely : Prop := fnExactWordBytesRow.holds Try.pinned (OpenSpec.ofChange fnExactWordBytesWrong)

/-- 'laws.FnExactWordOf': WHATEVER THE INPUT: true; the input reads as it did. -/
def fnExactWordOfSpec : ChangeSpec := { name := "fnExactWordOf", fn := fun _ => fun
  | [d1, d2] => { results := [.lit (.bool true)], args := [d1, d2] }
  | _ => none }
def fnExactWordOfRow : OpenClaim := { program := "ytnpleappgijfdaa", sum := "65f655d5f0231688fd1afeea2bc125a8bd8fe7d55daf4e4cfaa3f73b327cff98", func := "loop.example/g00249/laws.FnExactWordOf", spec := "fnExactWordOf", apart := false }
def FnExactWordOfSaid : Prop := fnExactWordOfRow.holds Try.pinned (OpenSpec.ofChange fnExactWordOfSpec)

/-- ITS FALSE NEIGHBOUR: 'it returns false'. Refute it at one input. -/
def fnExactWordOfWrong : ChangeSpec := { name := "fnExactWordOf", fn := fun _ => fun
  | [d1, d2] => { results := [.lit (.bool false)], args := [d1, d2] }
  | _ => none }
def FnExactWordOfWrongFalsely : Prop := fnExactWordOfRow.holds Try.pinned (OpenSpec.ofChange fnExactWordOfWrong)

/-- 'laws.FnExactHeapNew': WHATEVER THE INPUT: true; the input reads as it did. -/
def fnExactHeapNewSpec : ChangeSpec := { name := "fnExactHeapNew", fn := fun _ => fun
  | [] => { results := [.lit (.bool true)], args := [] }
  | _ => none }
def fnExactHeapNewRow : OpenClaim := { program := "ytnpleappgijfdaa", sum := "65f655d5f0231688fd1afeea2bc125a8bd8fe7d55daf4e4cfaa3f73b327cff98", func := "loop.example/g00249/laws.FnExactHeapNew", spec := "fnExactHeapNew", apart := false }
def FnExactHeapNewSaid : Prop := fnExactHeapNewRow.holds Try.pinned (OpenSpec.ofChange fnExactHeapNewSpec)

/-- ITS FALSE NEIGHBOUR: 'it returns false'. Refute it at one input. -/
def fnExactHeapNewWrong : ChangeSpec := { name := "fnExactHeapNew", fn := fun _ => fun
  | [] => { results := [.lit (.bool false)], args := [] }
  | _ => none }
def FnExactHeapNewWrongFalsely : Prop := fnExactHeapNewRow.holds Try.pinned (OpenSpec.ofChange fnExactHeapNewWrong)

/-- 'laws.FnExactCanSeal': WHATEVER THE INPUT: true; the input reads as it did. -/
def fnExactCanSealSpec : ChangeSpec := { name := "fnExactCanSeal", fn := fun _ => fun
  | [d1, d2] => { results := [.lit (.bool true)], args := [d1, d2] }
  | _ => none }
def fnExactCanSealRow : OpenClaim := { program := "ytnpleappgijfdaa", sum := "65f655d5f0231688fd1afeea2bc125a8bd8fe7d55daf4e4cfaa3f73b327cff98", func := "loop.example/g00249/laws.FnExactCanSeal", spec := "fnExactCanSeal", unfollowed := true, recurses := true, apart := false }
def FnExactCanSealSaid : Prop := fnExactCanSealRow.holds Try.pinned (OpenSpec.ofChange fnExactCanSealSpec)

/-- ITS FALSE NEIGHBOUR: 'it returns false'. Refute it at one input. -/
def fnExactCanSealWrong : ChangeSpec := { name := "fnExactCanSeal", fn := fun _ => fun
  | [d1, d2] => { results := [.lit (.bool false)], args := [d1, d2] }
  | _ => none }
def FnExactCanSealWrongFalsely : Prop := fnExactCanSealRow.holds Try.pinned (OpenSpec.ofChange fnExactCanSealWrong)

/-- 'laws.FnExactSideState': WHATEVER THE INPUT: true; the input reads as it did. -/
def fnExactSideStateSpec : ChangeSpec := { name := "fnExactSideState", fn := fun _ => fun
  | [d1, d2] => { results := [.lit (.bool true)], args := [d1, d2] }
  | _ => none }
def fnExactSideStateRow : OpenClaim := { program := "ytnpleappgijfdaa", sum := "65f655d5f0231688fd1afeea2bc125a8bd8fe7d55daf4e4cfaa3f73b327cff98", func := "loop.example/g00249/laws.FnExactSideState", spec := "fnExactSideState", apart := false }
def FnExactSideStateSaid : Prop := fnExactSideStateRow.holds Try.pinned (OpenSpec.ofChange fnExactSideStateSpec)

/-- ITS FALSE NEIGHBOUR: 'it returns false'. Refute it at one input. -/
def fnExactSideStateWrong : ChangeSpec := { name := "fnExactSideState", fn := fun _ => fun
  | [d1, d2] => { results := [.lit (.bool false)], args := [d1, d2] }
  | _ => none }
def FnExactSideStateWrongFalsely : Prop := fnExactSideStateRow.holds Try.pinned (OpenSpec.ofChange fnExactSideStateWrong)

/-- 'laws.FnExactTwoOk': WHATEVER THE INPUT: true; the input reads as it did. -/
def fnExactTwoOkSpec : ChangeSpec := { name := "fnExactTwoOk", fn := fun _ => fun
  | [d] => { results := [.lit (.bool true)], args := [d] }
  | _ => none }
def fnExactTwoOkRow : OpenClaim := { program := "ytnpleappgijfdaa", sum := "65f655d5f0231688fd1afeea2bc125a8bd8fe7d55daf4e4cfaa3f73b327cff98", func := "loop.example/g00249/laws.FnExactTwoOk", spec := "fnExactTwoOk", unfollowed := true, recurses := true, apart := false }
def FnExactTwoOkSaid : Prop := fnExactTwoOkRow.holds Try.pinned (OpenSpec.ofChange fnExactTwoOkSpec)

/-- ITS FALSE NEIGHBOUR: 'it returns false'. Refute it at one input. -/
def fnExactTwoOkWrong : ChangeSpec := { name := "fnExactTwoOk", fn := fun _ => fun
  | [d] => { results := [.lit (.bool false)], args := [d] }
  | _ => none }
def FnExactTwoOkWrongFalsely : Prop := fnExactTwoOkRow.holds Try.pinned (OpenSpec.ofChange fnExactTwoOkWrong)

/- THE SECOND FORM. 'bulk': how many values and letters a reading holds, each counted each time it is reached (what is shared counts as often as it is met; a slice's spare places count too). A statement '..UptoSaid' is the law's where the arguments, and the package variables that the reading takes, are together of bulk at most 1048576: NARROWER than '..Said'. Prove '..Said' where nothing that the law and all that it calls make is longer than what came in: it says more and counts as full. Else prove '..UptoSaid'. A law counts once. -/
mutual
def uptoBulk {H : Type} : DataW H → Nat
  | .lit (.string bytes) => bytes.length + 1
  | .lit _ => 1
  | .nil => 1
  | .ptr d => uptoBulk d + 1
  | .slice elems spare => uptoBulkAll elems + uptoBulkAll spare + 1
  | .agg parts => uptoBulkAll parts + 1
  | .iface _ d => uptoBulk d + 1
  | .map entries => uptoBulkEntries entries + 1
  | .held _ => 1
def uptoBulkAll {H : Type} : List (DataW H) → Nat
  | [] => 0
  | d :: r => uptoBulk d + uptoBulkAll r
def uptoBulkEntries {H : Type} : List (Lit × DataW H) → Nat
  | [] => 0
  | x :: r => uptoBulkEntry x + uptoBulkEntries r
def uptoBulkEntry {H : Type} : Lit × DataW H → Nat
  | (.string bytes, d) => bytes.length + uptoBulk d + 1
  | (_, d) => uptoBulk d + 1
 end
def uptoSmall : (H : Type) → List (DataW H) → Bool := fun _ ds => decide (uptoBulkAll ds ≤ 1048576)
def OpenSpec.upto (s : _root_.Go.ChangeSpec) : _root_.Go.OpenSpec := { _root_.Go.OpenSpec.ofChange s with cond := some uptoSmall }

/-- 'laws.FnExactCostAdd', WHERE WHAT IT READS IS OF BULK AT MOST 1048576: true; the input reads as it did. -/
def fnExactCostAddUptoRow : OpenClaim := { program := "ytnpleappgijfdaa", sum := "65f655d5f0231688fd1afeea2bc125a8bd8fe7d55daf4e4cfaa3f73b327cff98", func := "loop.example/g00249/laws.FnExactCostAdd", spec := "fnExactCostAdd", apart := false, narrowed := true }
def FnExactCostAddUptoSaid : Prop := fnExactCostAddUptoRow.holds Try.pinned (OpenSpec.upto fnExactCostAddSpec)

/-- 'laws.FnExactMarkCode', WHERE WHAT IT READS IS OF BULK AT MOST 1048576: true; the input reads as it did. -/
def fnExactMarkCodeUptoRow : OpenClaim := { program := "ytnpleappgijfdaa", sum := "65f655d5f0231688fd1afeea2bc125a8bd8fe7d55daf4e4cfaa3f73b327cff98", func := "loop.example/g00249/laws.FnExactMarkCode", spec := "fnExactMarkCode", apart := false, narrowed := true }
def FnExactMarkCodeUptoSaid : Prop := fnExactMarkCodeUptoRow.holds Try.pinned (OpenSpec.upto fnExactMarkCodeSpec)

/-- 'laws.FnExactCopyCode', WHERE WHAT IT READS IS OF BULK AT MOST 1048576: true; the input reads as it did. -/
def fnExactCopyCodeUptoRow : OpenClaim := { program := "ytnpleappgijfdaa", sum := "65f655d5f0231688fd1afeea2bc125a8bd8fe7d55daf4e4cfaa3f73b327cff98", func := "loop.example/g00249/laws.FnExactCopyCode", spec := "fnExactCopyCode", apart := false, narrowed := true }
def FnExactCopyCodeUptoSaid : Prop := fnExactCopyCodeUptoRow.holds Try.pinned (OpenSpec.upto fnExactCopyCodeSpec)

/-- 'laws.FnExactWipeCode', WHERE WHAT IT READS IS OF BULK AT MOST 1048576: true; the input reads as it did. -/
def fnExactWipeCodeUptoRow : OpenClaim := { program := "ytnpleappgijfdaa", sum := "65f655d5f0231688fd1afeea2bc125a8bd8fe7d55daf4e4cfaa3f73b327cff98", func := "loop.example/g00249/laws.FnExactWipeCode", spec := "fnExactWipeCode", apart := false, narrowed := true }
def FnExactWipeCodeUptoSaid : Prop := fnExactWipeCodeUptoRow.holds Try.pinned (OpenSpec.upto fnExactWipeCodeSpec)

/-- 'laws.FnExactWordBytes', WHERE WHAT IT READS IS OF BULK AT MOST 1048576: true; the input reads as it did. -/
def fnExactWordBytesUptoRow : OpenClaim := { program := "ytnpleappgijfdaa", sum := "65f655d5f0231688fd1afeea2bc125a8bd8fe7d55daf4e4cfaa3f73b327cff98", func := "loop.example/g00249/laws.FnExactWordBytes", spec := "fnExactWordBytes", inPlace := ["internal/bytealg.MakeNoZero"], apart := false, narrowed := true }
def FnExactWordBytesUptoSaid : Prop := fnExactWordBytesUptoRow.holds Try.pinned (OpenSpec.upto fnExactWordBytesSpec)

/-- 'laws.FnExactWordOf', WHERE WHAT IT READS IS OF BULK AT MOST 1048576: true; the input reads as it did. -/
def fnExactWordOfUptoRow : OpenClaim := { program := "ytnpleappgijfdaa", sum := "65f655d5f0231688fd1afeea2bc125a8bd8fe7d55daf4e4cfaa3f73b327cff98", func := "loop.example/g00249/laws.FnExactWordOf", spec := "fnExactWordOf", apart := false, narrowed := true }
def FnExactWordOfUptoSaid : Prop := fnExactWordOfUptoRow.holds Try.pinned (OpenSpec.upto fnExactWordOfSpec)

/-- 'laws.FnExactHeapNew', WHERE WHAT IT READS IS OF BULK AT MOST 1048576: true; the input reads as it did. -/
def fnExactHeapNewUptoRow : OpenClaim := { program := "ytnpleappgijfdaa", sum := "65f655d5f0231688fd1afeea2bc125a8bd8fe7d55daf4e4cfaa3f73b327cff98", func := "loop.example/g00249/laws.FnExactHeapNew", spec := "fnExactHeapNew", apart := false, narrowed := true }
def FnExactHeapNewUptoSaid : Prop := fnExactHeapNewUptoRow.holds Try.pinned (OpenSpec.upto fnExactHeapNewSpec)

/-- 'laws.FnExactCanSeal', WHERE WHAT IT READS IS OF BULK AT MOST 1048576: true; the input reads as it did. -/
def fnExactCanSealUptoRow : OpenClaim := { program := "ytnpleappgijfdaa", sum := "65f655d5f0231688fd1afeea2bc125a8bd8fe7d55daf4e4cfaa3f73b327cff98", func := "loop.example/g00249/laws.FnExactCanSeal", spec := "fnExactCanSeal", unfollowed := true, recurses := true, apart := false, narrowed := true }
def FnExactCanSealUptoSaid : Prop := fnExactCanSealUptoRow.holds Try.pinned (OpenSpec.upto fnExactCanSealSpec)

/-- 'laws.FnExactSideState', WHERE WHAT IT READS IS OF BULK AT MOST 1048576: true; the input reads as it did. -/
def fnExactSideStateUptoRow : OpenClaim := { program := "ytnpleappgijfdaa", sum := "65f655d5f0231688fd1afeea2bc125a8bd8fe7d55daf4e4cfaa3f73b327cff98", func := "loop.example/g00249/laws.FnExactSideState", spec := "fnExactSideState", apart := false, narrowed := true }
def FnExactSideStateUptoSaid : Prop := fnExactSideStateUptoRow.holds Try.pinned (OpenSpec.upto fnExactSideStateSpec)

/-- 'laws.FnExactTwoOk', WHERE WHAT IT READS IS OF BULK AT MOST 1048576: true; the input reads as it did. -/
def fnExactTwoOkUptoRow : OpenClaim := { program := "ytnpleappgijfdaa", sum := "65f655d5f0231688fd1afeea2bc125a8bd8fe7d55daf4e4cfaa3f73b327cff98", func := "loop.example/g00249/laws.FnExactTwoOk", spec := "fnExactTwoOk", unfollowed := true, recurses := true, apart := false, narrowed := true }
def FnExactTwoOkUptoSaid : Prop := fnExactTwoOkUptoRow.holds Try.pinned (OpenSpec.upto fnExactTwoOkSpec)

end Rows
end Go.Proofs.Ytnpleappgijfdaa
