/-
  No cell of these rows narrows 'for every input' (looked for: loops, veiled, ifaces, maps, wideKeys, modest, calm, conditions, laid).
  DERIVED. THE GIVEN ROWS OF THIS SEAT. 7 by the template 'for every input the law returns true; each argument reads behind the call as it read before'; 0 by the template 'total and deterministic' (their statements: YtkiokbkbgjomeaaGreatTotals.lean).
  GIVEN WITH THE SEED: the statements are not yours to turn. If you find one false, say at which input.
  Laid BY PROGRAM, IN A SANDBOX (cutbox-rows.mjs): the forced cells as the released guide's own fill.sh prints them over the translation 2e52bd09c8a7b638… (all of the seat's roots in one cut). By AI agents, Wed Nov 11 2026. No macro, syntax, notation, axiom, sorry.
-/
import Derived.Test.YtkiokbkbgjomeaaGreatChecked
import GoSem.Claim
import GoSem.ClaimJoined
import GoSem.ClaimMapViews
import Derived.JoinedTies
import Derived.KernelRfl
namespace Go.Proofs.YtkiokbkbgjomeaaGreat
/- THE CELL 'sum', in the pinned program and in every row, IS THE sha256 OF THE DUMP (.gsa) THAT YtkiokbkbgjomeaaGreatProg.lean LOADS. Nothing in Lean hashes anything: it is a label: what it is worth is what the hold of that sum in a sandbox is worth. -/
noncomputable def Tryz.pinned : Pinned := { name := "ytkiokbkbgjomeaagreat", sum := "2e52bd09c8a7b63855b998928d56706425a44ab9dd39c38946b1c31e0dbb62cc", checked := Tryz.checked }
namespace Rows
def none {H : Type} : Left H := { results := [], args := [] }

/-- 'laws.FnNoMore': WHATEVER THE INPUT: true; the input reads as it did. -/
def fnNoMoreSpec : ChangeSpec := { name := "fnNoMore", fn := fun _ => fun
  | [d] => { results := [.lit (.bool true)], args := [d] }
  | _ => none }
def fnNoMoreRow : OpenClaim := { program := "ytkiokbkbgjomeaagreat", sum := "2e52bd09c8a7b63855b998928d56706425a44ab9dd39c38946b1c31e0dbb62cc", func := "loop.example/g00249/laws.FnNoMore", spec := "fnNoMore", unfollowed := true, recurses := true, apart := false }
def FnNoMoreSaid : Prop := fnNoMoreRow.holds Tryz.pinned (OpenSpec.ofChange fnNoMoreSpec)

/-- ITS FALSE NEIGHBOUR: 'it returns false'. Refute it at one input. -/
def fnNoMoreWrong : ChangeSpec := { name := "fnNoMore", fn := fun _ => fun
  | [d] => { results := [.lit (.bool false)], args := [d] }
  | _ => none }
def FnNoMoreWrongFalsely : Prop := fnNoMoreRow.holds Tryz.pinned (OpenSpec.ofChange fnNoMoreWrong)

/-- 'laws.FnUntouched': WHATEVER THE INPUT: true; the input reads as it did. -/
def fnUntouchedSpec : ChangeSpec := { name := "fnUntouched", fn := fun _ => fun
  | [d] => { results := [.lit (.bool true)], args := [d] }
  | _ => none }
def fnUntouchedRow : OpenClaim := { program := "ytkiokbkbgjomeaagreat", sum := "2e52bd09c8a7b63855b998928d56706425a44ab9dd39c38946b1c31e0dbb62cc", func := "loop.example/g00249/laws.FnUntouched", spec := "fnUntouched", unfollowed := true, recurses := true, apart := false }
def FnUntouchedSaid : Prop := fnUntouchedRow.holds Tryz.pinned (OpenSpec.ofChange fnUntouchedSpec)

/-- ITS FALSE NEIGHBOUR: 'it returns false'. Refute it at one input. -/
def fnUntouchedWrong : ChangeSpec := { name := "fnUntouched", fn := fun _ => fun
  | [d] => { results := [.lit (.bool false)], args := [d] }
  | _ => none }
def FnUntouchedWrongFalsely : Prop := fnUntouchedRow.holds Tryz.pinned (OpenSpec.ofChange fnUntouchedWrong)

/-- 'laws.FnSeen': WHATEVER THE INPUT: true; the input reads as it did. -/
def fnSeenSpec : ChangeSpec := { name := "fnSeen", fn := fun _ => fun
  | [d] => { results := [.lit (.bool true)], args := [d] }
  | _ => none }
def fnSeenRow : OpenClaim := { program := "ytkiokbkbgjomeaagreat", sum := "2e52bd09c8a7b63855b998928d56706425a44ab9dd39c38946b1c31e0dbb62cc", func := "loop.example/g00249/laws.FnSeen", spec := "fnSeen", unfollowed := true, recurses := true, apart := false }
def FnSeenSaid : Prop := fnSeenRow.holds Tryz.pinned (OpenSpec.ofChange fnSeenSpec)

/-- ITS FALSE NEIGHBOUR: 'it returns false'. Refute it at one input. -/
def fnSeenWrong : ChangeSpec := { name := "fnSeen", fn := fun _ => fun
  | [d] => { results := [.lit (.bool false)], args := [d] }
  | _ => none }
def FnSeenWrongFalsely : Prop := fnSeenRow.holds Tryz.pinned (OpenSpec.ofChange fnSeenWrong)

/-- 'laws.FnResumes': WHATEVER THE INPUT: true; the input reads as it did. -/
def fnResumesSpec : ChangeSpec := { name := "fnResumes", fn := fun _ => fun
  | [d] => { results := [.lit (.bool true)], args := [d] }
  | _ => none }
def fnResumesRow : OpenClaim := { program := "ytkiokbkbgjomeaagreat", sum := "2e52bd09c8a7b63855b998928d56706425a44ab9dd39c38946b1c31e0dbb62cc", func := "loop.example/g00249/laws.FnResumes", spec := "fnResumes", inPlace := ["internal/bytealg.MakeNoZero"], unfollowed := true, recurses := true, apart := false }
def FnResumesSaid : Prop := fnResumesRow.holds Tryz.pinned (OpenSpec.ofChange fnResumesSpec)

/-- ITS FALSE NEIGHBOUR: 'it returns false'. Refute it at one input. -/
def fnResumesWrong : ChangeSpec := { name := "fnResumes", fn := fun _ => fun
  | [d] => { results := [.lit (.bool false)], args := [d] }
  | _ => none }
def FnResumesWrongFalsely : Prop := fnResumesRow.holds Tryz.pinned (OpenSpec.ofChange fnResumesWrong)

/-- 'laws.FnTwoSteps': WHATEVER THE INPUT: true; the input reads as it did. -/
def fnTwoStepsSpec : ChangeSpec := { name := "fnTwoSteps", fn := fun _ => fun
  | [d] => { results := [.lit (.bool true)], args := [d] }
  | _ => none }
def fnTwoStepsRow : OpenClaim := { program := "ytkiokbkbgjomeaagreat", sum := "2e52bd09c8a7b63855b998928d56706425a44ab9dd39c38946b1c31e0dbb62cc", func := "loop.example/g00249/laws.FnTwoSteps", spec := "fnTwoSteps", unfollowed := true, recurses := true, apart := false }
def FnTwoStepsSaid : Prop := fnTwoStepsRow.holds Tryz.pinned (OpenSpec.ofChange fnTwoStepsSpec)

/-- ITS FALSE NEIGHBOUR: 'it returns false'. Refute it at one input. -/
def fnTwoStepsWrong : ChangeSpec := { name := "fnTwoSteps", fn := fun _ => fun
  | [d] => { results := [.lit (.bool false)], args := [d] }
  | _ => none }
def FnTwoStepsWrongFalsely : Prop := fnTwoStepsRow.holds Tryz.pinned (OpenSpec.ofChange fnTwoStepsWrong)

/-- 'laws.FnApart': WHATEVER THE INPUT: true; the input reads as it did. -/
def fnApartSpec : ChangeSpec := { name := "fnApart", fn := fun _ => fun
  | [d] => { results := [.lit (.bool true)], args := [d] }
  | _ => none }
def fnApartRow : OpenClaim := { program := "ytkiokbkbgjomeaagreat", sum := "2e52bd09c8a7b63855b998928d56706425a44ab9dd39c38946b1c31e0dbb62cc", func := "loop.example/g00249/laws.FnApart", spec := "fnApart", unfollowed := true, recurses := true, apart := false }
def FnApartSaid : Prop := fnApartRow.holds Tryz.pinned (OpenSpec.ofChange fnApartSpec)

/-- ITS FALSE NEIGHBOUR: 'it returns false'. Refute it at one input. -/
def fnApartWrong : ChangeSpec := { name := "fnApart", fn := fun _ => fun
  | [d] => { results := [.lit (.bool false)], args := [d] }
  | _ => none }
def FnApartWrongFalsely : Prop := fnApartRow.holds Tryz.pinned (OpenSpec.ofChange fnApartWrong)

/-- 'laws.FnExactCostOf': WHATEVER THE INPUT: true; the input reads as it did. -/
def fnExactCostOfSpec : ChangeSpec := { name := "fnExactCostOf", fn := fun _ => fun
  | [d1, d2, d3] => { results := [.lit (.bool true)], args := [d1, d2, d3] }
  | _ => none }
def fnExactCostOfRow : OpenClaim := { program := "ytkiokbkbgjomeaagreat", sum := "2e52bd09c8a7b63855b998928d56706425a44ab9dd39c38946b1c31e0dbb62cc", func := "loop.example/g00249/laws.FnExactCostOf", spec := "fnExactCostOf", unfollowed := true, recurses := true, apart := false }
def FnExactCostOfSaid : Prop := fnExactCostOfRow.holds Tryz.pinned (OpenSpec.ofChange fnExactCostOfSpec)

/-- ITS FALSE NEIGHBOUR: 'it returns false'. Refute it at one input. -/
def fnExactCostOfWrong : ChangeSpec := { name := "fnExactCostOf", fn := fun _ => fun
  | [d1, d2, d3] => { results := [.lit (.bool false)], args := [d1, d2, d3] }
  | _ => none }
def FnExactCostOfWrongFalsely : Prop := fnExactCostOfRow.holds Tryz.pinned (OpenSpec.ofChange fnExactCostOfWrong)

/- THE SECOND FORM. 'bulk': how many values and letters a reading holds, each counted each time it is reached (what is shared counts as often as it is met; a slice's spare places count too). A statement '..UptoSaid' is the law's where the arguments, and the package variables that the reading takes, are together of bulk at most 1048576: NARROWER than '..Said'. Prove '..Said' where nothing that the law and all that it calls make is longer than what came in: it says more and counts as full. Else prove '..UptoSaid'. A law counts once. -/
mutual
def uptoBulk {H : Type} : DataW H → Nat
  | .lit (.string bytes) => bytes.length + 1
  | .lit _ => 1
  | .nil => 1
  | .ptr d => uptoBulk d + 1
  | .slice elems spare => uptoBulkAll elems + uptoBulkAll spare + 1
  | .agg parts => uptoBulkAll parts + 1
  | .iface _ d => uptoBulk d + 1
  | .map entries => uptoBulkEntries entries + 1
  | .held _ => 1
def uptoBulkAll {H : Type} : List (DataW H) → Nat
  | [] => 0
  | d :: r => uptoBulk d + uptoBulkAll r
def uptoBulkEntries {H : Type} : List (Lit × DataW H) → Nat
  | [] => 0
  | x :: r => uptoBulkEntry x + uptoBulkEntries r
def uptoBulkEntry {H : Type} : Lit × DataW H → Nat
  | (.string bytes, d) => bytes.length + uptoBulk d + 1
  | (_, d) => uptoBulk d + 1
 end
def uptoSmall : (H : Type) → List (DataW H) → Bool := fun _ ds => decide (uptoBulkAll ds ≤ 1048576)
def OpenSpec.upto (s : _root_.Go.ChangeSpec) : _root_.Go.OpenSpec := { _root_.Go.OpenSpec.ofChange s with cond := some uptoSmall }

/-- 'laws.FnNoMore', WHERE WHAT IT READS IS OF BULK AT MOST 1048576: true; the input reads as it did. -/
def fnNoMoreUptoRow : OpenClaim := { program := "ytkiokbkbgjomeaagreat", sum := "2e52bd09c8a7b63855b998928d56706425a44ab9dd39c38946b1c31e0dbb62cc", func := "loop.example/g00249/laws.FnNoMore", spec := "fnNoMore", unfollowed := true, recurses := true, apart := false, narrowed := true }
def FnNoMoreUptoSaid : Prop := fnNoMoreUptoRow.holds Tryz.pinned (OpenSpec.upto fnNoMoreSpec)

/-- 'laws.FnUntouched', WHERE WHAT IT READS IS OF BULK AT MOST 1048576: true; the input reads as it did. -/
def fnUntouchedUptoRow : OpenClaim := { program := "ytkiokbkbgjomeaagreat", sum := "2e52bd09c8a7b63855b998928d56706425a44ab9dd39c38946b1c31e0dbb62cc", func := "loop.example/g00249/laws.FnUntouched", spec := "fnUntouched", unfollowed := true, recurses := true, apart := false, narrowed := true }
def FnUntouchedUptoSaid : Prop := fnUntouchedUptoRow.holds Tryz.pinned (OpenSpec.upto fnUntouchedSpec)

/-- 'laws.FnSeen', WHERE WHAT IT READS IS OF BULK AT MOST 1048576: true; the input reads as it did. -/
def fnSeenUptoRow : OpenClaim := { program := "ytkiokbkbgjomeaagreat", sum := "2e52bd09c8a7b63855b998928d56706425a44ab9dd39c38946b1c31e0dbb62cc", func := "loop.example/g00249/laws.FnSeen", spec := "fnSeen", unfollowed := true, recurses := true, apart := false, narrowed := true }
def FnSeenUptoSaid : Prop := fnSeenUptoRow.holds Tryz.pinned (OpenSpec.upto fnSeenSpec)

/-- 'laws.FnResumes', WHERE WHAT IT READS IS OF BULK AT MOST 1048576: true; the input reads as it did. -/
def fnResumesUptoRow : OpenClaim := { program := "ytkiokbkbgjomeaagreat", sum := "2e52bd09c8a7b63855b998928d56706425a44ab9dd39c38946b1c31e0dbb62cc", func := "loop.example/g00249/laws.FnResumes", spec := "fnResumes", inPlace := ["internal/bytealg.MakeNoZero"], unfollowed := true, recurses := true, apart := false, narrowed := true }
def FnResumesUptoSaid : Prop := fnResumesUptoRow.holds Tryz.pinned (OpenSpec.upto fnResumesSpec)

/-- 'laws.FnTwoSteps', WHERE WHAT IT READS IS OF BULK AT MOST 1048576: true; the input reads as it did. -/
def fnTwoStepsUptoRow : OpenClaim := { program := "ytkiokbkbgjomeaagreat", sum := "2e52bd09c8a7b63855b998928d56706425a44ab9dd39c38946b1c31e0dbb62cc", func := "loop.example/g00249/laws.FnTwoSteps", spec := "fnTwoSteps", unfollowed := true, recurses := true, apart := false, narrowed := true }
def FnTwoStepsUptoSaid : Prop := fnTwoStepsUptoRow.holds Tryz.pinned (OpenSpec.upto fnTwoStepsSpec)

/-- 'laws.FnApart', WHERE WHAT IT READS IS OF BULK AT MOST 1048576: true; the input reads as it did. -/
def fnApartUptoRow : OpenClaim := { program := "ytkiokbkbgjomeaagreat", sum := "2e52bd09c8a7b63855b998928d56706425a44ab9dd39c38946b1c31e0dbb62cc", func := "loop.example/g00249/laws.FnApart", spec := "fnApart", unfollowed := true, recurses := true, apart := false, narrowed := true }
def FnApartUptoSaid : Prop := fnApartUptoRow.holds Tryz.pinned (OpenSpec.upto fnApartSpec)

/-- 'laws.FnExactCostOf', WHERE WHAT IT READS IS OF BULK AT MOST 1048576: true; the input reads as it did. -/
def fnExactCostOfUptoRow : OpenClaim := { program := "ytkiokbkbgjomeaagreat", sum := "2e52bd09c8a7b63855b998928d56706425a44ab9dd39c38946b1c31e0dbb62cc", func := "loop.example/g00249/laws.FnExactCostOf", spec := "fnExactCostOf", unfollowed := true, recurses := true, apart := false, narrowed := true }
def FnExactCostOfUptoSaid : Prop := fnExactCostOfUptoRow.holds Tryz.pinned (OpenSpec.upto fnExactCostOfSpec)

end Rows
end Go.Proofs.YtkiokbkbgjomeaaGreat
