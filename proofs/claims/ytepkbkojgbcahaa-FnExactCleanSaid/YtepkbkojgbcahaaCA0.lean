/- Contracts of functions, each out of its run by PI. No conditions. -/
import Derived.Test.YtepkbkojgbcahaaPiFn
import Derived.KernelRfl
import Derived.ProofKit
import Derived.Test.YtepkbkojgbcahaaRows
namespace Go.Pi
open Go.Proofs
set_option linter.unusedVariables false
set_option linter.unusedSimpArgs false
set_option maxRecDepth 100000
attribute [local irreducible] iterN
theorem mixd : Try.prog.follows .mixedOrders = true := by kernel_rfl
theorem etaKey (x : Key) : (⟨x.base, x.top, x.perms, x.sealed⟩ : Key) = x := rfl
theorem etaWord (x : Word) : (⟨x.n, x.is, x.key⟩ : Word) = x := rfl
theorem etaInst (x : Inst) : (⟨x.op, x.r, x.a, x.b, x.n⟩ : Inst) = x := rfl
theorem etaEff (x : Eff) : (⟨x.trap, x.r, x.val, x.next, x.addr, x.put, x.drop⟩ : Eff) = x := rfl
theorem etaEntry (x : Entry) : (⟨x.pc, x.x, x.done, x.e, x.guess⟩ : Entry) = x := rfl
theorem etaPick (x : Pick) : (⟨x.kind, x.n⟩ : Pick) = x := rfl
theorem etaSpan (x : Span) : (⟨x.at_, x.len⟩ : Span) = x := rfl
theorem etaSeen (x : Seen) : (⟨x.at_, x.r, x.addr, x.trap⟩ : Seen) = x := rfl
theorem etaPacked (x : Packed) : (⟨x.e, x.b, x.l⟩ : Packed) = x := rfl
theorem etaCost (x : Cost) : (⟨x.pulled, x.done, x.kept, x.back, x.swept⟩ : Cost) = x := rfl
theorem keyEq (a b : Key) : (a.base == b.base && (a.top == b.top && (a.perms == b.perms && a.sealed == b.sealed))) = decide (a = b) := by
  obtain ⟨a1, a2, a3, a4⟩ := a
  obtain ⟨b1, b2, b3, b4⟩ := b
  rw [Bool.eq_iff_iff]; simp
theorem keyEq0 (a : Key) : (a.base == 0 && (a.top == 0 && (a.perms == 0 && a.sealed == 0))) = decide (a = ⟨0, 0, 0, 0⟩) := keyEq a ⟨0, 0, 0, 0⟩
theorem beqI (a b : Int) : (a == b) = decide (a = b) := rfl
end Go.Pi
