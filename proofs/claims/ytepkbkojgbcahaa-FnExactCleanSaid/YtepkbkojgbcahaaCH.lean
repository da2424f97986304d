/- Contracts of functions, each out of its run by PI. No conditions. -/
import Derived.Test.YtepkbkojgbcahaaCG
namespace Go.Pi
open Go.Proofs
set_option linter.unusedVariables false
set_option linter.unusedSimpArgs false
set_option maxRecDepth 100000
attribute [local irreducible] iterN
def twoOk (t : Two) : Bool := stateOk (sideState t 0) && stateOk (sideState t 1)

def pf_spec_TwoOk : PF := ⟨[.t 2], .seq (.reg [.s (.box 1 (.t 0)), .s (.mv 2 (.k (.v (.c .ff))))]) (.seq (.reg [.s (.load 3 true 18 (.t 1)), .s (.call (some 4) 118 [(.t 3), (.k (.v (.c (.int .i64 0))))]), .s (.call (some 5) 117 [(.t 4)]), .s (.mv 6 (.t 5)), .g 6 true (some 7) (.load 7 true 18 (.t 1)), .g 6 true (some 8) (.call (some 8) 118 [(.t 7), (.k (.v (.c (.int .i64 1))))]), .g 6 true (some 9) (.call (some 9) 117 [(.t 8)]), .s (.pick 10 (.t 6) (.t 9) (.k (.v (.c .ff)))), .s (.mv 2 (.t 10))]) (.ret))⟩
def c_spec_TwoOk : Fun := ⟨77, [], fun ts K => as1 ts fun t0 => arG pTwoT t0 fun t => chk (LTwo t 2147483647) (K (tB (twoOk t)) [])⟩
theorem run_spec_TwoOk (t : Two) (hpre : LTwo t 2147483647) : runK [c_spec_StateOk, c_spec_SideState] (0) [] pf_spec_TwoOk [tG (t.tc false [])] fun r o => r = tB (twoOk t) ∧ o = [] := by
  have h0 : LState (sideState t 0) 2147483647 := sideState_len (who := 0) hpre
  have h1 : LState (sideState t 1) 2147483647 := sideState_len (who := 1) hpre
  conv => whnf
  repeat' (first | (refine sel_i (fun h => ?_) (fun h => ?_) <;> conv => whnf) | (refine chk_c ?_ ?_ <;> conv => whnf) | (refine And.intro ?_ rfl) | (refine And.intro ?_ ?_ <;> conv => whnf))
  all_goals first
    | (refine ⟨?_⟩; assumption)
    | (simp only [etaKey, etaWord, etaMemory, etaState] at *; simp only [twoOk, *, Bool.true_and, Bool.false_and]; done)
theorem ok_spec_TwoOk : FunOk Try.prog c_spec_TwoOk := funOk (E := [c_spec_StateOk, c_spec_SideState]) (envOk_cons ok_spec_StateOk (envOk_cons ok_spec_SideState (envOk_nil))) mixd Try.func77 (pf := pf_spec_TwoOk) (by kernel_rfl) fun ts K h => by
  obtain ⟨t0, e0, h⟩ := as1_out h
  subst e0
  obtain ⟨t, e1, hq⟩ := arG_out rd_two h
  clear h
  subst e1
  have h := hq
  clear hq
  obtain ⟨hpre, h⟩ := chk_o h
  exact ⟨_, _, h, Nat.le_of_ble_eq_true (show Nat.ble 1 Try.f77.ntmps = true by kernel_rfl), _, run_spec_TwoOk t hpre⟩

def pf_impl_TwoOk : PF := ⟨[.t 2], .seq (.reg [.s (.box 1 (.t 0)), .s (.mv 2 (.k (.v (.c .ff))))]) (.seq (.reg [.s (.load 3 true 18 (.t 1)), .s (.call (some 4) 120 [(.t 3), (.k (.v (.c (.int .i64 0))))]), .s (.call (some 5) 119 [(.t 4)]), .s (.mv 6 (.t 5)), .g 6 true (some 7) (.load 7 true 18 (.t 1)), .g 6 true (some 8) (.call (some 8) 120 [(.t 7), (.k (.v (.c (.int .i64 1))))]), .g 6 true (some 9) (.call (some 9) 119 [(.t 8)]), .s (.pick 10 (.t 6) (.t 9) (.k (.v (.c .ff)))), .s (.mv 2 (.t 10))]) (.ret))⟩
def c_impl_TwoOk : Fun := ⟨83, [], fun ts K => as1 ts fun t0 => arG pTwoT t0 fun t => chk (LTwo t 2147483647) (K (tB (twoOk t)) [])⟩
theorem run_impl_TwoOk (t : Two) (hpre : LTwo t 2147483647) : runK [c_impl_StateOk, c_impl_SideState] (0) [] pf_impl_TwoOk [tG (t.tc false [])] fun r o => r = tB (twoOk t) ∧ o = [] := by
  have h0 : LState (sideState t 0) 2147483647 := sideState_len (who := 0) hpre
  have h1 : LState (sideState t 1) 2147483647 := sideState_len (who := 1) hpre
  conv => whnf
  repeat' (first | (refine sel_i (fun h => ?_) (fun h => ?_) <;> conv => whnf) | (refine chk_c ?_ ?_ <;> conv => whnf) | (refine And.intro ?_ rfl) | (refine And.intro ?_ ?_ <;> conv => whnf))
  all_goals first
    | (refine ⟨?_⟩; assumption)
    | (simp only [etaKey, etaWord, etaMemory, etaState] at *; simp only [twoOk, *, Bool.true_and, Bool.false_and]; done)
theorem ok_impl_TwoOk : FunOk Try.prog c_impl_TwoOk := funOk (E := [c_impl_StateOk, c_impl_SideState]) (envOk_cons ok_impl_StateOk (envOk_cons ok_impl_SideState (envOk_nil))) mixd Try.func83 (pf := pf_impl_TwoOk) (by kernel_rfl) fun ts K h => by
  obtain ⟨t0, e0, h⟩ := as1_out h
  subst e0
  obtain ⟨t, e1, hq⟩ := arG_out rd_two h
  clear h
  subst e1
  have h := hq
  clear hq
  obtain ⟨hpre, h⟩ := chk_o h
  exact ⟨_, _, h, Nat.le_of_ble_eq_true (show Nat.ble 1 Try.f83.ntmps = true by kernel_rfl), _, run_impl_TwoOk t hpre⟩
end Go.Pi
