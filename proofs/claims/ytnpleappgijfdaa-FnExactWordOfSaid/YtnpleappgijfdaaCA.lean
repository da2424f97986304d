/- Contracts of functions, each out of its run by PI. No conditions. -/
import Derived.Test.YtnpleappgijfdaaCA0
namespace Go.Pi
open Go.Proofs
set_option linter.unusedVariables false
set_option linter.unusedSimpArgs false
set_option maxRecDepth 100000
attribute [local irreducible] iterN
def costAdd (a b : Cost) : Cost := ⟨IntKind.i64.wrap (a.pulled + b.pulled), IntKind.i64.wrap (a.done + b.done), IntKind.i64.wrap (a.kept + b.kept), IntKind.i64.wrap (a.back + b.back), IntKind.i64.wrap (a.swept + b.swept)⟩

def pf_impl_CostAdd : PF := ⟨[.c 4 true 5], .seq (.reg [.s (.box 2 (.t 0)), .s (.box 3 (.t 1)), .s (.alloc 4 [.int .i64 0, .int .i64 0, .int .i64 0, .int .i64 0, .int .i64 0])]) (.seq (.reg [.s (.fa 5 (.t 2) 0), .s (.load 6 false 1 (.t 5)), .s (.fa 7 (.t 3) 0), .s (.load 8 false 1 (.t 7)), .s (.bin 9 .add (.t 6) (.t 8)), .s (.fa 10 (.t 2) 1), .s (.load 11 false 1 (.t 10)), .s (.fa 12 (.t 3) 1), .s (.load 13 false 1 (.t 12)), .s (.bin 14 .add (.t 11) (.t 13)), .s (.fa 15 (.t 2) 2), .s (.load 16 false 1 (.t 15)), .s (.fa 17 (.t 3) 2), .s (.load 18 false 1 (.t 17)), .s (.bin 19 .add (.t 16) (.t 18)), .s (.fa 20 (.t 2) 3), .s (.load 21 false 1 (.t 20)), .s (.fa 22 (.t 3) 3), .s (.load 23 false 1 (.t 22)), .s (.bin 24 .add (.t 21) (.t 23)), .s (.fa 25 (.t 2) 4), .s (.load 26 false 1 (.t 25)), .s (.fa 27 (.t 3) 4), .s (.load 28 false 1 (.t 27)), .s (.bin 29 .add (.t 26) (.t 28)), .s (.build 30 [.int .i64 0, .int .i64 0, .int .i64 0, .int .i64 0, .int .i64 0] [(0, 1, (.t 9)), (1, 1, (.t 14)), (2, 1, (.t 19)), (3, 1, (.t 24)), (4, 1, (.t 29))]), .s (.store 5 (.t 4) (.t 30))]) (.ret))⟩
def c_impl_CostAdd : Fun := ⟨15, [], fun ts K => as2 ts fun t0 t1 => arG pCostT t0 fun a => arG pCostT t1 fun b => K (tG ((costAdd a b).tc [])) []⟩
theorem run_impl_CostAdd (a : Cost) (b : Cost) : runK [] (0) [] pf_impl_CostAdd [tG (a.tc []), tG (b.tc [])] fun r o => r = tG ((costAdd a b).tc []) ∧ o = [] := by
  conv => whnf
  repeat' (first
    | exact rfl
    | exact trivial
    | (refine sel_i (fun h => ?_) (fun h => ?_) <;> conv => whnf)
    | (refine chk_c ?_ ?_ <;> conv => whnf)
    | (refine And.intro ?_ ?_ <;> conv => whnf))
theorem ok_impl_CostAdd : FunOk Try.prog c_impl_CostAdd := funOk (E := []) (envOk_nil) mixd Try.func15 (pf := pf_impl_CostAdd) (by kernel_rfl) fun ts K h => by
  obtain ⟨t0, t1, e0, h⟩ := as2_out h
  subst e0
  obtain ⟨a, e1, hq⟩ := arG_out rd_cost h
  clear h
  subst e1
  have h := hq
  clear hq
  obtain ⟨b, e1, hq⟩ := arG_out rd_cost h
  clear h
  subst e1
  have h := hq
  clear hq
  exact ⟨_, _, h, Nat.le_of_ble_eq_true (show Nat.ble 2 Try.f15.ntmps = true by kernel_rfl), _, run_impl_CostAdd a b⟩

def pf_spec_CostAdd : PF := ⟨[.c 4 true 5], .seq (.reg [.s (.box 2 (.t 0)), .s (.box 3 (.t 1)), .s (.alloc 4 [.int .i64 0, .int .i64 0, .int .i64 0, .int .i64 0, .int .i64 0])]) (.seq (.reg [.s (.fa 5 (.t 2) 0), .s (.load 6 false 1 (.t 5)), .s (.fa 7 (.t 3) 0), .s (.load 8 false 1 (.t 7)), .s (.bin 9 .add (.t 6) (.t 8)), .s (.fa 10 (.t 2) 1), .s (.load 11 false 1 (.t 10)), .s (.fa 12 (.t 3) 1), .s (.load 13 false 1 (.t 12)), .s (.bin 14 .add (.t 11) (.t 13)), .s (.fa 15 (.t 2) 2), .s (.load 16 false 1 (.t 15)), .s (.fa 17 (.t 3) 2), .s (.load 18 false 1 (.t 17)), .s (.bin 19 .add (.t 16) (.t 18)), .s (.fa 20 (.t 2) 3), .s (.load 21 false 1 (.t 20)), .s (.fa 22 (.t 3) 3), .s (.load 23 false 1 (.t 22)), .s (.bin 24 .add (.t 21) (.t 23)), .s (.fa 25 (.t 2) 4), .s (.load 26 false 1 (.t 25)), .s (.fa 27 (.t 3) 4), .s (.load 28 false 1 (.t 27)), .s (.bin 29 .add (.t 26) (.t 28)), .s (.build 30 [.int .i64 0, .int .i64 0, .int .i64 0, .int .i64 0, .int .i64 0] [(0, 1, (.t 9)), (1, 1, (.t 14)), (2, 1, (.t 19)), (3, 1, (.t 24)), (4, 1, (.t 29))]), .s (.store 5 (.t 4) (.t 30))]) (.ret))⟩
def c_spec_CostAdd : Fun := ⟨13, [], fun ts K => as2 ts fun t0 t1 => arG pCostT t0 fun a => arG pCostT t1 fun b => K (tG ((costAdd a b).tc [])) []⟩
theorem run_spec_CostAdd (a : Cost) (b : Cost) : runK [] (0) [] pf_spec_CostAdd [tG (a.tc []), tG (b.tc [])] fun r o => r = tG ((costAdd a b).tc []) ∧ o = [] := by
  conv => whnf
  repeat' (first
    | exact rfl
    | exact trivial
    | (refine sel_i (fun h => ?_) (fun h => ?_) <;> conv => whnf)
    | (refine chk_c ?_ ?_ <;> conv => whnf)
    | (refine And.intro ?_ ?_ <;> conv => whnf))
theorem ok_spec_CostAdd : FunOk Try.prog c_spec_CostAdd := funOk (E := []) (envOk_nil) mixd Try.func13 (pf := pf_spec_CostAdd) (by kernel_rfl) fun ts K h => by
  obtain ⟨t0, t1, e0, h⟩ := as2_out h
  subst e0
  obtain ⟨a, e1, hq⟩ := arG_out rd_cost h
  clear h
  subst e1
  have h := hq
  clear hq
  obtain ⟨b, e1, hq⟩ := arG_out rd_cost h
  clear h
  subst e1
  have h := hq
  clear hq
  exact ⟨_, _, h, Nat.le_of_ble_eq_true (show Nat.ble 2 Try.f13.ntmps = true by kernel_rfl), _, run_spec_CostAdd a b⟩

def pf_laws_toCost : PF := ⟨[.c 2 true 5], .seq (.reg [.s (.box 1 (.t 0)), .s (.alloc 2 [.int .i64 0, .int .i64 0, .int .i64 0, .int .i64 0, .int .i64 0])]) (.seq (.reg [.s (.alloc 3 [.int .i64 0, .int .i64 0, .int .i64 0, .int .i64 0, .int .i64 0])]) (.seq (.reg [.s (.fa 4 (.t 1) 0), .s (.load 5 false 1 (.t 4)), .s (.fa 6 (.t 3) 0), .s (.store 1 (.t 6) (.t 5))]) (.seq (.reg [.s (.fa 7 (.t 1) 1), .s (.load 8 false 1 (.t 7)), .s (.fa 9 (.t 3) 1), .s (.store 1 (.t 9) (.t 8))]) (.seq (.reg [.s (.fa 10 (.t 1) 2), .s (.load 11 false 1 (.t 10)), .s (.fa 12 (.t 3) 2), .s (.store 1 (.t 12) (.t 11))]) (.seq (.reg [.s (.fa 13 (.t 1) 3), .s (.load 14 false 1 (.t 13)), .s (.fa 15 (.t 3) 3), .s (.store 1 (.t 15) (.t 14))]) (.seq (.reg [.s (.fa 16 (.t 1) 4), .s (.load 17 false 1 (.t 16)), .s (.fa 18 (.t 3) 4), .s (.store 1 (.t 18) (.t 17))]) (.seq (.reg [.s (.load 19 true 5 (.t 3)), .s (.store 5 (.t 2) (.t 19))]) (.ret))))))))⟩
def c_laws_toCost : Fun := ⟨14, [], fun ts K => as1 ts fun t0 => arG pCostT t0 fun a => K (tG (a.tc [])) []⟩
theorem run_laws_toCost (a : Cost) : runK [] (0) [] pf_laws_toCost [tG (a.tc [])] fun r o => r = tG (a.tc []) ∧ o = [] := by
  conv => whnf
  repeat' (first
    | exact rfl
    | exact trivial
    | (refine sel_i (fun h => ?_) (fun h => ?_) <;> conv => whnf)
    | (refine chk_c ?_ ?_ <;> conv => whnf)
    | (refine And.intro ?_ ?_ <;> conv => whnf))
theorem ok_laws_toCost : FunOk Try.prog c_laws_toCost := funOk (E := []) (envOk_nil) mixd Try.func14 (pf := pf_laws_toCost) (by kernel_rfl) fun ts K h => by
  obtain ⟨t0, e0, h⟩ := as1_out h
  subst e0
  obtain ⟨a, e1, hq⟩ := arG_out rd_cost h
  clear h
  subst e1
  have h := hq
  clear hq
  exact ⟨_, _, h, Nat.le_of_ble_eq_true (show Nat.ble 1 Try.f14.ntmps = true by kernel_rfl), _, run_laws_toCost a⟩

def pf_laws_eqCost : PF := ⟨[.t 4], .seq (.reg [.s (.box 2 (.t 0)), .s (.box 3 (.t 1)), .s (.mv 4 (.k (.v (.c .ff))))]) (.seq (.seq (.reg [.s (.fa 5 (.t 2) 0), .s (.load 6 false 1 (.t 5)), .s (.fa 7 (.t 3) 0), .s (.load 8 false 1 (.t 7)), .s (.bin 9 .neq (.t 6) (.t 8))]) (.cond (.t 9) (.seq (.reg [.s (.mv 4 (.k (.v (.c .ff))))]) (.ret)) (.skip))) (.seq (.seq (.reg [.s (.fa 10 (.t 2) 1), .s (.load 11 false 1 (.t 10)), .s (.fa 12 (.t 3) 1), .s (.load 13 false 1 (.t 12)), .s (.bin 14 .neq (.t 11) (.t 13))]) (.cond (.t 14) (.seq (.reg [.s (.mv 4 (.k (.v (.c .ff))))]) (.ret)) (.skip))) (.seq (.seq (.reg [.s (.fa 15 (.t 2) 2), .s (.load 16 false 1 (.t 15)), .s (.fa 17 (.t 3) 2), .s (.load 18 false 1 (.t 17)), .s (.bin 19 .neq (.t 16) (.t 18))]) (.cond (.t 19) (.seq (.reg [.s (.mv 4 (.k (.v (.c .ff))))]) (.ret)) (.skip))) (.seq (.seq (.reg [.s (.fa 20 (.t 2) 3), .s (.load 21 false 1 (.t 20)), .s (.fa 22 (.t 3) 3), .s (.load 23 false 1 (.t 22)), .s (.bin 24 .neq (.t 21) (.t 23))]) (.cond (.t 24) (.seq (.reg [.s (.mv 4 (.k (.v (.c .ff))))]) (.ret)) (.skip))) (.seq (.seq (.reg [.s (.fa 25 (.t 2) 4), .s (.load 26 false 1 (.t 25)), .s (.fa 27 (.t 3) 4), .s (.load 28 false 1 (.t 27)), .s (.bin 29 .neq (.t 26) (.t 28))]) (.cond (.t 29) (.seq (.reg [.s (.mv 4 (.k (.v (.c .ff))))]) (.ret)) (.skip))) (.seq (.reg [.s (.mv 4 (.k (.v (.c .tt))))]) (.ret)))))))⟩
def c_laws_eqCost : Fun := ⟨16, [], fun ts K => as2 ts fun t0 t1 => arG pCostT t0 fun a => arG pCostT t1 fun b => K (tB (decide (a = b))) []⟩
theorem run_laws_eqCost (a : Cost) (b : Cost) : runK [] (0) [] pf_laws_eqCost [tG (a.tc []), tG (b.tc [])] fun r o => r = tB (decide (a = b)) ∧ o = [] := by
  obtain ⟨a1, a2, a3, a4, a5⟩ := a
  obtain ⟨b1, b2, b3, b4, b5⟩ := b
  conv => whnf
  repeat' (refine sel_i (fun h => ?_) (fun h => ?_) <;> conv => whnf)
  all_goals (refine ⟨?_, rfl⟩; simp_all)
theorem ok_laws_eqCost : FunOk Try.prog c_laws_eqCost := funOk (E := []) (envOk_nil) mixd Try.func16 (pf := pf_laws_eqCost) (by kernel_rfl) fun ts K h => by
  obtain ⟨t0, t1, e0, h⟩ := as2_out h
  subst e0
  obtain ⟨a, e1, hq⟩ := arG_out rd_cost h
  clear h
  subst e1
  have h := hq
  clear hq
  obtain ⟨b, e1, hq⟩ := arG_out rd_cost h
  clear h
  subst e1
  have h := hq
  clear hq
  exact ⟨_, _, h, Nat.le_of_ble_eq_true (show Nat.ble 2 Try.f16.ntmps = true by kernel_rfl), _, run_laws_eqCost a b⟩
end Go.Pi
