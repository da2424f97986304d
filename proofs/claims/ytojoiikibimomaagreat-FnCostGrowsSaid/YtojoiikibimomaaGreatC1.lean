/- Contracts of functions, each out of its run by PI. No conditions. -/
import Derived.Test.YtojoiikibimomaaGreatPiFn
import Derived.KernelRfl
import Derived.ProofKit
import Derived.Test.YtojoiikibimomaaGreatRows
namespace Go.Pi
open Go.Proofs
set_option linter.unusedVariables false
set_option linter.unusedSimpArgs false
set_option maxRecDepth 100000
attribute [local irreducible] iterN
theorem mixd : Tryz.prog.follows .mixedOrders = true := by kernel_rfl
theorem etaKey (x : Key) : (⟨x.base, x.top, x.perms, x.sealed⟩ : Key) = x := rfl
theorem etaWord (x : Word) : (⟨x.n, x.is, x.key⟩ : Word) = x := rfl
theorem etaInst (x : Inst) : (⟨x.op, x.r, x.a, x.b, x.n⟩ : Inst) = x := rfl
theorem etaEff (x : Eff) : (⟨x.trap, x.r, x.val, x.next, x.addr, x.put, x.drop⟩ : Eff) = x := rfl
theorem etaEntry (x : Entry) : (⟨x.pc, x.x, x.done, x.e, x.guess⟩ : Entry) = x := rfl
theorem etaPick (x : Pick) : (⟨x.kind, x.n⟩ : Pick) = x := rfl
theorem etaSpan (x : Span) : (⟨x.at_, x.len⟩ : Span) = x := rfl
theorem etaPacked (x : Packed) : (⟨x.e, x.b, x.l⟩ : Packed) = x := rfl
theorem etaCost (x : Cost) : (⟨x.pulled, x.done, x.kept, x.back, x.swept⟩ : Cost) = x := rfl
theorem keyEq (a b : Key) : (a.base == b.base && (a.top == b.top && (a.perms == b.perms && a.sealed == b.sealed))) = decide (a = b) := by
  obtain ⟨a1, a2, a3, a4⟩ := a
  obtain ⟨b1, b2, b3, b4⟩ := b
  rw [Bool.eq_iff_iff]; simp
theorem keyEq0 (a : Key) : (a.base == 0 && (a.top == 0 && (a.perms == 0 && a.sealed == 0))) = decide (a = ⟨0, 0, 0, 0⟩) := keyEq a ⟨0, 0, 0, 0⟩
theorem beqI (a b : Int) : (a == b) = decide (a = b) := rfl

def costAdd (a b : Cost) : Cost := ⟨IntKind.i64.wrap (a.pulled + b.pulled), IntKind.i64.wrap (a.done + b.done), IntKind.i64.wrap (a.kept + b.kept), IntKind.i64.wrap (a.back + b.back), IntKind.i64.wrap (a.swept + b.swept)⟩

def pf_spec_CostAdd : PF := ⟨[.c 4 true 5], .seq (.reg [.s (.box 2 (.t 0)), .s (.box 3 (.t 1)), .s (.alloc 4 [.int .i64 0, .int .i64 0, .int .i64 0, .int .i64 0, .int .i64 0])]) (.seq (.reg [.s (.fa 5 (.t 2) 0), .s (.load 6 false 1 (.t 5)), .s (.fa 7 (.t 3) 0), .s (.load 8 false 1 (.t 7)), .s (.bin 9 .add (.t 6) (.t 8)), .s (.fa 10 (.t 2) 1), .s (.load 11 false 1 (.t 10)), .s (.fa 12 (.t 3) 1), .s (.load 13 false 1 (.t 12)), .s (.bin 14 .add (.t 11) (.t 13)), .s (.fa 15 (.t 2) 2), .s (.load 16 false 1 (.t 15)), .s (.fa 17 (.t 3) 2), .s (.load 18 false 1 (.t 17)), .s (.bin 19 .add (.t 16) (.t 18)), .s (.fa 20 (.t 2) 3), .s (.load 21 false 1 (.t 20)), .s (.fa 22 (.t 3) 3), .s (.load 23 false 1 (.t 22)), .s (.bin 24 .add (.t 21) (.t 23)), .s (.fa 25 (.t 2) 4), .s (.load 26 false 1 (.t 25)), .s (.fa 27 (.t 3) 4), .s (.load 28 false 1 (.t 27)), .s (.bin 29 .add (.t 26) (.t 28)), .s (.build 30 [.int .i64 0, .int .i64 0, .int .i64 0, .int .i64 0, .int .i64 0] [(0, 1, (.t 9)), (1, 1, (.t 14)), (2, 1, (.t 19)), (3, 1, (.t 24)), (4, 1, (.t 29))]), .s (.store 5 (.t 4) (.t 30))]) (.ret))⟩
def c_spec_CostAdd : Fun := ⟨87, [], fun ts K => as2 ts fun t0 t1 => arG pCostT t0 fun a => arG pCostT t1 fun b => K (tG ((costAdd a b).tc [])) []⟩
theorem run_spec_CostAdd (a : Cost) (b : Cost) : runK [] (0) [] pf_spec_CostAdd [tG (a.tc []), tG (b.tc [])] fun r o => r = tG ((costAdd a b).tc []) ∧ o = [] := by
  conv => whnf
  repeat' (first
    | exact rfl
    | exact trivial
    | (refine sel_i (fun h => ?_) (fun h => ?_) <;> conv => whnf)
    | (refine chk_c ?_ ?_ <;> conv => whnf)
    | (refine And.intro ?_ ?_ <;> conv => whnf))
theorem ok_spec_CostAdd : FunOk Tryz.prog c_spec_CostAdd := funOk (E := []) (envOk_nil) mixd Tryz.func87 (pf := pf_spec_CostAdd) (by kernel_rfl) fun ts K h => by
  obtain ⟨t0, t1, e0, h⟩ := as2_out h
  subst e0
  obtain ⟨a, e1, hq⟩ := arG_out rd_cost h
  clear h
  subst e1
  have h := hq
  clear hq
  obtain ⟨b, e1, hq⟩ := arG_out rd_cost h
  clear h
  subst e1
  have h := hq
  clear hq
  exact ⟨_, _, h, Nat.le_of_ble_eq_true (show Nat.ble 2 Tryz.f87.ntmps = true by kernel_rfl), _, run_spec_CostAdd a b⟩

def pf_laws_eqCost : PF := ⟨[.t 4], .seq (.reg [.s (.box 2 (.t 0)), .s (.box 3 (.t 1)), .s (.mv 4 (.k (.v (.c .ff))))]) (.seq (.seq (.reg [.s (.fa 5 (.t 2) 0), .s (.load 6 false 1 (.t 5)), .s (.fa 7 (.t 3) 0), .s (.load 8 false 1 (.t 7)), .s (.bin 9 .neq (.t 6) (.t 8))]) (.cond (.t 9) (.seq (.reg [.s (.mv 4 (.k (.v (.c .ff))))]) (.ret)) (.skip))) (.seq (.seq (.reg [.s (.fa 10 (.t 2) 1), .s (.load 11 false 1 (.t 10)), .s (.fa 12 (.t 3) 1), .s (.load 13 false 1 (.t 12)), .s (.bin 14 .neq (.t 11) (.t 13))]) (.cond (.t 14) (.seq (.reg [.s (.mv 4 (.k (.v (.c .ff))))]) (.ret)) (.skip))) (.seq (.seq (.reg [.s (.fa 15 (.t 2) 2), .s (.load 16 false 1 (.t 15)), .s (.fa 17 (.t 3) 2), .s (.load 18 false 1 (.t 17)), .s (.bin 19 .neq (.t 16) (.t 18))]) (.cond (.t 19) (.seq (.reg [.s (.mv 4 (.k (.v (.c .ff))))]) (.ret)) (.skip))) (.seq (.seq (.reg [.s (.fa 20 (.t 2) 3), .s (.load 21 false 1 (.t 20)), .s (.fa 22 (.t 3) 3), .s (.load 23 false 1 (.t 22)), .s (.bin 24 .neq (.t 21) (.t 23))]) (.cond (.t 24) (.seq (.reg [.s (.mv 4 (.k (.v (.c .ff))))]) (.ret)) (.skip))) (.seq (.seq (.reg [.s (.fa 25 (.t 2) 4), .s (.load 26 false 1 (.t 25)), .s (.fa 27 (.t 3) 4), .s (.load 28 false 1 (.t 27)), .s (.bin 29 .neq (.t 26) (.t 28))]) (.cond (.t 29) (.seq (.reg [.s (.mv 4 (.k (.v (.c .ff))))]) (.ret)) (.skip))) (.seq (.reg [.s (.mv 4 (.k (.v (.c .tt))))]) (.ret)))))))⟩
def c_laws_eqCost : Fun := ⟨36, [], fun ts K => as2 ts fun t0 t1 => arG pCostT t0 fun a => arG pCostT t1 fun b => K (tB (decide (a = b))) []⟩
theorem run_laws_eqCost (a : Cost) (b : Cost) : runK [] (0) [] pf_laws_eqCost [tG (a.tc []), tG (b.tc [])] fun r o => r = tB (decide (a = b)) ∧ o = [] := by
  obtain ⟨a1, a2, a3, a4, a5⟩ := a
  obtain ⟨b1, b2, b3, b4, b5⟩ := b
  conv => whnf
  repeat' (refine sel_i (fun h => ?_) (fun h => ?_) <;> conv => whnf)
  all_goals (refine ⟨?_, rfl⟩; simp_all)
theorem ok_laws_eqCost : FunOk Tryz.prog c_laws_eqCost := funOk (E := []) (envOk_nil) mixd Tryz.func36 (pf := pf_laws_eqCost) (by kernel_rfl) fun ts K h => by
  obtain ⟨t0, t1, e0, h⟩ := as2_out h
  subst e0
  obtain ⟨a, e1, hq⟩ := arG_out rd_cost h
  clear h
  subst e1
  have h := hq
  clear hq
  obtain ⟨b, e1, hq⟩ := arG_out rd_cost h
  clear h
  subst e1
  have h := hq
  clear hq
  exact ⟨_, _, h, Nat.le_of_ble_eq_true (show Nat.ble 2 Tryz.f36.ntmps = true by kernel_rfl), _, run_laws_eqCost a b⟩

def inR (n lo hi : Int) : Bool := decide (lo ≤ n) && decide (n ≤ hi)

def pf_impl_in : PF := ⟨[.t 6], .seq (.reg [.s (.mv 6 (.k (.v (.c .ff))))]) (.seq (.reg [.s (.mv 7 (.t 0)), .s (.mv 8 (.t 1)), .s (.bin 9 .geq (.t 7) (.t 8)), .s (.mv 10 (.t 9)), .g 10 true (some 11) (.mv 11 (.t 0)), .g 10 true (some 12) (.mv 12 (.t 2)), .g 10 true (some 13) (.bin 13 .leq (.t 11) (.t 12)), .s (.pick 14 (.t 10) (.t 13) (.k (.v (.c .ff)))), .s (.mv 6 (.t 14))]) (.ret))⟩
def c_impl_in : Fun := ⟨60, [], fun ts K => as3 ts fun t0 t1 t2 => arC (pI .i64) t0 fun n => arC (pI .i64) t1 fun lo => arC (pI .i64) t2 fun hi => K (tB (inR n lo hi)) []⟩
theorem run_impl_in (n : Int) (lo : Int) (hi : Int) : runK [] (0) [] pf_impl_in [tI .i64 n, tI .i64 lo, tI .i64 hi] fun r o => r = tB (inR n lo hi) ∧ o = [] := by
  conv => whnf
  refine sel_i (fun h => ?_) (fun h => ?_) <;> conv => whnf
  all_goals (refine ⟨?_, rfl⟩; simp at h; simp [inR] <;> omega)
theorem ok_impl_in : FunOk Tryz.prog c_impl_in := funOk (E := []) (envOk_nil) mixd Tryz.func60 (pf := pf_impl_in) (by kernel_rfl) fun ts K h => by
  obtain ⟨t0, t1, t2, e0, h⟩ := as3_out h
  subst e0
  obtain ⟨n, e1, hq⟩ := arC_out (rd_int .i64) h
  clear h
  subst e1
  have h := hq
  clear hq
  obtain ⟨lo, e1, hq⟩ := arC_out (rd_int .i64) h
  clear h
  subst e1
  have h := hq
  clear hq
  obtain ⟨hi, e1, hq⟩ := arC_out (rd_int .i64) h
  clear h
  subst e1
  have h := hq
  clear hq
  exact ⟨_, _, h, Nat.le_of_ble_eq_true (show Nat.ble 3 Tryz.f60.ntmps = true by kernel_rfl), _, run_impl_in n lo hi⟩

def pf_spec_l1In : PF := ⟨[.t 6], .seq (.reg [.s (.mv 6 (.k (.v (.c .ff))))]) (.seq (.reg [.s (.mv 7 (.t 0)), .s (.mv 8 (.t 1)), .s (.bin 9 .geq (.t 7) (.t 8)), .s (.mv 10 (.t 9)), .g 10 true (some 11) (.mv 11 (.t 0)), .g 10 true (some 12) (.mv 12 (.t 2)), .g 10 true (some 13) (.bin 13 .leq (.t 11) (.t 12)), .s (.pick 14 (.t 10) (.t 13) (.k (.v (.c .ff)))), .s (.mv 6 (.t 14))]) (.ret))⟩
def c_spec_l1In : Fun := ⟨77, [], fun ts K => as3 ts fun t0 t1 t2 => arC (pI .i64) t0 fun n => arC (pI .i64) t1 fun lo => arC (pI .i64) t2 fun hi => K (tB (inR n lo hi)) []⟩
theorem run_spec_l1In (n : Int) (lo : Int) (hi : Int) : runK [] (0) [] pf_spec_l1In [tI .i64 n, tI .i64 lo, tI .i64 hi] fun r o => r = tB (inR n lo hi) ∧ o = [] := by
  conv => whnf
  refine sel_i (fun h => ?_) (fun h => ?_) <;> conv => whnf
  all_goals (refine ⟨?_, rfl⟩; simp at h; simp [inR] <;> omega)
theorem ok_spec_l1In : FunOk Tryz.prog c_spec_l1In := funOk (E := []) (envOk_nil) mixd Tryz.func77 (pf := pf_spec_l1In) (by kernel_rfl) fun ts K h => by
  obtain ⟨t0, t1, t2, e0, h⟩ := as3_out h
  subst e0
  obtain ⟨n, e1, hq⟩ := arC_out (rd_int .i64) h
  clear h
  subst e1
  have h := hq
  clear hq
  obtain ⟨lo, e1, hq⟩ := arC_out (rd_int .i64) h
  clear h
  subst e1
  have h := hq
  clear hq
  obtain ⟨hi, e1, hq⟩ := arC_out (rd_int .i64) h
  clear h
  subst e1
  have h := hq
  clear hq
  exact ⟨_, _, h, Nat.le_of_ble_eq_true (show Nat.ble 3 Tryz.f77.ntmps = true by kernel_rfl), _, run_spec_l1In n lo hi⟩

def pf_laws_eqIns : PF := ⟨[.t 4], .seq (.reg [.s (.box 2 (.t 0)), .s (.box 3 (.t 1)), .s (.mv 4 (.k (.v (.c .ff))))]) (.seq (.seq (.reg [.s (.fa 5 (.t 2) 0), .s (.load 6 false 1 (.t 5)), .s (.fa 7 (.t 3) 0), .s (.load 8 false 1 (.t 7)), .s (.bin 9 .neq (.t 6) (.t 8))]) (.cond (.t 9) (.seq (.reg [.s (.mv 4 (.k (.v (.c .ff))))]) (.ret)) (.skip))) (.seq (.seq (.reg [.s (.fa 10 (.t 2) 1), .s (.load 11 false 1 (.t 10)), .s (.fa 12 (.t 3) 1), .s (.load 13 false 1 (.t 12)), .s (.bin 14 .neq (.t 11) (.t 13))]) (.cond (.t 14) (.seq (.reg [.s (.mv 4 (.k (.v (.c .ff))))]) (.ret)) (.skip))) (.seq (.seq (.reg [.s (.fa 15 (.t 2) 2), .s (.load 16 false 1 (.t 15)), .s (.fa 17 (.t 3) 2), .s (.load 18 false 1 (.t 17)), .s (.bin 19 .neq (.t 16) (.t 18))]) (.cond (.t 19) (.seq (.reg [.s (.mv 4 (.k (.v (.c .ff))))]) (.ret)) (.skip))) (.seq (.seq (.reg [.s (.fa 20 (.t 2) 3), .s (.load 21 false 1 (.t 20)), .s (.fa 22 (.t 3) 3), .s (.load 23 false 1 (.t 22)), .s (.bin 24 .neq (.t 21) (.t 23))]) (.cond (.t 24) (.seq (.reg [.s (.mv 4 (.k (.v (.c .ff))))]) (.ret)) (.skip))) (.seq (.seq (.reg [.s (.fa 25 (.t 2) 4), .s (.load 26 false 1 (.t 25)), .s (.fa 27 (.t 3) 4), .s (.load 28 false 1 (.t 27)), .s (.bin 29 .neq (.t 26) (.t 28))]) (.cond (.t 29) (.seq (.reg [.s (.mv 4 (.k (.v (.c .ff))))]) (.ret)) (.skip))) (.seq (.reg [.s (.mv 4 (.k (.v (.c .tt))))]) (.ret)))))))⟩
def c_laws_eqIns : Fun := ⟨94, [], fun ts K => as2 ts fun t0 t1 => arG pInstT t0 fun a => arG pInstT t1 fun b => K (tB (decide (a = b))) []⟩
theorem run_laws_eqIns (a : Inst) (b : Inst) : runK [] (0) [] pf_laws_eqIns [tG (a.tc []), tG (b.tc [])] fun r o => r = tB (decide (a = b)) ∧ o = [] := by
  obtain ⟨a1, a2, a3, a4, a5⟩ := a
  obtain ⟨b1, b2, b3, b4, b5⟩ := b
  conv => whnf
  repeat' (refine sel_i (fun h => ?_) (fun h => ?_) <;> conv => whnf)
  all_goals (refine ⟨?_, rfl⟩; simp_all)
theorem ok_laws_eqIns : FunOk Tryz.prog c_laws_eqIns := funOk (E := []) (envOk_nil) mixd Tryz.func94 (pf := pf_laws_eqIns) (by kernel_rfl) fun ts K h => by
  obtain ⟨t0, t1, e0, h⟩ := as2_out h
  subst e0
  obtain ⟨a, e1, hq⟩ := arG_out rd_inst h
  clear h
  subst e1
  have h := hq
  clear hq
  obtain ⟨b, e1, hq⟩ := arG_out rd_inst h
  clear h
  subst e1
  have h := hq
  clear hq
  exact ⟨_, _, h, Nat.le_of_ble_eq_true (show Nat.ble 2 Tryz.f94.ntmps = true by kernel_rfl), _, run_laws_eqIns a b⟩

theorem set_mid {α : Type} {m a : List α} {i : Nat} {x : α} (h : m.length = a.length) (hi : i < a.length) (hx : m[i]? = some x) : (m.take i ++ a.drop i).set i x = m.take (i + 1) ++ a.drop (i + 1) := by
  rw [List.set_append_right _ _ (by simp; omega)]
  have hm : min i m.length = i := by omega
  simp only [List.length_take, hm, Nat.sub_self]
  rw [List.drop_eq_getElem_cons hi, List.set_cons_zero, List.take_add_one, hx]
  simp
def elIns (c : Int) : Inst := ⟨c, c + 1, c + 1 + 1, c + 1 + 1 + 1, c + 1 + 1 + 1 + 1⟩
def mkInsS (n : Nat) (k : Int) : List Inst := (List.range n).map (fun j : Nat => elIns (k + 5 * j))
theorem mkInsS_length (n : Nat) (k : Int) : (mkInsS n k).length = n := by simp [mkInsS]

def lb_laws_eqInsS_0 : PC := .seq (.seq (.reg [.s (.mv 11 (.t 5)), .s (.mv 12 (.t 0)), .s (.len 13 false (.t 12)), .s (.bin 14 .lss (.t 11) (.t 13))]) (.cond (.t 14) (.skip) (.exit 0))) (.seq (.blk 1 (.seq (.rgd [] [.s (.mv 17 (.t 0)), .s (.mv 18 (.t 5)), .s (.ia 19 .inst (.t 17) (.t 18)), .s (.load 20 true 5 (.t 19)), .s (.mv 21 (.t 1)), .s (.mv 22 (.t 5)), .s (.ia 23 .inst (.t 21) (.t 22)), .s (.load 24 true 5 (.t 23)), .s (.call (some 25) 94 [(.t 20), (.t 24)]), .s (.bnot 26 (.t 25))] (.tk 0 (.tk 1 (.tk 2 (.tk 3 (.tk 4 (.tk 5 (.tk 6 (.tk 7 (.one 8 true (.tk 9 (.done none)))))))))))) (.cond (.t 26) (.seq (.reg [.s (.mv 4 (.k (.v (.c .ff))))]) (.ret)) (.skip)))) (.reg [.s (.mv 15 (.t 5)), .s (.bin 16 .add (.t 15) (.k (.v (.c (.int .i64 1))))), .s (.mv 5 (.t 16))]))
def pf_laws_eqInsS : PF := ⟨[.t 4], .seq (.reg [.s (.mv 4 (.k (.v (.c .ff))))]) (.seq (.seq (.reg [.s (.mv 6 (.t 0)), .s (.len 7 false (.t 6)), .s (.mv 8 (.t 1)), .s (.len 9 false (.t 8)), .s (.bin 10 .neq (.t 7) (.t 9))]) (.cond (.t 10) (.seq (.reg [.s (.mv 4 (.k (.v (.c .ff))))]) (.ret)) (.skip))) (.seq (.seq (.reg [.s (.mv 5 (.k (.v (.c (.int .i64 0)))))]) (.blk 0 (.loop [0, 1, 5] lb_laws_eqInsS_0))) (.seq (.reg [.s (.mv 4 (.k (.v (.c .tt))))]) (.ret))))⟩
def c_laws_eqInsS : Fun := ⟨37, [], fun ts K => as2 ts fun t0 t1 => arC (pL .inst) t0 fun a => arC (pL .inst) t1 fun b => chk (a.length ≤ 2147483647) (K (tB (decide (a = b))) [])⟩
theorem run_laws_eqInsS (a : List (FT.Ty .inst)) (b : List (FT.Ty .inst)) (hpre : a.length ≤ 2147483647) : runK [c_laws_eqIns] (a.length + 1) [] pf_laws_eqInsS [tL false .inst a, tL false .inst b] fun r o => r = tB (decide (a = b)) ∧ o = [] := by
  conv => whnf
  refine sel_i (fun h => ?_) (fun h => ?_)
  · conv => whnf
    refine ⟨?_, rfl⟩
    simp at h
    simp
    intro e; subst e; simp at h
  · conv => whnf
    refine loop (α := Nat) (fun i => ⟨[(0, .v (.c (.sl false .inst 0))), (1, .v (.c (.sl false .inst 1))), (5, .v (.c (.int .i64 (i : Int))))], [(1, some (.flat false .inst none b)), (0, some (.flat false .inst none a))], nums.tail.tail, [], false, []⟩)
      (fun i => i ≤ a.length ∧ a.take i = b.take i) (fun i => a.length - i) (fun i R hI hR => ?_) 0 _ ⟨by simp, by simp⟩ (by omega)
    conv => whnf
    repeat' (first | (refine sel_i (fun h2 => ?_) (fun h2 => ?_) <;> conv => whnf) | (refine chk_c ?_ ?_ <;> conv => whnf))
    all_goals (have hl : a.length = b.length := by simp at h; omega)
    · exact ⟨by simp at h2; omega⟩
    · exact ⟨by simp at h2; omega⟩
    · exact ⟨by simp at h2; omega⟩
    · exact ⟨by simp at h2; omega⟩
    · refine ⟨?_, rfl⟩
      have hne : a ≠ b := fun e => by subst e; simp at h2
      simp [hne]
    · rename_i h3
      have hlt : i < a.length := by simpa using h3
      rw [wrap_id (n := (i : Int) + 1) (by omega) (by omega)]
      exact hR (i + 1) ⟨by omega, take_step (z := FT.zero .inst) hI.2 hlt (by omega) (nd_t h2)⟩ (by omega)
    · refine ⟨?_, rfl⟩
      have hge : a.length ≤ i := by simpa using h2
      have : a = b := take_all hI.2 hge (by omega)
      simp [this]
theorem ok_laws_eqInsS : FunOk Tryz.prog c_laws_eqInsS := funOk (E := [c_laws_eqIns]) (envOk_cons ok_laws_eqIns (envOk_nil)) mixd Tryz.func37 (pf := pf_laws_eqInsS) (by kernel_rfl) fun ts K h => by
  obtain ⟨t0, t1, e0, h⟩ := as2_out h
  subst e0
  obtain ⟨a, e1, hq⟩ := arC_out (rd_l .inst) h
  clear h
  subst e1
  have h := hq
  clear hq
  obtain ⟨b, e1, hq⟩ := arC_out (rd_l .inst) h
  clear h
  subst e1
  have h := hq
  clear hq
  obtain ⟨hpre, h⟩ := chk_o h
  exact ⟨_, _, h, Nat.le_of_ble_eq_true (show Nat.ble 2 Tryz.f37.ntmps = true by kernel_rfl), _, run_laws_eqInsS a b hpre⟩


def pf_laws_eqKey : PF := ⟨[.t 4], .seq (.reg [.s (.box 2 (.t 0)), .s (.box 3 (.t 1)), .s (.mv 4 (.k (.v (.c .ff))))]) (.seq (.seq (.reg [.s (.fa 5 (.t 2) 0), .s (.load 6 false 1 (.t 5)), .s (.fa 7 (.t 3) 0), .s (.load 8 false 1 (.t 7)), .s (.bin 9 .neq (.t 6) (.t 8))]) (.cond (.t 9) (.seq (.reg [.s (.mv 4 (.k (.v (.c .ff))))]) (.ret)) (.skip))) (.seq (.seq (.reg [.s (.fa 10 (.t 2) 1), .s (.load 11 false 1 (.t 10)), .s (.fa 12 (.t 3) 1), .s (.load 13 false 1 (.t 12)), .s (.bin 14 .neq (.t 11) (.t 13))]) (.cond (.t 14) (.seq (.reg [.s (.mv 4 (.k (.v (.c .ff))))]) (.ret)) (.skip))) (.seq (.seq (.reg [.s (.fa 15 (.t 2) 2), .s (.load 16 false 1 (.t 15)), .s (.fa 17 (.t 3) 2), .s (.load 18 false 1 (.t 17)), .s (.bin 19 .neq (.t 16) (.t 18))]) (.cond (.t 19) (.seq (.reg [.s (.mv 4 (.k (.v (.c .ff))))]) (.ret)) (.skip))) (.seq (.seq (.reg [.s (.fa 20 (.t 2) 3), .s (.load 21 false 1 (.t 20)), .s (.fa 22 (.t 3) 3), .s (.load 23 false 1 (.t 22)), .s (.bin 24 .neq (.t 21) (.t 23))]) (.cond (.t 24) (.seq (.reg [.s (.mv 4 (.k (.v (.c .ff))))]) (.ret)) (.skip))) (.seq (.reg [.s (.mv 4 (.k (.v (.c .tt))))]) (.ret))))))⟩
def c_laws_eqKey : Fun := ⟨155, [], fun ts K => as2 ts fun t0 t1 => arG pKeyT t0 fun a => arG pKeyT t1 fun b => K (tB (decide (a = b))) []⟩
theorem run_laws_eqKey (a : Key) (b : Key) : runK [] (0) [] pf_laws_eqKey [tG (a.tc []), tG (b.tc [])] fun r o => r = tB (decide (a = b)) ∧ o = [] := by
  obtain ⟨a1, a2, a3, a4⟩ := a
  obtain ⟨b1, b2, b3, b4⟩ := b
  conv => whnf
  repeat' (refine sel_i (fun h => ?_) (fun h => ?_) <;> conv => whnf)
  all_goals (refine ⟨?_, rfl⟩; simp_all)
theorem ok_laws_eqKey : FunOk Tryz.prog c_laws_eqKey := funOk (E := []) (envOk_nil) mixd Tryz.func155 (pf := pf_laws_eqKey) (by kernel_rfl) fun ts K h => by
  obtain ⟨t0, t1, e0, h⟩ := as2_out h
  subst e0
  obtain ⟨a, e1, hq⟩ := arG_out rd_key h
  clear h
  subst e1
  have h := hq
  clear hq
  obtain ⟨b, e1, hq⟩ := arG_out rd_key h
  clear h
  subst e1
  have h := hq
  clear hq
  exact ⟨_, _, h, Nat.le_of_ble_eq_true (show Nat.ble 2 Tryz.f155.ntmps = true by kernel_rfl), _, run_laws_eqKey a b⟩

def pf_laws_eqWord : PF := ⟨[.t 4], .seq (.reg [.s (.box 2 (.t 0)), .s (.box 3 (.t 1)), .s (.mv 4 (.k (.v (.c .ff))))]) (.seq (.seq (.reg [.s (.fa 5 (.t 2) 0), .s (.load 6 false 1 (.t 5)), .s (.fa 7 (.t 3) 0), .s (.load 8 false 1 (.t 7)), .s (.bin 9 .neq (.t 6) (.t 8))]) (.cond (.t 9) (.seq (.reg [.s (.mv 4 (.k (.v (.c .ff))))]) (.ret)) (.skip))) (.seq (.seq (.reg [.s (.fa 10 (.t 2) 1), .s (.load 11 false 1 (.t 10)), .s (.fa 12 (.t 3) 1), .s (.load 13 false 1 (.t 12)), .s (.eqs 14 false [.b] true (.t 11) (.t 13))]) (.cond (.t 14) (.seq (.reg [.s (.mv 4 (.k (.v (.c .ff))))]) (.ret)) (.skip))) (.seq (.seq (.reg [.s (.fa 15 (.t 2) 2), .s (.load 16 true 4 (.t 15)), .s (.fa 17 (.t 3) 2), .s (.load 18 true 4 (.t 17)), .s (.call (some 19) 155 [(.t 16), (.t 18)]), .s (.bnot 20 (.t 19))]) (.cond (.t 20) (.seq (.reg [.s (.mv 4 (.k (.v (.c .ff))))]) (.ret)) (.skip))) (.seq (.reg [.s (.mv 4 (.k (.v (.c .tt))))]) (.ret)))))⟩
def c_laws_eqWord : Fun := ⟨96, [], fun ts K => as2 ts fun t0 t1 => arG pWordT t0 fun a => arG pWordT t1 fun b => K (tB (decide (a = b))) []⟩
theorem run_laws_eqWord (a : Word) (b : Word) : runK [c_laws_eqKey] (0) [] pf_laws_eqWord [tG (a.tc []), tG (b.tc [])] fun r o => r = tB (decide (a = b)) ∧ o = [] := by
  obtain ⟨a1, a2, a3⟩ := a
  obtain ⟨b1, b2, b3⟩ := b
  conv => whnf
  refine sel_i (fun h => ?_) (fun h => ?_) <;> conv => whnf
  · refine ⟨?_, rfl⟩; simp at h; simp [h]
  refine sel_i (fun h2 => ?_) (fun h2 => ?_) <;> conv => whnf
  · refine ⟨?_, rfl⟩; simp at h2; simp [h2]
  refine sel_i (fun h3 => ?_) (fun h3 => ?_) <;> conv => whnf
  · have h3 : ¬ a3 = b3 := nd_f h3
    refine ⟨?_, rfl⟩; simp [h3]
  · have h3 : a3 = b3 := nd_t h3
    refine ⟨?_, rfl⟩; simp at h h2; simp [h, h2, h3]
theorem ok_laws_eqWord : FunOk Tryz.prog c_laws_eqWord := funOk (E := [c_laws_eqKey]) (envOk_cons ok_laws_eqKey (envOk_nil)) mixd Tryz.func96 (pf := pf_laws_eqWord) (by kernel_rfl) fun ts K h => by
  obtain ⟨t0, t1, e0, h⟩ := as2_out h
  subst e0
  obtain ⟨a, e1, hq⟩ := arG_out rd_word h
  clear h
  subst e1
  have h := hq
  clear hq
  obtain ⟨b, e1, hq⟩ := arG_out rd_word h
  clear h
  subst e1
  have h := hq
  clear hq
  exact ⟨_, _, h, Nat.le_of_ble_eq_true (show Nat.ble 2 Tryz.f96.ntmps = true by kernel_rfl), _, run_laws_eqWord a b⟩

def elWord (c : Int) : Word := ⟨c, (Int.tmod (c + 1) 3 == 0), ⟨c + 1 + 1, c + 1 + 1 + 1, c + 1 + 1 + 1 + 1, c + 1 + 1 + 1 + 1 + 1⟩⟩
def mkWordS (n : Nat) (k : Int) : List Word := (List.range n).map (fun j : Nat => elWord (k + 6 * j))
theorem mkWordS_length (n : Nat) (k : Int) : (mkWordS n k).length = n := by simp [mkWordS]

def lb_laws_eqWordS_0 : PC := .seq (.seq (.reg [.s (.mv 11 (.t 5)), .s (.mv 12 (.t 0)), .s (.len 13 false (.t 12)), .s (.bin 14 .lss (.t 11) (.t 13))]) (.cond (.t 14) (.skip) (.exit 0))) (.seq (.blk 1 (.seq (.rgd [] [.s (.mv 17 (.t 0)), .s (.mv 18 (.t 5)), .s (.ia 19 .word (.t 17) (.t 18)), .s (.load 20 true 6 (.t 19)), .s (.mv 21 (.t 1)), .s (.mv 22 (.t 5)), .s (.ia 23 .word (.t 21) (.t 22)), .s (.load 24 true 6 (.t 23)), .s (.call (some 25) 96 [(.t 20), (.t 24)]), .s (.bnot 26 (.t 25))] (.tk 0 (.tk 1 (.tk 2 (.tk 3 (.tk 4 (.tk 5 (.tk 6 (.tk 7 (.one 8 true (.tk 9 (.done none)))))))))))) (.cond (.t 26) (.seq (.reg [.s (.mv 4 (.k (.v (.c .ff))))]) (.ret)) (.skip)))) (.reg [.s (.mv 15 (.t 5)), .s (.bin 16 .add (.t 15) (.k (.v (.c (.int .i64 1))))), .s (.mv 5 (.t 16))]))
def pf_laws_eqWordS : PF := ⟨[.t 4], .seq (.reg [.s (.mv 4 (.k (.v (.c .ff))))]) (.seq (.seq (.reg [.s (.mv 6 (.t 0)), .s (.len 7 false (.t 6)), .s (.mv 8 (.t 1)), .s (.len 9 false (.t 8)), .s (.bin 10 .neq (.t 7) (.t 9))]) (.cond (.t 10) (.seq (.reg [.s (.mv 4 (.k (.v (.c .ff))))]) (.ret)) (.skip))) (.seq (.seq (.reg [.s (.mv 5 (.k (.v (.c (.int .i64 0)))))]) (.blk 0 (.loop [0, 1, 5] lb_laws_eqWordS_0))) (.seq (.reg [.s (.mv 4 (.k (.v (.c .tt))))]) (.ret))))⟩
def c_laws_eqWordS : Fun := ⟨95, [], fun ts K => as2 ts fun t0 t1 => arC (pL .word) t0 fun a => arC (pL .word) t1 fun b => chk (a.length ≤ 2147483647) (K (tB (decide (a = b))) [])⟩
theorem run_laws_eqWordS (a : List (FT.Ty .word)) (b : List (FT.Ty .word)) (hpre : a.length ≤ 2147483647) : runK [c_laws_eqWord] (a.length + 1) [] pf_laws_eqWordS [tL false .word a, tL false .word b] fun r o => r = tB (decide (a = b)) ∧ o = [] := by
  conv => whnf
  refine sel_i (fun h => ?_) (fun h => ?_)
  · conv => whnf
    refine ⟨?_, rfl⟩
    simp at h
    simp
    intro e; subst e; simp at h
  · conv => whnf
    refine loop (α := Nat) (fun i => ⟨[(0, .v (.c (.sl false .word 0))), (1, .v (.c (.sl false .word 1))), (5, .v (.c (.int .i64 (i : Int))))], [(1, some (.flat false .word none b)), (0, some (.flat false .word none a))], nums.tail.tail, [], false, []⟩)
      (fun i => i ≤ a.length ∧ a.take i = b.take i) (fun i => a.length - i) (fun i R hI hR => ?_) 0 _ ⟨by simp, by simp⟩ (by omega)
    conv => whnf
    repeat' (first | (refine sel_i (fun h2 => ?_) (fun h2 => ?_) <;> conv => whnf) | (refine chk_c ?_ ?_ <;> conv => whnf))
    all_goals (have hl : a.length = b.length := by simp at h; omega)
    · exact ⟨by simp at h2; omega⟩
    · exact ⟨by simp at h2; omega⟩
    · exact ⟨by simp at h2; omega⟩
    · exact ⟨by simp at h2; omega⟩
    · refine ⟨?_, rfl⟩
      have hne : a ≠ b := fun e => by subst e; simp at h2
      simp [hne]
    · rename_i h3
      have hlt : i < a.length := by simpa using h3
      rw [wrap_id (n := (i : Int) + 1) (by omega) (by omega)]
      exact hR (i + 1) ⟨by omega, take_step (z := FT.zero .word) hI.2 hlt (by omega) (nd_t h2)⟩ (by omega)
    · refine ⟨?_, rfl⟩
      have hge : a.length ≤ i := by simpa using h2
      have : a = b := take_all hI.2 hge (by omega)
      simp [this]
theorem ok_laws_eqWordS : FunOk Tryz.prog c_laws_eqWordS := funOk (E := [c_laws_eqWord]) (envOk_cons ok_laws_eqWord (envOk_nil)) mixd Tryz.func95 (pf := pf_laws_eqWordS) (by kernel_rfl) fun ts K h => by
  obtain ⟨t0, t1, e0, h⟩ := as2_out h
  subst e0
  obtain ⟨a, e1, hq⟩ := arC_out (rd_l .word) h
  clear h
  subst e1
  have h := hq
  clear hq
  obtain ⟨b, e1, hq⟩ := arC_out (rd_l .word) h
  clear h
  subst e1
  have h := hq
  clear hq
  obtain ⟨hpre, h⟩ := chk_o h
  exact ⟨_, _, h, Nat.le_of_ble_eq_true (show Nat.ble 2 Tryz.f95.ntmps = true by kernel_rfl), _, run_laws_eqWordS a b hpre⟩

def elBool (c : Int) : Bool := (Int.tmod (c) 3 == 0)
def mkBoolS (n : Nat) (k : Int) : List Bool := (List.range n).map (fun j : Nat => elBool (k + 1 * j))
theorem mkBoolS_length (n : Nat) (k : Int) : (mkBoolS n k).length = n := by simp [mkBoolS]

def lb_laws_eqBoolS_0 : PC := .seq (.seq (.reg [.s (.mv 11 (.t 5)), .s (.mv 12 (.t 0)), .s (.len 13 false (.t 12)), .s (.bin 14 .lss (.t 11) (.t 13))]) (.cond (.t 14) (.skip) (.exit 0))) (.seq (.blk 1 (.seq (.rgd [] [.s (.mv 17 (.t 0)), .s (.mv 18 (.t 5)), .s (.ia 19 .bool (.t 17) (.t 18)), .s (.load 20 false 1 (.t 19)), .s (.mv 21 (.t 1)), .s (.mv 22 (.t 5)), .s (.ia 23 .bool (.t 21) (.t 22)), .s (.load 24 false 1 (.t 23)), .s (.eqs 25 false [.b] true (.t 20) (.t 24))] (.tk 0 (.tk 1 (.tk 2 (.tk 3 (.tk 4 (.tk 5 (.tk 6 (.tk 7 (.tk 8 (.done none))))))))))) (.cond (.t 25) (.seq (.reg [.s (.mv 4 (.k (.v (.c .ff))))]) (.ret)) (.skip)))) (.reg [.s (.mv 15 (.t 5)), .s (.bin 16 .add (.t 15) (.k (.v (.c (.int .i64 1))))), .s (.mv 5 (.t 16))]))
def pf_laws_eqBoolS : PF := ⟨[.t 4], .seq (.reg [.s (.mv 4 (.k (.v (.c .ff))))]) (.seq (.seq (.reg [.s (.mv 6 (.t 0)), .s (.len 7 false (.t 6)), .s (.mv 8 (.t 1)), .s (.len 9 false (.t 8)), .s (.bin 10 .neq (.t 7) (.t 9))]) (.cond (.t 10) (.seq (.reg [.s (.mv 4 (.k (.v (.c .ff))))]) (.ret)) (.skip))) (.seq (.seq (.reg [.s (.mv 5 (.k (.v (.c (.int .i64 0)))))]) (.blk 0 (.loop [0, 1, 5] lb_laws_eqBoolS_0))) (.seq (.reg [.s (.mv 4 (.k (.v (.c .tt))))]) (.ret))))⟩
def c_laws_eqBoolS : Fun := ⟨156, [], fun ts K => as2 ts fun t0 t1 => arC (pL .bool) t0 fun a => arC (pL .bool) t1 fun b => chk (a.length ≤ 2147483647) (K (tB (decide (a = b))) [])⟩
theorem run_laws_eqBoolS (a : List (FT.Ty .bool)) (b : List (FT.Ty .bool)) (hpre : a.length ≤ 2147483647) : runK [] (a.length + 1) [] pf_laws_eqBoolS [tL false .bool a, tL false .bool b] fun r o => r = tB (decide (a = b)) ∧ o = [] := by
  conv => whnf
  refine sel_i (fun h => ?_) (fun h => ?_)
  · conv => whnf
    refine ⟨?_, rfl⟩
    simp at h
    simp
    intro e; subst e; simp at h
  · conv => whnf
    refine loop (α := Nat) (fun i => ⟨[(0, .v (.c (.sl false .bool 0))), (1, .v (.c (.sl false .bool 1))), (5, .v (.c (.int .i64 (i : Int))))], [(1, some (.flat false .bool none b)), (0, some (.flat false .bool none a))], nums.tail.tail, [], false, []⟩)
      (fun i => i ≤ a.length ∧ a.take i = b.take i) (fun i => a.length - i) (fun i R hI hR => ?_) 0 _ ⟨by simp, by simp⟩ (by omega)
    conv => whnf
    repeat' (first | (refine sel_i (fun h2 => ?_) (fun h2 => ?_) <;> conv => whnf) | (refine chk_c ?_ ?_ <;> conv => whnf))
    all_goals (have hl : a.length = b.length := by simp at h; omega)
    · exact ⟨by simp at h2; omega⟩
    · exact ⟨by simp at h2; omega⟩
    · exact ⟨by simp at h2; omega⟩
    · exact ⟨by simp at h2; omega⟩
    · refine ⟨?_, rfl⟩
      have hne : a ≠ b := fun e => by subst e; simp at h2
      simp [hne]
    · rename_i h3
      have hlt : i < a.length := by simpa using h3
      rw [wrap_id (n := (i : Int) + 1) (by omega) (by omega)]
      exact hR (i + 1) ⟨by omega, take_step (z := FT.zero .bool) hI.2 hlt (by omega) (by simpa using h2)⟩ (by omega)
    · refine ⟨?_, rfl⟩
      have hge : a.length ≤ i := by simpa using h2
      have : a = b := take_all hI.2 hge (by omega)
      simp [this]
theorem ok_laws_eqBoolS : FunOk Tryz.prog c_laws_eqBoolS := funOk (E := []) (envOk_nil) mixd Tryz.func156 (pf := pf_laws_eqBoolS) (by kernel_rfl) fun ts K h => by
  obtain ⟨t0, t1, e0, h⟩ := as2_out h
  subst e0
  obtain ⟨a, e1, hq⟩ := arC_out (rd_l .bool) h
  clear h
  subst e1
  have h := hq
  clear hq
  obtain ⟨b, e1, hq⟩ := arC_out (rd_l .bool) h
  clear h
  subst e1
  have h := hq
  clear hq
  obtain ⟨hpre, h⟩ := chk_o h
  exact ⟨_, _, h, Nat.le_of_ble_eq_true (show Nat.ble 2 Tryz.f156.ntmps = true by kernel_rfl), _, run_laws_eqBoolS a b hpre⟩

def elSpan (c : Int) : Span := ⟨c, c + 1⟩
def mkSpanS (n : Nat) (k : Int) : List Span := (List.range n).map (fun j : Nat => elSpan (k + 2 * j))
theorem mkSpanS_length (n : Nat) (k : Int) : (mkSpanS n k).length = n := by simp [mkSpanS]

def elInt (c : Int) : Int := c
def mkIntS (n : Nat) (k : Int) : List Int := (List.range n).map (fun j : Nat => elInt (k + 1 * j))
theorem mkIntS_length (n : Nat) (k : Int) : (mkIntS n k).length = n := by simp [mkIntS]

def pf_laws_eqMemory : PF := ⟨[.t 4], .seq (.reg [.s (.box 2 (.t 0)), .s (.box 3 (.t 1)), .s (.mv 4 (.k (.v (.c .ff))))]) (.seq (.seq (.reg [.s (.fa 5 (.t 2) 0), .s (.load 6 false 1 (.t 5)), .s (.fa 7 (.t 3) 0), .s (.load 8 false 1 (.t 7)), .s (.call (some 9) 95 [(.t 6), (.t 8)]), .s (.bnot 10 (.t 9))]) (.cond (.t 10) (.seq (.reg [.s (.mv 4 (.k (.v (.c .ff))))]) (.ret)) (.skip))) (.seq (.seq (.reg [.s (.fa 11 (.t 2) 1), .s (.load 12 false 1 (.t 11)), .s (.fa 13 (.t 3) 1), .s (.load 14 false 1 (.t 13)), .s (.call (some 15) 156 [(.t 12), (.t 14)]), .s (.bnot 16 (.t 15))]) (.cond (.t 16) (.seq (.reg [.s (.mv 4 (.k (.v (.c .ff))))]) (.ret)) (.skip))) (.seq (.reg [.s (.mv 4 (.k (.v (.c .tt))))]) (.ret))))⟩
def c_laws_eqMemory : Fun := ⟨97, [], fun ts K => as2 ts fun t0 t1 => arG pMemT t0 fun a => arG pMemT t1 fun b => chk (a.words.length ≤ 2147483647 ∧ a.gone.length ≤ 2147483647) (K (tB (decide (a = b))) [])⟩
theorem run_laws_eqMemory (a : Mem) (b : Mem) (hpre : a.words.length ≤ 2147483647 ∧ a.gone.length ≤ 2147483647) : runK [c_laws_eqWordS, c_laws_eqBoolS] (0) [] pf_laws_eqMemory [tG (a.tc false []), tG (b.tc false [])] fun r o => r = tB (decide (a = b)) ∧ o = [] := by
  obtain ⟨a1, a2⟩ := a
  obtain ⟨b1, b2⟩ := b
  dsimp only at hpre
  conv => whnf
  refine chk_i hpre.1 ?_
  conv => whnf
  refine sel_i (fun h => ?_) (fun h => ?_) <;> conv => whnf
  · refine ⟨?_, rfl⟩; simp at h; simp [h]
  refine chk_i hpre.2 ?_
  conv => whnf
  refine sel_i (fun h2 => ?_) (fun h2 => ?_) <;> conv => whnf
  all_goals (refine ⟨?_, rfl⟩; simp at h h2; simp [h, h2])
theorem ok_laws_eqMemory : FunOk Tryz.prog c_laws_eqMemory := funOk (E := [c_laws_eqWordS, c_laws_eqBoolS]) (envOk_cons ok_laws_eqWordS (envOk_cons ok_laws_eqBoolS (envOk_nil))) mixd Tryz.func97 (pf := pf_laws_eqMemory) (by kernel_rfl) fun ts K h => by
  obtain ⟨t0, t1, e0, h⟩ := as2_out h
  subst e0
  obtain ⟨a, e1, hq⟩ := arG_out rd_mem h
  clear h
  subst e1
  have h := hq
  clear hq
  obtain ⟨b, e1, hq⟩ := arG_out rd_mem h
  clear h
  subst e1
  have h := hq
  clear hq
  obtain ⟨hpre, h⟩ := chk_o h
  exact ⟨_, _, h, Nat.le_of_ble_eq_true (show Nat.ble 2 Tryz.f97.ntmps = true by kernel_rfl), _, run_laws_eqMemory a b hpre⟩

def endMemory (m : Mem) (k : Int) : Int := k + 6 * m.words.length + 1 * m.gone.length
def markMemory (m : Mem) (k : Int) : Mem := { m with words := mkWordS m.words.length (k), gone := mkBoolS m.gone.length (k + 6 * m.words.length) }
def SzMemory (m : Mem) : Prop := m.words.length ≤ 2147483647 ∧ m.gone.length ≤ 2147483647
theorem mark_markMemory (m : Mem) (k : Int) : markMemory (markMemory m k) k = markMemory m k := by
  simp [SzMemory, endMemory, markMemory, mkWordS_length, mkBoolS_length]
theorem end_markMemory (m : Mem) (k : Int) : endMemory (markMemory m k) k = endMemory m k := by
  simp [SzMemory, endMemory, markMemory, mkWordS_length, mkBoolS_length]
theorem etaMemory (m : Mem) : (⟨m.words, m.gone⟩ : Mem) = m := rfl

def endHeap (m : Heap) (k : Int) : Int := endMemory m.mem (k) + 2 * m.live.length + 2 * m.waits.length
def markHeap (m : Heap) (k : Int) : Heap := { m with mem := markMemory m.mem (k), live := mkSpanS m.live.length (endMemory m.mem (k)), waits := mkSpanS m.waits.length (endMemory m.mem (k) + 2 * m.live.length) }
def SzHeap (m : Heap) : Prop := SzMemory m.mem ∧ m.live.length ≤ 2147483647 ∧ m.waits.length ≤ 2147483647
theorem mark_markHeap (m : Heap) (k : Int) : markHeap (markHeap m k) k = markHeap m k := by
  simp [SzHeap, endHeap, markHeap, SzMemory, endMemory, markMemory, mkSpanS_length, mkWordS_length, mkBoolS_length]
theorem end_markHeap (m : Heap) (k : Int) : endHeap (markHeap m k) k = endHeap m k := by
  simp [SzHeap, endHeap, markHeap, SzMemory, endMemory, markMemory, mkSpanS_length, mkWordS_length, mkBoolS_length]
theorem etaHeap (m : Heap) : (⟨m.mem, m.live, m.waits⟩ : Heap) = m := rfl

def memNew : Mem := ⟨List.replicate 24 ⟨0, false, ⟨0, 0, 0, 0⟩⟩, List.replicate 24 false⟩

def pf_spec_MemoryNew : PF := ⟨[.c 0 true 2], .seq (.reg [.s (.alloc 0 [.nils .word, .nils .bool])]) (.seq (.rgd [] [.s (.mkS 1 .word (.k (.v (.c (.int .i64 24))))), .s (.mkS 2 .bool (.k (.v (.c (.int .i64 24))))), .s (.build 3 [.nils .word, .nils .bool] [(0, 1, (.t 1)), (1, 1, (.t 2))]), .s (.store 2 (.t 0) (.t 3))] (.alt 0 false (.one 1 true (.tk 2 (.one 3 true (.done (some [0]))))) (.alt 1 false (.one 0 true (.tk 2 (.one 3 true (.done (some [0]))))) (.nil)))) (.ret))⟩
def c_spec_MemoryNew : Fun := ⟨138, [], fun ts K => as0 ts (K (tG (memNew.tc true [])) [])⟩
theorem run_spec_MemoryNew  : runK [] (0) [] pf_spec_MemoryNew [] fun r o => r = tG (memNew.tc true []) ∧ o = [] := by
  conv => whnf
  repeat' first | refine chk_c ?_ ?_ | refine And.intro ?_ ?_ <;> conv => whnf
  all_goals first
    | (refine ⟨?_⟩; omega)
    | exact ⟨rfl, rfl⟩
    | rfl
    | exact True.intro
theorem ok_spec_MemoryNew : FunOk Tryz.prog c_spec_MemoryNew := funOk (E := []) (envOk_nil) mixd Tryz.func138 (pf := pf_spec_MemoryNew) (by kernel_rfl) fun ts K h => by
  obtain ⟨e0, h⟩ := as0_out h
  subst e0
  exact ⟨_, _, h, Nat.le_of_ble_eq_true (show Nat.ble 0 Tryz.f138.ntmps = true by kernel_rfl), _, run_spec_MemoryNew ⟩

def pf_impl_MemoryNew : PF := ⟨[.c 0 true 2], .seq (.reg [.s (.alloc 0 [.nils .word, .nils .bool])]) (.seq (.rgd [] [.s (.mkS 1 .word (.k (.v (.c (.int .i64 24))))), .s (.mkS 2 .bool (.k (.v (.c (.int .i64 24))))), .s (.build 3 [.nils .word, .nils .bool] [(0, 1, (.t 1)), (1, 1, (.t 2))]), .s (.store 2 (.t 0) (.t 3))] (.alt 0 false (.one 1 true (.tk 2 (.one 3 true (.done (some [0]))))) (.alt 1 false (.one 0 true (.tk 2 (.one 3 true (.done (some [0]))))) (.nil)))) (.ret))⟩
def c_impl_MemoryNew : Fun := ⟨55, [], fun ts K => as0 ts (K (tG (memNew.tc true [])) [])⟩
theorem run_impl_MemoryNew  : runK [] (0) [] pf_impl_MemoryNew [] fun r o => r = tG (memNew.tc true []) ∧ o = [] := by
  conv => whnf
  repeat' first | refine chk_c ?_ ?_ | refine And.intro ?_ ?_ <;> conv => whnf
  all_goals first
    | (refine ⟨?_⟩; omega)
    | exact ⟨rfl, rfl⟩
    | rfl
    | exact True.intro
theorem ok_impl_MemoryNew : FunOk Tryz.prog c_impl_MemoryNew := funOk (E := []) (envOk_nil) mixd Tryz.func55 (pf := pf_impl_MemoryNew) (by kernel_rfl) fun ts K h => by
  obtain ⟨e0, h⟩ := as0_out h
  subst e0
  exact ⟨_, _, h, Nat.le_of_ble_eq_true (show Nat.ble 0 Tryz.f55.ntmps = true by kernel_rfl), _, run_impl_MemoryNew ⟩


def szr (k : Int) (n : Nat) : Int := if k - n < 0 then -1 else k - n
theorem szr_t {k : Int} {n : Nat} (h : k - n < 0) : szr k n = -1 := if_pos h
theorem szr_f {k : Int} {n : Nat} (h : ¬ k - n < 0) : szr k n = k - n := if_neg h

def pf_laws_toKey : PF := ⟨[.c 2 true 4], .seq (.reg [.s (.box 1 (.t 0)), .s (.alloc 2 [.int .i64 0, .int .i64 0, .int .i64 0, .int .i64 0])]) (.seq (.reg [.s (.alloc 3 [.int .i64 0, .int .i64 0, .int .i64 0, .int .i64 0])]) (.seq (.reg [.s (.fa 4 (.t 1) 0), .s (.load 5 false 1 (.t 4)), .s (.fa 6 (.t 3) 0), .s (.store 1 (.t 6) (.t 5))]) (.seq (.reg [.s (.fa 7 (.t 1) 1), .s (.load 8 false 1 (.t 7)), .s (.fa 9 (.t 3) 1), .s (.store 1 (.t 9) (.t 8))]) (.seq (.reg [.s (.fa 10 (.t 1) 2), .s (.load 11 false 1 (.t 10)), .s (.fa 12 (.t 3) 2), .s (.store 1 (.t 12) (.t 11))]) (.seq (.reg [.s (.fa 13 (.t 1) 3), .s (.load 14 false 1 (.t 13)), .s (.fa 15 (.t 3) 3), .s (.store 1 (.t 15) (.t 14))]) (.seq (.reg [.s (.load 16 true 4 (.t 3)), .s (.store 4 (.t 2) (.t 16))]) (.ret)))))))⟩
def c_laws_toKey : Fun := ⟨153, [], fun ts K => as1 ts fun t0 => arG pKeyT t0 fun a => K (tG (a.tc [])) []⟩
theorem run_laws_toKey (a : Key) : runK [] (0) [] pf_laws_toKey [tG (a.tc [])] fun r o => r = tG (a.tc []) ∧ o = [] := by
  conv => whnf
  repeat' (first
    | exact rfl
    | exact trivial
    | (refine sel_i (fun h => ?_) (fun h => ?_) <;> conv => whnf)
    | (refine chk_c ?_ ?_ <;> conv => whnf)
    | (refine And.intro ?_ ?_ <;> conv => whnf))
theorem ok_laws_toKey : FunOk Tryz.prog c_laws_toKey := funOk (E := []) (envOk_nil) mixd Tryz.func153 (pf := pf_laws_toKey) (by kernel_rfl) fun ts K h => by
  obtain ⟨t0, e0, h⟩ := as1_out h
  subst e0
  obtain ⟨a, e1, hq⟩ := arG_out rd_key h
  clear h
  subst e1
  have h := hq
  clear hq
  exact ⟨_, _, h, Nat.le_of_ble_eq_true (show Nat.ble 1 Tryz.f153.ntmps = true by kernel_rfl), _, run_laws_toKey a⟩

def pf_laws_toWord : PF := ⟨[.c 2 true 6], .seq (.reg [.s (.box 1 (.t 0)), .s (.alloc 2 [.int .i64 0, .ff, .int .i64 0, .int .i64 0, .int .i64 0, .int .i64 0])]) (.seq (.reg [.s (.alloc 3 [.int .i64 0, .ff, .int .i64 0, .int .i64 0, .int .i64 0, .int .i64 0])]) (.seq (.reg [.s (.fa 4 (.t 1) 0), .s (.load 5 false 1 (.t 4)), .s (.fa 6 (.t 3) 0), .s (.store 1 (.t 6) (.t 5))]) (.seq (.reg [.s (.fa 7 (.t 1) 1), .s (.load 8 false 1 (.t 7)), .s (.fa 9 (.t 3) 1), .s (.store 1 (.t 9) (.t 8))]) (.seq (.reg [.s (.fa 10 (.t 1) 2), .s (.load 11 true 4 (.t 10)), .s (.call (some 12) 153 [(.t 11)]), .s (.fa 13 (.t 3) 2), .s (.store 4 (.t 13) (.t 12))]) (.seq (.reg [.s (.load 14 true 6 (.t 3)), .s (.store 6 (.t 2) (.t 14))]) (.ret))))))⟩
def c_laws_toWord : Fun := ⟨91, [], fun ts K => as1 ts fun t0 => arG pWordT t0 fun a => K (tG (a.tc [])) []⟩
theorem run_laws_toWord (a : Word) : runK [c_laws_toKey] (0) [] pf_laws_toWord [tG (a.tc [])] fun r o => r = tG (a.tc []) ∧ o = [] := by
  conv => whnf
  repeat' (first
    | exact rfl
    | exact trivial
    | (refine sel_i (fun h => ?_) (fun h => ?_) <;> conv => whnf)
    | (refine chk_c ?_ ?_ <;> conv => whnf)
    | (refine And.intro ?_ ?_ <;> conv => whnf))
theorem ok_laws_toWord : FunOk Tryz.prog c_laws_toWord := funOk (E := [c_laws_toKey]) (envOk_cons ok_laws_toKey (envOk_nil)) mixd Tryz.func91 (pf := pf_laws_toWord) (by kernel_rfl) fun ts K h => by
  obtain ⟨t0, e0, h⟩ := as1_out h
  subst e0
  obtain ⟨a, e1, hq⟩ := arG_out rd_word h
  clear h
  subst e1
  have h := hq
  clear hq
  exact ⟨_, _, h, Nat.le_of_ble_eq_true (show Nat.ble 1 Tryz.f91.ntmps = true by kernel_rfl), _, run_laws_toWord a⟩

def pf_laws_szWordS : PF := ⟨[.t 4], .seq (.reg [.s (.mv 4 (.k (.v (.c (.int .i64 0)))))]) (.seq (.reg [.s (.mv 5 (.t 1)), .s (.mv 6 (.t 0)), .s (.len 7 false (.t 6)), .s (.bin 8 .sub (.t 5) (.t 7)), .s (.mv 1 (.t 8))]) (.seq (.seq (.reg [.s (.mv 9 (.t 1)), .s (.bin 10 .lss (.t 9) (.k (.v (.c (.int .i64 0)))))]) (.cond (.t 10) (.seq (.reg [.s (.mv 4 (.k (.v (.c (.int .i64 (-1))))))]) (.ret)) (.skip))) (.seq (.reg [.s (.mv 11 (.t 1)), .s (.mv 4 (.t 11))]) (.ret))))⟩
def c_laws_szWordS : Fun := ⟨84, [], fun ts K => as2 ts fun t0 t1 => arC (pL .word) t0 fun a => arC (pI .i64) t1 fun k => chk (a.length ≤ 9223372036854775807 ∧ 0 ≤ k ∧ k ≤ 1048576) (K (tN (szr k a.length)) [])⟩
theorem run_laws_szWordS (a : List (FT.Ty .word)) (k : Int) (hpre : a.length ≤ 9223372036854775807 ∧ 0 ≤ k ∧ k ≤ 1048576) : runK [] (0) [] pf_laws_szWordS [tL false .word a, tI .i64 k] fun r o => r = tN (szr k a.length) ∧ o = [] := by
  conv => whnf
  rw [wrap_id (by omega) (by omega)]
  refine sel_i (fun h => ?_) (fun h => ?_) <;> conv => whnf
  · refine ⟨?_, rfl⟩; rw [szr_t (by simpa using h)]
  · refine ⟨?_, rfl⟩; rw [szr_f (by simpa using h)]
theorem ok_laws_szWordS : FunOk Tryz.prog c_laws_szWordS := funOk (E := []) (envOk_nil) mixd Tryz.func84 (pf := pf_laws_szWordS) (by kernel_rfl) fun ts K h => by
  obtain ⟨t0, t1, e0, h⟩ := as2_out h
  subst e0
  obtain ⟨a, e1, hq⟩ := arC_out (rd_l .word) h
  clear h
  subst e1
  have h := hq
  clear hq
  obtain ⟨k, e1, hq⟩ := arC_out (rd_int .i64) h
  clear h
  subst e1
  have h := hq
  clear hq
  obtain ⟨hpre, h⟩ := chk_o h
  exact ⟨_, _, h, Nat.le_of_ble_eq_true (show Nat.ble 2 Tryz.f84.ntmps = true by kernel_rfl), _, run_laws_szWordS a k hpre⟩

def lb_laws_toWordS_0 : PC := .seq (.seq (.reg [.s (.mv 8 (.t 4)), .s (.mv 9 (.t 0)), .s (.len 10 false (.t 9)), .s (.bin 11 .lss (.t 8) (.t 10))]) (.cond (.t 11) (.skip) (.exit 0))) (.seq (.blk 1 (.reg [.s (.mv 14 (.t 3)), .s (.mv 15 (.t 4)), .s (.mv 16 (.t 0)), .s (.mv 17 (.t 4)), .s (.ia 18 .word (.t 16) (.t 17)), .s (.load 19 true 6 (.t 18)), .s (.call (some 20) 91 [(.t 19)]), .s (.ia 21 .word (.t 14) (.t 15)), .s (.store 6 (.t 21) (.t 20))])) (.reg [.s (.mv 12 (.t 4)), .s (.bin 13 .add (.t 12) (.k (.v (.c (.int .i64 1))))), .s (.mv 4 (.t 13))]))
def pf_laws_toWordS : PF := ⟨[.t 2], .seq (.reg [.s (.mv 2 (.k (.v (.c (.nils .word)))))]) (.seq (.reg [.s (.mv 5 (.t 0)), .s (.len 6 false (.t 5)), .s (.mkS 7 .word (.t 6)), .s (.mv 3 (.t 7))]) (.seq (.seq (.reg [.s (.mv 4 (.k (.v (.c (.int .i64 0)))))]) (.blk 0 (.loop [0, 3, 4] lb_laws_toWordS_0))) (.seq (.reg [.s (.mv 22 (.t 3)), .s (.mv 2 (.t 22))]) (.ret))))⟩
def c_laws_toWordS : Fun := ⟨90, [], fun ts K => as1 ts fun t0 => arC (pL .word) t0 fun a => chk (a.length ≤ 2147483647) (K (tL true .word a) [])⟩
theorem run_laws_toWordS (a : List (FT.Ty .word)) (hpre : a.length ≤ 2147483647) : runK [c_laws_toWord] (a.length + 1) [] pf_laws_toWordS [tL false .word a] fun r o => r = tL true .word a ∧ o = [] := by
  conv => whnf
  refine chk_i ⟨by omega, by omega⟩ ?_
  conv => whnf
  refine loop (α := Nat × List (FT.Ty .word)) (fun p => ⟨[(0, .v (.c (.sl false .word 0))), (3, .v (.c (.sl true .word 1))), (4, .v (.c (.int .i64 (p.1 : Int))))], [(1, some (.flat true .word none p.2)), (0, some (.flat false .word none a))], nums.tail.tail, [], false, []⟩)
      (fun p => p.1 ≤ a.length ∧ p.2 = a.take p.1 ++ (List.replicate a.length (FT.zero .word)).drop p.1) (fun p => a.length - p.1) (fun p R hI hR => ?_) (0, List.replicate a.length (FT.zero .word)) _ ⟨by simp, by simp⟩ (by simp)
  obtain ⟨i, xs⟩ := p
  obtain ⟨hi, hx⟩ := hI
  dsimp only at hi hx
  have hlen : xs.length = a.length := by rw [hx]; simp; omega
  dsimp only
  conv => whnf
  refine sel_i (fun h2 => ?_) (fun h2 => ?_)
  · have hlt : i < a.length := by simp at h2; omega
    have hge : a[i]? = some (a.getD i (FT.zero .word)) := by simp [List.getD_eq_getElem?_getD, hlt]
    conv => whnf
    repeat' (refine chk_c ?_ ?_ <;> conv => whnf)
    all_goals first
      | (refine ⟨?_⟩; omega)
      | (refine ⟨?_⟩; simp; done)
      | (refine ⟨?_⟩; simp; omega)
      | skip
    simp (disch := omega) only [wrap_id, Int.toNat_natCast]
    exact hR (i + 1, xs.set i (a.getD i (FT.zero .word))) ⟨by omega, by rw [hx]; exact set_mid (by simp) (by simpa using hlt) hge⟩ (by simp; omega)
  · have hge : i = a.length := by simp at h2; omega
    subst hge
    conv => whnf
    refine ⟨?_, rfl⟩
    rw [hx, List.take_of_length_le (by omega), List.drop_eq_nil_of_le (by simp), List.append_nil]
theorem ok_laws_toWordS : FunOk Tryz.prog c_laws_toWordS := funOk (E := [c_laws_toWord]) (envOk_cons ok_laws_toWord (envOk_nil)) mixd Tryz.func90 (pf := pf_laws_toWordS) (by kernel_rfl) fun ts K h => by
  obtain ⟨t0, e0, h⟩ := as1_out h
  subst e0
  obtain ⟨a, e1, hq⟩ := arC_out (rd_l .word) h
  clear h
  subst e1
  have h := hq
  clear hq
  obtain ⟨hpre, h⟩ := chk_o h
  exact ⟨_, _, h, Nat.le_of_ble_eq_true (show Nat.ble 1 Tryz.f90.ntmps = true by kernel_rfl), _, run_laws_toWordS a hpre⟩

def pf_laws_szBoolS : PF := ⟨[.t 4], .seq (.reg [.s (.mv 4 (.k (.v (.c (.int .i64 0)))))]) (.seq (.reg [.s (.mv 5 (.t 1)), .s (.mv 6 (.t 0)), .s (.len 7 false (.t 6)), .s (.bin 8 .sub (.t 5) (.t 7)), .s (.mv 1 (.t 8))]) (.seq (.seq (.reg [.s (.mv 9 (.t 1)), .s (.bin 10 .lss (.t 9) (.k (.v (.c (.int .i64 0)))))]) (.cond (.t 10) (.seq (.reg [.s (.mv 4 (.k (.v (.c (.int .i64 (-1))))))]) (.ret)) (.skip))) (.seq (.reg [.s (.mv 11 (.t 1)), .s (.mv 4 (.t 11))]) (.ret))))⟩
def c_laws_szBoolS : Fun := ⟨151, [], fun ts K => as2 ts fun t0 t1 => arC (pL .bool) t0 fun a => arC (pI .i64) t1 fun k => chk (a.length ≤ 9223372036854775807 ∧ 0 ≤ k ∧ k ≤ 1048576) (K (tN (szr k a.length)) [])⟩
theorem run_laws_szBoolS (a : List (FT.Ty .bool)) (k : Int) (hpre : a.length ≤ 9223372036854775807 ∧ 0 ≤ k ∧ k ≤ 1048576) : runK [] (0) [] pf_laws_szBoolS [tL false .bool a, tI .i64 k] fun r o => r = tN (szr k a.length) ∧ o = [] := by
  conv => whnf
  rw [wrap_id (by omega) (by omega)]
  refine sel_i (fun h => ?_) (fun h => ?_) <;> conv => whnf
  · refine ⟨?_, rfl⟩; rw [szr_t (by simpa using h)]
  · refine ⟨?_, rfl⟩; rw [szr_f (by simpa using h)]
theorem ok_laws_szBoolS : FunOk Tryz.prog c_laws_szBoolS := funOk (E := []) (envOk_nil) mixd Tryz.func151 (pf := pf_laws_szBoolS) (by kernel_rfl) fun ts K h => by
  obtain ⟨t0, t1, e0, h⟩ := as2_out h
  subst e0
  obtain ⟨a, e1, hq⟩ := arC_out (rd_l .bool) h
  clear h
  subst e1
  have h := hq
  clear hq
  obtain ⟨k, e1, hq⟩ := arC_out (rd_int .i64) h
  clear h
  subst e1
  have h := hq
  clear hq
  obtain ⟨hpre, h⟩ := chk_o h
  exact ⟨_, _, h, Nat.le_of_ble_eq_true (show Nat.ble 2 Tryz.f151.ntmps = true by kernel_rfl), _, run_laws_szBoolS a k hpre⟩

def lb_laws_toBoolS_0 : PC := .seq (.seq (.reg [.s (.mv 8 (.t 4)), .s (.mv 9 (.t 0)), .s (.len 10 false (.t 9)), .s (.bin 11 .lss (.t 8) (.t 10))]) (.cond (.t 11) (.skip) (.exit 0))) (.seq (.blk 1 (.reg [.s (.mv 14 (.t 3)), .s (.mv 15 (.t 4)), .s (.mv 16 (.t 0)), .s (.mv 17 (.t 4)), .s (.ia 18 .bool (.t 16) (.t 17)), .s (.load 19 false 1 (.t 18)), .s (.ia 20 .bool (.t 14) (.t 15)), .s (.store 1 (.t 20) (.t 19))])) (.reg [.s (.mv 12 (.t 4)), .s (.bin 13 .add (.t 12) (.k (.v (.c (.int .i64 1))))), .s (.mv 4 (.t 13))]))
def pf_laws_toBoolS : PF := ⟨[.t 2], .seq (.reg [.s (.mv 2 (.k (.v (.c (.nils .bool)))))]) (.seq (.reg [.s (.mv 5 (.t 0)), .s (.len 6 false (.t 5)), .s (.mkS 7 .bool (.t 6)), .s (.mv 3 (.t 7))]) (.seq (.seq (.reg [.s (.mv 4 (.k (.v (.c (.int .i64 0)))))]) (.blk 0 (.loop [0, 3, 4] lb_laws_toBoolS_0))) (.seq (.reg [.s (.mv 21 (.t 3)), .s (.mv 2 (.t 21))]) (.ret))))⟩
def c_laws_toBoolS : Fun := ⟨154, [], fun ts K => as1 ts fun t0 => arC (pL .bool) t0 fun a => chk (a.length ≤ 2147483647) (K (tL true .bool a) [])⟩
theorem run_laws_toBoolS (a : List (FT.Ty .bool)) (hpre : a.length ≤ 2147483647) : runK [] (a.length + 1) [] pf_laws_toBoolS [tL false .bool a] fun r o => r = tL true .bool a ∧ o = [] := by
  conv => whnf
  refine chk_i ⟨by omega, by omega⟩ ?_
  conv => whnf
  refine loop (α := Nat × List (FT.Ty .bool)) (fun p => ⟨[(0, .v (.c (.sl false .bool 0))), (3, .v (.c (.sl true .bool 1))), (4, .v (.c (.int .i64 (p.1 : Int))))], [(1, some (.flat true .bool none p.2)), (0, some (.flat false .bool none a))], nums.tail.tail, [], false, []⟩)
      (fun p => p.1 ≤ a.length ∧ p.2 = a.take p.1 ++ (List.replicate a.length (FT.zero .bool)).drop p.1) (fun p => a.length - p.1) (fun p R hI hR => ?_) (0, List.replicate a.length (FT.zero .bool)) _ ⟨by simp, by simp⟩ (by simp)
  obtain ⟨i, xs⟩ := p
  obtain ⟨hi, hx⟩ := hI
  dsimp only at hi hx
  have hlen : xs.length = a.length := by rw [hx]; simp; omega
  dsimp only
  conv => whnf
  refine sel_i (fun h2 => ?_) (fun h2 => ?_)
  · have hlt : i < a.length := by simp at h2; omega
    have hge : a[i]? = some (a.getD i (FT.zero .bool)) := by simp [List.getD_eq_getElem?_getD, hlt]
    conv => whnf
    repeat' (refine chk_c ?_ ?_ <;> conv => whnf)
    all_goals first
      | (refine ⟨?_⟩; omega)
      | (refine ⟨?_⟩; simp; done)
      | (refine ⟨?_⟩; simp; omega)
      | skip
    simp (disch := omega) only [wrap_id, Int.toNat_natCast]
    exact hR (i + 1, xs.set i (a.getD i (FT.zero .bool))) ⟨by omega, by rw [hx]; exact set_mid (by simp) (by simpa using hlt) hge⟩ (by simp; omega)
  · have hge : i = a.length := by simp at h2; omega
    subst hge
    conv => whnf
    refine ⟨?_, rfl⟩
    rw [hx, List.take_of_length_le (by omega), List.drop_eq_nil_of_le (by simp), List.append_nil]
theorem ok_laws_toBoolS : FunOk Tryz.prog c_laws_toBoolS := funOk (E := []) (envOk_nil) mixd Tryz.func154 (pf := pf_laws_toBoolS) (by kernel_rfl) fun ts K h => by
  obtain ⟨t0, e0, h⟩ := as1_out h
  subst e0
  obtain ⟨a, e1, hq⟩ := arC_out (rd_l .bool) h
  clear h
  subst e1
  have h := hq
  clear hq
  obtain ⟨hpre, h⟩ := chk_o h
  exact ⟨_, _, h, Nat.le_of_ble_eq_true (show Nat.ble 1 Tryz.f154.ntmps = true by kernel_rfl), _, run_laws_toBoolS a hpre⟩

def pf_slices_Clone_Word : PF := ⟨[.t 2], .seq (.reg [.s (.mv 2 (.k (.v (.c (.nils .word)))))]) (.seq (.seq (.reg [.s (.mv 3 (.t 0)), .s (.isnil 4 (.t 3))]) (.cond (.t 4) (.seq (.reg [.s (.mv 2 (.k (.v (.c (.nils .word)))))]) (.ret)) (.skip))) (.seq (.reg [.s (.bs 5 .word []), .s (.mv 6 (.t 0)), .s (.app 7 .word (.t 5) (.t 6)), .s (.mv 2 (.t 7))]) (.ret)))⟩
def c_slices_Clone_Word : Fun := ⟨115, [], fun ts K => as1 ts fun t0 => arC (pL .word) t0 fun a => chk (a.length ≤ 2147483647) (K (tL true .word a) [])⟩
theorem ok_slices_Clone_Word : FunOk Tryz.prog c_slices_Clone_Word := funOkN (E := []) envOk_nil mixd Tryz.func115 (pf := pf_slices_Clone_Word) (by kernel_rfl) rfl (Nat.le_of_ble_eq_true (show Nat.ble 1 Tryz.f115.ntmps = true by kernel_rfl)) fun ts K h => by
  obtain ⟨t0, e0, h⟩ := as1_out h
  subst e0
  obtain ⟨a, e1, h⟩ := arC_out (rd_l .word) h
  subst e1
  obtain ⟨hpre, h⟩ := chk_o h
  refine ⟨.word, a, _, rfl, h, 0, fun e => ?_, ?_⟩
  · subst e
    conv => whnf
    exact ⟨rfl, rfl⟩
  · conv => whnf
    repeat' (refine chk_c ?_ ?_ <;> conv => whnf)
    all_goals first
      | (refine ⟨?_⟩; simp; omega)
      | exact ⟨rfl, rfl⟩

def pf_slices_Clone_bool : PF := ⟨[.t 2], .seq (.reg [.s (.mv 2 (.k (.v (.c (.nils .bool)))))]) (.seq (.seq (.reg [.s (.mv 3 (.t 0)), .s (.isnil 4 (.t 3))]) (.cond (.t 4) (.seq (.reg [.s (.mv 2 (.k (.v (.c (.nils .bool)))))]) (.ret)) (.skip))) (.seq (.reg [.s (.bs 5 .bool []), .s (.mv 6 (.t 0)), .s (.app 7 .bool (.t 5) (.t 6)), .s (.mv 2 (.t 7))]) (.ret)))⟩
def c_slices_Clone_bool : Fun := ⟨162, [], fun ts K => as1 ts fun t0 => arC (pL .bool) t0 fun a => chk (a.length ≤ 2147483647) (K (tL true .bool a) [])⟩
theorem ok_slices_Clone_bool : FunOk Tryz.prog c_slices_Clone_bool := funOkN (E := []) envOk_nil mixd Tryz.func162 (pf := pf_slices_Clone_bool) (by kernel_rfl) rfl (Nat.le_of_ble_eq_true (show Nat.ble 1 Tryz.f162.ntmps = true by kernel_rfl)) fun ts K h => by
  obtain ⟨t0, e0, h⟩ := as1_out h
  subst e0
  obtain ⟨a, e1, h⟩ := arC_out (rd_l .bool) h
  subst e1
  obtain ⟨hpre, h⟩ := chk_o h
  refine ⟨.bool, a, _, rfl, h, 0, fun e => ?_, ?_⟩
  · subst e
    conv => whnf
    exact ⟨rfl, rfl⟩
  · conv => whnf
    repeat' (refine chk_c ?_ ?_ <;> conv => whnf)
    all_goals first
      | (refine ⟨?_⟩; simp; omega)
      | exact ⟨rfl, rfl⟩

def szB (x : Int) (f : Int → Int) : Int := if x < 0 then -1 else f x
theorem szr_le {k : Int} {n : Nat} (h : 0 ≤ k) : szr k n ≤ k := by unfold szr; split <;> omega
theorem szr_ge {k : Int} {n : Nat} : -1 ≤ szr k n := by unfold szr; split <;> omega
theorem szr_n {k : Int} {n : Nat} (h : 0 ≤ szr k n) : (n : Int) ≤ k ∧ szr k n = k - n := by unfold szr at *; split at h <;> omega
def szMem (m : Mem) (k : Int) : Int := szB (szr k m.words.length) fun k => szr k m.gone.length
theorem szB_pos {x : Int} {f : Int → Int} (h : 0 ≤ szB x f) : 0 ≤ x ∧ 0 ≤ f x ∧ szB x f = f x := by
  unfold szB at h ⊢; split at h
  · omega
  · rename_i hx; rw [if_neg hx]; exact ⟨by omega, h, rfl⟩
theorem szMem_pos {m : Mem} {k : Int} (h : 0 ≤ szMem m k) : 0 ≤ szr k m.words.length ∧ 0 ≤ szr (szr k m.words.length) m.gone.length ∧ szMem m k = szr (szr k m.words.length) m.gone.length := szB_pos h
theorem szMem_le {m : Mem} {k : Int} (h : 0 ≤ k) : szMem m k ≤ k := by
  by_cases hp : 0 ≤ szMem m k
  · obtain ⟨h1, h2, h3⟩ := szMem_pos hp
    have := szr_le (n := m.words.length) h; have := szr_le (n := m.gone.length) h1; omega
  · omega
def LMem (m : Mem) (n : Nat) : Prop := m.words.length ≤ n ∧ m.gone.length ≤ n
def LTwo (t : Two) (n : Nat) : Prop := LMem t.mem n ∧ t.a.regs.length ≤ n ∧ t.b.regs.length ≤ n
theorem szMem_n {m : Mem} {k : Int} (h0 : k ≤ 1048576) (h : 0 ≤ szMem m k) : LMem m 1048576 ∧ szMem m k ≤ k := by
  obtain ⟨h1, h2, h3⟩ := szMem_pos h
  have h4 := szr_n h1; have h5 := szr_n h2
  exact ⟨⟨by omega, by omega⟩, by omega⟩
def pf_laws_szMemory : PF := ⟨[.t 4], .seq (.reg [.s (.box 2 (.t 0)), .s (.mv 4 (.k (.v (.c (.int .i64 0)))))]) (.seq (.reg [.s (.fa 5 (.t 2) 0), .s (.load 6 false 1 (.t 5)), .s (.mv 7 (.t 1)), .s (.call (some 8) 84 [(.t 6), (.t 7)]), .s (.mv 1 (.t 8))]) (.seq (.seq (.reg [.s (.mv 9 (.t 1)), .s (.bin 10 .lss (.t 9) (.k (.v (.c (.int .i64 0)))))]) (.cond (.t 10) (.seq (.reg [.s (.mv 4 (.k (.v (.c (.int .i64 (-1))))))]) (.ret)) (.skip))) (.seq (.reg [.s (.fa 11 (.t 2) 1), .s (.load 12 false 1 (.t 11)), .s (.mv 13 (.t 1)), .s (.call (some 14) 151 [(.t 12), (.t 13)]), .s (.mv 1 (.t 14))]) (.seq (.seq (.reg [.s (.mv 15 (.t 1)), .s (.bin 16 .lss (.t 15) (.k (.v (.c (.int .i64 0)))))]) (.cond (.t 16) (.seq (.reg [.s (.mv 4 (.k (.v (.c (.int .i64 (-1))))))]) (.ret)) (.skip))) (.seq (.reg [.s (.mv 17 (.t 1)), .s (.mv 4 (.t 17))]) (.ret))))))⟩
def c_laws_szMemory : Fun := ⟨85, [], fun ts K => as2 ts fun t0 t1 => arG pMemT t0 fun m => arC (pI .i64) t1 fun k => chk (LMem m 9223372036854775807 ∧ 0 ≤ k ∧ k ≤ 1048576) (K (tN (szMem m k)) [])⟩
theorem run_laws_szMemory (m : Mem) (k : Int) (hpre : LMem m 9223372036854775807 ∧ 0 ≤ k ∧ k ≤ 1048576) : runK [c_laws_szWordS, c_laws_szBoolS] (0) [] pf_laws_szMemory [tG (m.tc false []), tI .i64 k] fun r o => r = tN (szMem m k) ∧ o = [] := by
  obtain ⟨⟨l1, l2⟩, hk, hk2⟩ := hpre
  have h0 := szr_le (n := m.words.length) hk
  conv => whnf
  refine chk_i ⟨l1, hk, hk2⟩ ?_
  conv => whnf
  refine sel_i (fun h => ?_) (fun h => ?_)
  · conv => whnf
    refine ⟨?_, rfl⟩; simp at h; simp [szMem, szB, h]
  · simp at h
    conv => whnf
    refine chk_i ⟨l2, h, by omega⟩ ?_
    conv => whnf
    refine sel_i (fun h2 => ?_) (fun h2 => ?_) <;> conv => whnf
    · refine ⟨?_, rfl⟩; simp at h2; have := szr_ge (k := szr k m.words.length) (n := m.gone.length); simp [szMem, szB, show ¬ szr k m.words.length < 0 by omega]; omega
    · refine ⟨?_, rfl⟩; simp [szMem, szB, show ¬ szr k m.words.length < 0 by omega]
theorem ok_laws_szMemory : FunOk Tryz.prog c_laws_szMemory := funOk (E := [c_laws_szWordS, c_laws_szBoolS]) (envOk_cons ok_laws_szWordS (envOk_cons ok_laws_szBoolS (envOk_nil))) mixd Tryz.func85 (pf := pf_laws_szMemory) (by kernel_rfl) fun ts K h => by
  obtain ⟨t0, t1, e0, h⟩ := as2_out h
  subst e0
  obtain ⟨m, e1, hq⟩ := arG_out rd_mem h
  clear h
  subst e1
  have h := hq
  clear hq
  obtain ⟨k, e1, hq⟩ := arC_out (rd_int .i64) h
  clear h
  subst e1
  have h := hq
  clear hq
  obtain ⟨hpre, h⟩ := chk_o h
  exact ⟨_, _, h, Nat.le_of_ble_eq_true (show Nat.ble 2 Tryz.f85.ntmps = true by kernel_rfl), _, run_laws_szMemory m k hpre⟩

def pf_laws_toMemory : PF := ⟨[.c 2 true 2], .seq (.reg [.s (.box 1 (.t 0)), .s (.alloc 2 [.nils .word, .nils .bool])]) (.seq (.reg [.s (.alloc 3 [.nils .word, .nils .bool])]) (.seq (.reg [.s (.fa 4 (.t 1) 0), .s (.load 5 false 1 (.t 4)), .s (.call (some 6) 90 [(.t 5)]), .s (.fa 7 (.t 3) 0), .s (.store 1 (.t 7) (.t 6))]) (.seq (.reg [.s (.fa 8 (.t 1) 1), .s (.load 9 false 1 (.t 8)), .s (.call (some 10) 154 [(.t 9)]), .s (.fa 11 (.t 3) 1), .s (.store 1 (.t 11) (.t 10))]) (.seq (.reg [.s (.load 12 true 2 (.t 3)), .s (.store 2 (.t 2) (.t 12))]) (.ret)))))⟩
def c_laws_toMemory : Fun := ⟨92, [], fun ts K => as1 ts fun t0 => arG pMemT t0 fun m => chk (LMem m 2147483647) (K (tG (m.tc true [])) [])⟩
theorem run_laws_toMemory (m : Mem) (hpre : LMem m 2147483647) : runK [c_laws_toWordS, c_laws_toBoolS] (0) [] pf_laws_toMemory [tG (m.tc false [])] fun r o => r = tG (m.tc true []) ∧ o = [] := by
  obtain ⟨l1, l2⟩ := hpre
  conv => whnf
  repeat' (first | (refine chk_c ?_ ?_ <;> conv => whnf) | (refine And.intro ?_ ?_ <;> conv => whnf))
  all_goals first
    | (refine ⟨?_⟩; omega)
    | (refine ⟨?_⟩; simp; done)
    | (refine ⟨?_⟩; simp [LMem, LTwo] at *; omega)
    | rfl
    | exact True.intro
    | exact ⟨rfl, rfl⟩
theorem ok_laws_toMemory : FunOk Tryz.prog c_laws_toMemory := funOk (E := [c_laws_toWordS, c_laws_toBoolS]) (envOk_cons ok_laws_toWordS (envOk_cons ok_laws_toBoolS (envOk_nil))) mixd Tryz.func92 (pf := pf_laws_toMemory) (by kernel_rfl) fun ts K h => by
  obtain ⟨t0, e0, h⟩ := as1_out h
  subst e0
  obtain ⟨m, e1, hq⟩ := arG_out rd_mem h
  clear h
  subst e1
  have h := hq
  clear hq
  obtain ⟨hpre, h⟩ := chk_o h
  exact ⟨_, _, h, Nat.le_of_ble_eq_true (show Nat.ble 1 Tryz.f92.ntmps = true by kernel_rfl), _, run_laws_toMemory m hpre⟩

def pf_spec_l8Copy : PF := ⟨[.c 2 true 2], .seq (.reg [.s (.box 1 (.t 0)), .s (.alloc 2 [.nils .word, .nils .bool])]) (.seq (.rgd [] [.s (.bs 3 .word []), .s (.fa 4 (.t 1) 0), .s (.load 5 false 1 (.t 4)), .s (.app 6 .word (.t 3) (.t 5)), .s (.bs 7 .bool []), .s (.fa 8 (.t 1) 1), .s (.load 9 false 1 (.t 8)), .s (.app 10 .bool (.t 7) (.t 9)), .s (.build 11 [.nils .word, .nils .bool] [(0, 1, (.t 6)), (1, 1, (.t 10))]), .s (.store 2 (.t 2) (.t 11))] (.tk 1 (.tk 2 (.tk 5 (.tk 6 (.alt 0 false (.alt 3 false (.one 4 false (.one 7 true (.tk 8 (.one 9 true (.done (some [2])))))) (.alt 4 false (.one 3 false (.one 7 true (.tk 8 (.one 9 true (.done (some [2])))))) (.nil))) (.alt 4 false (.one 0 false (.one 3 false (.one 7 true (.tk 8 (.one 9 true (.done (some [2]))))))) (.nil)))))))) (.ret))⟩
def c_spec_l8Copy : Fun := ⟨193, [], fun ts K => as1 ts fun t0 => arG pMemT t0 fun m => chk (LMem m 2147483647) (K (tG (m.tc true [])) [])⟩
theorem run_spec_l8Copy (m : Mem) (hpre : LMem m 2147483647) : runK [] (0) [] pf_spec_l8Copy [tG (m.tc false [])] fun r o => r = tG (m.tc true []) ∧ o = [] := by
  obtain ⟨l1, l2⟩ := hpre
  conv => whnf
  repeat' (first | (refine chk_c ?_ ?_ <;> conv => whnf) | (refine And.intro ?_ ?_ <;> conv => whnf))
  all_goals first
    | (refine ⟨?_⟩; omega)
    | (refine ⟨?_⟩; simp; done)
    | (refine ⟨?_⟩; simp [LMem, LTwo] at *; omega)
    | rfl
    | exact True.intro
    | exact ⟨rfl, rfl⟩
theorem ok_spec_l8Copy : FunOk Tryz.prog c_spec_l8Copy := funOk (E := []) (envOk_nil) mixd Tryz.func193 (pf := pf_spec_l8Copy) (by kernel_rfl) fun ts K h => by
  obtain ⟨t0, e0, h⟩ := as1_out h
  subst e0
  obtain ⟨m, e1, hq⟩ := arG_out rd_mem h
  clear h
  subst e1
  have h := hq
  clear hq
  obtain ⟨hpre, h⟩ := chk_o h
  exact ⟨_, _, h, Nat.le_of_ble_eq_true (show Nat.ble 1 Tryz.f193.ntmps = true by kernel_rfl), _, run_spec_l8Copy m hpre⟩

def pf_impl_cloneMemory : PF := ⟨[.c 2 true 2], .seq (.reg [.s (.box 1 (.t 0)), .s (.alloc 2 [.nils .word, .nils .bool])]) (.seq (.rgd [] [.s (.fa 3 (.t 1) 0), .s (.load 4 false 1 (.t 3)), .s (.call (some 5) 115 [(.t 4)]), .s (.fa 6 (.t 1) 1), .s (.load 7 false 1 (.t 6)), .s (.call (some 8) 162 [(.t 7)]), .s (.build 9 [.nils .word, .nils .bool] [(0, 1, (.t 5)), (1, 1, (.t 8))]), .s (.store 2 (.t 2) (.t 9))] (.tk 0 (.tk 1 (.tk 3 (.tk 4 (.one 2 false (.one 5 true (.tk 6 (.one 7 true (.done none)))))))))) (.ret))⟩
def c_impl_cloneMemory : Fun := ⟨116, [], fun ts K => as1 ts fun t0 => arG pMemT t0 fun m => chk (LMem m 2147483647) (K (tG (m.tc true [])) [])⟩
theorem run_impl_cloneMemory (m : Mem) (hpre : LMem m 2147483647) : runK [c_slices_Clone_Word, c_slices_Clone_bool] (0) [] pf_impl_cloneMemory [tG (m.tc false [])] fun r o => r = tG (m.tc true []) ∧ o = [] := by
  obtain ⟨l1, l2⟩ := hpre
  conv => whnf
  repeat' (first | (refine chk_c ?_ ?_ <;> conv => whnf) | (refine And.intro ?_ ?_ <;> conv => whnf))
  all_goals first
    | (refine ⟨?_⟩; omega)
    | (refine ⟨?_⟩; simp; done)
    | (refine ⟨?_⟩; simp [LMem, LTwo] at *; omega)
    | rfl
    | exact True.intro
    | exact ⟨rfl, rfl⟩
theorem ok_impl_cloneMemory : FunOk Tryz.prog c_impl_cloneMemory := funOk (E := [c_slices_Clone_Word, c_slices_Clone_bool]) (envOk_cons ok_slices_Clone_Word (envOk_cons ok_slices_Clone_bool (envOk_nil))) mixd Tryz.func116 (pf := pf_impl_cloneMemory) (by kernel_rfl) fun ts K h => by
  obtain ⟨t0, e0, h⟩ := as1_out h
  subst e0
  obtain ⟨m, e1, hq⟩ := arG_out rd_mem h
  clear h
  subst e1
  have h := hq
  clear hq
  obtain ⟨hpre, h⟩ := chk_o h
  exact ⟨_, _, h, Nat.le_of_ble_eq_true (show Nat.ble 1 Tryz.f116.ntmps = true by kernel_rfl), _, run_impl_cloneMemory m hpre⟩

def sideState (t : Two) (who : Int) : State :=
  if who = 0 then ⟨t.a.regs, t.a.pc, t.mem, t.a.trap⟩ else if who = 1 then ⟨t.b.regs, t.b.pc, t.mem, t.b.trap⟩ else ⟨[], ⟨0, false, ⟨0, 0, 0, 0⟩⟩, ⟨[], []⟩, 0⟩

def LState (s : State) (n : Nat) : Prop := s.regs.length ≤ n ∧ LMem s.mem n

def pf_laws_eqState : PF := ⟨[.t 4], .seq (.reg [.s (.box 2 (.t 0)), .s (.box 3 (.t 1)), .s (.mv 4 (.k (.v (.c .ff))))]) (.seq (.seq (.reg [.s (.fa 5 (.t 2) 0), .s (.load 6 false 1 (.t 5)), .s (.fa 7 (.t 3) 0), .s (.load 8 false 1 (.t 7)), .s (.call (some 9) 95 [(.t 6), (.t 8)]), .s (.bnot 10 (.t 9))]) (.cond (.t 10) (.seq (.reg [.s (.mv 4 (.k (.v (.c .ff))))]) (.ret)) (.skip))) (.seq (.seq (.reg [.s (.fa 11 (.t 2) 1), .s (.load 12 true 6 (.t 11)), .s (.fa 13 (.t 3) 1), .s (.load 14 true 6 (.t 13)), .s (.call (some 15) 96 [(.t 12), (.t 14)]), .s (.bnot 16 (.t 15))]) (.cond (.t 16) (.seq (.reg [.s (.mv 4 (.k (.v (.c .ff))))]) (.ret)) (.skip))) (.seq (.seq (.reg [.s (.fa 17 (.t 2) 7), .s (.load 18 true 2 (.t 17)), .s (.fa 19 (.t 3) 7), .s (.load 20 true 2 (.t 19)), .s (.call (some 21) 97 [(.t 18), (.t 20)]), .s (.bnot 22 (.t 21))]) (.cond (.t 22) (.seq (.reg [.s (.mv 4 (.k (.v (.c .ff))))]) (.ret)) (.skip))) (.seq (.seq (.reg [.s (.fa 23 (.t 2) 9), .s (.load 24 false 1 (.t 23)), .s (.fa 25 (.t 3) 9), .s (.load 26 false 1 (.t 25)), .s (.bin 27 .neq (.t 24) (.t 26))]) (.cond (.t 27) (.seq (.reg [.s (.mv 4 (.k (.v (.c .ff))))]) (.ret)) (.skip))) (.seq (.reg [.s (.mv 4 (.k (.v (.c .tt))))]) (.ret))))))⟩
def c_laws_eqState : Fun := ⟨38, [], fun ts K => as2 ts fun t0 t1 => arG pStateT t0 fun a => arG pStateT t1 fun b => chk (LState a 2147483647) (K (tB (decide (a = b))) [])⟩
theorem run_laws_eqState (a : State) (b : State) (hpre : LState a 2147483647) : runK [c_laws_eqWordS, c_laws_eqWord, c_laws_eqMemory] (0) [] pf_laws_eqState [tG (a.tc false []), tG (b.tc false [])] fun r o => r = tB (decide (a = b)) ∧ o = [] := by
  obtain ⟨l1, l2, l3⟩ := hpre
  obtain ⟨a1, ⟨a2n, a2i, ⟨a2a, a2b, a2c, a2d⟩⟩, ⟨a3, a5⟩, a4⟩ := a
  obtain ⟨b1, ⟨b2n, b2i, ⟨b2a, b2b, b2c, b2d⟩⟩, ⟨b3, b5⟩, b4⟩ := b
  dsimp only at l1 l2 l3
  conv => whnf
  repeat' (first | (refine sel_i (fun h => ?_) (fun h => ?_) <;> conv => whnf) | (refine chk_c ?_ ?_ <;> conv => whnf))
  all_goals first
    | (refine ⟨?_⟩; assumption)
    | (refine ⟨?_⟩; exact ⟨by assumption, by assumption⟩)
    | (refine ⟨?_, rfl⟩; simp_all; done)
    | (refine ⟨?_, rfl⟩; simp_all; intros; simp_all; done)
theorem ok_laws_eqState : FunOk Tryz.prog c_laws_eqState := funOk (E := [c_laws_eqWordS, c_laws_eqWord, c_laws_eqMemory]) (envOk_cons ok_laws_eqWordS (envOk_cons ok_laws_eqWord (envOk_cons ok_laws_eqMemory (envOk_nil)))) mixd Tryz.func38 (pf := pf_laws_eqState) (by kernel_rfl) fun ts K h => by
  obtain ⟨t0, t1, e0, h⟩ := as2_out h
  subst e0
  obtain ⟨a, e1, hq⟩ := arG_out rd_state h
  clear h
  subst e1
  have h := hq
  clear hq
  obtain ⟨b, e1, hq⟩ := arG_out rd_state h
  clear h
  subst e1
  have h := hq
  clear hq
  obtain ⟨hpre, h⟩ := chk_o h
  exact ⟨_, _, h, Nat.le_of_ble_eq_true (show Nat.ble 2 Tryz.f38.ntmps = true by kernel_rfl), _, run_laws_eqState a b hpre⟩

def endSide (m : Side) (k : Int) : Int := k + 6 * m.regs.length
def markSide (m : Side) (k : Int) : Side := { m with regs := mkWordS m.regs.length (k) }
def SzSide (m : Side) : Prop := m.regs.length ≤ 2147483647
theorem etaSide (m : Side) : (⟨m.regs, m.pc, m.trap⟩ : Side) = m := rfl

def endState (m : State) (k : Int) : Int := endMemory m.mem (k + 6 * m.regs.length)
def markState (m : State) (k : Int) : State := { m with regs := mkWordS m.regs.length (k), mem := markMemory m.mem (k + 6 * m.regs.length) }
def SzState (m : State) : Prop := m.regs.length ≤ 2147483647 ∧ SzMemory m.mem
theorem mark_markState (m : State) (k : Int) : markState (markState m k) k = markState m k := by
  simp [SzState, endState, markState, SzMemory, endMemory, markMemory, mkWordS_length, mkBoolS_length]
theorem end_markState (m : State) (k : Int) : endState (markState m k) k = endState m k := by
  simp [SzState, endState, markState, SzMemory, endMemory, markMemory, mkWordS_length, mkBoolS_length]
theorem etaState (m : State) : (⟨m.regs, m.pc, m.mem, m.trap⟩ : State) = m := rfl

def endTwo (m : Two) (k : Int) : Int := endSide m.b (endSide m.a (endMemory m.mem (k)))
def markTwo (m : Two) (k : Int) : Two := { m with mem := markMemory m.mem (k), a := markSide m.a (endMemory m.mem (k)), b := markSide m.b (endSide m.a (endMemory m.mem (k))) }
def SzTwo (m : Two) : Prop := SzMemory m.mem ∧ SzSide m.a ∧ SzSide m.b
theorem mark_markTwo (m : Two) (k : Int) : markTwo (markTwo m k) k = markTwo m k := by
  simp [SzTwo, endTwo, markTwo, SzMemory, endMemory, markMemory, SzSide, endSide, markSide, mkWordS_length, mkBoolS_length]
theorem end_markTwo (m : Two) (k : Int) : endTwo (markTwo m k) k = endTwo m k := by
  simp [SzTwo, endTwo, markTwo, SzMemory, endMemory, markMemory, SzSide, endSide, markSide, mkWordS_length, mkBoolS_length]
theorem etaTwo (m : Two) : (⟨m.mem, m.a, m.b⟩ : Two) = m := rfl

theorem LTwo.mono {t : Two} {n m : Nat} (h : LTwo t n) (k : n ≤ m) : LTwo t m := ⟨⟨Nat.le_trans h.1.1 k, Nat.le_trans h.1.2 k⟩, Nat.le_trans h.2.1 k, Nat.le_trans h.2.2 k⟩
theorem etaMState (m : State) (k : Int) : (⟨(markState m k).regs, m.pc, (markState m k).mem, m.trap⟩ : State) = markState m k := rfl

def boundsOk (b t : Int) : Bool := decide (0 ≤ b) && decide (b ≤ t) && decide (t ≤ 4096)

def pf_impl_BoundsOk : PF := ⟨[.t 4], .seq (.reg [.s (.mv 4 (.k (.v (.c .ff))))]) (.seq (.reg [.s (.mv 5 (.t 0)), .s (.mv 6 (.t 1)), .s (.call (some 7) 60 [(.t 5), (.k (.v (.c (.int .i64 0)))), (.t 6)]), .s (.mv 8 (.t 7)), .g 8 true (some 9) (.mv 9 (.t 1)), .g 8 true (some 10) (.bin 10 .leq (.t 9) (.k (.v (.c (.int .i64 4096))))), .s (.pick 11 (.t 8) (.t 10) (.k (.v (.c .ff)))), .s (.mv 4 (.t 11))]) (.ret))⟩
def c_impl_BoundsOk : Fun := ⟨211, [], fun ts K => as2 ts fun t0 t1 => arC (pI .i64) t0 fun b => arC (pI .i64) t1 fun t => K (tB (boundsOk b t)) []⟩
theorem run_impl_BoundsOk (b : Int) (t : Int) : runK [c_impl_in] (0) [] pf_impl_BoundsOk [tI .i64 b, tI .i64 t] fun r o => r = tB (boundsOk b t) ∧ o = [] := by
  conv => whnf
  refine sel_i (fun h => ?_) (fun h => ?_) <;> conv => whnf
  all_goals (refine ⟨?_, rfl⟩; simp [inR] at h; simp [boundsOk] <;> omega)
theorem ok_impl_BoundsOk : FunOk Tryz.prog c_impl_BoundsOk := funOk (E := [c_impl_in]) (envOk_cons ok_impl_in (envOk_nil)) mixd Tryz.func211 (pf := pf_impl_BoundsOk) (by kernel_rfl) fun ts K h => by
  obtain ⟨t0, t1, e0, h⟩ := as2_out h
  subst e0
  obtain ⟨b, e1, hq⟩ := arC_out (rd_int .i64) h
  clear h
  subst e1
  have h := hq
  clear hq
  obtain ⟨t, e1, hq⟩ := arC_out (rd_int .i64) h
  clear h
  subst e1
  have h := hq
  clear hq
  exact ⟨_, _, h, Nat.le_of_ble_eq_true (show Nat.ble 2 Tryz.f211.ntmps = true by kernel_rfl), _, run_impl_BoundsOk b t⟩

def pf_spec_BoundsOk : PF := ⟨[.t 4], .seq (.reg [.s (.mv 4 (.k (.v (.c .ff))))]) (.seq (.reg [.s (.mv 5 (.t 0)), .s (.call (some 6) 77 [(.t 5), (.k (.v (.c (.int .i64 0)))), (.k (.v (.c (.int .i64 4096))))]), .s (.mv 7 (.t 6)), .g 7 true (some 8) (.mv 8 (.t 1)), .g 7 true (some 9) (.call (some 9) 77 [(.t 8), (.k (.v (.c (.int .i64 0)))), (.k (.v (.c (.int .i64 4096))))]), .s (.pick 10 (.t 7) (.t 9) (.k (.v (.c .ff)))), .s (.mv 11 (.t 10)), .g 11 true (some 12) (.mv 12 (.t 0)), .g 11 true (some 13) (.mv 13 (.t 1)), .g 11 true (some 14) (.bin 14 .leq (.t 12) (.t 13)), .s (.pick 15 (.t 11) (.t 14) (.k (.v (.c .ff)))), .s (.mv 4 (.t 15))]) (.ret))⟩
def c_spec_BoundsOk : Fun := ⟨252, [], fun ts K => as2 ts fun t0 t1 => arC (pI .i64) t0 fun b => arC (pI .i64) t1 fun t => K (tB (boundsOk b t)) []⟩
theorem run_spec_BoundsOk (b : Int) (t : Int) : runK [c_spec_l1In] (0) [] pf_spec_BoundsOk [tI .i64 b, tI .i64 t] fun r o => r = tB (boundsOk b t) ∧ o = [] := by
  conv => whnf
  repeat' (refine sel_i (fun h => ?_) (fun h => ?_) <;> conv => whnf)
  all_goals (refine ⟨?_, rfl⟩; simp_all [inR, boundsOk] <;> omega)
theorem ok_spec_BoundsOk : FunOk Tryz.prog c_spec_BoundsOk := funOk (E := [c_spec_l1In]) (envOk_cons ok_spec_l1In (envOk_nil)) mixd Tryz.func252 (pf := pf_spec_BoundsOk) (by kernel_rfl) fun ts K h => by
  obtain ⟨t0, t1, e0, h⟩ := as2_out h
  subst e0
  obtain ⟨b, e1, hq⟩ := arC_out (rd_int .i64) h
  clear h
  subst e1
  have h := hq
  clear hq
  obtain ⟨t, e1, hq⟩ := arC_out (rd_int .i64) h
  clear h
  subst e1
  have h := hq
  clear hq
  exact ⟨_, _, h, Nat.le_of_ble_eq_true (show Nat.ble 2 Tryz.f252.ntmps = true by kernel_rfl), _, run_spec_BoundsOk b t⟩

def packB (b : Int) (e : Nat) : Int := b / 2 ^ e
def packL (b t : Int) (e : Nat) : Int := (t - b / 2 ^ e * 2 ^ e + 2 ^ e - 1) / 2 ^ e
theorem e_cases {e : Nat} (he : e ≤ 6) : e = 0 ∨ e = 1 ∨ e = 2 ∨ e = 3 ∨ e = 4 ∨ e = 5 ∨ e = 6 := by omega
theorem e_min {e : Nat} (he : e ≤ 6) : min (e : Int).toNat IntKind.i64.bits = e := by rcases e_cases he with rfl | rfl | rfl | rfl | rfl | rfl | rfl <;> decide
theorem p_pos (e : Nat) : (0 : Int) ≤ 2 ^ e := Int.le_of_lt (Int.pow_pos (by decide))
theorem shr_b {b : Int} {e : Nat} (he : e ≤ 6) : b.fdiv (2 ^ min (e : Int).toNat IntKind.i64.bits) = packB b e := by
  rw [e_min he, Int.fdiv_eq_ediv_of_nonneg _ (p_pos e)]; rfl
theorem shr_l {b t : Int} {e : Nat} (he : e ≤ 6) (h : 0 ≤ b) (h1 : b ≤ t) (h2 : t ≤ 4096) :
    (IntKind.i64.wrap (IntKind.i64.wrap (IntKind.i64.wrap (t - IntKind.i64.wrap (packB b e * 2 ^ min (e : Int).toNat IntKind.i64.bits)) + IntKind.i64.wrap (1 * 2 ^ min (e : Int).toNat IntKind.i64.bits)) - 1)).fdiv (2 ^ min (e : Int).toNat IntKind.i64.bits) = packL b t e := by
  rw [e_min he, Int.fdiv_eq_ediv_of_nonneg _ (p_pos e)]
  unfold packB packL
  rcases e_cases he with rfl | rfl | rfl | rfl | rfl | rfl | rfl <;> simp only [Int.reducePow, Int.pow_zero] <;>
    rw [wrap_id (n := _ * _) (by omega) (by omega), wrap_id (n := t - _) (by omega) (by omega), wrap_id (n := 1 * _) (by omega) (by omega), wrap_id (n := _ + _) (by omega) (by omega), wrap_id (by omega) (by omega)] <;> simp
theorem shr_m {b t : Int} {e : Nat} (he : e ≤ 6) (h : 0 ≤ b) (h1 : b ≤ t) (h2 : t ≤ 4096) :
    packB (IntKind.i64.wrap (IntKind.i64.wrap (IntKind.i64.wrap (t - IntKind.i64.wrap (packB b e * 2 ^ min (e : Int).toNat IntKind.i64.bits)) + IntKind.i64.wrap (1 * 2 ^ min (e : Int).toNat IntKind.i64.bits)) - 1)) e = packL b t e := by
  rw [← shr_l he h h1 h2, shr_b he]
def packOk (b t : Int) (e : Nat) : Bool := decide (packB b e ≤ 63) && decide (packL b t e ≤ 63)
def packGo (b t : Int) : Nat → Nat → Option Packed
  | 0, _ => none
  | n + 1, e => if packOk b t e then some ⟨e, packB b e, packL b t e⟩ else packGo b t n (e + 1)
def pack (b t : Int) : Option Packed := if boundsOk b t then packGo b t 7 0 else none
def packT (o : Option Packed) : Tree := .tup [.g ((o.getD ⟨0, 0, 0⟩).tc []), .c (.bool o.isSome)]
theorem pack_no {b t : Int} (h : boundsOk b t = false) : pack b t = none := by simp [pack, h]
theorem pack_yes {b t : Int} (h : boundsOk b t = true) : pack b t = packGo b t 7 0 := by simp [pack, h]
theorem packGo_t {b t : Int} {n e : Nat} (h : packOk b t e = true) : packGo b t (n + 1) e = some ⟨e, packB b e, packL b t e⟩ := by simp [packGo, h]
theorem packGo_f {b t : Int} {n e : Nat} (h : packOk b t e = false) : packGo b t (n + 1) e = packGo b t n (e + 1) := by simp [packGo, h]
theorem bounds_n {b t : Int} (h : boundsOk b t = true) : 0 ≤ b ∧ b ≤ t ∧ t ≤ 4096 := by simp [boundsOk] at h; omega

def lb_spec_Pack_0 : PC := .seq (.seq (.reg [.s (.mv 14 (.t 6)), .s (.bin 15 .leq (.t 14) (.k (.v (.c (.int .i64 6)))))]) (.cond (.t 15) (.skip) (.exit 0))) (.seq (.blk 1 (.seq (.reg [.s (.mv 18 (.t 0)), .s (.mv 19 (.t 6)), .s (.bin 20 .shr (.t 18) (.t 19)), .s (.mv 7 (.t 20))]) (.seq (.rgd [] [.s (.mv 21 (.t 1)), .s (.mv 22 (.t 7)), .s (.mv 23 (.t 6)), .s (.bin 24 .shl (.t 22) (.t 23)), .s (.bin 25 .sub (.t 21) (.t 24)), .s (.mv 26 (.t 6)), .s (.bin 27 .shl (.k (.v (.c (.int .i64 1)))) (.t 26)), .s (.bin 28 .add (.t 25) (.t 27)), .s (.bin 29 .sub (.t 28) (.k (.v (.c (.int .i64 1))))), .s (.mv 30 (.t 6)), .s (.bin 31 .shr (.t 29) (.t 30)), .s (.mv 8 (.t 31))] (.tk 0 (.tk 1 (.tk 2 (.tk 3 (.tk 4 (.tk 5 (.tk 6 (.tk 7 (.tk 8 (.tk 9 (.tk 10 (.tk 11 (.done none)))))))))))))) (.seq (.reg [.s (.mv 32 (.t 7)), .s (.bin 33 .leq (.t 32) (.k (.v (.c (.int .i64 63))))), .s (.mv 34 (.t 33)), .g 34 true (some 35) (.mv 35 (.t 8)), .g 34 true (some 36) (.bin 36 .leq (.t 35) (.k (.v (.c (.int .i64 63))))), .s (.pick 37 (.t 34) (.t 36) (.k (.v (.c .ff))))]) (.cond (.t 37) (.seq (.reg [.s (.mv 38 (.t 6)), .s (.mv 39 (.t 7)), .s (.mv 40 (.t 8)), .s (.build 41 [.int .i64 0, .int .i64 0, .int .i64 0] [(0, 1, (.t 38)), (1, 1, (.t 39)), (2, 1, (.t 40))]), .s (.store 3 (.t 4) (.t 41)), .s (.mv 5 (.k (.v (.c .tt))))]) (.ret)) (.skip)))))) (.reg [.s (.mv 16 (.t 6)), .s (.bin 17 .add (.t 16) (.k (.v (.c (.int .i64 1))))), .s (.mv 6 (.t 17))]))
def pf_spec_Pack : PF := ⟨[.c 4 true 3, .t 5], .seq (.reg [.s (.alloc 4 [.int .i64 0, .int .i64 0, .int .i64 0]), .s (.mv 5 (.k (.v (.c .ff))))]) (.seq (.seq (.reg [.s (.mv 9 (.t 0)), .s (.mv 10 (.t 1)), .s (.call (some 11) 252 [(.t 9), (.t 10)]), .s (.bnot 12 (.t 11))]) (.cond (.t 12) (.seq (.reg [.s (.build 13 [.int .i64 0, .int .i64 0, .int .i64 0] []), .s (.store 3 (.t 4) (.t 13)), .s (.mv 5 (.k (.v (.c .ff))))]) (.ret)) (.skip))) (.seq (.seq (.reg [.s (.mv 6 (.k (.v (.c (.int .i64 0)))))]) (.blk 0 (.loop [0, 1, 4, 6] lb_spec_Pack_0))) (.seq (.reg [.s (.build 42 [.int .i64 0, .int .i64 0, .int .i64 0] []), .s (.store 3 (.t 4) (.t 42)), .s (.mv 5 (.k (.v (.c .ff))))]) (.ret))))⟩
def c_spec_Pack : Fun := ⟨267, [], fun ts K => as2 ts fun t0 t1 => arC (pI .i64) t0 fun b => arC (pI .i64) t1 fun t => K (packT (pack b t)) []⟩
theorem run_spec_Pack (b : Int) (t : Int) : runK [c_spec_BoundsOk] (8) [] pf_spec_Pack [tI .i64 b, tI .i64 t] fun r o => r = packT (pack b t) ∧ o = [] := by
  conv => whnf
  refine sel_i (fun h => ?_) (fun h => ?_)
  · rw [pack_no (by simpa using h)]
    conv => whnf
    exact ⟨rfl, rfl⟩
  have hb : boundsOk b t = true := by simpa using h
  obtain ⟨b1, b2, b3⟩ := bounds_n hb
  rw [pack_yes hb]
  conv => whnf
  refine loop (α := Nat) (fun e => ⟨[(0, .v (.c (.int .i64 b))), (1, .v (.c (.int .i64 t))), (4, .v (.c (.ptr 0 0))), (6, .v (.c (.int .i64 (e : Int))))], [(0, some (.box true [.int .i64 0, .int .i64 0, .int .i64 0]))], nums.tail, [], false, []⟩)
      (fun e => e ≤ 7 ∧ packGo b t 7 0 = packGo b t (7 - e) e) (fun e => 7 - e) (fun e R hI hR => ?_) 0 _ ⟨by omega, rfl⟩ (by omega)
  obtain ⟨hI, hG⟩ := hI
  conv => whnf
  refine sel_i (fun h2 => ?_) (fun h2 => ?_)
  · have he : e ≤ 6 := by simp at h2; omega
    rw [show 7 - e = (6 - e) + 1 by omega] at hG
    conv => whnf
    repeat' (refine chk_c ?_ ?_ <;> conv => whnf)
    any_goals (refine ⟨?_⟩; omega)
    simp only [shr_b he, shr_m he b1 b2 b3]
    refine sel_i (fun h3 => ?_) (fun h3 => ?_)
    · conv => whnf
      refine sel_i (fun h4 => ?_) (fun h4 => ?_)
      · rw [hG, packGo_t (by simp only [packOk, h3, h4, Bool.and_self])]
        conv => whnf
        exact ⟨rfl, rfl⟩
      · conv => whnf
        rw [wrap_id (by omega) (by omega)]
        exact hR (e + 1) ⟨by omega, by rw [hG, packGo_f (by simp only [packOk, h3, h4, Bool.and_false])]; rw [show 7 - (e + 1) = 6 - e by omega]⟩ (by omega)
    · conv => whnf
      rw [wrap_id (by omega) (by omega)]
      exact hR (e + 1) ⟨by omega, by rw [hG, packGo_f (by simp only [packOk, h3, Bool.false_and])]; rw [show 7 - (e + 1) = 6 - e by omega]⟩ (by omega)
  · have he : e = 7 := by simp at h2; omega
    subst he
    rw [hG]
    conv => whnf
    exact ⟨rfl, rfl⟩
theorem ok_spec_Pack : FunOk Tryz.prog c_spec_Pack := funOk (E := [c_spec_BoundsOk]) (envOk_cons ok_spec_BoundsOk (envOk_nil)) mixd Tryz.func267 (pf := pf_spec_Pack) (by kernel_rfl) fun ts K h => by
  obtain ⟨t0, t1, e0, h⟩ := as2_out h
  subst e0
  obtain ⟨b, e1, hq⟩ := arC_out (rd_int .i64) h
  clear h
  subst e1
  have h := hq
  clear hq
  obtain ⟨t, e1, hq⟩ := arC_out (rd_int .i64) h
  clear h
  subst e1
  have h := hq
  clear hq
  exact ⟨_, _, h, Nat.le_of_ble_eq_true (show Nat.ble 2 Tryz.f267.ntmps = true by kernel_rfl), _, run_spec_Pack b t⟩

theorem p_wrap {e : Nat} (he : e ≤ 6) : IntKind.i64.wrap (1 * 2 ^ min (e : Int).toNat IntKind.i64.bits) = 2 ^ e := by
  rw [e_min he]
  rcases e_cases he with rfl | rfl | rfl | rfl | rfl | rfl | rfl <;> decide
theorem quo_b {b : Int} {e : Nat} (he : e ≤ 6) (h : 0 ≤ b) (h1 : b ≤ 4096) : IntKind.i64.wrap (b.tdiv (2 ^ e)) = packB b e := by
  rw [Int.tdiv_eq_ediv_of_nonneg h]
  unfold packB
  rcases e_cases he with rfl | rfl | rfl | rfl | rfl | rfl | rfl <;> simp only [Int.reducePow, Int.pow_zero] <;> exact wrap_id (by omega) (by omega)
theorem quo_l {b t : Int} {e : Nat} (he : e ≤ 6) (h : 0 ≤ b) (h1 : b ≤ t) (h2 : t ≤ 4096) :
    IntKind.i64.wrap ((IntKind.i64.wrap (IntKind.i64.wrap (IntKind.i64.wrap (t - IntKind.i64.wrap (packB b e * 2 ^ e)) + 2 ^ e) - 1)).tdiv (2 ^ e)) = packL b t e := by
  unfold packB packL
  rcases e_cases he with rfl | rfl | rfl | rfl | rfl | rfl | rfl <;> simp only [Int.reducePow, Int.pow_zero] <;>
    rw [wrap_id (n := _ * _) (by omega) (by omega), wrap_id (n := t - _) (by omega) (by omega), wrap_id (n := _ + _) (by omega) (by omega), wrap_id (n := _ - 1) (by omega) (by omega), Int.tdiv_eq_ediv_of_nonneg (by omega)] <;> exact wrap_id (by omega) (by omega)

def lb_impl_Pack_0 : PC := .seq (.reg [.s (.bin 16 .lss (.t 15) (.k (.v (.c (.int .i64 7)))))]) (.seq (.cond (.t 16) (.skip) (.exit 0)) (.seq (.blk 1 (.seq (.reg [.s (.mv 17 (.t 15)), .s (.mv 6 (.t 17))]) (.seq (.reg [.s (.mv 18 (.t 6)), .s (.bin 19 .shl (.k (.v (.c (.int .i64 1)))) (.t 18)), .s (.mv 7 (.t 19))]) (.seq (.reg [.s (.mv 20 (.t 0)), .s (.mv 21 (.t 7)), .s (.bin 22 .quo (.t 20) (.t 21)), .s (.mv 8 (.t 22))]) (.seq (.reg [.s (.mv 23 (.t 1)), .s (.mv 24 (.t 8)), .s (.mv 25 (.t 7)), .s (.bin 26 .mul (.t 24) (.t 25)), .s (.bin 27 .sub (.t 23) (.t 26)), .s (.mv 28 (.t 7)), .s (.bin 29 .add (.t 27) (.t 28)), .s (.bin 30 .sub (.t 29) (.k (.v (.c (.int .i64 1))))), .s (.mv 31 (.t 7)), .s (.bin 32 .quo (.t 30) (.t 31)), .s (.mv 9 (.t 32))]) (.seq (.reg [.s (.mv 33 (.t 8)), .s (.bin 34 .leq (.t 33) (.k (.v (.c (.int .i64 63))))), .s (.mv 35 (.t 34)), .g 35 true (some 36) (.mv 36 (.t 9)), .g 35 true (some 37) (.bin 37 .leq (.t 36) (.k (.v (.c (.int .i64 63))))), .s (.pick 38 (.t 35) (.t 37) (.k (.v (.c .ff))))]) (.cond (.t 38) (.seq (.reg [.s (.mv 39 (.t 6)), .s (.mv 40 (.t 8)), .s (.mv 41 (.t 9)), .s (.build 42 [.int .i64 0, .int .i64 0, .int .i64 0] [(0, 1, (.t 39)), (1, 1, (.t 40)), (2, 1, (.t 41))]), .s (.store 3 (.t 4) (.t 42)), .s (.mv 5 (.k (.v (.c .tt))))]) (.ret)) (.skip)))))))) (.reg [.s (.bin 43 .add (.t 15) (.k (.v (.c (.int .i64 1))))), .s (.mv 15 (.t 43))])))
def pf_impl_Pack : PF := ⟨[.c 4 true 3, .t 5], .seq (.reg [.s (.alloc 4 [.int .i64 0, .int .i64 0, .int .i64 0]), .s (.mv 5 (.k (.v (.c .ff))))]) (.seq (.seq (.reg [.s (.mv 10 (.t 0)), .s (.mv 11 (.t 1)), .s (.call (some 12) 211 [(.t 10), (.t 11)]), .s (.bnot 13 (.t 12))]) (.cond (.t 13) (.seq (.reg [.s (.build 14 [.int .i64 0, .int .i64 0, .int .i64 0] []), .s (.store 3 (.t 4) (.t 14)), .s (.mv 5 (.k (.v (.c .ff))))]) (.ret)) (.skip))) (.seq (.seq (.reg [.s (.mv 15 (.k (.v (.c (.int .i64 0)))))]) (.blk 0 (.loop [0, 1, 4, 15] lb_impl_Pack_0))) (.seq (.reg [.s (.build 44 [.int .i64 0, .int .i64 0, .int .i64 0] []), .s (.store 3 (.t 4) (.t 44)), .s (.mv 5 (.k (.v (.c .ff))))]) (.ret))))⟩
def c_impl_Pack : Fun := ⟨253, [], fun ts K => as2 ts fun t0 t1 => arC (pI .i64) t0 fun b => arC (pI .i64) t1 fun t => K (packT (pack b t)) []⟩
theorem run_impl_Pack (b : Int) (t : Int) : runK [c_impl_BoundsOk] (8) [] pf_impl_Pack [tI .i64 b, tI .i64 t] fun r o => r = packT (pack b t) ∧ o = [] := by
  conv => whnf
  refine sel_i (fun h => ?_) (fun h => ?_)
  · rw [pack_no (by simpa using h)]
    conv => whnf
    exact ⟨rfl, rfl⟩
  have hb : boundsOk b t = true := by simpa using h
  obtain ⟨b1, b2, b3⟩ := bounds_n hb
  rw [pack_yes hb]
  conv => whnf
  refine loop (α := Nat) (fun e => ⟨[(0, .v (.c (.int .i64 b))), (1, .v (.c (.int .i64 t))), (4, .v (.c (.ptr 0 0))), (15, .v (.c (.int .i64 (e : Int))))], [(0, some (.box true [.int .i64 0, .int .i64 0, .int .i64 0]))], nums.tail, [], false, []⟩)
      (fun e => e ≤ 7 ∧ packGo b t 7 0 = packGo b t (7 - e) e) (fun e => 7 - e) (fun e R hI hR => ?_) 0 _ ⟨by omega, rfl⟩ (by omega)
  obtain ⟨hI, hG⟩ := hI
  conv => whnf
  refine sel_i (fun h2 => ?_) (fun h2 => ?_)
  · have he : e ≤ 6 := by simp at h2; omega
    rw [show 7 - e = (6 - e) + 1 by omega] at hG
    conv => whnf
    repeat' (refine chk_c ?_ ?_ <;> conv => whnf)
    any_goals (refine ⟨?_⟩; first | omega | (rw [p_wrap he]; exact Int.ne_of_gt (Int.pow_pos (by decide))))
    simp only [p_wrap he, quo_b he b1 (Int.le_trans b2 b3), quo_l he b1 b2 b3]
    refine sel_i (fun h3 => ?_) (fun h3 => ?_)
    · conv => whnf
      refine sel_i (fun h4 => ?_) (fun h4 => ?_)
      · rw [hG, packGo_t (by simp only [packOk, h3, h4, Bool.and_self])]
        conv => whnf
        exact ⟨rfl, rfl⟩
      · conv => whnf
        rw [wrap_id (by omega) (by omega)]
        exact hR (e + 1) ⟨by omega, by rw [hG, packGo_f (by simp only [packOk, h3, h4, Bool.and_false])]; rw [show 7 - (e + 1) = 6 - e by omega]⟩ (by omega)
    · conv => whnf
      rw [wrap_id (by omega) (by omega)]
      exact hR (e + 1) ⟨by omega, by rw [hG, packGo_f (by simp only [packOk, h3, Bool.false_and])]; rw [show 7 - (e + 1) = 6 - e by omega]⟩ (by omega)
  · have he : e = 7 := by simp at h2; omega
    subst he
    rw [hG]
    conv => whnf
    exact ⟨rfl, rfl⟩
theorem ok_impl_Pack : FunOk Tryz.prog c_impl_Pack := funOk (E := [c_impl_BoundsOk]) (envOk_cons ok_impl_BoundsOk (envOk_nil)) mixd Tryz.func253 (pf := pf_impl_Pack) (by kernel_rfl) fun ts K h => by
  obtain ⟨t0, t1, e0, h⟩ := as2_out h
  subst e0
  obtain ⟨b, e1, hq⟩ := arC_out (rd_int .i64) h
  clear h
  subst e1
  have h := hq
  clear hq
  obtain ⟨t, e1, hq⟩ := arC_out (rd_int .i64) h
  clear h
  subst e1
  have h := hq
  clear hq
  exact ⟨_, _, h, Nat.le_of_ble_eq_true (show Nat.ble 2 Tryz.f253.ntmps = true by kernel_rfl), _, run_impl_Pack b t⟩

def pf_spec_l1Min : PF := ⟨[.t 4], .seq (.reg [.s (.mv 4 (.k (.v (.c (.int .i64 0)))))]) (.seq (.seq (.reg [.s (.mv 5 (.t 0)), .s (.mv 6 (.t 1)), .s (.bin 7 .lss (.t 5) (.t 6))]) (.cond (.t 7) (.seq (.reg [.s (.mv 8 (.t 0)), .s (.mv 4 (.t 8))]) (.ret)) (.skip))) (.seq (.reg [.s (.mv 9 (.t 1)), .s (.mv 4 (.t 9))]) (.ret)))⟩
def c_spec_l1Min : Fun := ⟨79, [], fun ts K => as2 ts fun t0 t1 => arC (pI .i64) t0 fun a => arC (pI .i64) t1 fun b => K (tN (min a b)) []⟩
theorem run_spec_l1Min (a : Int) (b : Int) : runK [] (0) [] pf_spec_l1Min [tI .i64 a, tI .i64 b] fun r o => r = tN (min a b) ∧ o = [] := by
  conv => whnf
  refine sel_i (fun h => ?_) (fun h => ?_) <;> conv => whnf
  all_goals (refine ⟨?_, rfl⟩; simp at h; congr 3; omega)
theorem ok_spec_l1Min : FunOk Tryz.prog c_spec_l1Min := funOk (E := []) (envOk_nil) mixd Tryz.func79 (pf := pf_spec_l1Min) (by kernel_rfl) fun ts K h => by
  obtain ⟨t0, t1, e0, h⟩ := as2_out h
  subst e0
  obtain ⟨a, e1, hq⟩ := arC_out (rd_int .i64) h
  clear h
  subst e1
  have h := hq
  clear hq
  obtain ⟨b, e1, hq⟩ := arC_out (rd_int .i64) h
  clear h
  subst e1
  have h := hq
  clear hq
  exact ⟨_, _, h, Nat.le_of_ble_eq_true (show Nat.ble 2 Tryz.f79.ntmps = true by kernel_rfl), _, run_spec_l1Min a b⟩

def unpackOk (p : Packed) : Bool := inR p.e 0 6 && inR p.b 0 63 && inR p.l 0 63
def unpack (p : Packed) : Int × Int × Bool := if unpackOk p then (p.b * 2 ^ p.e.toNat, min 4096 ((p.b + p.l) * 2 ^ p.e.toNat), true) else (0, 0, false)
def unpackT (x : Int × Int × Bool) : Tree := .tup [.c (.int .i64 x.1), .c (.int .i64 x.2.1), .c (.bool x.2.2)]
theorem unpack_no {p : Packed} (h : unpackOk p = false) : unpack p = (0, 0, false) := by simp [unpack, h]
theorem unpack_yes {p : Packed} (h : unpackOk p = true) : unpack p = (p.b * 2 ^ p.e.toNat, min 4096 ((p.b + p.l) * 2 ^ p.e.toNat), true) := by simp [unpack, h]

theorem unpack_sh {p : Packed} (h : unpackOk p = true) : IntKind.i64.wrap (p.b * 2 ^ min p.e.toNat IntKind.i64.bits) = p.b * 2 ^ p.e.toNat ∧ IntKind.i64.wrap (IntKind.i64.wrap (p.b + p.l) * 2 ^ min p.e.toNat IntKind.i64.bits) = (p.b + p.l) * 2 ^ p.e.toNat := by
  obtain ⟨pe, pb, pl⟩ := p
  simp [unpackOk, inR] at h
  obtain ⟨e, he⟩ : ∃ e : Nat, pe = e := ⟨pe.toNat, by omega⟩
  subst he
  dsimp only
  have he6 : e ≤ 6 := by omega
  rw [e_min he6, wrap_id (n := pb + pl) (by omega) (by omega)]
  rcases e_cases he6 with rfl | rfl | rfl | rfl | rfl | rfl | rfl <;> simp only [Int.reducePow, Int.pow_zero, Int.toNat_natCast] <;> exact ⟨wrap_id (by omega) (by omega), wrap_id (by omega) (by omega)⟩
def wide (b t : Int) : Int × Int := if boundsOk b t then (if (pack b t).isSome then ((unpack ((pack b t).getD ⟨0, 0, 0⟩)).1, (unpack ((pack b t).getD ⟨0, 0, 0⟩)).2.1) else (0, 4096)) else (0, 0)
theorem pack_isSome {b t : Int} (h : (pack b t).isSome = true) : boundsOk b t = true := by
  by_cases hb : boundsOk b t = true
  · exact hb
  · rw [pack_no (by simpa using hb)] at h; simp at h
def wideT (x : Int × Int) : Tree := .tup [.c (.int .i64 x.1), .c (.int .i64 x.2)]
def exact_ (b t : Int) : Bool := boundsOk b t && decide ((wide b t).1 = b) && decide ((wide b t).2 = t)
def keyOk (k : Key) : Bool := exact_ k.base k.top && inR k.perms 0 63 && inR k.sealed 0 7
def wordOk (w : Word) : Bool := inR w.n 0 65535 && (if w.is then keyOk w.key else decide (w.key = ⟨0, 0, 0, 0⟩))

def pf_spec_Unpack : PF := ⟨[.t 2, .t 3, .t 4], .seq (.reg [.s (.box 1 (.t 0)), .s (.mv 2 (.k (.v (.c (.int .i64 0))))), .s (.mv 3 (.k (.v (.c (.int .i64 0))))), .s (.mv 4 (.k (.v (.c .ff))))]) (.seq (.seq (.reg [.s (.fa 5 (.t 1) 0), .s (.load 6 false 1 (.t 5)), .s (.call (some 7) 77 [(.t 6), (.k (.v (.c (.int .i64 0)))), (.k (.v (.c (.int .i64 6))))]), .s (.bnot 8 (.t 7)), .s (.mv 9 (.t 8)), .g 9 false (some 10) (.fa 10 (.t 1) 1), .g 9 false (some 11) (.load 11 false 1 (.t 10)), .g 9 false (some 12) (.call (some 12) 77 [(.t 11), (.k (.v (.c (.int .i64 0)))), (.k (.v (.c (.int .i64 63))))]), .g 9 false (some 13) (.bnot 13 (.t 12)), .s (.pick 14 (.t 9) (.k (.v (.c .tt))) (.t 13)), .s (.mv 15 (.t 14)), .g 15 false (some 16) (.fa 16 (.t 1) 2), .g 15 false (some 17) (.load 17 false 1 (.t 16)), .g 15 false (some 18) (.call (some 18) 77 [(.t 17), (.k (.v (.c (.int .i64 0)))), (.k (.v (.c (.int .i64 63))))]), .g 15 false (some 19) (.bnot 19 (.t 18)), .s (.pick 20 (.t 15) (.k (.v (.c .tt))) (.t 19))]) (.cond (.t 20) (.seq (.reg [.s (.mv 2 (.k (.v (.c (.int .i64 0))))), .s (.mv 3 (.k (.v (.c (.int .i64 0))))), .s (.mv 4 (.k (.v (.c .ff))))]) (.ret)) (.skip))) (.seq (.rgd [] [.s (.fa 21 (.t 1) 1), .s (.load 22 false 1 (.t 21)), .s (.fa 23 (.t 1) 0), .s (.load 24 false 1 (.t 23)), .s (.bin 25 .shl (.t 22) (.t 24)), .s (.fa 26 (.t 1) 1), .s (.load 27 false 1 (.t 26)), .s (.fa 28 (.t 1) 2), .s (.load 29 false 1 (.t 28)), .s (.bin 30 .add (.t 27) (.t 29)), .s (.fa 31 (.t 1) 0), .s (.load 32 false 1 (.t 31)), .s (.bin 33 .shl (.t 30) (.t 32)), .s (.call (some 34) 79 [(.t 33), (.k (.v (.c (.int .i64 4096))))]), .s (.mv 2 (.t 25)), .s (.mv 3 (.t 34)), .s (.mv 4 (.k (.v (.c .tt))))] (.tk 0 (.tk 1 (.tk 2 (.tk 3 (.tk 4 (.tk 5 (.tk 6 (.tk 7 (.tk 8 (.tk 9 (.tk 10 (.tk 11 (.tk 12 (.one 13 false (.tk 14 (.tk 15 (.tk 16 (.done none))))))))))))))))))) (.ret)))⟩
def c_spec_Unpack : Fun := ⟨268, [], fun ts K => as1 ts fun t0 => arG pPackedT t0 fun p => K (unpackT (unpack p)) []⟩
theorem run_spec_Unpack (p : Packed) : runK [c_spec_l1In, c_spec_l1Min] (0) [] pf_spec_Unpack [tG (p.tc [])] fun r o => r = unpackT (unpack p) ∧ o = [] := by
  conv => whnf
  repeat' (first | (refine sel_i (fun h => ?_) (fun h => ?_) <;> conv => whnf) | (refine chk_c ?_ ?_ <;> conv => whnf) | (refine And.intro ?_ rfl) | (refine And.intro ?_ ?_ <;> conv => whnf))
  all_goals first
    | (rw [unpack_no (by simp_all [unpackOk])]; rfl)
    | (refine ⟨?_⟩; simp_all [inR]; done)
    | (have hk : unpackOk p = true := by simp_all [unpackOk]
       rw [(unpack_sh hk).1, (unpack_sh hk).2, unpack_yes hk]; rfl)
    | (have hk : unpackOk p = true := by simp_all [unpackOk]
       rw [(unpack_sh hk).1, (unpack_sh hk).2, unpack_yes hk, Int.min_comm]; rfl)
theorem ok_spec_Unpack : FunOk Tryz.prog c_spec_Unpack := funOk (E := [c_spec_l1In, c_spec_l1Min]) (envOk_cons ok_spec_l1In (envOk_cons ok_spec_l1Min (envOk_nil))) mixd Tryz.func268 (pf := pf_spec_Unpack) (by kernel_rfl) fun ts K h => by
  obtain ⟨t0, e0, h⟩ := as1_out h
  subst e0
  obtain ⟨p, e1, hq⟩ := arG_out rd_packed h
  clear h
  subst e1
  have h := hq
  clear hq
  exact ⟨_, _, h, Nat.le_of_ble_eq_true (show Nat.ble 1 Tryz.f268.ntmps = true by kernel_rfl), _, run_spec_Unpack p⟩

def pf_impl_Unpack : PF := ⟨[.t 2, .t 3, .t 4], .seq (.reg [.s (.box 1 (.t 0)), .s (.mv 2 (.k (.v (.c (.int .i64 0))))), .s (.mv 3 (.k (.v (.c (.int .i64 0))))), .s (.mv 4 (.k (.v (.c .ff))))]) (.seq (.seq (.reg [.s (.fa 5 (.t 1) 0), .s (.load 6 false 1 (.t 5)), .s (.call (some 7) 60 [(.t 6), (.k (.v (.c (.int .i64 0)))), (.k (.v (.c (.int .i64 6))))]), .s (.bnot 8 (.t 7)), .s (.mv 9 (.t 8)), .g 9 false (some 10) (.fa 10 (.t 1) 1), .g 9 false (some 11) (.load 11 false 1 (.t 10)), .g 9 false (some 12) (.call (some 12) 60 [(.t 11), (.k (.v (.c (.int .i64 0)))), (.k (.v (.c (.int .i64 63))))]), .g 9 false (some 13) (.bnot 13 (.t 12)), .s (.pick 14 (.t 9) (.k (.v (.c .tt))) (.t 13)), .s (.mv 15 (.t 14)), .g 15 false (some 16) (.fa 16 (.t 1) 2), .g 15 false (some 17) (.load 17 false 1 (.t 16)), .g 15 false (some 18) (.call (some 18) 60 [(.t 17), (.k (.v (.c (.int .i64 0)))), (.k (.v (.c (.int .i64 63))))]), .g 15 false (some 19) (.bnot 19 (.t 18)), .s (.pick 20 (.t 15) (.k (.v (.c .tt))) (.t 19))]) (.cond (.t 20) (.seq (.reg [.s (.mv 2 (.k (.v (.c (.int .i64 0))))), .s (.mv 3 (.k (.v (.c (.int .i64 0))))), .s (.mv 4 (.k (.v (.c .ff))))]) (.ret)) (.skip))) (.seq (.rgd [] [.s (.fa 21 (.t 1) 1), .s (.load 22 false 1 (.t 21)), .s (.fa 23 (.t 1) 0), .s (.load 24 false 1 (.t 23)), .s (.bin 25 .shl (.t 22) (.t 24)), .s (.fa 26 (.t 1) 1), .s (.load 27 false 1 (.t 26)), .s (.fa 28 (.t 1) 2), .s (.load 29 false 1 (.t 28)), .s (.bin 30 .add (.t 27) (.t 29)), .s (.fa 31 (.t 1) 0), .s (.load 32 false 1 (.t 31)), .s (.bin 33 .shl (.t 30) (.t 32)), .s (.mm 34 false (.k (.v (.c (.int .i64 4096)))) (.t 33)), .s (.mv 2 (.t 25)), .s (.mv 3 (.t 34)), .s (.mv 4 (.k (.v (.c .tt))))] (.tk 0 (.tk 1 (.tk 2 (.tk 3 (.tk 4 (.tk 5 (.tk 6 (.tk 7 (.tk 8 (.tk 9 (.tk 10 (.tk 11 (.tk 12 (.tk 13 (.tk 14 (.tk 15 (.tk 16 (.done none))))))))))))))))))) (.ret)))⟩
def c_impl_Unpack : Fun := ⟨254, [], fun ts K => as1 ts fun t0 => arG pPackedT t0 fun p => K (unpackT (unpack p)) []⟩
theorem run_impl_Unpack (p : Packed) : runK [c_impl_in] (0) [] pf_impl_Unpack [tG (p.tc [])] fun r o => r = unpackT (unpack p) ∧ o = [] := by
  conv => whnf
  repeat' (first | (refine sel_i (fun h => ?_) (fun h => ?_) <;> conv => whnf) | (refine chk_c ?_ ?_ <;> conv => whnf) | (refine And.intro ?_ rfl) | (refine And.intro ?_ ?_ <;> conv => whnf))
  all_goals first
    | (rw [unpack_no (by simp_all [unpackOk])]; rfl)
    | (refine ⟨?_⟩; simp_all [inR]; done)
    | (have hk : unpackOk p = true := by simp_all [unpackOk]
       rw [(unpack_sh hk).1, (unpack_sh hk).2, unpack_yes hk]; rfl)
    | (have hk : unpackOk p = true := by simp_all [unpackOk]
       rw [(unpack_sh hk).1, (unpack_sh hk).2, unpack_yes hk, Int.min_comm]; rfl)
theorem ok_impl_Unpack : FunOk Tryz.prog c_impl_Unpack := funOk (E := [c_impl_in]) (envOk_cons ok_impl_in (envOk_nil)) mixd Tryz.func254 (pf := pf_impl_Unpack) (by kernel_rfl) fun ts K h => by
  obtain ⟨t0, e0, h⟩ := as1_out h
  subst e0
  obtain ⟨p, e1, hq⟩ := arG_out rd_packed h
  clear h
  subst e1
  have h := hq
  clear hq
  exact ⟨_, _, h, Nat.le_of_ble_eq_true (show Nat.ble 1 Tryz.f254.ntmps = true by kernel_rfl), _, run_impl_Unpack p⟩

def pf_spec_Wide : PF := ⟨[.t 4, .t 5], .seq (.reg [.s (.mv 4 (.k (.v (.c (.int .i64 0))))), .s (.mv 5 (.k (.v (.c (.int .i64 0)))))]) (.seq (.reg [.s (.mv 12 (.t 0)), .s (.mv 13 (.t 1)), .s (.call (some 14) 267 [(.t 12), (.t 13)]), .s (.mv 11 (.t 14)), .s (.ext 15 (.t 11) 0), .s (.ext 16 (.t 11) 1), .s (.alloc 6 [.int .i64 0, .int .i64 0, .int .i64 0]), .s (.store 3 (.t 6) (.t 15)), .s (.mv 7 (.t 16))]) (.seq (.seq (.reg [.s (.mv 17 (.t 7)), .s (.bnot 18 (.t 17))]) (.cond (.t 18) (.seq (.seq (.reg [.s (.mv 19 (.t 0)), .s (.mv 20 (.t 1)), .s (.call (some 21) 252 [(.t 19), (.t 20)])]) (.cond (.t 21) (.seq (.reg [.s (.mv 4 (.k (.v (.c (.int .i64 0))))), .s (.mv 5 (.k (.v (.c (.int .i64 4096)))))]) (.ret)) (.skip))) (.seq (.reg [.s (.mv 4 (.k (.v (.c (.int .i64 0))))), .s (.mv 5 (.k (.v (.c (.int .i64 0)))))]) (.ret))) (.skip))) (.seq (.reg [.s (.load 23 true 3 (.t 6)), .s (.call (some 24) 268 [(.t 23)]), .s (.mv 22 (.t 24)), .s (.ext 25 (.t 22) 0), .s (.ext 26 (.t 22) 1), .s (.ext 27 (.t 22) 2), .s (.mv 8 (.t 25)), .s (.mv 9 (.t 26)), .s (.mv 10 (.t 27))]) (.seq (.reg [.s (.mv 28 (.t 8)), .s (.mv 29 (.t 9)), .s (.mv 4 (.t 28)), .s (.mv 5 (.t 29))]) (.ret)))))⟩
def c_spec_Wide : Fun := ⟨251, [], fun ts K => as2 ts fun t0 t1 => arC (pI .i64) t0 fun b => arC (pI .i64) t1 fun t => K (wideT (wide b t)) []⟩
theorem run_spec_Wide (b : Int) (t : Int) : runK [c_spec_BoundsOk, c_spec_Pack, c_spec_Unpack] (0) [] pf_spec_Wide [tI .i64 b, tI .i64 t] fun r o => r = wideT (wide b t) ∧ o = [] := by
  conv => whnf
  repeat' (first | (refine sel_i (fun h => ?_) (fun h => ?_) <;> conv => whnf) | (refine chk_c ?_ ?_ <;> conv => whnf) | (refine And.intro ?_ rfl) | (refine And.intro ?_ ?_ <;> conv => whnf))
  all_goals ((try simp only [etaPacked]); first | (simp_all [wide, wideT]; done) | (have hb := pack_isSome (b := b) (t := t) (by simpa using h); simp_all [wide, wideT]; done))
theorem ok_spec_Wide : FunOk Tryz.prog c_spec_Wide := funOk (E := [c_spec_BoundsOk, c_spec_Pack, c_spec_Unpack]) (envOk_cons ok_spec_BoundsOk (envOk_cons ok_spec_Pack (envOk_cons ok_spec_Unpack (envOk_nil)))) mixd Tryz.func251 (pf := pf_spec_Wide) (by kernel_rfl) fun ts K h => by
  obtain ⟨t0, t1, e0, h⟩ := as2_out h
  subst e0
  obtain ⟨b, e1, hq⟩ := arC_out (rd_int .i64) h
  clear h
  subst e1
  have h := hq
  clear hq
  obtain ⟨t, e1, hq⟩ := arC_out (rd_int .i64) h
  clear h
  subst e1
  have h := hq
  clear hq
  exact ⟨_, _, h, Nat.le_of_ble_eq_true (show Nat.ble 2 Tryz.f251.ntmps = true by kernel_rfl), _, run_spec_Wide b t⟩

def pf_impl_Wide : PF := ⟨[.t 4, .t 5], .seq (.reg [.s (.mv 4 (.k (.v (.c (.int .i64 0))))), .s (.mv 5 (.k (.v (.c (.int .i64 0)))))]) (.seq (.seq (.reg [.s (.mv 11 (.t 0)), .s (.mv 12 (.t 1)), .s (.call (some 13) 211 [(.t 11), (.t 12)]), .s (.bnot 14 (.t 13))]) (.cond (.t 14) (.seq (.reg [.s (.mv 4 (.k (.v (.c (.int .i64 0))))), .s (.mv 5 (.k (.v (.c (.int .i64 0)))))]) (.ret)) (.skip))) (.seq (.reg [.s (.mv 16 (.t 0)), .s (.mv 17 (.t 1)), .s (.call (some 18) 253 [(.t 16), (.t 17)]), .s (.mv 15 (.t 18)), .s (.ext 19 (.t 15) 0), .s (.ext 20 (.t 15) 1), .s (.alloc 6 [.int .i64 0, .int .i64 0, .int .i64 0]), .s (.store 3 (.t 6) (.t 19)), .s (.mv 7 (.t 20))]) (.seq (.seq (.reg [.s (.mv 21 (.t 7)), .s (.bnot 22 (.t 21))]) (.cond (.t 22) (.seq (.reg [.s (.mv 4 (.k (.v (.c (.int .i64 0))))), .s (.mv 5 (.k (.v (.c (.int .i64 4096)))))]) (.ret)) (.skip))) (.seq (.reg [.s (.load 24 true 3 (.t 6)), .s (.call (some 25) 254 [(.t 24)]), .s (.mv 23 (.t 25)), .s (.ext 26 (.t 23) 0), .s (.ext 27 (.t 23) 1), .s (.ext 28 (.t 23) 2), .s (.mv 8 (.t 26)), .s (.mv 9 (.t 27)), .s (.mv 10 (.t 28))]) (.seq (.reg [.s (.mv 29 (.t 8)), .s (.mv 30 (.t 9)), .s (.mv 4 (.t 29)), .s (.mv 5 (.t 30))]) (.ret))))))⟩
def c_impl_Wide : Fun := ⟨210, [], fun ts K => as2 ts fun t0 t1 => arC (pI .i64) t0 fun b => arC (pI .i64) t1 fun t => K (wideT (wide b t)) []⟩
theorem run_impl_Wide (b : Int) (t : Int) : runK [c_impl_BoundsOk, c_impl_Pack, c_impl_Unpack] (0) [] pf_impl_Wide [tI .i64 b, tI .i64 t] fun r o => r = wideT (wide b t) ∧ o = [] := by
  conv => whnf
  repeat' (first | (refine sel_i (fun h => ?_) (fun h => ?_) <;> conv => whnf) | (refine chk_c ?_ ?_ <;> conv => whnf) | (refine And.intro ?_ rfl) | (refine And.intro ?_ ?_ <;> conv => whnf))
  all_goals ((try simp only [etaPacked]); first | (simp_all [wide, wideT]; done) | (have hb := pack_isSome (b := b) (t := t) (by simpa using h); simp_all [wide, wideT]; done))
theorem ok_impl_Wide : FunOk Tryz.prog c_impl_Wide := funOk (E := [c_impl_BoundsOk, c_impl_Pack, c_impl_Unpack]) (envOk_cons ok_impl_BoundsOk (envOk_cons ok_impl_Pack (envOk_cons ok_impl_Unpack (envOk_nil)))) mixd Tryz.func210 (pf := pf_impl_Wide) (by kernel_rfl) fun ts K h => by
  obtain ⟨t0, t1, e0, h⟩ := as2_out h
  subst e0
  obtain ⟨b, e1, hq⟩ := arC_out (rd_int .i64) h
  clear h
  subst e1
  have h := hq
  clear hq
  obtain ⟨t, e1, hq⟩ := arC_out (rd_int .i64) h
  clear h
  subst e1
  have h := hq
  clear hq
  exact ⟨_, _, h, Nat.le_of_ble_eq_true (show Nat.ble 2 Tryz.f210.ntmps = true by kernel_rfl), _, run_impl_Wide b t⟩

def pf_spec_Exact : PF := ⟨[.t 4], .seq (.reg [.s (.mv 4 (.k (.v (.c .ff))))]) (.seq (.reg [.s (.mv 8 (.t 0)), .s (.mv 9 (.t 1)), .s (.call (some 10) 251 [(.t 8), (.t 9)]), .s (.mv 7 (.t 10)), .s (.ext 11 (.t 7) 0), .s (.ext 12 (.t 7) 1), .s (.mv 5 (.t 11)), .s (.mv 6 (.t 12))]) (.seq (.reg [.s (.mv 13 (.t 0)), .s (.mv 14 (.t 1)), .s (.call (some 15) 252 [(.t 13), (.t 14)]), .s (.mv 16 (.t 15)), .g 16 true (some 17) (.mv 17 (.t 5)), .g 16 true (some 18) (.mv 18 (.t 0)), .g 16 true (some 19) (.bin 19 .eql (.t 17) (.t 18)), .s (.pick 20 (.t 16) (.t 19) (.k (.v (.c .ff)))), .s (.mv 21 (.t 20)), .g 21 true (some 22) (.mv 22 (.t 6)), .g 21 true (some 23) (.mv 23 (.t 1)), .g 21 true (some 24) (.bin 24 .eql (.t 22) (.t 23)), .s (.pick 25 (.t 21) (.t 24) (.k (.v (.c .ff)))), .s (.mv 4 (.t 25))]) (.ret)))⟩
def c_spec_Exact : Fun := ⟨209, [], fun ts K => as2 ts fun t0 t1 => arC (pI .i64) t0 fun b => arC (pI .i64) t1 fun t => K (tB (exact_ b t)) []⟩
theorem run_spec_Exact (b : Int) (t : Int) : runK [c_spec_Wide, c_spec_BoundsOk] (0) [] pf_spec_Exact [tI .i64 b, tI .i64 t] fun r o => r = tB (exact_ b t) ∧ o = [] := by
  conv => whnf
  repeat' (first | (refine sel_i (fun h => ?_) (fun h => ?_) <;> conv => whnf) | (refine chk_c ?_ ?_ <;> conv => whnf) | (refine And.intro ?_ rfl) | (refine And.intro ?_ ?_ <;> conv => whnf))
  all_goals ((try simp only [beqI]); simp_all [exact_]; done)
theorem ok_spec_Exact : FunOk Tryz.prog c_spec_Exact := funOk (E := [c_spec_Wide, c_spec_BoundsOk]) (envOk_cons ok_spec_Wide (envOk_cons ok_spec_BoundsOk (envOk_nil))) mixd Tryz.func209 (pf := pf_spec_Exact) (by kernel_rfl) fun ts K h => by
  obtain ⟨t0, t1, e0, h⟩ := as2_out h
  subst e0
  obtain ⟨b, e1, hq⟩ := arC_out (rd_int .i64) h
  clear h
  subst e1
  have h := hq
  clear hq
  obtain ⟨t, e1, hq⟩ := arC_out (rd_int .i64) h
  clear h
  subst e1
  have h := hq
  clear hq
  exact ⟨_, _, h, Nat.le_of_ble_eq_true (show Nat.ble 2 Tryz.f209.ntmps = true by kernel_rfl), _, run_spec_Exact b t⟩

def pf_impl_Exact : PF := ⟨[.t 4], .seq (.reg [.s (.mv 4 (.k (.v (.c .ff))))]) (.seq (.reg [.s (.mv 8 (.t 0)), .s (.mv 9 (.t 1)), .s (.call (some 10) 210 [(.t 8), (.t 9)]), .s (.mv 7 (.t 10)), .s (.ext 11 (.t 7) 0), .s (.ext 12 (.t 7) 1), .s (.mv 5 (.t 11)), .s (.mv 6 (.t 12))]) (.seq (.reg [.s (.mv 13 (.t 0)), .s (.mv 14 (.t 1)), .s (.call (some 15) 211 [(.t 13), (.t 14)]), .s (.mv 16 (.t 15)), .g 16 true (some 17) (.mv 17 (.t 5)), .g 16 true (some 18) (.mv 18 (.t 0)), .g 16 true (some 19) (.bin 19 .eql (.t 17) (.t 18)), .s (.pick 20 (.t 16) (.t 19) (.k (.v (.c .ff)))), .s (.mv 21 (.t 20)), .g 21 true (some 22) (.mv 22 (.t 6)), .g 21 true (some 23) (.mv 23 (.t 1)), .g 21 true (some 24) (.bin 24 .eql (.t 22) (.t 23)), .s (.pick 25 (.t 21) (.t 24) (.k (.v (.c .ff)))), .s (.mv 4 (.t 25))]) (.ret)))⟩
def c_impl_Exact : Fun := ⟨170, [], fun ts K => as2 ts fun t0 t1 => arC (pI .i64) t0 fun b => arC (pI .i64) t1 fun t => K (tB (exact_ b t)) []⟩
theorem run_impl_Exact (b : Int) (t : Int) : runK [c_impl_Wide, c_impl_BoundsOk] (0) [] pf_impl_Exact [tI .i64 b, tI .i64 t] fun r o => r = tB (exact_ b t) ∧ o = [] := by
  conv => whnf
  repeat' (first | (refine sel_i (fun h => ?_) (fun h => ?_) <;> conv => whnf) | (refine chk_c ?_ ?_ <;> conv => whnf) | (refine And.intro ?_ rfl) | (refine And.intro ?_ ?_ <;> conv => whnf))
  all_goals ((try simp only [beqI]); simp_all [exact_]; done)
theorem ok_impl_Exact : FunOk Tryz.prog c_impl_Exact := funOk (E := [c_impl_Wide, c_impl_BoundsOk]) (envOk_cons ok_impl_Wide (envOk_cons ok_impl_BoundsOk (envOk_nil))) mixd Tryz.func170 (pf := pf_impl_Exact) (by kernel_rfl) fun ts K h => by
  obtain ⟨t0, t1, e0, h⟩ := as2_out h
  subst e0
  obtain ⟨b, e1, hq⟩ := arC_out (rd_int .i64) h
  clear h
  subst e1
  have h := hq
  clear hq
  obtain ⟨t, e1, hq⟩ := arC_out (rd_int .i64) h
  clear h
  subst e1
  have h := hq
  clear hq
  exact ⟨_, _, h, Nat.le_of_ble_eq_true (show Nat.ble 2 Tryz.f170.ntmps = true by kernel_rfl), _, run_impl_Exact b t⟩

def pf_spec_KeyOk : PF := ⟨[.t 2], .seq (.reg [.s (.box 1 (.t 0)), .s (.mv 2 (.k (.v (.c .ff))))]) (.seq (.reg [.s (.fa 3 (.t 1) 0), .s (.load 4 false 1 (.t 3)), .s (.fa 5 (.t 1) 1), .s (.load 6 false 1 (.t 5)), .s (.call (some 7) 209 [(.t 4), (.t 6)]), .s (.mv 8 (.t 7)), .g 8 true (some 9) (.fa 9 (.t 1) 2), .g 8 true (some 10) (.load 10 false 1 (.t 9)), .g 8 true (some 11) (.call (some 11) 77 [(.t 10), (.k (.v (.c (.int .i64 0)))), (.k (.v (.c (.int .i64 63))))]), .s (.pick 12 (.t 8) (.t 11) (.k (.v (.c .ff)))), .s (.mv 13 (.t 12)), .g 13 true (some 14) (.fa 14 (.t 1) 3), .g 13 true (some 15) (.load 15 false 1 (.t 14)), .g 13 true (some 16) (.call (some 16) 77 [(.t 15), (.k (.v (.c (.int .i64 0)))), (.k (.v (.c (.int .i64 7))))]), .s (.pick 17 (.t 13) (.t 16) (.k (.v (.c .ff)))), .s (.mv 2 (.t 17))]) (.ret))⟩
def c_spec_KeyOk : Fun := ⟨169, [], fun ts K => as1 ts fun t0 => arG pKeyT t0 fun k => K (tB (keyOk k)) []⟩
theorem run_spec_KeyOk (k : Key) : runK [c_spec_l1In, c_spec_Exact] (0) [] pf_spec_KeyOk [tG (k.tc [])] fun r o => r = tB (keyOk k) ∧ o = [] := by
  conv => whnf
  repeat' (first | (refine sel_i (fun h => ?_) (fun h => ?_) <;> conv => whnf) | (refine chk_c ?_ ?_ <;> conv => whnf) | (refine And.intro ?_ rfl) | (refine And.intro ?_ ?_ <;> conv => whnf))
  all_goals (simp_all [keyOk]; done)
theorem ok_spec_KeyOk : FunOk Tryz.prog c_spec_KeyOk := funOk (E := [c_spec_l1In, c_spec_Exact]) (envOk_cons ok_spec_l1In (envOk_cons ok_spec_Exact (envOk_nil))) mixd Tryz.func169 (pf := pf_spec_KeyOk) (by kernel_rfl) fun ts K h => by
  obtain ⟨t0, e0, h⟩ := as1_out h
  subst e0
  obtain ⟨k, e1, hq⟩ := arG_out rd_key h
  clear h
  subst e1
  have h := hq
  clear hq
  exact ⟨_, _, h, Nat.le_of_ble_eq_true (show Nat.ble 1 Tryz.f169.ntmps = true by kernel_rfl), _, run_spec_KeyOk k⟩

def pf_impl_KeyOk : PF := ⟨[.t 2], .seq (.reg [.s (.box 1 (.t 0)), .s (.mv 2 (.k (.v (.c .ff))))]) (.seq (.reg [.s (.fa 3 (.t 1) 0), .s (.load 4 false 1 (.t 3)), .s (.fa 5 (.t 1) 1), .s (.load 6 false 1 (.t 5)), .s (.call (some 7) 170 [(.t 4), (.t 6)]), .s (.mv 8 (.t 7)), .g 8 true (some 9) (.fa 9 (.t 1) 2), .g 8 true (some 10) (.load 10 false 1 (.t 9)), .g 8 true (some 11) (.call (some 11) 60 [(.t 10), (.k (.v (.c (.int .i64 0)))), (.k (.v (.c (.int .i64 63))))]), .s (.pick 12 (.t 8) (.t 11) (.k (.v (.c .ff)))), .s (.mv 13 (.t 12)), .g 13 true (some 14) (.fa 14 (.t 1) 3), .g 13 true (some 15) (.load 15 false 1 (.t 14)), .g 13 true (some 16) (.call (some 16) 60 [(.t 15), (.k (.v (.c (.int .i64 0)))), (.k (.v (.c (.int .i64 7))))]), .s (.pick 17 (.t 13) (.t 16) (.k (.v (.c .ff)))), .s (.mv 2 (.t 17))]) (.ret))⟩
def c_impl_KeyOk : Fun := ⟨114, [], fun ts K => as1 ts fun t0 => arG pKeyT t0 fun k => K (tB (keyOk k)) []⟩
theorem run_impl_KeyOk (k : Key) : runK [c_impl_in, c_impl_Exact] (0) [] pf_impl_KeyOk [tG (k.tc [])] fun r o => r = tB (keyOk k) ∧ o = [] := by
  conv => whnf
  repeat' (first | (refine sel_i (fun h => ?_) (fun h => ?_) <;> conv => whnf) | (refine chk_c ?_ ?_ <;> conv => whnf) | (refine And.intro ?_ rfl) | (refine And.intro ?_ ?_ <;> conv => whnf))
  all_goals (simp_all [keyOk]; done)
theorem ok_impl_KeyOk : FunOk Tryz.prog c_impl_KeyOk := funOk (E := [c_impl_in, c_impl_Exact]) (envOk_cons ok_impl_in (envOk_cons ok_impl_Exact (envOk_nil))) mixd Tryz.func114 (pf := pf_impl_KeyOk) (by kernel_rfl) fun ts K h => by
  obtain ⟨t0, e0, h⟩ := as1_out h
  subst e0
  obtain ⟨k, e1, hq⟩ := arG_out rd_key h
  clear h
  subst e1
  have h := hq
  clear hq
  exact ⟨_, _, h, Nat.le_of_ble_eq_true (show Nat.ble 1 Tryz.f114.ntmps = true by kernel_rfl), _, run_impl_KeyOk k⟩

def pf_spec_WordOk : PF := ⟨[.t 2], .seq (.reg [.s (.box 1 (.t 0)), .s (.mv 2 (.k (.v (.c .ff))))]) (.seq (.reg [.s (.fa 3 (.t 1) 0), .s (.load 4 false 1 (.t 3)), .s (.call (some 5) 77 [(.t 4), (.k (.v (.c (.int .i64 0)))), (.k (.v (.c (.int .i64 65535))))]), .s (.mv 6 (.t 5)), .g 6 true (some 7) (.fa 7 (.t 1) 1), .g 6 true (some 8) (.load 8 false 1 (.t 7)), .g 6 true (some 9) (.mv 9 (.t 8)), .g 9 true (some 10) (.fa 10 (.t 1) 2), .g 9 true (some 11) (.load 11 true 4 (.t 10)), .g 9 true (some 12) (.call (some 12) 169 [(.t 11)]), .g 6 true (some 13) (.pick 13 (.t 9) (.t 12) (.k (.v (.c .ff)))), .g 6 true (some 14) (.mv 14 (.t 13)), .g 14 false (some 15) (.fa 15 (.t 1) 1), .g 14 false (some 16) (.load 16 false 1 (.t 15)), .g 14 false (some 17) (.bnot 17 (.t 16)), .g 14 false (some 18) (.mv 18 (.t 17)), .g 18 true (some 19) (.fa 19 (.t 1) 2), .g 18 true (some 20) (.load 20 true 4 (.t 19)), .g 18 true (some 21) (.build 21 [.int .i64 0, .int .i64 0, .int .i64 0, .int .i64 0] []), .g 18 true (some 22) (.eqs 22 true [.i, .i, .i, .i] false (.t 20) (.t 21)), .g 14 false (some 23) (.pick 23 (.t 18) (.t 22) (.k (.v (.c .ff)))), .g 6 true (some 24) (.pick 24 (.t 14) (.k (.v (.c .tt))) (.t 23)), .s (.pick 25 (.t 6) (.t 24) (.k (.v (.c .ff)))), .s (.mv 2 (.t 25))]) (.ret))⟩
def c_spec_WordOk : Fun := ⟨140, [], fun ts K => as1 ts fun t0 => arG pWordT t0 fun w => K (tB (wordOk w)) []⟩
theorem run_spec_WordOk (w : Word) : runK [c_spec_l1In, c_spec_KeyOk] (0) [] pf_spec_WordOk [tG (w.tc [])] fun r o => r = tB (wordOk w) ∧ o = [] := by
  conv => whnf
  repeat' (first | (refine sel_i (fun h => ?_) (fun h => ?_) <;> conv => whnf) | (refine chk_c ?_ ?_ <;> conv => whnf) | (refine And.intro ?_ rfl) | (refine And.intro ?_ ?_ <;> conv => whnf))
  all_goals (try simp only [etaKey, keyEq0] at *); first | rfl | (simp_all [wordOk]; done) | trace_state
theorem ok_spec_WordOk : FunOk Tryz.prog c_spec_WordOk := funOk (E := [c_spec_l1In, c_spec_KeyOk]) (envOk_cons ok_spec_l1In (envOk_cons ok_spec_KeyOk (envOk_nil))) mixd Tryz.func140 (pf := pf_spec_WordOk) (by kernel_rfl) fun ts K h => by
  obtain ⟨t0, e0, h⟩ := as1_out h
  subst e0
  obtain ⟨w, e1, hq⟩ := arG_out rd_word h
  clear h
  subst e1
  have h := hq
  clear hq
  exact ⟨_, _, h, Nat.le_of_ble_eq_true (show Nat.ble 1 Tryz.f140.ntmps = true by kernel_rfl), _, run_spec_WordOk w⟩

def pf_impl_WordOk : PF := ⟨[.t 2], .seq (.reg [.s (.box 1 (.t 0)), .s (.mv 2 (.k (.v (.c .ff))))]) (.seq (.seq (.reg [.s (.fa 3 (.t 1) 1), .s (.load 4 false 1 (.t 3))]) (.cond (.t 4) (.seq (.reg [.s (.fa 5 (.t 1) 0), .s (.load 6 false 1 (.t 5)), .s (.call (some 7) 60 [(.t 6), (.k (.v (.c (.int .i64 0)))), (.k (.v (.c (.int .i64 65535))))]), .s (.mv 8 (.t 7)), .g 8 true (some 9) (.fa 9 (.t 1) 2), .g 8 true (some 10) (.load 10 true 4 (.t 9)), .g 8 true (some 11) (.call (some 11) 114 [(.t 10)]), .s (.pick 12 (.t 8) (.t 11) (.k (.v (.c .ff)))), .s (.mv 2 (.t 12))]) (.ret)) (.skip))) (.seq (.reg [.s (.fa 13 (.t 1) 0), .s (.load 14 false 1 (.t 13)), .s (.call (some 15) 60 [(.t 14), (.k (.v (.c (.int .i64 0)))), (.k (.v (.c (.int .i64 65535))))]), .s (.mv 16 (.t 15)), .g 16 true (some 17) (.fa 17 (.t 1) 2), .g 16 true (some 18) (.load 18 true 4 (.t 17)), .g 16 true (some 19) (.build 19 [.int .i64 0, .int .i64 0, .int .i64 0, .int .i64 0] []), .g 16 true (some 20) (.eqs 20 true [.i, .i, .i, .i] false (.t 18) (.t 19)), .s (.pick 21 (.t 16) (.t 20) (.k (.v (.c .ff)))), .s (.mv 2 (.t 21))]) (.ret)))⟩
def c_impl_WordOk : Fun := ⟨65, [], fun ts K => as1 ts fun t0 => arG pWordT t0 fun w => K (tB (wordOk w)) []⟩
theorem run_impl_WordOk (w : Word) : runK [c_impl_in, c_impl_KeyOk] (0) [] pf_impl_WordOk [tG (w.tc [])] fun r o => r = tB (wordOk w) ∧ o = [] := by
  conv => whnf
  repeat' (first | (refine sel_i (fun h => ?_) (fun h => ?_) <;> conv => whnf) | (refine chk_c ?_ ?_ <;> conv => whnf) | (refine And.intro ?_ rfl) | (refine And.intro ?_ ?_ <;> conv => whnf))
  all_goals (try simp only [etaKey, keyEq0] at *); first | rfl | (simp_all [wordOk]; done) | trace_state
theorem ok_impl_WordOk : FunOk Tryz.prog c_impl_WordOk := funOk (E := [c_impl_in, c_impl_KeyOk]) (envOk_cons ok_impl_in (envOk_cons ok_impl_KeyOk (envOk_nil))) mixd Tryz.func65 (pf := pf_impl_WordOk) (by kernel_rfl) fun ts K h => by
  obtain ⟨t0, e0, h⟩ := as1_out h
  subst e0
  obtain ⟨w, e1, hq⟩ := arG_out rd_word h
  clear h
  subst e1
  have h := hq
  clear hq
  exact ⟨_, _, h, Nat.le_of_ble_eq_true (show Nat.ble 1 Tryz.f65.ntmps = true by kernel_rfl), _, run_impl_WordOk w⟩
end Go.Pi
