/- Contracts of functions, each out of its run by PI. No conditions. -/
import Derived.Test.YthkhmkdkgjdjhaaPiFn
import Derived.KernelRfl
import Derived.ProofKit
import Derived.Test.YthkhmkdkgjdjhaaRows
namespace Go.Pi
open Go.Proofs
set_option linter.unusedVariables false
set_option linter.unusedSimpArgs false
set_option maxRecDepth 100000
attribute [local irreducible] iterN
theorem mixd : Try.prog.follows .mixedOrders = true := by kernel_rfl
theorem etaKey (x : Key) : (⟨x.base, x.top, x.perms, x.sealed⟩ : Key) = x := rfl
theorem etaWord (x : Word) : (⟨x.n, x.is, x.key⟩ : Word) = x := rfl
theorem etaInst (x : Inst) : (⟨x.op, x.r, x.a, x.b, x.n⟩ : Inst) = x := rfl
theorem etaEff (x : Eff) : (⟨x.trap, x.r, x.val, x.next, x.addr, x.put, x.drop⟩ : Eff) = x := rfl
theorem etaEntry (x : Entry) : (⟨x.pc, x.x, x.done, x.e, x.guess⟩ : Entry) = x := rfl
theorem etaPick (x : Pick) : (⟨x.kind, x.n⟩ : Pick) = x := rfl
theorem etaSpan (x : Span) : (⟨x.at_, x.len⟩ : Span) = x := rfl
theorem etaSeen (x : Seen) : (⟨x.at_, x.r, x.addr, x.trap⟩ : Seen) = x := rfl
theorem etaPacked (x : Packed) : (⟨x.e, x.b, x.l⟩ : Packed) = x := rfl
theorem etaCost (x : Cost) : (⟨x.pulled, x.done, x.kept, x.back, x.swept⟩ : Cost) = x := rfl
theorem keyEq (a b : Key) : (a.base == b.base && (a.top == b.top && (a.perms == b.perms && a.sealed == b.sealed))) = decide (a = b) := by
  obtain ⟨a1, a2, a3, a4⟩ := a
  obtain ⟨b1, b2, b3, b4⟩ := b
  rw [Bool.eq_iff_iff]; simp
theorem keyEq0 (a : Key) : (a.base == 0 && (a.top == 0 && (a.perms == 0 && a.sealed == 0))) = decide (a = ⟨0, 0, 0, 0⟩) := keyEq a ⟨0, 0, 0, 0⟩
theorem beqI (a b : Int) : (a == b) = decide (a = b) := rfl

def costAdd (a b : Cost) : Cost := ⟨IntKind.i64.wrap (a.pulled + b.pulled), IntKind.i64.wrap (a.done + b.done), IntKind.i64.wrap (a.kept + b.kept), IntKind.i64.wrap (a.back + b.back), IntKind.i64.wrap (a.swept + b.swept)⟩

/-- Numbers in the walk's own spelling. -/
abbrev w64 (n : Int) : Int := IntKind.i64.wrap n
def inR (n lo hi : Int) : Bool := decide (lo ≤ n) && decide (n ≤ hi)

def pf_impl_in : PF := ⟨[.t 6], .seq (.reg [.s (.mv 6 (.k (.v (.c .ff))))]) (.seq (.reg [.s (.mv 7 (.t 0)), .s (.mv 8 (.t 1)), .s (.bin 9 .geq (.t 7) (.t 8)), .s (.mv 10 (.t 9)), .g 10 true (some 11) (.mv 11 (.t 0)), .g 10 true (some 12) (.mv 12 (.t 2)), .g 10 true (some 13) (.bin 13 .leq (.t 11) (.t 12)), .s (.pick 14 (.t 10) (.t 13) (.k (.v (.c .ff)))), .s (.mv 6 (.t 14))]) (.ret))⟩
def c_impl_in : Fun := ⟨103, [], fun ts K => as3 ts fun t0 t1 t2 => arC (pI .i64) t0 fun n => arC (pI .i64) t1 fun lo => arC (pI .i64) t2 fun hi => K (tB (inR n lo hi)) []⟩
theorem run_impl_in (n : Int) (lo : Int) (hi : Int) : runK [] (0) [] pf_impl_in [tI .i64 n, tI .i64 lo, tI .i64 hi] fun r o => r = tB (inR n lo hi) ∧ o = [] := by
  conv => whnf
  refine sel_i (fun h => ?_) (fun h => ?_) <;> conv => whnf
  all_goals (refine ⟨?_, rfl⟩; simp at h; simp [inR] <;> omega)
theorem ok_impl_in : FunOk Try.prog c_impl_in := funOk (E := []) (envOk_nil) mixd Try.func103 (pf := pf_impl_in) (by kernel_rfl) fun ts K h => by
  obtain ⟨t0, t1, t2, e0, h⟩ := as3_out h
  subst e0
  obtain ⟨n, e1, hq⟩ := arC_out (rd_int .i64) h
  clear h
  subst e1
  have h := hq
  clear hq
  obtain ⟨lo, e1, hq⟩ := arC_out (rd_int .i64) h
  clear h
  subst e1
  have h := hq
  clear hq
  obtain ⟨hi, e1, hq⟩ := arC_out (rd_int .i64) h
  clear h
  subst e1
  have h := hq
  clear hq
  exact ⟨_, _, h, Nat.le_of_ble_eq_true (show Nat.ble 3 Try.f103.ntmps = true by kernel_rfl), _, run_impl_in n lo hi⟩

def pf_spec_l1In : PF := ⟨[.t 6], .seq (.reg [.s (.mv 6 (.k (.v (.c .ff))))]) (.seq (.reg [.s (.mv 7 (.t 0)), .s (.mv 8 (.t 1)), .s (.bin 9 .geq (.t 7) (.t 8)), .s (.mv 10 (.t 9)), .g 10 true (some 11) (.mv 11 (.t 0)), .g 10 true (some 12) (.mv 12 (.t 2)), .g 10 true (some 13) (.bin 13 .leq (.t 11) (.t 12)), .s (.pick 14 (.t 10) (.t 13) (.k (.v (.c .ff)))), .s (.mv 6 (.t 14))]) (.ret))⟩
def c_spec_l1In : Fun := ⟨101, [], fun ts K => as3 ts fun t0 t1 t2 => arC (pI .i64) t0 fun n => arC (pI .i64) t1 fun lo => arC (pI .i64) t2 fun hi => K (tB (inR n lo hi)) []⟩
theorem run_spec_l1In (n : Int) (lo : Int) (hi : Int) : runK [] (0) [] pf_spec_l1In [tI .i64 n, tI .i64 lo, tI .i64 hi] fun r o => r = tB (inR n lo hi) ∧ o = [] := by
  conv => whnf
  refine sel_i (fun h => ?_) (fun h => ?_) <;> conv => whnf
  all_goals (refine ⟨?_, rfl⟩; simp at h; simp [inR] <;> omega)
theorem ok_spec_l1In : FunOk Try.prog c_spec_l1In := funOk (E := []) (envOk_nil) mixd Try.func101 (pf := pf_spec_l1In) (by kernel_rfl) fun ts K h => by
  obtain ⟨t0, t1, t2, e0, h⟩ := as3_out h
  subst e0
  obtain ⟨n, e1, hq⟩ := arC_out (rd_int .i64) h
  clear h
  subst e1
  have h := hq
  clear hq
  obtain ⟨lo, e1, hq⟩ := arC_out (rd_int .i64) h
  clear h
  subst e1
  have h := hq
  clear hq
  obtain ⟨hi, e1, hq⟩ := arC_out (rd_int .i64) h
  clear h
  subst e1
  have h := hq
  clear hq
  exact ⟨_, _, h, Nat.le_of_ble_eq_true (show Nat.ble 3 Try.f101.ntmps = true by kernel_rfl), _, run_spec_l1In n lo hi⟩

def room (at_ n : Int) : Bool := inR n 1 20 && inR at_ 0 (w64 (24 - n))

def markCode (a n : Int) : List Inst := if room a n then [⟨1, 1, 0, 0, n⟩, ⟨6, 2, 0, 3, a⟩, ⟨5, 3, 2, 1, 0⟩, ⟨11, 0, 0, 3, a⟩, ⟨15, 0, 0, 0, 0⟩] else []

def pf_laws_eqIns : PF := ⟨[.t 4], .seq (.reg [.s (.box 2 (.t 0)), .s (.box 3 (.t 1)), .s (.mv 4 (.k (.v (.c .ff))))]) (.seq (.seq (.reg [.s (.fa 5 (.t 2) 0), .s (.load 6 false 1 (.t 5)), .s (.fa 7 (.t 3) 0), .s (.load 8 false 1 (.t 7)), .s (.bin 9 .neq (.t 6) (.t 8))]) (.cond (.t 9) (.seq (.reg [.s (.mv 4 (.k (.v (.c .ff))))]) (.ret)) (.skip))) (.seq (.seq (.reg [.s (.fa 10 (.t 2) 1), .s (.load 11 false 1 (.t 10)), .s (.fa 12 (.t 3) 1), .s (.load 13 false 1 (.t 12)), .s (.bin 14 .neq (.t 11) (.t 13))]) (.cond (.t 14) (.seq (.reg [.s (.mv 4 (.k (.v (.c .ff))))]) (.ret)) (.skip))) (.seq (.seq (.reg [.s (.fa 15 (.t 2) 2), .s (.load 16 false 1 (.t 15)), .s (.fa 17 (.t 3) 2), .s (.load 18 false 1 (.t 17)), .s (.bin 19 .neq (.t 16) (.t 18))]) (.cond (.t 19) (.seq (.reg [.s (.mv 4 (.k (.v (.c .ff))))]) (.ret)) (.skip))) (.seq (.seq (.reg [.s (.fa 20 (.t 2) 3), .s (.load 21 false 1 (.t 20)), .s (.fa 22 (.t 3) 3), .s (.load 23 false 1 (.t 22)), .s (.bin 24 .neq (.t 21) (.t 23))]) (.cond (.t 24) (.seq (.reg [.s (.mv 4 (.k (.v (.c .ff))))]) (.ret)) (.skip))) (.seq (.seq (.reg [.s (.fa 25 (.t 2) 4), .s (.load 26 false 1 (.t 25)), .s (.fa 27 (.t 3) 4), .s (.load 28 false 1 (.t 27)), .s (.bin 29 .neq (.t 26) (.t 28))]) (.cond (.t 29) (.seq (.reg [.s (.mv 4 (.k (.v (.c .ff))))]) (.ret)) (.skip))) (.seq (.reg [.s (.mv 4 (.k (.v (.c .tt))))]) (.ret)))))))⟩
def c_laws_eqIns : Fun := ⟨115, [], fun ts K => as2 ts fun t0 t1 => arG pInstT t0 fun a => arG pInstT t1 fun b => K (tB (decide (a = b))) []⟩
theorem run_laws_eqIns (a : Inst) (b : Inst) : runK [] (0) [] pf_laws_eqIns [tG (a.tc []), tG (b.tc [])] fun r o => r = tB (decide (a = b)) ∧ o = [] := by
  obtain ⟨a1, a2, a3, a4, a5⟩ := a
  obtain ⟨b1, b2, b3, b4, b5⟩ := b
  conv => whnf
  repeat' (refine sel_i (fun h => ?_) (fun h => ?_) <;> conv => whnf)
  all_goals (refine ⟨?_, rfl⟩; simp_all)
theorem ok_laws_eqIns : FunOk Try.prog c_laws_eqIns := funOk (E := []) (envOk_nil) mixd Try.func115 (pf := pf_laws_eqIns) (by kernel_rfl) fun ts K h => by
  obtain ⟨t0, t1, e0, h⟩ := as2_out h
  subst e0
  obtain ⟨a, e1, hq⟩ := arG_out rd_inst h
  clear h
  subst e1
  have h := hq
  clear hq
  obtain ⟨b, e1, hq⟩ := arG_out rd_inst h
  clear h
  subst e1
  have h := hq
  clear hq
  exact ⟨_, _, h, Nat.le_of_ble_eq_true (show Nat.ble 2 Try.f115.ntmps = true by kernel_rfl), _, run_laws_eqIns a b⟩

theorem markCode_le (a n : Int) : (markCode a n).length ≤ 5 := by unfold markCode; split <;> simp
theorem set_mid {α : Type} {m a : List α} {i : Nat} {x : α} (h : m.length = a.length) (hi : i < a.length) (hx : m[i]? = some x) : (m.take i ++ a.drop i).set i x = m.take (i + 1) ++ a.drop (i + 1) := by
  rw [List.set_append_right _ _ (by simp; omega)]
  have hm : min i m.length = i := by omega
  simp only [List.length_take, hm, Nat.sub_self]
  rw [List.drop_eq_getElem_cons hi, List.set_cons_zero, List.take_add_one, hx]
  simp
theorem get_mid {α : Type} {m a : List α} {i : Nat} (h : m.length = a.length) (hi : i < a.length) : (m.take i ++ a.drop i)[i]? = a[i]? := by
  rw [List.getElem?_append_right (by simp; omega)]
  have hm : min i m.length = i := by omega
  simp [hm]

def elIns (c : Int) : Inst := ⟨c, c + 1, c + 1 + 1, c + 1 + 1 + 1, c + 1 + 1 + 1 + 1⟩
def mkInsS (n : Nat) (k : Int) : List Inst := (List.range n).map (fun j : Nat => elIns (k + 5 * j))
theorem mkInsS_length (n : Nat) (k : Int) : (mkInsS n k).length = n := by simp [mkInsS]

def lb_laws_eqInsS_0 : PC := .seq (.seq (.reg [.s (.mv 11 (.t 5)), .s (.mv 12 (.t 0)), .s (.len 13 false (.t 12)), .s (.bin 14 .lss (.t 11) (.t 13))]) (.cond (.t 14) (.skip) (.exit 0))) (.seq (.blk 1 (.seq (.rgd [.s (.mv 17 (.t 0)), .s (.mv 18 (.t 5)), .s (.ia 19 .inst (.t 17) (.t 18)), .s (.load 20 true 5 (.t 19)), .s (.mv 21 (.t 1)), .s (.mv 22 (.t 5)), .s (.ia 23 .inst (.t 21) (.t 22)), .s (.load 24 true 5 (.t 23)), .s (.call (some 25) 115 [(.t 20), (.t 24)]), .s (.bnot 26 (.t 25))] (.tk 0 (.tk 1 (.tk 2 (.tk 3 (.tk 4 (.tk 5 (.tk 6 (.tk 7 (.one 8 true (.tk 9 (.done none)))))))))))) (.cond (.t 26) (.seq (.reg [.s (.mv 4 (.k (.v (.c .ff))))]) (.ret)) (.skip)))) (.reg [.s (.mv 15 (.t 5)), .s (.bin 16 .add (.t 15) (.k (.v (.c (.int .i64 1))))), .s (.mv 5 (.t 16))]))
def pf_laws_eqInsS : PF := ⟨[.t 4], .seq (.reg [.s (.mv 4 (.k (.v (.c .ff))))]) (.seq (.seq (.reg [.s (.mv 6 (.t 0)), .s (.len 7 false (.t 6)), .s (.mv 8 (.t 1)), .s (.len 9 false (.t 8)), .s (.bin 10 .neq (.t 7) (.t 9))]) (.cond (.t 10) (.seq (.reg [.s (.mv 4 (.k (.v (.c .ff))))]) (.ret)) (.skip))) (.seq (.seq (.reg [.s (.mv 5 (.k (.v (.c (.int .i64 0)))))]) (.blk 0 (.loop [0, 1, 5] lb_laws_eqInsS_0))) (.seq (.reg [.s (.mv 4 (.k (.v (.c .tt))))]) (.ret))))⟩
def c_laws_eqInsS : Fun := ⟨54, [], fun ts K => as2 ts fun t0 t1 => arC (pL .inst) t0 fun a => arC (pL .inst) t1 fun b => chk (a.length ≤ 2147483647) (K (tB (decide (a = b))) [])⟩
theorem run_laws_eqInsS (a : List (FT.Ty .inst)) (b : List (FT.Ty .inst)) (hpre : a.length ≤ 2147483647) : runK [c_laws_eqIns] (a.length + 1) [] pf_laws_eqInsS [tL false .inst a, tL false .inst b] fun r o => r = tB (decide (a = b)) ∧ o = [] := by
  conv => whnf
  refine sel_i (fun h => ?_) (fun h => ?_)
  · conv => whnf
    refine ⟨?_, rfl⟩
    simp at h
    simp
    intro e; subst e; simp at h
  · conv => whnf
    refine loop (α := Nat) (fun i => ⟨[(0, .v (.c (.sl false .inst 0))), (1, .v (.c (.sl false .inst 1))), (5, .v (.c (.int .i64 (i : Int))))], [(1, some (.flat false .inst none b)), (0, some (.flat false .inst none a))], nums.tail.tail, [], false, []⟩)
      (fun i => i ≤ a.length ∧ a.take i = b.take i) (fun i => a.length - i) (fun i R hI hR => ?_) 0 _ ⟨by simp, by simp⟩ (by omega)
    conv => whnf
    repeat' (first | (refine sel_i (fun h2 => ?_) (fun h2 => ?_) <;> conv => whnf) | (refine chk_c ?_ ?_ <;> conv => whnf))
    all_goals (have hl : a.length = b.length := by simp at h; omega)
    · exact ⟨by simp at h2; omega⟩
    · exact ⟨by simp at h2; omega⟩
    · exact ⟨by simp at h2; omega⟩
    · exact ⟨by simp at h2; omega⟩
    · refine ⟨?_, rfl⟩
      have hne : a ≠ b := fun e => by subst e; simp at h2
      simp [hne]
    · rename_i h3
      have hlt : i < a.length := by simpa using h3
      rw [wrap_id (n := (i : Int) + 1) (by omega) (by omega)]
      exact hR (i + 1) ⟨by omega, take_step (z := FT.zero .inst) hI.2 hlt (by omega) (nd_t h2)⟩ (by omega)
    · refine ⟨?_, rfl⟩
      have hge : a.length ≤ i := by simpa using h2
      have : a = b := take_all hI.2 hge (by omega)
      simp [this]
theorem ok_laws_eqInsS : FunOk Try.prog c_laws_eqInsS := funOk (E := [c_laws_eqIns]) (envOk_cons ok_laws_eqIns (envOk_nil)) mixd Try.func54 (pf := pf_laws_eqInsS) (by kernel_rfl) fun ts K h => by
  obtain ⟨t0, t1, e0, h⟩ := as2_out h
  subst e0
  obtain ⟨a, e1, hq⟩ := arC_out (rd_l .inst) h
  clear h
  subst e1
  have h := hq
  clear hq
  obtain ⟨b, e1, hq⟩ := arC_out (rd_l .inst) h
  clear h
  subst e1
  have h := hq
  clear hq
  obtain ⟨hpre, h⟩ := chk_o h
  exact ⟨_, _, h, Nat.le_of_ble_eq_true (show Nat.ble 2 Try.f54.ntmps = true by kernel_rfl), _, run_laws_eqInsS a b hpre⟩

def lb_laws_markInsS_0 : PC := .seq (.seq (.reg [.s (.mv 6 (.t 5)), .s (.mv 7 (.t 0)), .s (.len 8 false (.t 7)), .s (.bin 9 .lss (.t 6) (.t 8))]) (.cond (.t 9) (.skip) (.exit 0))) (.seq (.blk 1 (.seq (.reg [.s (.mv 12 (.t 0)), .s (.mv 13 (.t 5)), .s (.mv 14 (.t 1)), .s (.ia 15 .inst (.t 12) (.t 13)), .s (.fa 16 (.t 15) 0), .s (.store 1 (.t 16) (.t 14))]) (.seq (.reg [.s (.mv 17 (.t 1)), .s (.bin 18 .add (.t 17) (.k (.v (.c (.int .i64 1))))), .s (.mv 1 (.t 18))]) (.seq (.reg [.s (.mv 19 (.t 0)), .s (.mv 20 (.t 5)), .s (.mv 21 (.t 1)), .s (.ia 22 .inst (.t 19) (.t 20)), .s (.fa 23 (.t 22) 1), .s (.store 1 (.t 23) (.t 21))]) (.seq (.reg [.s (.mv 24 (.t 1)), .s (.bin 25 .add (.t 24) (.k (.v (.c (.int .i64 1))))), .s (.mv 1 (.t 25))]) (.seq (.reg [.s (.mv 26 (.t 0)), .s (.mv 27 (.t 5)), .s (.mv 28 (.t 1)), .s (.ia 29 .inst (.t 26) (.t 27)), .s (.fa 30 (.t 29) 2), .s (.store 1 (.t 30) (.t 28))]) (.seq (.reg [.s (.mv 31 (.t 1)), .s (.bin 32 .add (.t 31) (.k (.v (.c (.int .i64 1))))), .s (.mv 1 (.t 32))]) (.seq (.reg [.s (.mv 33 (.t 0)), .s (.mv 34 (.t 5)), .s (.mv 35 (.t 1)), .s (.ia 36 .inst (.t 33) (.t 34)), .s (.fa 37 (.t 36) 3), .s (.store 1 (.t 37) (.t 35))]) (.seq (.reg [.s (.mv 38 (.t 1)), .s (.bin 39 .add (.t 38) (.k (.v (.c (.int .i64 1))))), .s (.mv 1 (.t 39))]) (.seq (.reg [.s (.mv 40 (.t 0)), .s (.mv 41 (.t 5)), .s (.mv 42 (.t 1)), .s (.ia 43 .inst (.t 40) (.t 41)), .s (.fa 44 (.t 43) 4), .s (.store 1 (.t 44) (.t 42))]) (.reg [.s (.mv 45 (.t 1)), .s (.bin 46 .add (.t 45) (.k (.v (.c (.int .i64 1))))), .s (.mv 1 (.t 46))]))))))))))) (.reg [.s (.mv 10 (.t 5)), .s (.bin 11 .add (.t 10) (.k (.v (.c (.int .i64 1))))), .s (.mv 5 (.t 11))]))
def pf_laws_markInsS : PF := ⟨[.t 4], .seq (.reg [.s (.mv 4 (.k (.v (.c (.int .i64 0)))))]) (.seq (.seq (.reg [.s (.mv 5 (.k (.v (.c (.int .i64 0)))))]) (.blk 0 (.loop [0, 1, 5] lb_laws_markInsS_0))) (.seq (.reg [.s (.mv 47 (.t 1)), .s (.mv 4 (.t 47))]) (.ret)))⟩
def c_laws_markInsS : Fun := ⟨55, [true, false], fun ts K => as2 ts fun t0 t1 => arC (pO .inst) t0 fun a => arC (pI .i64) t1 fun k => chk (0 ≤ k ∧ k ≤ 1125899906842624 ∧ a.length ≤ 2147483647) (K (tN (k + 5 * a.length)) ([tL true .inst (mkInsS a.length k)]))⟩
theorem run_laws_markInsS (a : List (FT.Ty .inst)) (k : Int) (hpre : 0 ≤ k ∧ k ≤ 1125899906842624 ∧ a.length ≤ 2147483647) : runK [] (a.length + 1) [true, false] pf_laws_markInsS [tL true .inst a, tI .i64 k] fun r o => r = tN (k + 5 * a.length) ∧ o = [tL true .inst (mkInsS a.length k)] := by
  have hml : (mkInsS a.length k).length = a.length := by simp [mkInsS]
  conv => whnf
  refine loop (α := Nat × Int × List Inst) (fun p => ⟨[(0, .v (.c (.sl false .inst 0))), (1, .v (.c (.int .i64 p.2.1))), (5, .v (.c (.int .i64 (p.1 : Int))))], [(0, some (.flat true .inst none p.2.2))], nums.tail, [.v (.c (.sl false .inst 0))], false, []⟩)
      (fun p => p.1 ≤ a.length ∧ p.2.1 = k + 5 * p.1 ∧ p.2.2 = (mkInsS a.length k).take p.1 ++ a.drop p.1) (fun p => a.length - p.1) (fun p R hI hR => ?_) (0, k, a) _ ⟨by simp, by simp, by simp⟩ (by simp)
  obtain ⟨i, c, xs⟩ := p
  obtain ⟨hi, hc, hx⟩ := hI
  dsimp only at hi hc hx
  have hlen : xs.length = a.length := by rw [hx]; simp [hml]; omega
  dsimp only
  conv => whnf
  refine sel_i (fun h2 => ?_) (fun h2 => ?_)
  · have hlt : i < a.length := by simp at h2; omega
    have hget : ∀ x : Inst, (xs.set i x).getD i (FT.zero .inst) = x := fun x => by simp [List.getD_eq_getElem?_getD, hlen, hlt]
    have hmk : (mkInsS a.length k)[i]? = some (elIns c) := by simp [mkInsS, hlt, hc]
    conv => whnf
    repeat' (refine chk_c ?_ ?_ <;> conv => whnf)
    all_goals first
      | (refine ⟨?_⟩; omega)
      | (refine ⟨?_⟩; simp; done)
      | (refine ⟨?_⟩; simp; omega)
      | skip
    simp (disch := omega) only [wrap_id, Int.toNat_natCast, hget, List.set_set]
    exact hR (i + 1, c + 1 + 1 + 1 + 1 + 1, xs.set i (elIns c)) ⟨by omega, by simp; omega, by rw [hx]; exact set_mid hml hlt hmk⟩ (by simp; omega)
  · have hge : i = a.length := by simp at h2; omega
    subst hge
    conv => whnf
    refine ⟨by rw [hc], ?_⟩
    rw [hx, List.take_of_length_le (by omega), List.drop_eq_nil_of_le (by omega), List.append_nil]
theorem ok_laws_markInsS : FunOk Try.prog c_laws_markInsS := funOk (E := []) (envOk_nil) mixd Try.func55 (pf := pf_laws_markInsS) (by kernel_rfl) fun ts K h => by
  obtain ⟨t0, t1, e0, h⟩ := as2_out h
  subst e0
  obtain ⟨a, e1, hq⟩ := arC_out (rd_o .inst) h
  clear h
  subst e1
  have h := hq
  clear hq
  obtain ⟨k, e1, hq⟩ := arC_out (rd_int .i64) h
  clear h
  subst e1
  have h := hq
  clear hq
  obtain ⟨hpre, h⟩ := chk_o h
  exact ⟨_, _, h, Nat.le_of_ble_eq_true (show Nat.ble 2 Try.f55.ntmps = true by kernel_rfl), _, run_laws_markInsS a k hpre⟩

def copyCode (a b n : Int) : List Inst := (List.range n.toNat).flatMap (fun j : Nat => [⟨10, 1, 0, 0, w64 (a + j)⟩, ⟨11, 0, 0, 1, w64 (b + j)⟩])
def copyAll (a b n : Int) : List Inst := if room a n && room b n then copyCode a b n ++ [⟨15, 0, 0, 0, 0⟩] else []
def wipeCode (a n : Int) : List Inst := ⟨1, 1, 0, 0, 0⟩ :: (List.range n.toNat).map (fun j : Nat => ⟨11, 0, 0, 1, w64 (a + j)⟩)
def wipeAll (a n : Int) : List Inst := if room a n then wipeCode a n ++ [⟨15, 0, 0, 0, 0⟩] else []
theorem room_n {a n : Int} (h : room a n = true) : 1 ≤ n ∧ n ≤ 20 := by
  simp [room, inR] at h; exact ⟨h.1.1, h.1.2⟩
theorem copyCode_len (a b : Int) (m : Nat) : ((List.range m).flatMap (fun j : Nat => ([⟨10, 1, 0, 0, w64 (a + j)⟩, ⟨11, 0, 0, 1, w64 (b + j)⟩] : List Inst))).length = 2 * m := by
  induction m with
  | zero => rfl
  | succ m ih => rw [List.range_succ, List.flatMap_append, List.length_append, ih]; simp; omega
theorem copyAll_le (a b n : Int) : (copyAll a b n).length ≤ 41 := by
  unfold copyAll
  split
  · rename_i h
    have := room_n (a := a) (n := n) (by simp at h; exact h.1)
    have hl := copyCode_len a b n.toNat
    simp only [copyCode, List.length_append, hl, List.length_cons, List.length_nil]; omega
  · simp
theorem wipeAll_le (a n : Int) : (wipeAll a n).length ≤ 22 := by
  unfold wipeAll
  split
  · rename_i h
    have := room_n h
    simp [wipeCode]; omega
  · simp

def pf_laws_eqKey : PF := ⟨[.t 4], .seq (.reg [.s (.box 2 (.t 0)), .s (.box 3 (.t 1)), .s (.mv 4 (.k (.v (.c .ff))))]) (.seq (.seq (.reg [.s (.fa 5 (.t 2) 0), .s (.load 6 false 1 (.t 5)), .s (.fa 7 (.t 3) 0), .s (.load 8 false 1 (.t 7)), .s (.bin 9 .neq (.t 6) (.t 8))]) (.cond (.t 9) (.seq (.reg [.s (.mv 4 (.k (.v (.c .ff))))]) (.ret)) (.skip))) (.seq (.seq (.reg [.s (.fa 10 (.t 2) 1), .s (.load 11 false 1 (.t 10)), .s (.fa 12 (.t 3) 1), .s (.load 13 false 1 (.t 12)), .s (.bin 14 .neq (.t 11) (.t 13))]) (.cond (.t 14) (.seq (.reg [.s (.mv 4 (.k (.v (.c .ff))))]) (.ret)) (.skip))) (.seq (.seq (.reg [.s (.fa 15 (.t 2) 2), .s (.load 16 false 1 (.t 15)), .s (.fa 17 (.t 3) 2), .s (.load 18 false 1 (.t 17)), .s (.bin 19 .neq (.t 16) (.t 18))]) (.cond (.t 19) (.seq (.reg [.s (.mv 4 (.k (.v (.c .ff))))]) (.ret)) (.skip))) (.seq (.seq (.reg [.s (.fa 20 (.t 2) 3), .s (.load 21 false 1 (.t 20)), .s (.fa 22 (.t 3) 3), .s (.load 23 false 1 (.t 22)), .s (.bin 24 .neq (.t 21) (.t 23))]) (.cond (.t 24) (.seq (.reg [.s (.mv 4 (.k (.v (.c .ff))))]) (.ret)) (.skip))) (.seq (.reg [.s (.mv 4 (.k (.v (.c .tt))))]) (.ret))))))⟩
def c_laws_eqKey : Fun := ⟨106, [], fun ts K => as2 ts fun t0 t1 => arG pKeyT t0 fun a => arG pKeyT t1 fun b => K (tB (decide (a = b))) []⟩
theorem run_laws_eqKey (a : Key) (b : Key) : runK [] (0) [] pf_laws_eqKey [tG (a.tc []), tG (b.tc [])] fun r o => r = tB (decide (a = b)) ∧ o = [] := by
  obtain ⟨a1, a2, a3, a4⟩ := a
  obtain ⟨b1, b2, b3, b4⟩ := b
  conv => whnf
  repeat' (refine sel_i (fun h => ?_) (fun h => ?_) <;> conv => whnf)
  all_goals (refine ⟨?_, rfl⟩; simp_all)
theorem ok_laws_eqKey : FunOk Try.prog c_laws_eqKey := funOk (E := []) (envOk_nil) mixd Try.func106 (pf := pf_laws_eqKey) (by kernel_rfl) fun ts K h => by
  obtain ⟨t0, t1, e0, h⟩ := as2_out h
  subst e0
  obtain ⟨a, e1, hq⟩ := arG_out rd_key h
  clear h
  subst e1
  have h := hq
  clear hq
  obtain ⟨b, e1, hq⟩ := arG_out rd_key h
  clear h
  subst e1
  have h := hq
  clear hq
  exact ⟨_, _, h, Nat.le_of_ble_eq_true (show Nat.ble 2 Try.f106.ntmps = true by kernel_rfl), _, run_laws_eqKey a b⟩

def pf_laws_eqWord : PF := ⟨[.t 4], .seq (.reg [.s (.box 2 (.t 0)), .s (.box 3 (.t 1)), .s (.mv 4 (.k (.v (.c .ff))))]) (.seq (.seq (.reg [.s (.fa 5 (.t 2) 0), .s (.load 6 false 1 (.t 5)), .s (.fa 7 (.t 3) 0), .s (.load 8 false 1 (.t 7)), .s (.bin 9 .neq (.t 6) (.t 8))]) (.cond (.t 9) (.seq (.reg [.s (.mv 4 (.k (.v (.c .ff))))]) (.ret)) (.skip))) (.seq (.seq (.reg [.s (.fa 10 (.t 2) 1), .s (.load 11 false 1 (.t 10)), .s (.fa 12 (.t 3) 1), .s (.load 13 false 1 (.t 12)), .s (.eqs 14 false [.b] true (.t 11) (.t 13))]) (.cond (.t 14) (.seq (.reg [.s (.mv 4 (.k (.v (.c .ff))))]) (.ret)) (.skip))) (.seq (.seq (.reg [.s (.fa 15 (.t 2) 2), .s (.load 16 true 4 (.t 15)), .s (.fa 17 (.t 3) 2), .s (.load 18 true 4 (.t 17)), .s (.call (some 19) 106 [(.t 16), (.t 18)]), .s (.bnot 20 (.t 19))]) (.cond (.t 20) (.seq (.reg [.s (.mv 4 (.k (.v (.c .ff))))]) (.ret)) (.skip))) (.seq (.reg [.s (.mv 4 (.k (.v (.c .tt))))]) (.ret)))))⟩
def c_laws_eqWord : Fun := ⟨40, [], fun ts K => as2 ts fun t0 t1 => arG pWordT t0 fun a => arG pWordT t1 fun b => K (tB (decide (a = b))) []⟩
theorem run_laws_eqWord (a : Word) (b : Word) : runK [c_laws_eqKey] (0) [] pf_laws_eqWord [tG (a.tc []), tG (b.tc [])] fun r o => r = tB (decide (a = b)) ∧ o = [] := by
  obtain ⟨a1, a2, a3⟩ := a
  obtain ⟨b1, b2, b3⟩ := b
  conv => whnf
  refine sel_i (fun h => ?_) (fun h => ?_) <;> conv => whnf
  · refine ⟨?_, rfl⟩; simp at h; simp [h]
  refine sel_i (fun h2 => ?_) (fun h2 => ?_) <;> conv => whnf
  · refine ⟨?_, rfl⟩; simp at h2; simp [h2]
  refine sel_i (fun h3 => ?_) (fun h3 => ?_) <;> conv => whnf
  · have h3 : ¬ a3 = b3 := nd_f h3
    refine ⟨?_, rfl⟩; simp [h3]
  · have h3 : a3 = b3 := nd_t h3
    refine ⟨?_, rfl⟩; simp at h h2; simp [h, h2, h3]
theorem ok_laws_eqWord : FunOk Try.prog c_laws_eqWord := funOk (E := [c_laws_eqKey]) (envOk_cons ok_laws_eqKey (envOk_nil)) mixd Try.func40 (pf := pf_laws_eqWord) (by kernel_rfl) fun ts K h => by
  obtain ⟨t0, t1, e0, h⟩ := as2_out h
  subst e0
  obtain ⟨a, e1, hq⟩ := arG_out rd_word h
  clear h
  subst e1
  have h := hq
  clear hq
  obtain ⟨b, e1, hq⟩ := arG_out rd_word h
  clear h
  subst e1
  have h := hq
  clear hq
  exact ⟨_, _, h, Nat.le_of_ble_eq_true (show Nat.ble 2 Try.f40.ntmps = true by kernel_rfl), _, run_laws_eqWord a b⟩

def pf_laws_eqSpan : PF := ⟨[.t 4], .seq (.reg [.s (.box 2 (.t 0)), .s (.box 3 (.t 1)), .s (.mv 4 (.k (.v (.c .ff))))]) (.seq (.seq (.reg [.s (.fa 5 (.t 2) 0), .s (.load 6 false 1 (.t 5)), .s (.fa 7 (.t 3) 0), .s (.load 8 false 1 (.t 7)), .s (.bin 9 .neq (.t 6) (.t 8))]) (.cond (.t 9) (.seq (.reg [.s (.mv 4 (.k (.v (.c .ff))))]) (.ret)) (.skip))) (.seq (.seq (.reg [.s (.fa 10 (.t 2) 1), .s (.load 11 false 1 (.t 10)), .s (.fa 12 (.t 3) 1), .s (.load 13 false 1 (.t 12)), .s (.bin 14 .neq (.t 11) (.t 13))]) (.cond (.t 14) (.seq (.reg [.s (.mv 4 (.k (.v (.c .ff))))]) (.ret)) (.skip))) (.seq (.reg [.s (.mv 4 (.k (.v (.c .tt))))]) (.ret))))⟩
def c_laws_eqSpan : Fun := ⟨136, [], fun ts K => as2 ts fun t0 t1 => arG pSpanT t0 fun a => arG pSpanT t1 fun b => K (tB (decide (a = b))) []⟩
theorem run_laws_eqSpan (a : Span) (b : Span) : runK [] (0) [] pf_laws_eqSpan [tG (a.tc []), tG (b.tc [])] fun r o => r = tB (decide (a = b)) ∧ o = [] := by
  obtain ⟨a1, a2⟩ := a
  obtain ⟨b1, b2⟩ := b
  conv => whnf
  repeat' (refine sel_i (fun h => ?_) (fun h => ?_) <;> conv => whnf)
  all_goals (refine ⟨?_, rfl⟩; simp_all)
theorem ok_laws_eqSpan : FunOk Try.prog c_laws_eqSpan := funOk (E := []) (envOk_nil) mixd Try.func136 (pf := pf_laws_eqSpan) (by kernel_rfl) fun ts K h => by
  obtain ⟨t0, t1, e0, h⟩ := as2_out h
  subst e0
  obtain ⟨a, e1, hq⟩ := arG_out rd_span h
  clear h
  subst e1
  have h := hq
  clear hq
  obtain ⟨b, e1, hq⟩ := arG_out rd_span h
  clear h
  subst e1
  have h := hq
  clear hq
  exact ⟨_, _, h, Nat.le_of_ble_eq_true (show Nat.ble 2 Try.f136.ntmps = true by kernel_rfl), _, run_laws_eqSpan a b⟩

def elWord (c : Int) : Word := ⟨c, (Int.tmod (c + 1) 3 == 0), ⟨c + 1 + 1, c + 1 + 1 + 1, c + 1 + 1 + 1 + 1, c + 1 + 1 + 1 + 1 + 1⟩⟩
def mkWordS (n : Nat) (k : Int) : List Word := (List.range n).map (fun j : Nat => elWord (k + 6 * j))
theorem mkWordS_length (n : Nat) (k : Int) : (mkWordS n k).length = n := by simp [mkWordS]

def lb_laws_eqWordS_0 : PC := .seq (.seq (.reg [.s (.mv 11 (.t 5)), .s (.mv 12 (.t 0)), .s (.len 13 false (.t 12)), .s (.bin 14 .lss (.t 11) (.t 13))]) (.cond (.t 14) (.skip) (.exit 0))) (.seq (.blk 1 (.seq (.rgd [.s (.mv 17 (.t 0)), .s (.mv 18 (.t 5)), .s (.ia 19 .word (.t 17) (.t 18)), .s (.load 20 true 6 (.t 19)), .s (.mv 21 (.t 1)), .s (.mv 22 (.t 5)), .s (.ia 23 .word (.t 21) (.t 22)), .s (.load 24 true 6 (.t 23)), .s (.call (some 25) 40 [(.t 20), (.t 24)]), .s (.bnot 26 (.t 25))] (.tk 0 (.tk 1 (.tk 2 (.tk 3 (.tk 4 (.tk 5 (.tk 6 (.tk 7 (.one 8 true (.tk 9 (.done none)))))))))))) (.cond (.t 26) (.seq (.reg [.s (.mv 4 (.k (.v (.c .ff))))]) (.ret)) (.skip)))) (.reg [.s (.mv 15 (.t 5)), .s (.bin 16 .add (.t 15) (.k (.v (.c (.int .i64 1))))), .s (.mv 5 (.t 16))]))
def pf_laws_eqWordS : PF := ⟨[.t 4], .seq (.reg [.s (.mv 4 (.k (.v (.c .ff))))]) (.seq (.seq (.reg [.s (.mv 6 (.t 0)), .s (.len 7 false (.t 6)), .s (.mv 8 (.t 1)), .s (.len 9 false (.t 8)), .s (.bin 10 .neq (.t 7) (.t 9))]) (.cond (.t 10) (.seq (.reg [.s (.mv 4 (.k (.v (.c .ff))))]) (.ret)) (.skip))) (.seq (.seq (.reg [.s (.mv 5 (.k (.v (.c (.int .i64 0)))))]) (.blk 0 (.loop [0, 1, 5] lb_laws_eqWordS_0))) (.seq (.reg [.s (.mv 4 (.k (.v (.c .tt))))]) (.ret))))⟩
def c_laws_eqWordS : Fun := ⟨75, [], fun ts K => as2 ts fun t0 t1 => arC (pL .word) t0 fun a => arC (pL .word) t1 fun b => chk (a.length ≤ 2147483647) (K (tB (decide (a = b))) [])⟩
theorem run_laws_eqWordS (a : List (FT.Ty .word)) (b : List (FT.Ty .word)) (hpre : a.length ≤ 2147483647) : runK [c_laws_eqWord] (a.length + 1) [] pf_laws_eqWordS [tL false .word a, tL false .word b] fun r o => r = tB (decide (a = b)) ∧ o = [] := by
  conv => whnf
  refine sel_i (fun h => ?_) (fun h => ?_)
  · conv => whnf
    refine ⟨?_, rfl⟩
    simp at h
    simp
    intro e; subst e; simp at h
  · conv => whnf
    refine loop (α := Nat) (fun i => ⟨[(0, .v (.c (.sl false .word 0))), (1, .v (.c (.sl false .word 1))), (5, .v (.c (.int .i64 (i : Int))))], [(1, some (.flat false .word none b)), (0, some (.flat false .word none a))], nums.tail.tail, [], false, []⟩)
      (fun i => i ≤ a.length ∧ a.take i = b.take i) (fun i => a.length - i) (fun i R hI hR => ?_) 0 _ ⟨by simp, by simp⟩ (by omega)
    conv => whnf
    repeat' (first | (refine sel_i (fun h2 => ?_) (fun h2 => ?_) <;> conv => whnf) | (refine chk_c ?_ ?_ <;> conv => whnf))
    all_goals (have hl : a.length = b.length := by simp at h; omega)
    · exact ⟨by simp at h2; omega⟩
    · exact ⟨by simp at h2; omega⟩
    · exact ⟨by simp at h2; omega⟩
    · exact ⟨by simp at h2; omega⟩
    · refine ⟨?_, rfl⟩
      have hne : a ≠ b := fun e => by subst e; simp at h2
      simp [hne]
    · rename_i h3
      have hlt : i < a.length := by simpa using h3
      rw [wrap_id (n := (i : Int) + 1) (by omega) (by omega)]
      exact hR (i + 1) ⟨by omega, take_step (z := FT.zero .word) hI.2 hlt (by omega) (nd_t h2)⟩ (by omega)
    · refine ⟨?_, rfl⟩
      have hge : a.length ≤ i := by simpa using h2
      have : a = b := take_all hI.2 hge (by omega)
      simp [this]
theorem ok_laws_eqWordS : FunOk Try.prog c_laws_eqWordS := funOk (E := [c_laws_eqWord]) (envOk_cons ok_laws_eqWord (envOk_nil)) mixd Try.func75 (pf := pf_laws_eqWordS) (by kernel_rfl) fun ts K h => by
  obtain ⟨t0, t1, e0, h⟩ := as2_out h
  subst e0
  obtain ⟨a, e1, hq⟩ := arC_out (rd_l .word) h
  clear h
  subst e1
  have h := hq
  clear hq
  obtain ⟨b, e1, hq⟩ := arC_out (rd_l .word) h
  clear h
  subst e1
  have h := hq
  clear hq
  obtain ⟨hpre, h⟩ := chk_o h
  exact ⟨_, _, h, Nat.le_of_ble_eq_true (show Nat.ble 2 Try.f75.ntmps = true by kernel_rfl), _, run_laws_eqWordS a b hpre⟩

def lb_laws_markWordS_0 : PC := .seq (.seq (.reg [.s (.mv 6 (.t 5)), .s (.mv 7 (.t 0)), .s (.len 8 false (.t 7)), .s (.bin 9 .lss (.t 6) (.t 8))]) (.cond (.t 9) (.skip) (.exit 0))) (.seq (.blk 1 (.seq (.reg [.s (.mv 12 (.t 0)), .s (.mv 13 (.t 5)), .s (.mv 14 (.t 1)), .s (.ia 15 .word (.t 12) (.t 13)), .s (.fa 16 (.t 15) 0), .s (.store 1 (.t 16) (.t 14))]) (.seq (.reg [.s (.mv 17 (.t 1)), .s (.bin 18 .add (.t 17) (.k (.v (.c (.int .i64 1))))), .s (.mv 1 (.t 18))]) (.seq (.reg [.s (.mv 19 (.t 0)), .s (.mv 20 (.t 5)), .s (.mv 21 (.t 1)), .s (.bin 22 .rem (.t 21) (.k (.v (.c (.int .i64 3))))), .s (.bin 23 .eql (.t 22) (.k (.v (.c (.int .i64 0))))), .s (.ia 24 .word (.t 19) (.t 20)), .s (.fa 25 (.t 24) 1), .s (.store 1 (.t 25) (.t 23))]) (.seq (.reg [.s (.mv 26 (.t 1)), .s (.bin 27 .add (.t 26) (.k (.v (.c (.int .i64 1))))), .s (.mv 1 (.t 27))]) (.seq (.reg [.s (.mv 28 (.t 0)), .s (.mv 29 (.t 5)), .s (.mv 30 (.t 1)), .s (.ia 31 .word (.t 28) (.t 29)), .s (.fa 32 (.t 31) 2), .s (.fa 33 (.t 32) 0), .s (.store 1 (.t 33) (.t 30))]) (.seq (.reg [.s (.mv 34 (.t 1)), .s (.bin 35 .add (.t 34) (.k (.v (.c (.int .i64 1))))), .s (.mv 1 (.t 35))]) (.seq (.reg [.s (.mv 36 (.t 0)), .s (.mv 37 (.t 5)), .s (.mv 38 (.t 1)), .s (.ia 39 .word (.t 36) (.t 37)), .s (.fa 40 (.t 39) 2), .s (.fa 41 (.t 40) 1), .s (.store 1 (.t 41) (.t 38))]) (.seq (.reg [.s (.mv 42 (.t 1)), .s (.bin 43 .add (.t 42) (.k (.v (.c (.int .i64 1))))), .s (.mv 1 (.t 43))]) (.seq (.reg [.s (.mv 44 (.t 0)), .s (.mv 45 (.t 5)), .s (.mv 46 (.t 1)), .s (.ia 47 .word (.t 44) (.t 45)), .s (.fa 48 (.t 47) 2), .s (.fa 49 (.t 48) 2), .s (.store 1 (.t 49) (.t 46))]) (.seq (.reg [.s (.mv 50 (.t 1)), .s (.bin 51 .add (.t 50) (.k (.v (.c (.int .i64 1))))), .s (.mv 1 (.t 51))]) (.seq (.reg [.s (.mv 52 (.t 0)), .s (.mv 53 (.t 5)), .s (.mv 54 (.t 1)), .s (.ia 55 .word (.t 52) (.t 53)), .s (.fa 56 (.t 55) 2), .s (.fa 57 (.t 56) 3), .s (.store 1 (.t 57) (.t 54))]) (.reg [.s (.mv 58 (.t 1)), .s (.bin 59 .add (.t 58) (.k (.v (.c (.int .i64 1))))), .s (.mv 1 (.t 59))]))))))))))))) (.reg [.s (.mv 10 (.t 5)), .s (.bin 11 .add (.t 10) (.k (.v (.c (.int .i64 1))))), .s (.mv 5 (.t 11))]))
def pf_laws_markWordS : PF := ⟨[.t 4], .seq (.reg [.s (.mv 4 (.k (.v (.c (.int .i64 0)))))]) (.seq (.seq (.reg [.s (.mv 5 (.k (.v (.c (.int .i64 0)))))]) (.blk 0 (.loop [0, 1, 5] lb_laws_markWordS_0))) (.seq (.reg [.s (.mv 60 (.t 1)), .s (.mv 4 (.t 60))]) (.ret)))⟩
def c_laws_markWordS : Fun := ⟨77, [true, false], fun ts K => as2 ts fun t0 t1 => arC (pO .word) t0 fun a => arC (pI .i64) t1 fun k => chk (0 ≤ k ∧ k ≤ 1125899906842624 ∧ a.length ≤ 2147483647) (K (tN (k + 6 * a.length)) ([tL true .word (mkWordS a.length k)]))⟩
theorem run_laws_markWordS (a : List (FT.Ty .word)) (k : Int) (hpre : 0 ≤ k ∧ k ≤ 1125899906842624 ∧ a.length ≤ 2147483647) : runK [] (a.length + 1) [true, false] pf_laws_markWordS [tL true .word a, tI .i64 k] fun r o => r = tN (k + 6 * a.length) ∧ o = [tL true .word (mkWordS a.length k)] := by
  have hml : (mkWordS a.length k).length = a.length := by simp [mkWordS]
  conv => whnf
  refine loop (α := Nat × Int × List Word) (fun p => ⟨[(0, .v (.c (.sl false .word 0))), (1, .v (.c (.int .i64 p.2.1))), (5, .v (.c (.int .i64 (p.1 : Int))))], [(0, some (.flat true .word none p.2.2))], nums.tail, [.v (.c (.sl false .word 0))], false, []⟩)
      (fun p => p.1 ≤ a.length ∧ p.2.1 = k + 6 * p.1 ∧ p.2.2 = (mkWordS a.length k).take p.1 ++ a.drop p.1) (fun p => a.length - p.1) (fun p R hI hR => ?_) (0, k, a) _ ⟨by simp, by simp, by simp⟩ (by simp)
  obtain ⟨i, c, xs⟩ := p
  obtain ⟨hi, hc, hx⟩ := hI
  dsimp only at hi hc hx
  have hlen : xs.length = a.length := by rw [hx]; simp [hml]; omega
  dsimp only
  conv => whnf
  refine sel_i (fun h2 => ?_) (fun h2 => ?_)
  · have hlt : i < a.length := by simp at h2; omega
    have hget : ∀ x : Word, (xs.set i x).getD i (FT.zero .word) = x := fun x => by simp [List.getD_eq_getElem?_getD, hlen, hlt]
    have hmk : (mkWordS a.length k)[i]? = some (elWord c) := by simp [mkWordS, hlt, hc]
    conv => whnf
    repeat' (refine chk_c ?_ ?_ <;> conv => whnf)
    all_goals first
      | (refine ⟨?_⟩; omega)
      | (refine ⟨?_⟩; simp; done)
      | (refine ⟨?_⟩; simp; omega)
      | skip
    simp (disch := omega) only [wrap_id, Int.toNat_natCast, hget, List.set_set]
    exact hR (i + 1, c + 1 + 1 + 1 + 1 + 1 + 1, xs.set i (elWord c)) ⟨by omega, by simp; omega, by rw [hx]; exact set_mid hml hlt hmk⟩ (by simp; omega)
  · have hge : i = a.length := by simp at h2; omega
    subst hge
    conv => whnf
    refine ⟨by rw [hc], ?_⟩
    rw [hx, List.take_of_length_le (by omega), List.drop_eq_nil_of_le (by omega), List.append_nil]
theorem ok_laws_markWordS : FunOk Try.prog c_laws_markWordS := funOk (E := []) (envOk_nil) mixd Try.func77 (pf := pf_laws_markWordS) (by kernel_rfl) fun ts K h => by
  obtain ⟨t0, t1, e0, h⟩ := as2_out h
  subst e0
  obtain ⟨a, e1, hq⟩ := arC_out (rd_o .word) h
  clear h
  subst e1
  have h := hq
  clear hq
  obtain ⟨k, e1, hq⟩ := arC_out (rd_int .i64) h
  clear h
  subst e1
  have h := hq
  clear hq
  obtain ⟨hpre, h⟩ := chk_o h
  exact ⟨_, _, h, Nat.le_of_ble_eq_true (show Nat.ble 2 Try.f77.ntmps = true by kernel_rfl), _, run_laws_markWordS a k hpre⟩

def lb_laws_heldWordS_0 : PC := .seq (.seq (.reg [.s (.mv 6 (.t 5)), .s (.mv 7 (.t 0)), .s (.len 8 false (.t 7)), .s (.bin 9 .lss (.t 6) (.t 8))]) (.cond (.t 9) (.skip) (.exit 0))) (.seq (.blk 1 (.seq (.seq (.reg [.s (.mv 12 (.t 0)), .s (.mv 13 (.t 5)), .s (.ia 14 .word (.t 12) (.t 13)), .s (.fa 15 (.t 14) 0), .s (.load 16 false 1 (.t 15)), .s (.mv 17 (.t 1)), .s (.bin 18 .neq (.t 16) (.t 17))]) (.cond (.t 18) (.seq (.reg [.s (.mv 4 (.k (.v (.c (.int .i64 (-1))))))]) (.ret)) (.skip))) (.seq (.reg [.s (.mv 19 (.t 1)), .s (.bin 20 .add (.t 19) (.k (.v (.c (.int .i64 1))))), .s (.mv 1 (.t 20))]) (.seq (.seq (.reg [.s (.mv 21 (.t 0)), .s (.mv 22 (.t 5)), .s (.ia 23 .word (.t 21) (.t 22)), .s (.fa 24 (.t 23) 1), .s (.load 25 false 1 (.t 24)), .s (.mv 26 (.t 1)), .s (.bin 27 .rem (.t 26) (.k (.v (.c (.int .i64 3))))), .s (.bin 28 .eql (.t 27) (.k (.v (.c (.int .i64 0))))), .s (.eqs 29 false [.b] true (.t 25) (.t 28))]) (.cond (.t 29) (.seq (.reg [.s (.mv 4 (.k (.v (.c (.int .i64 (-1))))))]) (.ret)) (.skip))) (.seq (.reg [.s (.mv 30 (.t 1)), .s (.bin 31 .add (.t 30) (.k (.v (.c (.int .i64 1))))), .s (.mv 1 (.t 31))]) (.seq (.seq (.reg [.s (.mv 32 (.t 0)), .s (.mv 33 (.t 5)), .s (.ia 34 .word (.t 32) (.t 33)), .s (.fa 35 (.t 34) 2), .s (.fa 36 (.t 35) 0), .s (.load 37 false 1 (.t 36)), .s (.mv 38 (.t 1)), .s (.bin 39 .neq (.t 37) (.t 38))]) (.cond (.t 39) (.seq (.reg [.s (.mv 4 (.k (.v (.c (.int .i64 (-1))))))]) (.ret)) (.skip))) (.seq (.reg [.s (.mv 40 (.t 1)), .s (.bin 41 .add (.t 40) (.k (.v (.c (.int .i64 1))))), .s (.mv 1 (.t 41))]) (.seq (.seq (.reg [.s (.mv 42 (.t 0)), .s (.mv 43 (.t 5)), .s (.ia 44 .word (.t 42) (.t 43)), .s (.fa 45 (.t 44) 2), .s (.fa 46 (.t 45) 1), .s (.load 47 false 1 (.t 46)), .s (.mv 48 (.t 1)), .s (.bin 49 .neq (.t 47) (.t 48))]) (.cond (.t 49) (.seq (.reg [.s (.mv 4 (.k (.v (.c (.int .i64 (-1))))))]) (.ret)) (.skip))) (.seq (.reg [.s (.mv 50 (.t 1)), .s (.bin 51 .add (.t 50) (.k (.v (.c (.int .i64 1))))), .s (.mv 1 (.t 51))]) (.seq (.seq (.reg [.s (.mv 52 (.t 0)), .s (.mv 53 (.t 5)), .s (.ia 54 .word (.t 52) (.t 53)), .s (.fa 55 (.t 54) 2), .s (.fa 56 (.t 55) 2), .s (.load 57 false 1 (.t 56)), .s (.mv 58 (.t 1)), .s (.bin 59 .neq (.t 57) (.t 58))]) (.cond (.t 59) (.seq (.reg [.s (.mv 4 (.k (.v (.c (.int .i64 (-1))))))]) (.ret)) (.skip))) (.seq (.reg [.s (.mv 60 (.t 1)), .s (.bin 61 .add (.t 60) (.k (.v (.c (.int .i64 1))))), .s (.mv 1 (.t 61))]) (.seq (.seq (.reg [.s (.mv 62 (.t 0)), .s (.mv 63 (.t 5)), .s (.ia 64 .word (.t 62) (.t 63)), .s (.fa 65 (.t 64) 2), .s (.fa 66 (.t 65) 3), .s (.load 67 false 1 (.t 66)), .s (.mv 68 (.t 1)), .s (.bin 69 .neq (.t 67) (.t 68))]) (.cond (.t 69) (.seq (.reg [.s (.mv 4 (.k (.v (.c (.int .i64 (-1))))))]) (.ret)) (.skip))) (.reg [.s (.mv 70 (.t 1)), .s (.bin 71 .add (.t 70) (.k (.v (.c (.int .i64 1))))), .s (.mv 1 (.t 71))]))))))))))))) (.reg [.s (.mv 10 (.t 5)), .s (.bin 11 .add (.t 10) (.k (.v (.c (.int .i64 1))))), .s (.mv 5 (.t 11))]))
def pf_laws_heldWordS : PF := ⟨[.t 4], .seq (.reg [.s (.mv 4 (.k (.v (.c (.int .i64 0)))))]) (.seq (.seq (.reg [.s (.mv 5 (.k (.v (.c (.int .i64 0)))))]) (.blk 0 (.loop [0, 1, 5] lb_laws_heldWordS_0))) (.seq (.reg [.s (.mv 72 (.t 1)), .s (.mv 4 (.t 72))]) (.ret)))⟩
def c_laws_heldWordS : Fun := ⟨83, [], fun ts K => as2 ts fun t0 t1 => arC (pL .word) t0 fun a => arC (pI .i64) t1 fun k => chk (0 ≤ k ∧ k ≤ 1125899906842624 ∧ a.length ≤ 2147483647) (K (tN (hres (a = mkWordS a.length k) (k + 6 * a.length))) [])⟩
theorem run_laws_heldWordS (a : List (FT.Ty .word)) (k : Int) (hpre : 0 ≤ k ∧ k ≤ 1125899906842624 ∧ a.length ≤ 2147483647) : runK [] (a.length + 1) [] pf_laws_heldWordS [tL false .word a, tI .i64 k] fun r o => r = tN (hres (a = mkWordS a.length k) (k + 6 * a.length)) ∧ o = [] := by
  have hml : (mkWordS a.length k).length = a.length := by simp [mkWordS]
  conv => whnf
  refine loop (α := Nat × Int) (fun p => ⟨[(0, .v (.c (.sl false .word 0))), (1, .v (.c (.int .i64 p.2))), (5, .v (.c (.int .i64 (p.1 : Int))))], [(0, some (.flat false .word none a))], nums.tail, [], false, []⟩)
      (fun p => p.1 ≤ a.length ∧ p.2 = k + 6 * p.1 ∧ a.take p.1 = (mkWordS a.length k).take p.1) (fun p => a.length - p.1) (fun p R hI hR => ?_) (0, k) _ ⟨by simp, by simp, by simp⟩ (by simp)
  obtain ⟨i, c⟩ := p
  obtain ⟨hi, hc, hx⟩ := hI
  dsimp only at hi hc hx
  dsimp only
  conv => whnf
  refine sel_i (fun h2 => ?_) (fun h2 => ?_)
  · have hlt : i < a.length := by simp at h2; omega
    have hmk : (mkWordS a.length k).getD i (FT.zero .word) = elWord c := by simp [mkWordS, List.getD_eq_getElem?_getD, hlt, hc]
    have hne : a.getD i (FT.zero .word) ≠ elWord c → a ≠ mkWordS a.length k := fun h e => h (by rw [← hmk, ← e])
    conv => whnf
    repeat' (first | (refine sel_i (fun h2 => ?_) (fun h2 => ?_) <;> conv => whnf) | (refine chk_c ?_ ?_ <;> conv => whnf))
    all_goals first
      | (refine ⟨?_⟩; omega)
      | (refine ⟨?_⟩; simp; done)
      | (refine ⟨?_⟩; simp; omega)
      | (refine ⟨?_, rfl⟩
         rw [hres_no (hne (fun e => by
           simp (disch := omega) only [wrap_id, Int.toNat_natCast, e] at h2
           simp [elWord] at h2))])
      | skip
    rename_i e0 e1 e2 e3 e4 e5
    simp (disch := omega) only [wrap_id, Int.toNat_natCast] at e1 e2 e3 e4 e5 h2 ⊢
    have he : a.getD i (FT.zero .word) = elWord c := by
      generalize a.getD i (FT.zero .word) = v at e1 e2 e3 e4 e5 h2
      obtain ⟨v0, v1, ⟨v2, v3, v4, v5⟩⟩ := v
      simp at e1 e2 e3 e4 e5 h2
      simp [elWord, *]
    exact hR (i + 1, c + 1 + 1 + 1 + 1 + 1 + 1) ⟨by omega, by simp; omega, take_step hx hlt (by omega) (he.trans hmk.symm)⟩ (by simp; omega)
  · have hge : i = a.length := by simp at h2; omega
    subst hge
    conv => whnf
    refine ⟨?_, rfl⟩
    rw [List.take_of_length_le (by omega), List.take_of_length_le (by omega)] at hx
    rw [hres_yes hx, hc]
theorem ok_laws_heldWordS : FunOk Try.prog c_laws_heldWordS := funOk (E := []) (envOk_nil) mixd Try.func83 (pf := pf_laws_heldWordS) (by kernel_rfl) fun ts K h => by
  obtain ⟨t0, t1, e0, h⟩ := as2_out h
  subst e0
  obtain ⟨a, e1, hq⟩ := arC_out (rd_l .word) h
  clear h
  subst e1
  have h := hq
  clear hq
  obtain ⟨k, e1, hq⟩ := arC_out (rd_int .i64) h
  clear h
  subst e1
  have h := hq
  clear hq
  obtain ⟨hpre, h⟩ := chk_o h
  exact ⟨_, _, h, Nat.le_of_ble_eq_true (show Nat.ble 2 Try.f83.ntmps = true by kernel_rfl), _, run_laws_heldWordS a k hpre⟩

def elBool (c : Int) : Bool := (Int.tmod (c) 3 == 0)
def mkBoolS (n : Nat) (k : Int) : List Bool := (List.range n).map (fun j : Nat => elBool (k + 1 * j))
theorem mkBoolS_length (n : Nat) (k : Int) : (mkBoolS n k).length = n := by simp [mkBoolS]

def lb_laws_eqBoolS_0 : PC := .seq (.seq (.reg [.s (.mv 11 (.t 5)), .s (.mv 12 (.t 0)), .s (.len 13 false (.t 12)), .s (.bin 14 .lss (.t 11) (.t 13))]) (.cond (.t 14) (.skip) (.exit 0))) (.seq (.blk 1 (.seq (.rgd [.s (.mv 17 (.t 0)), .s (.mv 18 (.t 5)), .s (.ia 19 .bool (.t 17) (.t 18)), .s (.load 20 false 1 (.t 19)), .s (.mv 21 (.t 1)), .s (.mv 22 (.t 5)), .s (.ia 23 .bool (.t 21) (.t 22)), .s (.load 24 false 1 (.t 23)), .s (.eqs 25 false [.b] true (.t 20) (.t 24))] (.tk 0 (.tk 1 (.tk 2 (.tk 3 (.tk 4 (.tk 5 (.tk 6 (.tk 7 (.tk 8 (.done none))))))))))) (.cond (.t 25) (.seq (.reg [.s (.mv 4 (.k (.v (.c .ff))))]) (.ret)) (.skip)))) (.reg [.s (.mv 15 (.t 5)), .s (.bin 16 .add (.t 15) (.k (.v (.c (.int .i64 1))))), .s (.mv 5 (.t 16))]))
def pf_laws_eqBoolS : PF := ⟨[.t 4], .seq (.reg [.s (.mv 4 (.k (.v (.c .ff))))]) (.seq (.seq (.reg [.s (.mv 6 (.t 0)), .s (.len 7 false (.t 6)), .s (.mv 8 (.t 1)), .s (.len 9 false (.t 8)), .s (.bin 10 .neq (.t 7) (.t 9))]) (.cond (.t 10) (.seq (.reg [.s (.mv 4 (.k (.v (.c .ff))))]) (.ret)) (.skip))) (.seq (.seq (.reg [.s (.mv 5 (.k (.v (.c (.int .i64 0)))))]) (.blk 0 (.loop [0, 1, 5] lb_laws_eqBoolS_0))) (.seq (.reg [.s (.mv 4 (.k (.v (.c .tt))))]) (.ret))))⟩
def c_laws_eqBoolS : Fun := ⟨126, [], fun ts K => as2 ts fun t0 t1 => arC (pL .bool) t0 fun a => arC (pL .bool) t1 fun b => chk (a.length ≤ 2147483647) (K (tB (decide (a = b))) [])⟩
theorem run_laws_eqBoolS (a : List (FT.Ty .bool)) (b : List (FT.Ty .bool)) (hpre : a.length ≤ 2147483647) : runK [] (a.length + 1) [] pf_laws_eqBoolS [tL false .bool a, tL false .bool b] fun r o => r = tB (decide (a = b)) ∧ o = [] := by
  conv => whnf
  refine sel_i (fun h => ?_) (fun h => ?_)
  · conv => whnf
    refine ⟨?_, rfl⟩
    simp at h
    simp
    intro e; subst e; simp at h
  · conv => whnf
    refine loop (α := Nat) (fun i => ⟨[(0, .v (.c (.sl false .bool 0))), (1, .v (.c (.sl false .bool 1))), (5, .v (.c (.int .i64 (i : Int))))], [(1, some (.flat false .bool none b)), (0, some (.flat false .bool none a))], nums.tail.tail, [], false, []⟩)
      (fun i => i ≤ a.length ∧ a.take i = b.take i) (fun i => a.length - i) (fun i R hI hR => ?_) 0 _ ⟨by simp, by simp⟩ (by omega)
    conv => whnf
    repeat' (first | (refine sel_i (fun h2 => ?_) (fun h2 => ?_) <;> conv => whnf) | (refine chk_c ?_ ?_ <;> conv => whnf))
    all_goals (have hl : a.length = b.length := by simp at h; omega)
    · exact ⟨by simp at h2; omega⟩
    · exact ⟨by simp at h2; omega⟩
    · exact ⟨by simp at h2; omega⟩
    · exact ⟨by simp at h2; omega⟩
    · refine ⟨?_, rfl⟩
      have hne : a ≠ b := fun e => by subst e; simp at h2
      simp [hne]
    · rename_i h3
      have hlt : i < a.length := by simpa using h3
      rw [wrap_id (n := (i : Int) + 1) (by omega) (by omega)]
      exact hR (i + 1) ⟨by omega, take_step (z := FT.zero .bool) hI.2 hlt (by omega) (by simpa using h2)⟩ (by omega)
    · refine ⟨?_, rfl⟩
      have hge : a.length ≤ i := by simpa using h2
      have : a = b := take_all hI.2 hge (by omega)
      simp [this]
theorem ok_laws_eqBoolS : FunOk Try.prog c_laws_eqBoolS := funOk (E := []) (envOk_nil) mixd Try.func126 (pf := pf_laws_eqBoolS) (by kernel_rfl) fun ts K h => by
  obtain ⟨t0, t1, e0, h⟩ := as2_out h
  subst e0
  obtain ⟨a, e1, hq⟩ := arC_out (rd_l .bool) h
  clear h
  subst e1
  have h := hq
  clear hq
  obtain ⟨b, e1, hq⟩ := arC_out (rd_l .bool) h
  clear h
  subst e1
  have h := hq
  clear hq
  obtain ⟨hpre, h⟩ := chk_o h
  exact ⟨_, _, h, Nat.le_of_ble_eq_true (show Nat.ble 2 Try.f126.ntmps = true by kernel_rfl), _, run_laws_eqBoolS a b hpre⟩

def lb_laws_markBoolS_0 : PC := .seq (.seq (.reg [.s (.mv 6 (.t 5)), .s (.mv 7 (.t 0)), .s (.len 8 false (.t 7)), .s (.bin 9 .lss (.t 6) (.t 8))]) (.cond (.t 9) (.skip) (.exit 0))) (.seq (.blk 1 (.seq (.reg [.s (.mv 12 (.t 0)), .s (.mv 13 (.t 5)), .s (.mv 14 (.t 1)), .s (.bin 15 .rem (.t 14) (.k (.v (.c (.int .i64 3))))), .s (.bin 16 .eql (.t 15) (.k (.v (.c (.int .i64 0))))), .s (.ia 17 .bool (.t 12) (.t 13)), .s (.store 1 (.t 17) (.t 16))]) (.reg [.s (.mv 18 (.t 1)), .s (.bin 19 .add (.t 18) (.k (.v (.c (.int .i64 1))))), .s (.mv 1 (.t 19))]))) (.reg [.s (.mv 10 (.t 5)), .s (.bin 11 .add (.t 10) (.k (.v (.c (.int .i64 1))))), .s (.mv 5 (.t 11))]))
def pf_laws_markBoolS : PF := ⟨[.t 4], .seq (.reg [.s (.mv 4 (.k (.v (.c (.int .i64 0)))))]) (.seq (.seq (.reg [.s (.mv 5 (.k (.v (.c (.int .i64 0)))))]) (.blk 0 (.loop [0, 1, 5] lb_laws_markBoolS_0))) (.seq (.reg [.s (.mv 20 (.t 1)), .s (.mv 4 (.t 20))]) (.ret)))⟩
def c_laws_markBoolS : Fun := ⟨127, [true, false], fun ts K => as2 ts fun t0 t1 => arC (pO .bool) t0 fun a => arC (pI .i64) t1 fun k => chk (0 ≤ k ∧ k ≤ 1125899906842624 ∧ a.length ≤ 2147483647) (K (tN (k + 1 * a.length)) ([tL true .bool (mkBoolS a.length k)]))⟩
theorem run_laws_markBoolS (a : List (FT.Ty .bool)) (k : Int) (hpre : 0 ≤ k ∧ k ≤ 1125899906842624 ∧ a.length ≤ 2147483647) : runK [] (a.length + 1) [true, false] pf_laws_markBoolS [tL true .bool a, tI .i64 k] fun r o => r = tN (k + 1 * a.length) ∧ o = [tL true .bool (mkBoolS a.length k)] := by
  have hml : (mkBoolS a.length k).length = a.length := by simp [mkBoolS]
  conv => whnf
  refine loop (α := Nat × Int × List Bool) (fun p => ⟨[(0, .v (.c (.sl false .bool 0))), (1, .v (.c (.int .i64 p.2.1))), (5, .v (.c (.int .i64 (p.1 : Int))))], [(0, some (.flat true .bool none p.2.2))], nums.tail, [.v (.c (.sl false .bool 0))], false, []⟩)
      (fun p => p.1 ≤ a.length ∧ p.2.1 = k + 1 * p.1 ∧ p.2.2 = (mkBoolS a.length k).take p.1 ++ a.drop p.1) (fun p => a.length - p.1) (fun p R hI hR => ?_) (0, k, a) _ ⟨by simp, by simp, by simp⟩ (by simp)
  obtain ⟨i, c, xs⟩ := p
  obtain ⟨hi, hc, hx⟩ := hI
  dsimp only at hi hc hx
  have hlen : xs.length = a.length := by rw [hx]; simp [hml]; omega
  dsimp only
  conv => whnf
  refine sel_i (fun h2 => ?_) (fun h2 => ?_)
  · have hlt : i < a.length := by simp at h2; omega
    have hget : ∀ x : Bool, (xs.set i x).getD i (FT.zero .bool) = x := fun x => by simp [List.getD_eq_getElem?_getD, hlen, hlt]
    have hmk : (mkBoolS a.length k)[i]? = some (elBool c) := by simp [mkBoolS, hlt, hc]
    conv => whnf
    repeat' (refine chk_c ?_ ?_ <;> conv => whnf)
    all_goals first
      | (refine ⟨?_⟩; omega)
      | (refine ⟨?_⟩; simp; done)
      | (refine ⟨?_⟩; simp; omega)
      | skip
    simp (disch := omega) only [wrap_id, Int.toNat_natCast, hget, List.set_set]
    exact hR (i + 1, c + 1, xs.set i (elBool c)) ⟨by omega, by simp; omega, by rw [hx]; exact set_mid hml hlt hmk⟩ (by simp; omega)
  · have hge : i = a.length := by simp at h2; omega
    subst hge
    conv => whnf
    refine ⟨by rw [hc], ?_⟩
    rw [hx, List.take_of_length_le (by omega), List.drop_eq_nil_of_le (by omega), List.append_nil]
theorem ok_laws_markBoolS : FunOk Try.prog c_laws_markBoolS := funOk (E := []) (envOk_nil) mixd Try.func127 (pf := pf_laws_markBoolS) (by kernel_rfl) fun ts K h => by
  obtain ⟨t0, t1, e0, h⟩ := as2_out h
  subst e0
  obtain ⟨a, e1, hq⟩ := arC_out (rd_o .bool) h
  clear h
  subst e1
  have h := hq
  clear hq
  obtain ⟨k, e1, hq⟩ := arC_out (rd_int .i64) h
  clear h
  subst e1
  have h := hq
  clear hq
  obtain ⟨hpre, h⟩ := chk_o h
  exact ⟨_, _, h, Nat.le_of_ble_eq_true (show Nat.ble 2 Try.f127.ntmps = true by kernel_rfl), _, run_laws_markBoolS a k hpre⟩

def lb_laws_heldBoolS_0 : PC := .seq (.seq (.reg [.s (.mv 6 (.t 5)), .s (.mv 7 (.t 0)), .s (.len 8 false (.t 7)), .s (.bin 9 .lss (.t 6) (.t 8))]) (.cond (.t 9) (.skip) (.exit 0))) (.seq (.blk 1 (.seq (.seq (.reg [.s (.mv 12 (.t 0)), .s (.mv 13 (.t 5)), .s (.ia 14 .bool (.t 12) (.t 13)), .s (.load 15 false 1 (.t 14)), .s (.mv 16 (.t 1)), .s (.bin 17 .rem (.t 16) (.k (.v (.c (.int .i64 3))))), .s (.bin 18 .eql (.t 17) (.k (.v (.c (.int .i64 0))))), .s (.eqs 19 false [.b] true (.t 15) (.t 18))]) (.cond (.t 19) (.seq (.reg [.s (.mv 4 (.k (.v (.c (.int .i64 (-1))))))]) (.ret)) (.skip))) (.reg [.s (.mv 20 (.t 1)), .s (.bin 21 .add (.t 20) (.k (.v (.c (.int .i64 1))))), .s (.mv 1 (.t 21))]))) (.reg [.s (.mv 10 (.t 5)), .s (.bin 11 .add (.t 10) (.k (.v (.c (.int .i64 1))))), .s (.mv 5 (.t 11))]))
def pf_laws_heldBoolS : PF := ⟨[.t 4], .seq (.reg [.s (.mv 4 (.k (.v (.c (.int .i64 0)))))]) (.seq (.seq (.reg [.s (.mv 5 (.k (.v (.c (.int .i64 0)))))]) (.blk 0 (.loop [0, 1, 5] lb_laws_heldBoolS_0))) (.seq (.reg [.s (.mv 22 (.t 1)), .s (.mv 4 (.t 22))]) (.ret)))⟩
def c_laws_heldBoolS : Fun := ⟨129, [], fun ts K => as2 ts fun t0 t1 => arC (pL .bool) t0 fun a => arC (pI .i64) t1 fun k => chk (0 ≤ k ∧ k ≤ 1125899906842624 ∧ a.length ≤ 2147483647) (K (tN (hres (a = mkBoolS a.length k) (k + 1 * a.length))) [])⟩
theorem run_laws_heldBoolS (a : List (FT.Ty .bool)) (k : Int) (hpre : 0 ≤ k ∧ k ≤ 1125899906842624 ∧ a.length ≤ 2147483647) : runK [] (a.length + 1) [] pf_laws_heldBoolS [tL false .bool a, tI .i64 k] fun r o => r = tN (hres (a = mkBoolS a.length k) (k + 1 * a.length)) ∧ o = [] := by
  have hml : (mkBoolS a.length k).length = a.length := by simp [mkBoolS]
  conv => whnf
  refine loop (α := Nat × Int) (fun p => ⟨[(0, .v (.c (.sl false .bool 0))), (1, .v (.c (.int .i64 p.2))), (5, .v (.c (.int .i64 (p.1 : Int))))], [(0, some (.flat false .bool none a))], nums.tail, [], false, []⟩)
      (fun p => p.1 ≤ a.length ∧ p.2 = k + 1 * p.1 ∧ a.take p.1 = (mkBoolS a.length k).take p.1) (fun p => a.length - p.1) (fun p R hI hR => ?_) (0, k) _ ⟨by simp, by simp, by simp⟩ (by simp)
  obtain ⟨i, c⟩ := p
  obtain ⟨hi, hc, hx⟩ := hI
  dsimp only at hi hc hx
  dsimp only
  conv => whnf
  refine sel_i (fun h2 => ?_) (fun h2 => ?_)
  · have hlt : i < a.length := by simp at h2; omega
    have hmk : (mkBoolS a.length k).getD i (FT.zero .bool) = elBool c := by simp [mkBoolS, List.getD_eq_getElem?_getD, hlt, hc]
    have hne : a.getD i (FT.zero .bool) ≠ elBool c → a ≠ mkBoolS a.length k := fun h e => h (by rw [← hmk, ← e])
    conv => whnf
    repeat' (first | (refine sel_i (fun h2 => ?_) (fun h2 => ?_) <;> conv => whnf) | (refine chk_c ?_ ?_ <;> conv => whnf))
    all_goals first
      | (refine ⟨?_⟩; omega)
      | (refine ⟨?_⟩; simp; done)
      | (refine ⟨?_⟩; simp; omega)
      | (refine ⟨?_, rfl⟩
         rw [hres_no (hne (fun e => by
           simp (disch := omega) only [wrap_id, Int.toNat_natCast, e] at h2
           simp [elBool] at h2))])
      | skip
    rename_i e0
    simp (disch := omega) only [wrap_id, Int.toNat_natCast] at h2 ⊢
    have he : a.getD i (FT.zero .bool) = elBool c := by
      generalize a.getD i (FT.zero .bool) = v at h2
      simp at h2
      simp [elBool, *]
    exact hR (i + 1, c + 1) ⟨by omega, by simp; omega, take_step hx hlt (by omega) (he.trans hmk.symm)⟩ (by simp; omega)
  · have hge : i = a.length := by simp at h2; omega
    subst hge
    conv => whnf
    refine ⟨?_, rfl⟩
    rw [List.take_of_length_le (by omega), List.take_of_length_le (by omega)] at hx
    rw [hres_yes hx, hc]
theorem ok_laws_heldBoolS : FunOk Try.prog c_laws_heldBoolS := funOk (E := []) (envOk_nil) mixd Try.func129 (pf := pf_laws_heldBoolS) (by kernel_rfl) fun ts K h => by
  obtain ⟨t0, t1, e0, h⟩ := as2_out h
  subst e0
  obtain ⟨a, e1, hq⟩ := arC_out (rd_l .bool) h
  clear h
  subst e1
  have h := hq
  clear hq
  obtain ⟨k, e1, hq⟩ := arC_out (rd_int .i64) h
  clear h
  subst e1
  have h := hq
  clear hq
  obtain ⟨hpre, h⟩ := chk_o h
  exact ⟨_, _, h, Nat.le_of_ble_eq_true (show Nat.ble 2 Try.f129.ntmps = true by kernel_rfl), _, run_laws_heldBoolS a k hpre⟩

def elSpan (c : Int) : Span := ⟨c, c + 1⟩
def mkSpanS (n : Nat) (k : Int) : List Span := (List.range n).map (fun j : Nat => elSpan (k + 2 * j))
theorem mkSpanS_length (n : Nat) (k : Int) : (mkSpanS n k).length = n := by simp [mkSpanS]

def lb_laws_eqSpanS_0 : PC := .seq (.seq (.reg [.s (.mv 11 (.t 5)), .s (.mv 12 (.t 0)), .s (.len 13 false (.t 12)), .s (.bin 14 .lss (.t 11) (.t 13))]) (.cond (.t 14) (.skip) (.exit 0))) (.seq (.blk 1 (.seq (.rgd [.s (.mv 17 (.t 0)), .s (.mv 18 (.t 5)), .s (.ia 19 .span (.t 17) (.t 18)), .s (.load 20 true 2 (.t 19)), .s (.mv 21 (.t 1)), .s (.mv 22 (.t 5)), .s (.ia 23 .span (.t 21) (.t 22)), .s (.load 24 true 2 (.t 23)), .s (.call (some 25) 136 [(.t 20), (.t 24)]), .s (.bnot 26 (.t 25))] (.tk 0 (.tk 1 (.tk 2 (.tk 3 (.tk 4 (.tk 5 (.tk 6 (.tk 7 (.one 8 true (.tk 9 (.done none)))))))))))) (.cond (.t 26) (.seq (.reg [.s (.mv 4 (.k (.v (.c .ff))))]) (.ret)) (.skip)))) (.reg [.s (.mv 15 (.t 5)), .s (.bin 16 .add (.t 15) (.k (.v (.c (.int .i64 1))))), .s (.mv 5 (.t 16))]))
def pf_laws_eqSpanS : PF := ⟨[.t 4], .seq (.reg [.s (.mv 4 (.k (.v (.c .ff))))]) (.seq (.seq (.reg [.s (.mv 6 (.t 0)), .s (.len 7 false (.t 6)), .s (.mv 8 (.t 1)), .s (.len 9 false (.t 8)), .s (.bin 10 .neq (.t 7) (.t 9))]) (.cond (.t 10) (.seq (.reg [.s (.mv 4 (.k (.v (.c .ff))))]) (.ret)) (.skip))) (.seq (.seq (.reg [.s (.mv 5 (.k (.v (.c (.int .i64 0)))))]) (.blk 0 (.loop [0, 1, 5] lb_laws_eqSpanS_0))) (.seq (.reg [.s (.mv 4 (.k (.v (.c .tt))))]) (.ret))))⟩
def c_laws_eqSpanS : Fun := ⟨91, [], fun ts K => as2 ts fun t0 t1 => arC (pL .span) t0 fun a => arC (pL .span) t1 fun b => chk (a.length ≤ 2147483647) (K (tB (decide (a = b))) [])⟩
theorem run_laws_eqSpanS (a : List (FT.Ty .span)) (b : List (FT.Ty .span)) (hpre : a.length ≤ 2147483647) : runK [c_laws_eqSpan] (a.length + 1) [] pf_laws_eqSpanS [tL false .span a, tL false .span b] fun r o => r = tB (decide (a = b)) ∧ o = [] := by
  conv => whnf
  refine sel_i (fun h => ?_) (fun h => ?_)
  · conv => whnf
    refine ⟨?_, rfl⟩
    simp at h
    simp
    intro e; subst e; simp at h
  · conv => whnf
    refine loop (α := Nat) (fun i => ⟨[(0, .v (.c (.sl false .span 0))), (1, .v (.c (.sl false .span 1))), (5, .v (.c (.int .i64 (i : Int))))], [(1, some (.flat false .span none b)), (0, some (.flat false .span none a))], nums.tail.tail, [], false, []⟩)
      (fun i => i ≤ a.length ∧ a.take i = b.take i) (fun i => a.length - i) (fun i R hI hR => ?_) 0 _ ⟨by simp, by simp⟩ (by omega)
    conv => whnf
    repeat' (first | (refine sel_i (fun h2 => ?_) (fun h2 => ?_) <;> conv => whnf) | (refine chk_c ?_ ?_ <;> conv => whnf))
    all_goals (have hl : a.length = b.length := by simp at h; omega)
    · exact ⟨by simp at h2; omega⟩
    · exact ⟨by simp at h2; omega⟩
    · exact ⟨by simp at h2; omega⟩
    · exact ⟨by simp at h2; omega⟩
    · refine ⟨?_, rfl⟩
      have hne : a ≠ b := fun e => by subst e; simp at h2
      simp [hne]
    · rename_i h3
      have hlt : i < a.length := by simpa using h3
      rw [wrap_id (n := (i : Int) + 1) (by omega) (by omega)]
      exact hR (i + 1) ⟨by omega, take_step (z := FT.zero .span) hI.2 hlt (by omega) (nd_t h2)⟩ (by omega)
    · refine ⟨?_, rfl⟩
      have hge : a.length ≤ i := by simpa using h2
      have : a = b := take_all hI.2 hge (by omega)
      simp [this]
theorem ok_laws_eqSpanS : FunOk Try.prog c_laws_eqSpanS := funOk (E := [c_laws_eqSpan]) (envOk_cons ok_laws_eqSpan (envOk_nil)) mixd Try.func91 (pf := pf_laws_eqSpanS) (by kernel_rfl) fun ts K h => by
  obtain ⟨t0, t1, e0, h⟩ := as2_out h
  subst e0
  obtain ⟨a, e1, hq⟩ := arC_out (rd_l .span) h
  clear h
  subst e1
  have h := hq
  clear hq
  obtain ⟨b, e1, hq⟩ := arC_out (rd_l .span) h
  clear h
  subst e1
  have h := hq
  clear hq
  obtain ⟨hpre, h⟩ := chk_o h
  exact ⟨_, _, h, Nat.le_of_ble_eq_true (show Nat.ble 2 Try.f91.ntmps = true by kernel_rfl), _, run_laws_eqSpanS a b hpre⟩

def lb_laws_markSpanS_0 : PC := .seq (.seq (.reg [.s (.mv 6 (.t 5)), .s (.mv 7 (.t 0)), .s (.len 8 false (.t 7)), .s (.bin 9 .lss (.t 6) (.t 8))]) (.cond (.t 9) (.skip) (.exit 0))) (.seq (.blk 1 (.seq (.reg [.s (.mv 12 (.t 0)), .s (.mv 13 (.t 5)), .s (.mv 14 (.t 1)), .s (.ia 15 .span (.t 12) (.t 13)), .s (.fa 16 (.t 15) 0), .s (.store 1 (.t 16) (.t 14))]) (.seq (.reg [.s (.mv 17 (.t 1)), .s (.bin 18 .add (.t 17) (.k (.v (.c (.int .i64 1))))), .s (.mv 1 (.t 18))]) (.seq (.reg [.s (.mv 19 (.t 0)), .s (.mv 20 (.t 5)), .s (.mv 21 (.t 1)), .s (.ia 22 .span (.t 19) (.t 20)), .s (.fa 23 (.t 22) 1), .s (.store 1 (.t 23) (.t 21))]) (.reg [.s (.mv 24 (.t 1)), .s (.bin 25 .add (.t 24) (.k (.v (.c (.int .i64 1))))), .s (.mv 1 (.t 25))]))))) (.reg [.s (.mv 10 (.t 5)), .s (.bin 11 .add (.t 10) (.k (.v (.c (.int .i64 1))))), .s (.mv 5 (.t 11))]))
def pf_laws_markSpanS : PF := ⟨[.t 4], .seq (.reg [.s (.mv 4 (.k (.v (.c (.int .i64 0)))))]) (.seq (.seq (.reg [.s (.mv 5 (.k (.v (.c (.int .i64 0)))))]) (.blk 0 (.loop [0, 1, 5] lb_laws_markSpanS_0))) (.seq (.reg [.s (.mv 26 (.t 1)), .s (.mv 4 (.t 26))]) (.ret)))⟩
def c_laws_markSpanS : Fun := ⟨99, [true, false], fun ts K => as2 ts fun t0 t1 => arC (pO .span) t0 fun a => arC (pI .i64) t1 fun k => chk (0 ≤ k ∧ k ≤ 1125899906842624 ∧ a.length ≤ 2147483647) (K (tN (k + 2 * a.length)) ([tL true .span (mkSpanS a.length k)]))⟩
theorem run_laws_markSpanS (a : List (FT.Ty .span)) (k : Int) (hpre : 0 ≤ k ∧ k ≤ 1125899906842624 ∧ a.length ≤ 2147483647) : runK [] (a.length + 1) [true, false] pf_laws_markSpanS [tL true .span a, tI .i64 k] fun r o => r = tN (k + 2 * a.length) ∧ o = [tL true .span (mkSpanS a.length k)] := by
  have hml : (mkSpanS a.length k).length = a.length := by simp [mkSpanS]
  conv => whnf
  refine loop (α := Nat × Int × List Span) (fun p => ⟨[(0, .v (.c (.sl false .span 0))), (1, .v (.c (.int .i64 p.2.1))), (5, .v (.c (.int .i64 (p.1 : Int))))], [(0, some (.flat true .span none p.2.2))], nums.tail, [.v (.c (.sl false .span 0))], false, []⟩)
      (fun p => p.1 ≤ a.length ∧ p.2.1 = k + 2 * p.1 ∧ p.2.2 = (mkSpanS a.length k).take p.1 ++ a.drop p.1) (fun p => a.length - p.1) (fun p R hI hR => ?_) (0, k, a) _ ⟨by simp, by simp, by simp⟩ (by simp)
  obtain ⟨i, c, xs⟩ := p
  obtain ⟨hi, hc, hx⟩ := hI
  dsimp only at hi hc hx
  have hlen : xs.length = a.length := by rw [hx]; simp [hml]; omega
  dsimp only
  conv => whnf
  refine sel_i (fun h2 => ?_) (fun h2 => ?_)
  · have hlt : i < a.length := by simp at h2; omega
    have hget : ∀ x : Span, (xs.set i x).getD i (FT.zero .span) = x := fun x => by simp [List.getD_eq_getElem?_getD, hlen, hlt]
    have hmk : (mkSpanS a.length k)[i]? = some (elSpan c) := by simp [mkSpanS, hlt, hc]
    conv => whnf
    repeat' (refine chk_c ?_ ?_ <;> conv => whnf)
    all_goals first
      | (refine ⟨?_⟩; omega)
      | (refine ⟨?_⟩; simp; done)
      | (refine ⟨?_⟩; simp; omega)
      | skip
    simp (disch := omega) only [wrap_id, Int.toNat_natCast, hget, List.set_set]
    exact hR (i + 1, c + 1 + 1, xs.set i (elSpan c)) ⟨by omega, by simp; omega, by rw [hx]; exact set_mid hml hlt hmk⟩ (by simp; omega)
  · have hge : i = a.length := by simp at h2; omega
    subst hge
    conv => whnf
    refine ⟨by rw [hc], ?_⟩
    rw [hx, List.take_of_length_le (by omega), List.drop_eq_nil_of_le (by omega), List.append_nil]
theorem ok_laws_markSpanS : FunOk Try.prog c_laws_markSpanS := funOk (E := []) (envOk_nil) mixd Try.func99 (pf := pf_laws_markSpanS) (by kernel_rfl) fun ts K h => by
  obtain ⟨t0, t1, e0, h⟩ := as2_out h
  subst e0
  obtain ⟨a, e1, hq⟩ := arC_out (rd_o .span) h
  clear h
  subst e1
  have h := hq
  clear hq
  obtain ⟨k, e1, hq⟩ := arC_out (rd_int .i64) h
  clear h
  subst e1
  have h := hq
  clear hq
  obtain ⟨hpre, h⟩ := chk_o h
  exact ⟨_, _, h, Nat.le_of_ble_eq_true (show Nat.ble 2 Try.f99.ntmps = true by kernel_rfl), _, run_laws_markSpanS a k hpre⟩

def lb_laws_heldSpanS_0 : PC := .seq (.seq (.reg [.s (.mv 6 (.t 5)), .s (.mv 7 (.t 0)), .s (.len 8 false (.t 7)), .s (.bin 9 .lss (.t 6) (.t 8))]) (.cond (.t 9) (.skip) (.exit 0))) (.seq (.blk 1 (.seq (.seq (.reg [.s (.mv 12 (.t 0)), .s (.mv 13 (.t 5)), .s (.ia 14 .span (.t 12) (.t 13)), .s (.fa 15 (.t 14) 0), .s (.load 16 false 1 (.t 15)), .s (.mv 17 (.t 1)), .s (.bin 18 .neq (.t 16) (.t 17))]) (.cond (.t 18) (.seq (.reg [.s (.mv 4 (.k (.v (.c (.int .i64 (-1))))))]) (.ret)) (.skip))) (.seq (.reg [.s (.mv 19 (.t 1)), .s (.bin 20 .add (.t 19) (.k (.v (.c (.int .i64 1))))), .s (.mv 1 (.t 20))]) (.seq (.seq (.reg [.s (.mv 21 (.t 0)), .s (.mv 22 (.t 5)), .s (.ia 23 .span (.t 21) (.t 22)), .s (.fa 24 (.t 23) 1), .s (.load 25 false 1 (.t 24)), .s (.mv 26 (.t 1)), .s (.bin 27 .neq (.t 25) (.t 26))]) (.cond (.t 27) (.seq (.reg [.s (.mv 4 (.k (.v (.c (.int .i64 (-1))))))]) (.ret)) (.skip))) (.reg [.s (.mv 28 (.t 1)), .s (.bin 29 .add (.t 28) (.k (.v (.c (.int .i64 1))))), .s (.mv 1 (.t 29))]))))) (.reg [.s (.mv 10 (.t 5)), .s (.bin 11 .add (.t 10) (.k (.v (.c (.int .i64 1))))), .s (.mv 5 (.t 11))]))
def pf_laws_heldSpanS : PF := ⟨[.t 4], .seq (.reg [.s (.mv 4 (.k (.v (.c (.int .i64 0)))))]) (.seq (.seq (.reg [.s (.mv 5 (.k (.v (.c (.int .i64 0)))))]) (.blk 0 (.loop [0, 1, 5] lb_laws_heldSpanS_0))) (.seq (.reg [.s (.mv 30 (.t 1)), .s (.mv 4 (.t 30))]) (.ret)))⟩
def c_laws_heldSpanS : Fun := ⟨100, [], fun ts K => as2 ts fun t0 t1 => arC (pL .span) t0 fun a => arC (pI .i64) t1 fun k => chk (0 ≤ k ∧ k ≤ 1125899906842624 ∧ a.length ≤ 2147483647) (K (tN (hres (a = mkSpanS a.length k) (k + 2 * a.length))) [])⟩
theorem run_laws_heldSpanS (a : List (FT.Ty .span)) (k : Int) (hpre : 0 ≤ k ∧ k ≤ 1125899906842624 ∧ a.length ≤ 2147483647) : runK [] (a.length + 1) [] pf_laws_heldSpanS [tL false .span a, tI .i64 k] fun r o => r = tN (hres (a = mkSpanS a.length k) (k + 2 * a.length)) ∧ o = [] := by
  have hml : (mkSpanS a.length k).length = a.length := by simp [mkSpanS]
  conv => whnf
  refine loop (α := Nat × Int) (fun p => ⟨[(0, .v (.c (.sl false .span 0))), (1, .v (.c (.int .i64 p.2))), (5, .v (.c (.int .i64 (p.1 : Int))))], [(0, some (.flat false .span none a))], nums.tail, [], false, []⟩)
      (fun p => p.1 ≤ a.length ∧ p.2 = k + 2 * p.1 ∧ a.take p.1 = (mkSpanS a.length k).take p.1) (fun p => a.length - p.1) (fun p R hI hR => ?_) (0, k) _ ⟨by simp, by simp, by simp⟩ (by simp)
  obtain ⟨i, c⟩ := p
  obtain ⟨hi, hc, hx⟩ := hI
  dsimp only at hi hc hx
  dsimp only
  conv => whnf
  refine sel_i (fun h2 => ?_) (fun h2 => ?_)
  · have hlt : i < a.length := by simp at h2; omega
    have hmk : (mkSpanS a.length k).getD i (FT.zero .span) = elSpan c := by simp [mkSpanS, List.getD_eq_getElem?_getD, hlt, hc]
    have hne : a.getD i (FT.zero .span) ≠ elSpan c → a ≠ mkSpanS a.length k := fun h e => h (by rw [← hmk, ← e])
    conv => whnf
    repeat' (first | (refine sel_i (fun h2 => ?_) (fun h2 => ?_) <;> conv => whnf) | (refine chk_c ?_ ?_ <;> conv => whnf))
    all_goals first
      | (refine ⟨?_⟩; omega)
      | (refine ⟨?_⟩; simp; done)
      | (refine ⟨?_⟩; simp; omega)
      | (refine ⟨?_, rfl⟩
         rw [hres_no (hne (fun e => by
           simp (disch := omega) only [wrap_id, Int.toNat_natCast, e] at h2
           simp [elSpan] at h2))])
      | skip
    rename_i e0 e1
    simp (disch := omega) only [wrap_id, Int.toNat_natCast] at e1 h2 ⊢
    have he : a.getD i (FT.zero .span) = elSpan c := by
      generalize a.getD i (FT.zero .span) = v at e1 h2
      obtain ⟨v0, v1⟩ := v
      simp at e1 h2
      simp [elSpan, *]
    exact hR (i + 1, c + 1 + 1) ⟨by omega, by simp; omega, take_step hx hlt (by omega) (he.trans hmk.symm)⟩ (by simp; omega)
  · have hge : i = a.length := by simp at h2; omega
    subst hge
    conv => whnf
    refine ⟨?_, rfl⟩
    rw [List.take_of_length_le (by omega), List.take_of_length_le (by omega)] at hx
    rw [hres_yes hx, hc]
theorem ok_laws_heldSpanS : FunOk Try.prog c_laws_heldSpanS := funOk (E := []) (envOk_nil) mixd Try.func100 (pf := pf_laws_heldSpanS) (by kernel_rfl) fun ts K h => by
  obtain ⟨t0, t1, e0, h⟩ := as2_out h
  subst e0
  obtain ⟨a, e1, hq⟩ := arC_out (rd_l .span) h
  clear h
  subst e1
  have h := hq
  clear hq
  obtain ⟨k, e1, hq⟩ := arC_out (rd_int .i64) h
  clear h
  subst e1
  have h := hq
  clear hq
  obtain ⟨hpre, h⟩ := chk_o h
  exact ⟨_, _, h, Nat.le_of_ble_eq_true (show Nat.ble 2 Try.f100.ntmps = true by kernel_rfl), _, run_laws_heldSpanS a k hpre⟩

def elInt (c : Int) : Int := c
def mkIntS (n : Nat) (k : Int) : List Int := (List.range n).map (fun j : Nat => elInt (k + 1 * j))
theorem mkIntS_length (n : Nat) (k : Int) : (mkIntS n k).length = n := by simp [mkIntS]

def lb_laws_eqIntS_0 : PC := .seq (.seq (.reg [.s (.mv 11 (.t 5)), .s (.mv 12 (.t 0)), .s (.len 13 false (.t 12)), .s (.bin 14 .lss (.t 11) (.t 13))]) (.cond (.t 14) (.skip) (.exit 0))) (.seq (.blk 1 (.seq (.rgd [.s (.mv 17 (.t 0)), .s (.mv 18 (.t 5)), .s (.ia 19 (.int .i64) (.t 17) (.t 18)), .s (.load 20 false 1 (.t 19)), .s (.mv 21 (.t 1)), .s (.mv 22 (.t 5)), .s (.ia 23 (.int .i64) (.t 21) (.t 22)), .s (.load 24 false 1 (.t 23)), .s (.bin 25 .neq (.t 20) (.t 24))] (.tk 0 (.tk 1 (.tk 2 (.tk 3 (.tk 4 (.tk 5 (.tk 6 (.tk 7 (.tk 8 (.done none))))))))))) (.cond (.t 25) (.seq (.reg [.s (.mv 4 (.k (.v (.c .ff))))]) (.ret)) (.skip)))) (.reg [.s (.mv 15 (.t 5)), .s (.bin 16 .add (.t 15) (.k (.v (.c (.int .i64 1))))), .s (.mv 5 (.t 16))]))
def pf_laws_eqIntS : PF := ⟨[.t 4], .seq (.reg [.s (.mv 4 (.k (.v (.c .ff))))]) (.seq (.seq (.reg [.s (.mv 6 (.t 0)), .s (.len 7 false (.t 6)), .s (.mv 8 (.t 1)), .s (.len 9 false (.t 8)), .s (.bin 10 .neq (.t 7) (.t 9))]) (.cond (.t 10) (.seq (.reg [.s (.mv 4 (.k (.v (.c .ff))))]) (.ret)) (.skip))) (.seq (.seq (.reg [.s (.mv 5 (.k (.v (.c (.int .i64 0)))))]) (.blk 0 (.loop [0, 1, 5] lb_laws_eqIntS_0))) (.seq (.reg [.s (.mv 4 (.k (.v (.c .tt))))]) (.ret))))⟩
def c_laws_eqIntS : Fun := ⟨45, [], fun ts K => as2 ts fun t0 t1 => arC (pL (.int .i64)) t0 fun a => arC (pL (.int .i64)) t1 fun b => chk (a.length ≤ 2147483647) (K (tB (decide (a = b))) [])⟩
theorem run_laws_eqIntS (a : List (FT.Ty (.int .i64))) (b : List (FT.Ty (.int .i64))) (hpre : a.length ≤ 2147483647) : runK [] (a.length + 1) [] pf_laws_eqIntS [tL false (.int .i64) a, tL false (.int .i64) b] fun r o => r = tB (decide (a = b)) ∧ o = [] := by
  conv => whnf
  refine sel_i (fun h => ?_) (fun h => ?_)
  · conv => whnf
    refine ⟨?_, rfl⟩
    simp at h
    simp
    intro e; subst e; simp at h
  · conv => whnf
    refine loop (α := Nat) (fun i => ⟨[(0, .v (.c (.sl false (.int .i64) 0))), (1, .v (.c (.sl false (.int .i64) 1))), (5, .v (.c (.int .i64 (i : Int))))], [(1, some (.flat false (.int .i64) none b)), (0, some (.flat false (.int .i64) none a))], nums.tail.tail, [], false, []⟩)
      (fun i => i ≤ a.length ∧ a.take i = b.take i) (fun i => a.length - i) (fun i R hI hR => ?_) 0 _ ⟨by simp, by simp⟩ (by omega)
    conv => whnf
    repeat' (first | (refine sel_i (fun h2 => ?_) (fun h2 => ?_) <;> conv => whnf) | (refine chk_c ?_ ?_ <;> conv => whnf))
    all_goals (have hl : a.length = b.length := by simp at h; omega)
    · exact ⟨by simp at h2; omega⟩
    · exact ⟨by simp at h2; omega⟩
    · exact ⟨by simp at h2; omega⟩
    · exact ⟨by simp at h2; omega⟩
    · refine ⟨?_, rfl⟩
      have hne : a ≠ b := fun e => by subst e; simp at h2
      simp [hne]
    · rename_i h3
      have hlt : i < a.length := by simpa using h3
      rw [wrap_id (n := (i : Int) + 1) (by omega) (by omega)]
      exact hR (i + 1) ⟨by omega, take_step (z := FT.zero (.int .i64)) hI.2 hlt (by omega) (by simpa using h2)⟩ (by omega)
    · refine ⟨?_, rfl⟩
      have hge : a.length ≤ i := by simpa using h2
      have : a = b := take_all hI.2 hge (by omega)
      simp [this]
theorem ok_laws_eqIntS : FunOk Try.prog c_laws_eqIntS := funOk (E := []) (envOk_nil) mixd Try.func45 (pf := pf_laws_eqIntS) (by kernel_rfl) fun ts K h => by
  obtain ⟨t0, t1, e0, h⟩ := as2_out h
  subst e0
  obtain ⟨a, e1, hq⟩ := arC_out (rd_l (.int .i64)) h
  clear h
  subst e1
  have h := hq
  clear hq
  obtain ⟨b, e1, hq⟩ := arC_out (rd_l (.int .i64)) h
  clear h
  subst e1
  have h := hq
  clear hq
  obtain ⟨hpre, h⟩ := chk_o h
  exact ⟨_, _, h, Nat.le_of_ble_eq_true (show Nat.ble 2 Try.f45.ntmps = true by kernel_rfl), _, run_laws_eqIntS a b hpre⟩

def lb_laws_markIntS_0 : PC := .seq (.seq (.reg [.s (.mv 6 (.t 5)), .s (.mv 7 (.t 0)), .s (.len 8 false (.t 7)), .s (.bin 9 .lss (.t 6) (.t 8))]) (.cond (.t 9) (.skip) (.exit 0))) (.seq (.blk 1 (.seq (.reg [.s (.mv 12 (.t 0)), .s (.mv 13 (.t 5)), .s (.mv 14 (.t 1)), .s (.ia 15 (.int .i64) (.t 12) (.t 13)), .s (.store 1 (.t 15) (.t 14))]) (.reg [.s (.mv 16 (.t 1)), .s (.bin 17 .add (.t 16) (.k (.v (.c (.int .i64 1))))), .s (.mv 1 (.t 17))]))) (.reg [.s (.mv 10 (.t 5)), .s (.bin 11 .add (.t 10) (.k (.v (.c (.int .i64 1))))), .s (.mv 5 (.t 11))]))
def pf_laws_markIntS : PF := ⟨[.t 4], .seq (.reg [.s (.mv 4 (.k (.v (.c (.int .i64 0)))))]) (.seq (.seq (.reg [.s (.mv 5 (.k (.v (.c (.int .i64 0)))))]) (.blk 0 (.loop [0, 1, 5] lb_laws_markIntS_0))) (.seq (.reg [.s (.mv 18 (.t 1)), .s (.mv 4 (.t 18))]) (.ret)))⟩
def c_laws_markIntS : Fun := ⟨48, [true, false], fun ts K => as2 ts fun t0 t1 => arC (pO (.int .i64)) t0 fun a => arC (pI .i64) t1 fun k => chk (0 ≤ k ∧ k ≤ 1125899906842624 ∧ a.length ≤ 2147483647) (K (tN (k + 1 * a.length)) ([tL true (.int .i64) (mkIntS a.length k)]))⟩
theorem run_laws_markIntS (a : List (FT.Ty (.int .i64))) (k : Int) (hpre : 0 ≤ k ∧ k ≤ 1125899906842624 ∧ a.length ≤ 2147483647) : runK [] (a.length + 1) [true, false] pf_laws_markIntS [tL true (.int .i64) a, tI .i64 k] fun r o => r = tN (k + 1 * a.length) ∧ o = [tL true (.int .i64) (mkIntS a.length k)] := by
  have hml : (mkIntS a.length k).length = a.length := by simp [mkIntS]
  conv => whnf
  refine loop (α := Nat × Int × List Int) (fun p => ⟨[(0, .v (.c (.sl false (.int .i64) 0))), (1, .v (.c (.int .i64 p.2.1))), (5, .v (.c (.int .i64 (p.1 : Int))))], [(0, some (.flat true (.int .i64) none p.2.2))], nums.tail, [.v (.c (.sl false (.int .i64) 0))], false, []⟩)
      (fun p => p.1 ≤ a.length ∧ p.2.1 = k + 1 * p.1 ∧ p.2.2 = (mkIntS a.length k).take p.1 ++ a.drop p.1) (fun p => a.length - p.1) (fun p R hI hR => ?_) (0, k, a) _ ⟨by simp, by simp, by simp⟩ (by simp)
  obtain ⟨i, c, xs⟩ := p
  obtain ⟨hi, hc, hx⟩ := hI
  dsimp only at hi hc hx
  have hlen : xs.length = a.length := by rw [hx]; simp [hml]; omega
  dsimp only
  conv => whnf
  refine sel_i (fun h2 => ?_) (fun h2 => ?_)
  · have hlt : i < a.length := by simp at h2; omega
    have hget : ∀ x : Int, (xs.set i x).getD i (FT.zero (.int .i64)) = x := fun x => by simp [List.getD_eq_getElem?_getD, hlen, hlt]
    have hmk : (mkIntS a.length k)[i]? = some (elInt c) := by simp [mkIntS, hlt, hc]
    conv => whnf
    repeat' (refine chk_c ?_ ?_ <;> conv => whnf)
    all_goals first
      | (refine ⟨?_⟩; omega)
      | (refine ⟨?_⟩; simp; done)
      | (refine ⟨?_⟩; simp; omega)
      | skip
    simp (disch := omega) only [wrap_id, Int.toNat_natCast, hget, List.set_set]
    exact hR (i + 1, c + 1, xs.set i (elInt c)) ⟨by omega, by simp; omega, by rw [hx]; exact set_mid hml hlt hmk⟩ (by simp; omega)
  · have hge : i = a.length := by simp at h2; omega
    subst hge
    conv => whnf
    refine ⟨by rw [hc], ?_⟩
    rw [hx, List.take_of_length_le (by omega), List.drop_eq_nil_of_le (by omega), List.append_nil]
theorem ok_laws_markIntS : FunOk Try.prog c_laws_markIntS := funOk (E := []) (envOk_nil) mixd Try.func48 (pf := pf_laws_markIntS) (by kernel_rfl) fun ts K h => by
  obtain ⟨t0, t1, e0, h⟩ := as2_out h
  subst e0
  obtain ⟨a, e1, hq⟩ := arC_out (rd_o (.int .i64)) h
  clear h
  subst e1
  have h := hq
  clear hq
  obtain ⟨k, e1, hq⟩ := arC_out (rd_int .i64) h
  clear h
  subst e1
  have h := hq
  clear hq
  obtain ⟨hpre, h⟩ := chk_o h
  exact ⟨_, _, h, Nat.le_of_ble_eq_true (show Nat.ble 2 Try.f48.ntmps = true by kernel_rfl), _, run_laws_markIntS a k hpre⟩

def lb_laws_heldIntS_0 : PC := .seq (.seq (.reg [.s (.mv 6 (.t 5)), .s (.mv 7 (.t 0)), .s (.len 8 false (.t 7)), .s (.bin 9 .lss (.t 6) (.t 8))]) (.cond (.t 9) (.skip) (.exit 0))) (.seq (.blk 1 (.seq (.seq (.reg [.s (.mv 12 (.t 0)), .s (.mv 13 (.t 5)), .s (.ia 14 (.int .i64) (.t 12) (.t 13)), .s (.load 15 false 1 (.t 14)), .s (.mv 16 (.t 1)), .s (.bin 17 .neq (.t 15) (.t 16))]) (.cond (.t 17) (.seq (.reg [.s (.mv 4 (.k (.v (.c (.int .i64 (-1))))))]) (.ret)) (.skip))) (.reg [.s (.mv 18 (.t 1)), .s (.bin 19 .add (.t 18) (.k (.v (.c (.int .i64 1))))), .s (.mv 1 (.t 19))]))) (.reg [.s (.mv 10 (.t 5)), .s (.bin 11 .add (.t 10) (.k (.v (.c (.int .i64 1))))), .s (.mv 5 (.t 11))]))
def pf_laws_heldIntS : PF := ⟨[.t 4], .seq (.reg [.s (.mv 4 (.k (.v (.c (.int .i64 0)))))]) (.seq (.seq (.reg [.s (.mv 5 (.k (.v (.c (.int .i64 0)))))]) (.blk 0 (.loop [0, 1, 5] lb_laws_heldIntS_0))) (.seq (.reg [.s (.mv 20 (.t 1)), .s (.mv 4 (.t 20))]) (.ret)))⟩
def c_laws_heldIntS : Fun := ⟨49, [], fun ts K => as2 ts fun t0 t1 => arC (pL (.int .i64)) t0 fun a => arC (pI .i64) t1 fun k => chk (0 ≤ k ∧ k ≤ 1125899906842624 ∧ a.length ≤ 2147483647) (K (tN (hres (a = mkIntS a.length k) (k + 1 * a.length))) [])⟩
theorem run_laws_heldIntS (a : List (FT.Ty (.int .i64))) (k : Int) (hpre : 0 ≤ k ∧ k ≤ 1125899906842624 ∧ a.length ≤ 2147483647) : runK [] (a.length + 1) [] pf_laws_heldIntS [tL false (.int .i64) a, tI .i64 k] fun r o => r = tN (hres (a = mkIntS a.length k) (k + 1 * a.length)) ∧ o = [] := by
  have hml : (mkIntS a.length k).length = a.length := by simp [mkIntS]
  conv => whnf
  refine loop (α := Nat × Int) (fun p => ⟨[(0, .v (.c (.sl false (.int .i64) 0))), (1, .v (.c (.int .i64 p.2))), (5, .v (.c (.int .i64 (p.1 : Int))))], [(0, some (.flat false (.int .i64) none a))], nums.tail, [], false, []⟩)
      (fun p => p.1 ≤ a.length ∧ p.2 = k + 1 * p.1 ∧ a.take p.1 = (mkIntS a.length k).take p.1) (fun p => a.length - p.1) (fun p R hI hR => ?_) (0, k) _ ⟨by simp, by simp, by simp⟩ (by simp)
  obtain ⟨i, c⟩ := p
  obtain ⟨hi, hc, hx⟩ := hI
  dsimp only at hi hc hx
  dsimp only
  conv => whnf
  refine sel_i (fun h2 => ?_) (fun h2 => ?_)
  · have hlt : i < a.length := by simp at h2; omega
    have hmk : (mkIntS a.length k).getD i (FT.zero (.int .i64)) = elInt c := by simp [mkIntS, List.getD_eq_getElem?_getD, hlt, hc]
    have hne : a.getD i (FT.zero (.int .i64)) ≠ elInt c → a ≠ mkIntS a.length k := fun h e => h (by rw [← hmk, ← e])
    conv => whnf
    repeat' (first | (refine sel_i (fun h2 => ?_) (fun h2 => ?_) <;> conv => whnf) | (refine chk_c ?_ ?_ <;> conv => whnf))
    all_goals first
      | (refine ⟨?_⟩; omega)
      | (refine ⟨?_⟩; simp; done)
      | (refine ⟨?_⟩; simp; omega)
      | (refine ⟨?_, rfl⟩
         rw [hres_no (hne (fun e => by
           simp (disch := omega) only [wrap_id, Int.toNat_natCast, e] at h2
           simp [elInt] at h2))])
      | skip
    rename_i e0
    simp (disch := omega) only [wrap_id, Int.toNat_natCast] at h2 ⊢
    have he : a.getD i (FT.zero (.int .i64)) = elInt c := by
      generalize a.getD i (FT.zero (.int .i64)) = v at h2
      simp at h2
      simp [elInt, *]
    exact hR (i + 1, c + 1) ⟨by omega, by simp; omega, take_step hx hlt (by omega) (he.trans hmk.symm)⟩ (by simp; omega)
  · have hge : i = a.length := by simp at h2; omega
    subst hge
    conv => whnf
    refine ⟨?_, rfl⟩
    rw [List.take_of_length_le (by omega), List.take_of_length_le (by omega)] at hx
    rw [hres_yes hx, hc]
theorem ok_laws_heldIntS : FunOk Try.prog c_laws_heldIntS := funOk (E := []) (envOk_nil) mixd Try.func49 (pf := pf_laws_heldIntS) (by kernel_rfl) fun ts K h => by
  obtain ⟨t0, t1, e0, h⟩ := as2_out h
  subst e0
  obtain ⟨a, e1, hq⟩ := arC_out (rd_l (.int .i64)) h
  clear h
  subst e1
  have h := hq
  clear hq
  obtain ⟨k, e1, hq⟩ := arC_out (rd_int .i64) h
  clear h
  subst e1
  have h := hq
  clear hq
  obtain ⟨hpre, h⟩ := chk_o h
  exact ⟨_, _, h, Nat.le_of_ble_eq_true (show Nat.ble 2 Try.f49.ntmps = true by kernel_rfl), _, run_laws_heldIntS a k hpre⟩

def pf_laws_eqMemory : PF := ⟨[.t 4], .seq (.reg [.s (.box 2 (.t 0)), .s (.box 3 (.t 1)), .s (.mv 4 (.k (.v (.c .ff))))]) (.seq (.seq (.reg [.s (.fa 5 (.t 2) 0), .s (.load 6 false 1 (.t 5)), .s (.fa 7 (.t 3) 0), .s (.load 8 false 1 (.t 7)), .s (.call (some 9) 75 [(.t 6), (.t 8)]), .s (.bnot 10 (.t 9))]) (.cond (.t 10) (.seq (.reg [.s (.mv 4 (.k (.v (.c .ff))))]) (.ret)) (.skip))) (.seq (.seq (.reg [.s (.fa 11 (.t 2) 1), .s (.load 12 false 1 (.t 11)), .s (.fa 13 (.t 3) 1), .s (.load 14 false 1 (.t 13)), .s (.call (some 15) 126 [(.t 12), (.t 14)]), .s (.bnot 16 (.t 15))]) (.cond (.t 16) (.seq (.reg [.s (.mv 4 (.k (.v (.c .ff))))]) (.ret)) (.skip))) (.seq (.reg [.s (.mv 4 (.k (.v (.c .tt))))]) (.ret))))⟩
def c_laws_eqMemory : Fun := ⟨76, [], fun ts K => as2 ts fun t0 t1 => arG pMemT t0 fun a => arG pMemT t1 fun b => chk (a.words.length ≤ 2147483647 ∧ a.gone.length ≤ 2147483647) (K (tB (decide (a = b))) [])⟩
theorem run_laws_eqMemory (a : Mem) (b : Mem) (hpre : a.words.length ≤ 2147483647 ∧ a.gone.length ≤ 2147483647) : runK [c_laws_eqWordS, c_laws_eqBoolS] (0) [] pf_laws_eqMemory [tG (a.tc false []), tG (b.tc false [])] fun r o => r = tB (decide (a = b)) ∧ o = [] := by
  obtain ⟨a1, a2⟩ := a
  obtain ⟨b1, b2⟩ := b
  dsimp only at hpre
  conv => whnf
  refine chk_i hpre.1 ?_
  conv => whnf
  refine sel_i (fun h => ?_) (fun h => ?_) <;> conv => whnf
  · refine ⟨?_, rfl⟩; simp at h; simp [h]
  refine chk_i hpre.2 ?_
  conv => whnf
  refine sel_i (fun h2 => ?_) (fun h2 => ?_) <;> conv => whnf
  all_goals (refine ⟨?_, rfl⟩; simp at h h2; simp [h, h2])
theorem ok_laws_eqMemory : FunOk Try.prog c_laws_eqMemory := funOk (E := [c_laws_eqWordS, c_laws_eqBoolS]) (envOk_cons ok_laws_eqWordS (envOk_cons ok_laws_eqBoolS (envOk_nil))) mixd Try.func76 (pf := pf_laws_eqMemory) (by kernel_rfl) fun ts K h => by
  obtain ⟨t0, t1, e0, h⟩ := as2_out h
  subst e0
  obtain ⟨a, e1, hq⟩ := arG_out rd_mem h
  clear h
  subst e1
  have h := hq
  clear hq
  obtain ⟨b, e1, hq⟩ := arG_out rd_mem h
  clear h
  subst e1
  have h := hq
  clear hq
  obtain ⟨hpre, h⟩ := chk_o h
  exact ⟨_, _, h, Nat.le_of_ble_eq_true (show Nat.ble 2 Try.f76.ntmps = true by kernel_rfl), _, run_laws_eqMemory a b hpre⟩

def endMemory (m : Mem) (k : Int) : Int := k + 6 * m.words.length + 1 * m.gone.length
def markMemory (m : Mem) (k : Int) : Mem := { m with words := mkWordS m.words.length (k), gone := mkBoolS m.gone.length (k + 6 * m.words.length) }
def SzMemory (m : Mem) : Prop := m.words.length ≤ 2147483647 ∧ m.gone.length ≤ 2147483647
theorem sz_markMemory (m : Mem) (k : Int) (h : SzMemory m) : SzMemory (markMemory m k) := by
  simp only [SzMemory, endMemory, markMemory, mkWordS_length, mkBoolS_length] at h ⊢; omega
theorem endMemory_le (m : Mem) (k : Int) (h : SzMemory m) : k ≤ endMemory m k ∧ endMemory m k ≤ k + 1099511627776 := by
  simp only [SzMemory, endMemory, markMemory] at h ⊢; omega
theorem mark_markMemory (m : Mem) (k : Int) : markMemory (markMemory m k) k = markMemory m k := by
  simp [SzMemory, endMemory, markMemory, mkWordS_length, mkBoolS_length]
theorem end_markMemory (m : Mem) (k : Int) : endMemory (markMemory m k) k = endMemory m k := by
  simp [SzMemory, endMemory, markMemory, mkWordS_length, mkBoolS_length]
theorem etaMemory (m : Mem) : (⟨m.words, m.gone⟩ : Mem) = m := rfl

def pf_laws_markMemory : PF := ⟨[.t 4], .seq (.reg [.s (.box 2 (.t 0)), .s (.mv 4 (.k (.v (.c (.int .i64 0)))))]) (.seq (.reg [.s (.fa 5 (.t 2) 0), .s (.load 6 false 1 (.t 5)), .s (.mv 7 (.t 1)), .s (.call (some 8) 77 [(.t 6), (.t 7)]), .s (.mv 1 (.t 8))]) (.seq (.reg [.s (.fa 9 (.t 2) 1), .s (.load 10 false 1 (.t 9)), .s (.mv 11 (.t 1)), .s (.call (some 12) 127 [(.t 10), (.t 11)]), .s (.mv 1 (.t 12))]) (.seq (.reg [.s (.mv 13 (.t 1)), .s (.mv 4 (.t 13))]) (.ret))))⟩
def c_laws_markMemory : Fun := ⟨78, [true, false], fun ts K => as2 ts fun t0 t1 => arG pMemO t0 fun m => arC (pI .i64) t1 fun k => chk (0 ≤ k ∧ k ≤ 562949953421312 ∧ SzMemory m) (K (tN (endMemory m k)) ([tG ((markMemory m k).tc true [])]))⟩
theorem run_laws_markMemory (m : Mem) (k : Int) (hpre : 0 ≤ k ∧ k ≤ 562949953421312 ∧ SzMemory m) : runK [c_laws_markWordS, c_laws_markBoolS] (0) [true, false] pf_laws_markMemory [tG (m.tc true []), tI .i64 k] fun r o => r = tN (endMemory m k) ∧ o = [tG ((markMemory m k).tc true [])] := by
  conv => whnf
  repeat' (refine chk_c ?_ ?_ <;> conv => whnf)
  all_goals first
    | (refine ⟨?_⟩; (try dsimp only); simp only [SzMemory, endMemory, markMemory] at *; omega)
    | (refine ⟨?_⟩; (try dsimp only); simp only [SzMemory, endMemory, markMemory, mkWordS_length, mkBoolS_length] at *; omega)
    | (refine ⟨?_⟩; (try dsimp only); simp [SzMemory, endMemory, markMemory, mkWordS_length, mkBoolS_length]; done)
    | exact ⟨rfl, rfl⟩
theorem ok_laws_markMemory : FunOk Try.prog c_laws_markMemory := funOk (E := [c_laws_markWordS, c_laws_markBoolS]) (envOk_cons ok_laws_markWordS (envOk_cons ok_laws_markBoolS (envOk_nil))) mixd Try.func78 (pf := pf_laws_markMemory) (by kernel_rfl) fun ts K h => by
  obtain ⟨t0, t1, e0, h⟩ := as2_out h
  subst e0
  obtain ⟨m, e1, hq⟩ := arG_out rd_memO h
  clear h
  subst e1
  have h := hq
  clear hq
  obtain ⟨k, e1, hq⟩ := arC_out (rd_int .i64) h
  clear h
  subst e1
  have h := hq
  clear hq
  obtain ⟨hpre, h⟩ := chk_o h
  exact ⟨_, _, h, Nat.le_of_ble_eq_true (show Nat.ble 2 Try.f78.ntmps = true by kernel_rfl), _, run_laws_markMemory m k hpre⟩

def pf_laws_heldMemory : PF := ⟨[.t 4], .seq (.reg [.s (.box 2 (.t 0)), .s (.mv 4 (.k (.v (.c (.int .i64 0)))))]) (.seq (.reg [.s (.fa 5 (.t 2) 0), .s (.load 6 false 1 (.t 5)), .s (.mv 7 (.t 1)), .s (.call (some 8) 83 [(.t 6), (.t 7)]), .s (.mv 1 (.t 8))]) (.seq (.seq (.reg [.s (.mv 9 (.t 1)), .s (.bin 10 .lss (.t 9) (.k (.v (.c (.int .i64 0)))))]) (.cond (.t 10) (.seq (.reg [.s (.mv 4 (.k (.v (.c (.int .i64 (-1))))))]) (.ret)) (.skip))) (.seq (.reg [.s (.fa 11 (.t 2) 1), .s (.load 12 false 1 (.t 11)), .s (.mv 13 (.t 1)), .s (.call (some 14) 129 [(.t 12), (.t 13)]), .s (.mv 1 (.t 14))]) (.seq (.seq (.reg [.s (.mv 15 (.t 1)), .s (.bin 16 .lss (.t 15) (.k (.v (.c (.int .i64 0)))))]) (.cond (.t 16) (.seq (.reg [.s (.mv 4 (.k (.v (.c (.int .i64 (-1))))))]) (.ret)) (.skip))) (.seq (.reg [.s (.mv 17 (.t 1)), .s (.mv 4 (.t 17))]) (.ret))))))⟩
def c_laws_heldMemory : Fun := ⟨84, [], fun ts K => as2 ts fun t0 t1 => arG pMemT t0 fun m => arC (pI .i64) t1 fun k => chk (0 ≤ k ∧ k ≤ 562949953421312 ∧ SzMemory m) (K (tN (hres (m = markMemory m k) (endMemory m k))) [])⟩
theorem run_laws_heldMemory (m : Mem) (k : Int) (hpre : 0 ≤ k ∧ k ≤ 562949953421312 ∧ SzMemory m) : runK [c_laws_heldWordS, c_laws_heldBoolS] (0) [] pf_laws_heldMemory [tG (m.tc false []), tI .i64 k] fun r o => r = tN (hres (m = markMemory m k) (endMemory m k)) ∧ o = [] := by
  have hsz := hpre.2.2
  conv => whnf
  refine chk_i (by (try dsimp only); simp only [SzMemory, endMemory, markMemory] at *; omega) ?_
  conv => whnf
  refine sel_i (fun h => ?_) (fun h => ?_)
  · have hn := hres_t (by (try dsimp only); simp only [SzMemory, endMemory, markMemory] at *; omega) h
    conv => whnf
    refine ⟨?_, rfl⟩
    rw [hres_no (fun e => hn (congrArg Mem.words e))]
  obtain ⟨p0, e0⟩ := hres_f h
  conv => whnf
  simp only [e0]
  refine chk_i (by (try dsimp only); simp only [SzMemory, endMemory, markMemory] at *; omega) ?_
  conv => whnf
  refine sel_i (fun h => ?_) (fun h => ?_)
  · have hn := hres_t (by (try dsimp only); simp only [SzMemory, endMemory, markMemory] at *; omega) h
    conv => whnf
    refine ⟨?_, rfl⟩
    rw [hres_no (fun e => hn (congrArg Mem.gone e))]
  obtain ⟨p1, e1⟩ := hres_f h
  conv => whnf
  refine ⟨?_, rfl⟩
  rw [hres_yes (show m = markMemory m k from ?_)]
  · exact congrArg (fun x => tN x) e1
  · obtain ⟨m0, m1⟩ := m
    simp only [markMemory, Mem.mk.injEq, eq_self, and_true, true_and]
    exact ⟨p0, p1⟩
theorem ok_laws_heldMemory : FunOk Try.prog c_laws_heldMemory := funOk (E := [c_laws_heldWordS, c_laws_heldBoolS]) (envOk_cons ok_laws_heldWordS (envOk_cons ok_laws_heldBoolS (envOk_nil))) mixd Try.func84 (pf := pf_laws_heldMemory) (by kernel_rfl) fun ts K h => by
  obtain ⟨t0, t1, e0, h⟩ := as2_out h
  subst e0
  obtain ⟨m, e1, hq⟩ := arG_out rd_mem h
  clear h
  subst e1
  have h := hq
  clear hq
  obtain ⟨k, e1, hq⟩ := arC_out (rd_int .i64) h
  clear h
  subst e1
  have h := hq
  clear hq
  obtain ⟨hpre, h⟩ := chk_o h
  exact ⟨_, _, h, Nat.le_of_ble_eq_true (show Nat.ble 2 Try.f84.ntmps = true by kernel_rfl), _, run_laws_heldMemory m k hpre⟩

def pf_laws_eqHeap : PF := ⟨[.t 4], .seq (.reg [.s (.box 2 (.t 0)), .s (.box 3 (.t 1)), .s (.mv 4 (.k (.v (.c .ff))))]) (.seq (.seq (.reg [.s (.fa 5 (.t 2) 0), .s (.load 6 true 2 (.t 5)), .s (.fa 7 (.t 3) 0), .s (.load 8 true 2 (.t 7)), .s (.call (some 9) 76 [(.t 6), (.t 8)]), .s (.bnot 10 (.t 9))]) (.cond (.t 10) (.seq (.reg [.s (.mv 4 (.k (.v (.c .ff))))]) (.ret)) (.skip))) (.seq (.seq (.reg [.s (.fa 11 (.t 2) 2), .s (.load 12 false 1 (.t 11)), .s (.fa 13 (.t 3) 2), .s (.load 14 false 1 (.t 13)), .s (.call (some 15) 91 [(.t 12), (.t 14)]), .s (.bnot 16 (.t 15))]) (.cond (.t 16) (.seq (.reg [.s (.mv 4 (.k (.v (.c .ff))))]) (.ret)) (.skip))) (.seq (.seq (.reg [.s (.fa 17 (.t 2) 3), .s (.load 18 false 1 (.t 17)), .s (.fa 19 (.t 3) 3), .s (.load 20 false 1 (.t 19)), .s (.call (some 21) 91 [(.t 18), (.t 20)]), .s (.bnot 22 (.t 21))]) (.cond (.t 22) (.seq (.reg [.s (.mv 4 (.k (.v (.c .ff))))]) (.ret)) (.skip))) (.seq (.reg [.s (.mv 4 (.k (.v (.c .tt))))]) (.ret)))))⟩
def c_laws_eqHeap : Fun := ⟨33, [], fun ts K => as2 ts fun t0 t1 => arG pHeapT t0 fun a => arG pHeapT t1 fun b => chk (a.mem.words.length ≤ 2147483647 ∧ a.mem.gone.length ≤ 2147483647 ∧ a.live.length ≤ 2147483647 ∧ a.waits.length ≤ 2147483647) (K (tB (decide (a = b))) [])⟩
theorem run_laws_eqHeap (a : Heap) (b : Heap) (hpre : a.mem.words.length ≤ 2147483647 ∧ a.mem.gone.length ≤ 2147483647 ∧ a.live.length ≤ 2147483647 ∧ a.waits.length ≤ 2147483647) : runK [c_laws_eqMemory, c_laws_eqSpanS] (0) [] pf_laws_eqHeap [tG (a.tc false []), tG (b.tc false [])] fun r o => r = tB (decide (a = b)) ∧ o = [] := by
  obtain ⟨⟨a1, a4⟩, a2, a3⟩ := a
  obtain ⟨⟨b1, b4⟩, b2, b3⟩ := b
  dsimp only at hpre
  conv => whnf
  refine chk_i ⟨hpre.1, hpre.2.1⟩ ?_
  conv => whnf
  refine sel_i (fun h => ?_) (fun h => ?_) <;> conv => whnf
  · refine ⟨?_, rfl⟩
    simp at h; simp; intro e1 e2; simp [e1, e2] at h
  refine chk_i hpre.2.2.1 ?_
  conv => whnf
  refine sel_i (fun h2 => ?_) (fun h2 => ?_) <;> conv => whnf
  · refine ⟨?_, rfl⟩; simp at h h2; simp [h, h2]
  refine chk_i hpre.2.2.2 ?_
  conv => whnf
  refine sel_i (fun h3 => ?_) (fun h3 => ?_) <;> conv => whnf
  all_goals (refine ⟨?_, rfl⟩; simp at h h2 h3; simp [h, h2, h3])
theorem ok_laws_eqHeap : FunOk Try.prog c_laws_eqHeap := funOk (E := [c_laws_eqMemory, c_laws_eqSpanS]) (envOk_cons ok_laws_eqMemory (envOk_cons ok_laws_eqSpanS (envOk_nil))) mixd Try.func33 (pf := pf_laws_eqHeap) (by kernel_rfl) fun ts K h => by
  obtain ⟨t0, t1, e0, h⟩ := as2_out h
  subst e0
  obtain ⟨a, e1, hq⟩ := arG_out rd_heap h
  clear h
  subst e1
  have h := hq
  clear hq
  obtain ⟨b, e1, hq⟩ := arG_out rd_heap h
  clear h
  subst e1
  have h := hq
  clear hq
  obtain ⟨hpre, h⟩ := chk_o h
  exact ⟨_, _, h, Nat.le_of_ble_eq_true (show Nat.ble 2 Try.f33.ntmps = true by kernel_rfl), _, run_laws_eqHeap a b hpre⟩

def endHeap (m : Heap) (k : Int) : Int := endMemory m.mem (k) + 2 * m.live.length + 2 * m.waits.length
def markHeap (m : Heap) (k : Int) : Heap := { m with mem := markMemory m.mem (k), live := mkSpanS m.live.length (endMemory m.mem (k)), waits := mkSpanS m.waits.length (endMemory m.mem (k) + 2 * m.live.length) }
def SzHeap (m : Heap) : Prop := SzMemory m.mem ∧ m.live.length ≤ 2147483647 ∧ m.waits.length ≤ 2147483647
theorem sz_markHeap (m : Heap) (k : Int) (h : SzHeap m) : SzHeap (markHeap m k) := by
  simp only [SzHeap, endHeap, markHeap, SzMemory, endMemory, markMemory, mkSpanS_length, mkWordS_length, mkBoolS_length] at h ⊢; omega
theorem endHeap_le (m : Heap) (k : Int) (h : SzHeap m) : k ≤ endHeap m k ∧ endHeap m k ≤ k + 1099511627776 := by
  simp only [SzHeap, endHeap, markHeap, SzMemory, endMemory, markMemory] at h ⊢; omega
theorem mark_markHeap (m : Heap) (k : Int) : markHeap (markHeap m k) k = markHeap m k := by
  simp [SzHeap, endHeap, markHeap, SzMemory, endMemory, markMemory, mkSpanS_length, mkWordS_length, mkBoolS_length]
theorem end_markHeap (m : Heap) (k : Int) : endHeap (markHeap m k) k = endHeap m k := by
  simp [SzHeap, endHeap, markHeap, SzMemory, endMemory, markMemory, mkSpanS_length, mkWordS_length, mkBoolS_length]
theorem etaHeap (m : Heap) : (⟨m.mem, m.live, m.waits⟩ : Heap) = m := rfl

def pf_laws_markHeap : PF := ⟨[.t 4], .seq (.reg [.s (.box 2 (.t 0)), .s (.mv 4 (.k (.v (.c (.int .i64 0)))))]) (.seq (.reg [.s (.fa 5 (.t 2) 0), .s (.load 6 true 2 (.t 5)), .s (.mv 7 (.t 1)), .s (.call (some 8) 78 [(.t 6), (.t 7)]), .s (.mv 1 (.t 8))]) (.seq (.reg [.s (.fa 9 (.t 2) 2), .s (.load 10 false 1 (.t 9)), .s (.mv 11 (.t 1)), .s (.call (some 12) 99 [(.t 10), (.t 11)]), .s (.mv 1 (.t 12))]) (.seq (.reg [.s (.fa 13 (.t 2) 3), .s (.load 14 false 1 (.t 13)), .s (.mv 15 (.t 1)), .s (.call (some 16) 99 [(.t 14), (.t 15)]), .s (.mv 1 (.t 16))]) (.seq (.reg [.s (.mv 17 (.t 1)), .s (.mv 4 (.t 17))]) (.ret)))))⟩
def c_laws_markHeap : Fun := ⟨36, [true, false], fun ts K => as2 ts fun t0 t1 => arG pHeapO t0 fun m => arC (pI .i64) t1 fun k => chk (0 ≤ k ∧ k ≤ 281474976710656 ∧ SzHeap m) (K (tN (endHeap m k)) ([tG ((markHeap m k).tc true [])]))⟩
theorem run_laws_markHeap (m : Heap) (k : Int) (hpre : 0 ≤ k ∧ k ≤ 281474976710656 ∧ SzHeap m) : runK [c_laws_markMemory, c_laws_markSpanS] (0) [true, false] pf_laws_markHeap [tG (m.tc true []), tI .i64 k] fun r o => r = tN (endHeap m k) ∧ o = [tG ((markHeap m k).tc true [])] := by
  conv => whnf
  repeat' (refine chk_c ?_ ?_ <;> conv => whnf)
  all_goals first
    | (refine ⟨?_⟩; (try dsimp only); simp only [SzHeap, endHeap, markHeap, SzMemory, endMemory, markMemory] at *; omega)
    | (refine ⟨?_⟩; (try dsimp only); simp only [SzHeap, endHeap, markHeap, SzMemory, endMemory, markMemory, mkSpanS_length, mkWordS_length, mkBoolS_length] at *; omega)
    | (refine ⟨?_⟩; (try dsimp only); simp [SzHeap, endHeap, markHeap, SzMemory, endMemory, markMemory, mkSpanS_length, mkWordS_length, mkBoolS_length]; done)
    | exact ⟨rfl, rfl⟩
theorem ok_laws_markHeap : FunOk Try.prog c_laws_markHeap := funOk (E := [c_laws_markMemory, c_laws_markSpanS]) (envOk_cons ok_laws_markMemory (envOk_cons ok_laws_markSpanS (envOk_nil))) mixd Try.func36 (pf := pf_laws_markHeap) (by kernel_rfl) fun ts K h => by
  obtain ⟨t0, t1, e0, h⟩ := as2_out h
  subst e0
  obtain ⟨m, e1, hq⟩ := arG_out rd_heapO h
  clear h
  subst e1
  have h := hq
  clear hq
  obtain ⟨k, e1, hq⟩ := arC_out (rd_int .i64) h
  clear h
  subst e1
  have h := hq
  clear hq
  obtain ⟨hpre, h⟩ := chk_o h
  exact ⟨_, _, h, Nat.le_of_ble_eq_true (show Nat.ble 2 Try.f36.ntmps = true by kernel_rfl), _, run_laws_markHeap m k hpre⟩

def pf_laws_heldHeap : PF := ⟨[.t 4], .seq (.reg [.s (.box 2 (.t 0)), .s (.mv 4 (.k (.v (.c (.int .i64 0)))))]) (.seq (.reg [.s (.fa 5 (.t 2) 0), .s (.load 6 true 2 (.t 5)), .s (.mv 7 (.t 1)), .s (.call (some 8) 84 [(.t 6), (.t 7)]), .s (.mv 1 (.t 8))]) (.seq (.seq (.reg [.s (.mv 9 (.t 1)), .s (.bin 10 .lss (.t 9) (.k (.v (.c (.int .i64 0)))))]) (.cond (.t 10) (.seq (.reg [.s (.mv 4 (.k (.v (.c (.int .i64 (-1))))))]) (.ret)) (.skip))) (.seq (.reg [.s (.fa 11 (.t 2) 2), .s (.load 12 false 1 (.t 11)), .s (.mv 13 (.t 1)), .s (.call (some 14) 100 [(.t 12), (.t 13)]), .s (.mv 1 (.t 14))]) (.seq (.seq (.reg [.s (.mv 15 (.t 1)), .s (.bin 16 .lss (.t 15) (.k (.v (.c (.int .i64 0)))))]) (.cond (.t 16) (.seq (.reg [.s (.mv 4 (.k (.v (.c (.int .i64 (-1))))))]) (.ret)) (.skip))) (.seq (.reg [.s (.fa 17 (.t 2) 3), .s (.load 18 false 1 (.t 17)), .s (.mv 19 (.t 1)), .s (.call (some 20) 100 [(.t 18), (.t 19)]), .s (.mv 1 (.t 20))]) (.seq (.seq (.reg [.s (.mv 21 (.t 1)), .s (.bin 22 .lss (.t 21) (.k (.v (.c (.int .i64 0)))))]) (.cond (.t 22) (.seq (.reg [.s (.mv 4 (.k (.v (.c (.int .i64 (-1))))))]) (.ret)) (.skip))) (.seq (.reg [.s (.mv 23 (.t 1)), .s (.mv 4 (.t 23))]) (.ret))))))))⟩
def c_laws_heldHeap : Fun := ⟨37, [], fun ts K => as2 ts fun t0 t1 => arG pHeapT t0 fun m => arC (pI .i64) t1 fun k => chk (0 ≤ k ∧ k ≤ 281474976710656 ∧ SzHeap m) (K (tN (hres (m = markHeap m k) (endHeap m k))) [])⟩
theorem run_laws_heldHeap (m : Heap) (k : Int) (hpre : 0 ≤ k ∧ k ≤ 281474976710656 ∧ SzHeap m) : runK [c_laws_heldMemory, c_laws_heldSpanS] (0) [] pf_laws_heldHeap [tG (m.tc false []), tI .i64 k] fun r o => r = tN (hres (m = markHeap m k) (endHeap m k)) ∧ o = [] := by
  have hsz := hpre.2.2
  conv => whnf
  refine chk_i (by (try dsimp only); simp only [SzHeap, endHeap, markHeap, SzMemory, endMemory, markMemory] at *; omega) ?_
  conv => whnf
  refine sel_i (fun h => ?_) (fun h => ?_)
  · have hn := hres_t (by (try dsimp only); simp only [SzHeap, endHeap, markHeap, SzMemory, endMemory, markMemory] at *; omega) h
    conv => whnf
    refine ⟨?_, rfl⟩
    rw [hres_no (fun e => hn (congrArg Heap.mem e))]
  obtain ⟨p0, e0⟩ := hres_f h
  conv => whnf
  simp only [e0]
  refine chk_i (by (try dsimp only); simp only [SzHeap, endHeap, markHeap, SzMemory, endMemory, markMemory] at *; omega) ?_
  conv => whnf
  refine sel_i (fun h => ?_) (fun h => ?_)
  · have hn := hres_t (by (try dsimp only); simp only [SzHeap, endHeap, markHeap, SzMemory, endMemory, markMemory] at *; omega) h
    conv => whnf
    refine ⟨?_, rfl⟩
    rw [hres_no (fun e => hn (congrArg Heap.live e))]
  obtain ⟨p1, e1⟩ := hres_f h
  conv => whnf
  simp only [e1]
  refine chk_i (by (try dsimp only); simp only [SzHeap, endHeap, markHeap, SzMemory, endMemory, markMemory] at *; omega) ?_
  conv => whnf
  refine sel_i (fun h => ?_) (fun h => ?_)
  · have hn := hres_t (by (try dsimp only); simp only [SzHeap, endHeap, markHeap, SzMemory, endMemory, markMemory] at *; omega) h
    conv => whnf
    refine ⟨?_, rfl⟩
    rw [hres_no (fun e => hn (congrArg Heap.waits e))]
  obtain ⟨p2, e2⟩ := hres_f h
  conv => whnf
  refine ⟨?_, rfl⟩
  rw [hres_yes (show m = markHeap m k from ?_)]
  · exact congrArg (fun x => tN x) e2
  · obtain ⟨m0, m1, m2⟩ := m
    simp only [markHeap, Heap.mk.injEq, eq_self, and_true, true_and]
    exact ⟨p0, p1, p2⟩
theorem ok_laws_heldHeap : FunOk Try.prog c_laws_heldHeap := funOk (E := [c_laws_heldMemory, c_laws_heldSpanS]) (envOk_cons ok_laws_heldMemory (envOk_cons ok_laws_heldSpanS (envOk_nil))) mixd Try.func37 (pf := pf_laws_heldHeap) (by kernel_rfl) fun ts K h => by
  obtain ⟨t0, t1, e0, h⟩ := as2_out h
  subst e0
  obtain ⟨m, e1, hq⟩ := arG_out rd_heap h
  clear h
  subst e1
  have h := hq
  clear hq
  obtain ⟨k, e1, hq⟩ := arC_out (rd_int .i64) h
  clear h
  subst e1
  have h := hq
  clear hq
  obtain ⟨hpre, h⟩ := chk_o h
  exact ⟨_, _, h, Nat.le_of_ble_eq_true (show Nat.ble 2 Try.f37.ntmps = true by kernel_rfl), _, run_laws_heldHeap m k hpre⟩

def memNew : Mem := ⟨List.replicate 24 ⟨0, false, ⟨0, 0, 0, 0⟩⟩, List.replicate 24 false⟩

def pf_spec_MemoryNew : PF := ⟨[.c 0 true 2], .seq (.reg [.s (.alloc 0 [.nils .word, .nils .bool])]) (.seq (.rgd [.s (.mkS 1 .word (.k (.v (.c (.int .i64 24))))), .s (.mkS 2 .bool (.k (.v (.c (.int .i64 24))))), .s (.build 3 [.nils .word, .nils .bool] [(0, 1, (.t 1)), (1, 1, (.t 2))]), .s (.store 2 (.t 0) (.t 3))] (.alt 0 false (.one 1 true (.tk 2 (.one 3 true (.done (some [0]))))) (.alt 1 false (.one 0 true (.tk 2 (.one 3 true (.done (some [0]))))) (.nil)))) (.ret))⟩
def c_spec_MemoryNew : Fun := ⟨79, [], fun ts K => as0 ts (K (tG (memNew.tc true [])) [])⟩
theorem run_spec_MemoryNew  : runK [] (0) [] pf_spec_MemoryNew [] fun r o => r = tG (memNew.tc true []) ∧ o = [] := by
  conv => whnf
  repeat' first | refine chk_c ?_ ?_ | refine And.intro ?_ ?_ <;> conv => whnf
  all_goals first
    | (refine ⟨?_⟩; omega)
    | exact ⟨rfl, rfl⟩
    | rfl
    | exact True.intro
theorem ok_spec_MemoryNew : FunOk Try.prog c_spec_MemoryNew := funOk (E := []) (envOk_nil) mixd Try.func79 (pf := pf_spec_MemoryNew) (by kernel_rfl) fun ts K h => by
  obtain ⟨e0, h⟩ := as0_out h
  subst e0
  exact ⟨_, _, h, Nat.le_of_ble_eq_true (show Nat.ble 0 Try.f79.ntmps = true by kernel_rfl), _, run_spec_MemoryNew ⟩

def heapNew : Heap := ⟨memNew, [], []⟩
theorem sz_heapNew : SzHeap heapNew := by simp [heapNew, memNew, SzHeap, SzMemory]
end Go.Pi
