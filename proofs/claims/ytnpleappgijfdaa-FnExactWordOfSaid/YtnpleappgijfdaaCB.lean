/- Contracts of functions, each out of its run by PI. No conditions. -/
import Derived.Test.YtnpleappgijfdaaCA
namespace Go.Pi
open Go.Proofs
set_option linter.unusedVariables false
set_option linter.unusedSimpArgs false
set_option maxRecDepth 100000
attribute [local irreducible] iterN
/-- Numbers in the walk's own spelling. -/
abbrev w64 (n : Int) : Int := IntKind.i64.wrap n
def inR (n lo hi : Int) : Bool := decide (lo ≤ n) && decide (n ≤ hi)

def pf_impl_in : PF := ⟨[.t 6], .seq (.reg [.s (.mv 6 (.k (.v (.c .ff))))]) (.seq (.reg [.s (.mv 7 (.t 0)), .s (.mv 8 (.t 1)), .s (.bin 9 .geq (.t 7) (.t 8)), .s (.mv 10 (.t 9)), .g 10 true (some 11) (.mv 11 (.t 0)), .g 10 true (some 12) (.mv 12 (.t 2)), .g 10 true (some 13) (.bin 13 .leq (.t 11) (.t 12)), .s (.pick 14 (.t 10) (.t 13) (.k (.v (.c .ff)))), .s (.mv 6 (.t 14))]) (.ret))⟩
def c_impl_in : Fun := ⟨68, [], fun ts K => as3 ts fun t0 t1 t2 => arC (pI .i64) t0 fun n => arC (pI .i64) t1 fun lo => arC (pI .i64) t2 fun hi => K (tB (inR n lo hi)) []⟩
theorem run_impl_in (n : Int) (lo : Int) (hi : Int) : runK [] (0) [] pf_impl_in [tI .i64 n, tI .i64 lo, tI .i64 hi] fun r o => r = tB (inR n lo hi) ∧ o = [] := by
  conv => whnf
  refine sel_i (fun h => ?_) (fun h => ?_) <;> conv => whnf
  all_goals (refine ⟨?_, rfl⟩; simp at h; simp [inR] <;> omega)
theorem ok_impl_in : FunOk Try.prog c_impl_in := funOk (E := []) (envOk_nil) mixd Try.func68 (pf := pf_impl_in) (by kernel_rfl) fun ts K h => by
  obtain ⟨t0, t1, t2, e0, h⟩ := as3_out h
  subst e0
  obtain ⟨n, e1, hq⟩ := arC_out (rd_int .i64) h
  clear h
  subst e1
  have h := hq
  clear hq
  obtain ⟨lo, e1, hq⟩ := arC_out (rd_int .i64) h
  clear h
  subst e1
  have h := hq
  clear hq
  obtain ⟨hi, e1, hq⟩ := arC_out (rd_int .i64) h
  clear h
  subst e1
  have h := hq
  clear hq
  exact ⟨_, _, h, Nat.le_of_ble_eq_true (show Nat.ble 3 Try.f68.ntmps = true by kernel_rfl), _, run_impl_in n lo hi⟩

def pf_spec_l1In : PF := ⟨[.t 6], .seq (.reg [.s (.mv 6 (.k (.v (.c .ff))))]) (.seq (.reg [.s (.mv 7 (.t 0)), .s (.mv 8 (.t 1)), .s (.bin 9 .geq (.t 7) (.t 8)), .s (.mv 10 (.t 9)), .g 10 true (some 11) (.mv 11 (.t 0)), .g 10 true (some 12) (.mv 12 (.t 2)), .g 10 true (some 13) (.bin 13 .leq (.t 11) (.t 12)), .s (.pick 14 (.t 10) (.t 13) (.k (.v (.c .ff)))), .s (.mv 6 (.t 14))]) (.ret))⟩
def c_spec_l1In : Fun := ⟨87, [], fun ts K => as3 ts fun t0 t1 t2 => arC (pI .i64) t0 fun n => arC (pI .i64) t1 fun lo => arC (pI .i64) t2 fun hi => K (tB (inR n lo hi)) []⟩
theorem run_spec_l1In (n : Int) (lo : Int) (hi : Int) : runK [] (0) [] pf_spec_l1In [tI .i64 n, tI .i64 lo, tI .i64 hi] fun r o => r = tB (inR n lo hi) ∧ o = [] := by
  conv => whnf
  refine sel_i (fun h => ?_) (fun h => ?_) <;> conv => whnf
  all_goals (refine ⟨?_, rfl⟩; simp at h; simp [inR] <;> omega)
theorem ok_spec_l1In : FunOk Try.prog c_spec_l1In := funOk (E := []) (envOk_nil) mixd Try.func87 (pf := pf_spec_l1In) (by kernel_rfl) fun ts K h => by
  obtain ⟨t0, t1, t2, e0, h⟩ := as3_out h
  subst e0
  obtain ⟨n, e1, hq⟩ := arC_out (rd_int .i64) h
  clear h
  subst e1
  have h := hq
  clear hq
  obtain ⟨lo, e1, hq⟩ := arC_out (rd_int .i64) h
  clear h
  subst e1
  have h := hq
  clear hq
  obtain ⟨hi, e1, hq⟩ := arC_out (rd_int .i64) h
  clear h
  subst e1
  have h := hq
  clear hq
  exact ⟨_, _, h, Nat.le_of_ble_eq_true (show Nat.ble 3 Try.f87.ntmps = true by kernel_rfl), _, run_spec_l1In n lo hi⟩

def room (at_ n : Int) : Bool := inR n 1 20 && inR at_ 0 (w64 (24 - n))

def pf_impl_roomFor : PF := ⟨[.t 4], .seq (.reg [.s (.mv 4 (.k (.v (.c .ff))))]) (.seq (.reg [.s (.mv 5 (.t 1)), .s (.call (some 6) 68 [(.t 5), (.k (.v (.c (.int .i64 1)))), (.k (.v (.c (.int .i64 20))))]), .s (.mv 7 (.t 6)), .g 7 true (some 8) (.mv 8 (.t 0)), .g 7 true (some 9) (.mv 9 (.t 1)), .g 7 true (some 10) (.bin 10 .sub (.k (.v (.c (.int .i64 24)))) (.t 9)), .g 7 true (some 11) (.call (some 11) 68 [(.t 8), (.k (.v (.c (.int .i64 0)))), (.t 10)]), .s (.pick 12 (.t 7) (.t 11) (.k (.v (.c .ff)))), .s (.mv 4 (.t 12))]) (.ret))⟩
def c_impl_roomFor : Fun := ⟨61, [], fun ts K => as2 ts fun t0 t1 => arC (pI .i64) t0 fun a => arC (pI .i64) t1 fun n => K (tB (room a n)) []⟩
theorem run_impl_roomFor (a : Int) (n : Int) : runK [c_impl_in] (0) [] pf_impl_roomFor [tI .i64 a, tI .i64 n] fun r o => r = tB (room a n) ∧ o = [] := by
  conv => whnf
  refine sel_i (fun h => ?_) (fun h => ?_) <;> conv => whnf
  all_goals (refine ⟨?_, rfl⟩; simp [room, h])
theorem ok_impl_roomFor : FunOk Try.prog c_impl_roomFor := funOk (E := [c_impl_in]) (envOk_cons ok_impl_in (envOk_nil)) mixd Try.func61 (pf := pf_impl_roomFor) (by kernel_rfl) fun ts K h => by
  obtain ⟨t0, t1, e0, h⟩ := as2_out h
  subst e0
  obtain ⟨a, e1, hq⟩ := arC_out (rd_int .i64) h
  clear h
  subst e1
  have h := hq
  clear hq
  obtain ⟨n, e1, hq⟩ := arC_out (rd_int .i64) h
  clear h
  subst e1
  have h := hq
  clear hq
  exact ⟨_, _, h, Nat.le_of_ble_eq_true (show Nat.ble 2 Try.f61.ntmps = true by kernel_rfl), _, run_impl_roomFor a n⟩

def pf_spec_l27Ok : PF := ⟨[.t 4], .seq (.reg [.s (.mv 4 (.k (.v (.c .ff))))]) (.seq (.reg [.s (.mv 5 (.t 1)), .s (.call (some 6) 87 [(.t 5), (.k (.v (.c (.int .i64 1)))), (.k (.v (.c (.int .i64 20))))]), .s (.mv 7 (.t 6)), .g 7 true (some 8) (.mv 8 (.t 0)), .g 7 true (some 9) (.mv 9 (.t 1)), .g 7 true (some 10) (.bin 10 .sub (.k (.v (.c (.int .i64 24)))) (.t 9)), .g 7 true (some 11) (.call (some 11) 87 [(.t 8), (.k (.v (.c (.int .i64 0)))), (.t 10)]), .s (.pick 12 (.t 7) (.t 11) (.k (.v (.c .ff)))), .s (.mv 4 (.t 12))]) (.ret))⟩
def c_spec_l27Ok : Fun := ⟨60, [], fun ts K => as2 ts fun t0 t1 => arC (pI .i64) t0 fun a => arC (pI .i64) t1 fun n => K (tB (room a n)) []⟩
theorem run_spec_l27Ok (a : Int) (n : Int) : runK [c_spec_l1In] (0) [] pf_spec_l27Ok [tI .i64 a, tI .i64 n] fun r o => r = tB (room a n) ∧ o = [] := by
  conv => whnf
  refine sel_i (fun h => ?_) (fun h => ?_) <;> conv => whnf
  all_goals (refine ⟨?_, rfl⟩; simp [room, h])
theorem ok_spec_l27Ok : FunOk Try.prog c_spec_l27Ok := funOk (E := [c_spec_l1In]) (envOk_cons ok_spec_l1In (envOk_nil)) mixd Try.func60 (pf := pf_spec_l27Ok) (by kernel_rfl) fun ts K h => by
  obtain ⟨t0, t1, e0, h⟩ := as2_out h
  subst e0
  obtain ⟨a, e1, hq⟩ := arC_out (rd_int .i64) h
  clear h
  subst e1
  have h := hq
  clear hq
  obtain ⟨n, e1, hq⟩ := arC_out (rd_int .i64) h
  clear h
  subst e1
  have h := hq
  clear hq
  exact ⟨_, _, h, Nat.le_of_ble_eq_true (show Nat.ble 2 Try.f60.ntmps = true by kernel_rfl), _, run_spec_l27Ok a n⟩

def markCode (a n : Int) : List Inst := if room a n then [⟨1, 1, 0, 0, n⟩, ⟨6, 2, 0, 3, a⟩, ⟨5, 3, 2, 1, 0⟩, ⟨11, 0, 0, 3, a⟩, ⟨15, 0, 0, 0, 0⟩] else []

def pf_impl_MarkCode : PF := ⟨[.t 4, .t 5], .seq (.reg [.s (.mv 4 (.k (.v (.c (.nils .inst))))), .s (.mv 5 (.k (.v (.c .ff))))]) (.seq (.seq (.reg [.s (.mv 6 (.t 0)), .s (.mv 7 (.t 1)), .s (.call (some 8) 61 [(.t 6), (.t 7)]), .s (.bnot 9 (.t 8))]) (.cond (.t 9) (.seq (.reg [.s (.mv 4 (.k (.v (.c (.nils .inst))))), .s (.mv 5 (.k (.v (.c .ff))))]) (.ret)) (.skip))) (.seq (.reg [.s (.mv 10 (.t 1)), .s (.build 11 [.int .i64 0, .int .i64 0, .int .i64 0, .int .i64 0, .int .i64 0] [(0, 1, (.k (.v (.c (.int .i64 1))))), (1, 1, (.k (.v (.c (.int .i64 1))))), (4, 1, (.t 10))]), .s (.mv 12 (.t 0)), .s (.build 13 [.int .i64 0, .int .i64 0, .int .i64 0, .int .i64 0, .int .i64 0] [(0, 1, (.k (.v (.c (.int .i64 6))))), (1, 1, (.k (.v (.c (.int .i64 2))))), (3, 1, (.k (.v (.c (.int .i64 3))))), (4, 1, (.t 12))]), .s (.build 14 [.int .i64 0, .int .i64 0, .int .i64 0, .int .i64 0, .int .i64 0] [(0, 1, (.k (.v (.c (.int .i64 5))))), (1, 1, (.k (.v (.c (.int .i64 3))))), (2, 1, (.k (.v (.c (.int .i64 2))))), (3, 1, (.k (.v (.c (.int .i64 1)))))]), .s (.mv 15 (.t 0)), .s (.build 16 [.int .i64 0, .int .i64 0, .int .i64 0, .int .i64 0, .int .i64 0] [(0, 1, (.k (.v (.c (.int .i64 11))))), (3, 1, (.k (.v (.c (.int .i64 3))))), (4, 1, (.t 15))]), .s (.build 17 [.int .i64 0, .int .i64 0, .int .i64 0, .int .i64 0, .int .i64 0] [(0, 1, (.k (.v (.c (.int .i64 15)))))]), .s (.bs 18 .inst [(.t 11), (.t 13), (.t 14), (.t 16), (.t 17)]), .s (.mv 4 (.t 18)), .s (.mv 5 (.k (.v (.c .tt))))]) (.ret)))⟩
def c_impl_MarkCode : Fun := ⟨18, [], fun ts K => as2 ts fun t0 t1 => arC (pI .i64) t0 fun a => arC (pI .i64) t1 fun n => K (.tup [.c (tl true .inst (markCode a n)), .c (.bool (room a n))]) []⟩
theorem run_impl_MarkCode (a : Int) (n : Int) : runK [c_impl_roomFor] (0) [] pf_impl_MarkCode [tI .i64 a, tI .i64 n] fun r o => r = .tup [.c (tl true .inst (markCode a n)), .c (.bool (room a n))] ∧ o = [] := by
  conv => whnf
  refine sel_i (fun h => ?_) (fun h => ?_) <;> conv => whnf
  all_goals (refine ⟨?_, rfl⟩; simp at h; simp [markCode, h])
theorem ok_impl_MarkCode : FunOk Try.prog c_impl_MarkCode := funOk (E := [c_impl_roomFor]) (envOk_cons ok_impl_roomFor (envOk_nil)) mixd Try.func18 (pf := pf_impl_MarkCode) (by kernel_rfl) fun ts K h => by
  obtain ⟨t0, t1, e0, h⟩ := as2_out h
  subst e0
  obtain ⟨a, e1, hq⟩ := arC_out (rd_int .i64) h
  clear h
  subst e1
  have h := hq
  clear hq
  obtain ⟨n, e1, hq⟩ := arC_out (rd_int .i64) h
  clear h
  subst e1
  have h := hq
  clear hq
  exact ⟨_, _, h, Nat.le_of_ble_eq_true (show Nat.ble 2 Try.f18.ntmps = true by kernel_rfl), _, run_impl_MarkCode a n⟩

def pf_spec_MarkCode : PF := ⟨[.t 4, .t 5], .seq (.reg [.s (.mv 4 (.k (.v (.c (.nils .inst))))), .s (.mv 5 (.k (.v (.c .ff))))]) (.seq (.seq (.reg [.s (.mv 6 (.t 0)), .s (.mv 7 (.t 1)), .s (.call (some 8) 60 [(.t 6), (.t 7)]), .s (.bnot 9 (.t 8))]) (.cond (.t 9) (.seq (.reg [.s (.bs 10 .inst []), .s (.mv 4 (.t 10)), .s (.mv 5 (.k (.v (.c .ff))))]) (.ret)) (.skip))) (.seq (.reg [.s (.mv 11 (.t 1)), .s (.build 12 [.int .i64 0, .int .i64 0, .int .i64 0, .int .i64 0, .int .i64 0] [(0, 1, (.k (.v (.c (.int .i64 1))))), (1, 1, (.k (.v (.c (.int .i64 1))))), (4, 1, (.t 11))]), .s (.mv 13 (.t 0)), .s (.build 14 [.int .i64 0, .int .i64 0, .int .i64 0, .int .i64 0, .int .i64 0] [(0, 1, (.k (.v (.c (.int .i64 6))))), (1, 1, (.k (.v (.c (.int .i64 2))))), (3, 1, (.k (.v (.c (.int .i64 3))))), (4, 1, (.t 13))]), .s (.build 15 [.int .i64 0, .int .i64 0, .int .i64 0, .int .i64 0, .int .i64 0] [(0, 1, (.k (.v (.c (.int .i64 5))))), (1, 1, (.k (.v (.c (.int .i64 3))))), (2, 1, (.k (.v (.c (.int .i64 2))))), (3, 1, (.k (.v (.c (.int .i64 1)))))]), .s (.mv 16 (.t 0)), .s (.build 17 [.int .i64 0, .int .i64 0, .int .i64 0, .int .i64 0, .int .i64 0] [(0, 1, (.k (.v (.c (.int .i64 11))))), (3, 1, (.k (.v (.c (.int .i64 3))))), (4, 1, (.t 16))]), .s (.build 18 [.int .i64 0, .int .i64 0, .int .i64 0, .int .i64 0, .int .i64 0] [(0, 1, (.k (.v (.c (.int .i64 15)))))]), .s (.bs 19 .inst [(.t 12), (.t 14), (.t 15), (.t 17), (.t 18)]), .s (.mv 4 (.t 19)), .s (.mv 5 (.k (.v (.c .tt))))]) (.ret)))⟩
def c_spec_MarkCode : Fun := ⟨17, [], fun ts K => as2 ts fun t0 t1 => arC (pI .i64) t0 fun a => arC (pI .i64) t1 fun n => K (.tup [.c (tl true .inst (markCode a n)), .c (.bool (room a n))]) []⟩
theorem run_spec_MarkCode (a : Int) (n : Int) : runK [c_spec_l27Ok] (0) [] pf_spec_MarkCode [tI .i64 a, tI .i64 n] fun r o => r = .tup [.c (tl true .inst (markCode a n)), .c (.bool (room a n))] ∧ o = [] := by
  conv => whnf
  refine sel_i (fun h => ?_) (fun h => ?_) <;> conv => whnf
  all_goals (refine ⟨?_, rfl⟩; simp at h; simp [markCode, h])
theorem ok_spec_MarkCode : FunOk Try.prog c_spec_MarkCode := funOk (E := [c_spec_l27Ok]) (envOk_cons ok_spec_l27Ok (envOk_nil)) mixd Try.func17 (pf := pf_spec_MarkCode) (by kernel_rfl) fun ts K h => by
  obtain ⟨t0, t1, e0, h⟩ := as2_out h
  subst e0
  obtain ⟨a, e1, hq⟩ := arC_out (rd_int .i64) h
  clear h
  subst e1
  have h := hq
  clear hq
  obtain ⟨n, e1, hq⟩ := arC_out (rd_int .i64) h
  clear h
  subst e1
  have h := hq
  clear hq
  exact ⟨_, _, h, Nat.le_of_ble_eq_true (show Nat.ble 2 Try.f17.ntmps = true by kernel_rfl), _, run_spec_MarkCode a n⟩

def pf_laws_eqIns : PF := ⟨[.t 4], .seq (.reg [.s (.box 2 (.t 0)), .s (.box 3 (.t 1)), .s (.mv 4 (.k (.v (.c .ff))))]) (.seq (.seq (.reg [.s (.fa 5 (.t 2) 0), .s (.load 6 false 1 (.t 5)), .s (.fa 7 (.t 3) 0), .s (.load 8 false 1 (.t 7)), .s (.bin 9 .neq (.t 6) (.t 8))]) (.cond (.t 9) (.seq (.reg [.s (.mv 4 (.k (.v (.c .ff))))]) (.ret)) (.skip))) (.seq (.seq (.reg [.s (.fa 10 (.t 2) 1), .s (.load 11 false 1 (.t 10)), .s (.fa 12 (.t 3) 1), .s (.load 13 false 1 (.t 12)), .s (.bin 14 .neq (.t 11) (.t 13))]) (.cond (.t 14) (.seq (.reg [.s (.mv 4 (.k (.v (.c .ff))))]) (.ret)) (.skip))) (.seq (.seq (.reg [.s (.fa 15 (.t 2) 2), .s (.load 16 false 1 (.t 15)), .s (.fa 17 (.t 3) 2), .s (.load 18 false 1 (.t 17)), .s (.bin 19 .neq (.t 16) (.t 18))]) (.cond (.t 19) (.seq (.reg [.s (.mv 4 (.k (.v (.c .ff))))]) (.ret)) (.skip))) (.seq (.seq (.reg [.s (.fa 20 (.t 2) 3), .s (.load 21 false 1 (.t 20)), .s (.fa 22 (.t 3) 3), .s (.load 23 false 1 (.t 22)), .s (.bin 24 .neq (.t 21) (.t 23))]) (.cond (.t 24) (.seq (.reg [.s (.mv 4 (.k (.v (.c .ff))))]) (.ret)) (.skip))) (.seq (.seq (.reg [.s (.fa 25 (.t 2) 4), .s (.load 26 false 1 (.t 25)), .s (.fa 27 (.t 3) 4), .s (.load 28 false 1 (.t 27)), .s (.bin 29 .neq (.t 26) (.t 28))]) (.cond (.t 29) (.seq (.reg [.s (.mv 4 (.k (.v (.c .ff))))]) (.ret)) (.skip))) (.seq (.reg [.s (.mv 4 (.k (.v (.c .tt))))]) (.ret)))))))⟩
def c_laws_eqIns : Fun := ⟨62, [], fun ts K => as2 ts fun t0 t1 => arG pInstT t0 fun a => arG pInstT t1 fun b => K (tB (decide (a = b))) []⟩
theorem run_laws_eqIns (a : Inst) (b : Inst) : runK [] (0) [] pf_laws_eqIns [tG (a.tc []), tG (b.tc [])] fun r o => r = tB (decide (a = b)) ∧ o = [] := by
  obtain ⟨a1, a2, a3, a4, a5⟩ := a
  obtain ⟨b1, b2, b3, b4, b5⟩ := b
  conv => whnf
  repeat' (refine sel_i (fun h => ?_) (fun h => ?_) <;> conv => whnf)
  all_goals (refine ⟨?_, rfl⟩; simp_all)
theorem ok_laws_eqIns : FunOk Try.prog c_laws_eqIns := funOk (E := []) (envOk_nil) mixd Try.func62 (pf := pf_laws_eqIns) (by kernel_rfl) fun ts K h => by
  obtain ⟨t0, t1, e0, h⟩ := as2_out h
  subst e0
  obtain ⟨a, e1, hq⟩ := arG_out rd_inst h
  clear h
  subst e1
  have h := hq
  clear hq
  obtain ⟨b, e1, hq⟩ := arG_out rd_inst h
  clear h
  subst e1
  have h := hq
  clear hq
  exact ⟨_, _, h, Nat.le_of_ble_eq_true (show Nat.ble 2 Try.f62.ntmps = true by kernel_rfl), _, run_laws_eqIns a b⟩

theorem markCode_le (a n : Int) : (markCode a n).length ≤ 5 := by unfold markCode; split <;> simp
theorem set_mid {α : Type} {m a : List α} {i : Nat} {x : α} (h : m.length = a.length) (hi : i < a.length) (hx : m[i]? = some x) : (m.take i ++ a.drop i).set i x = m.take (i + 1) ++ a.drop (i + 1) := by
  rw [List.set_append_right _ _ (by simp; omega)]
  have hm : min i m.length = i := by omega
  simp only [List.length_take, hm, Nat.sub_self]
  rw [List.drop_eq_getElem_cons hi, List.set_cons_zero, List.take_add_one, hx]
  simp
theorem get_mid {α : Type} {m a : List α} {i : Nat} (h : m.length = a.length) (hi : i < a.length) : (m.take i ++ a.drop i)[i]? = a[i]? := by
  rw [List.getElem?_append_right (by simp; omega)]
  have hm : min i m.length = i := by omega
  simp [hm]

def elIns (c : Int) : Inst := ⟨c, c + 1, c + 1 + 1, c + 1 + 1 + 1, c + 1 + 1 + 1 + 1⟩
def mkInsS (n : Nat) (k : Int) : List Inst := (List.range n).map (fun j : Nat => elIns (k + 5 * j))
theorem mkInsS_length (n : Nat) (k : Int) : (mkInsS n k).length = n := by simp [mkInsS]

def lb_laws_eqInsS_0 : PC := .seq (.seq (.reg [.s (.mv 11 (.t 5)), .s (.mv 12 (.t 0)), .s (.len 13 false (.t 12)), .s (.bin 14 .lss (.t 11) (.t 13))]) (.cond (.t 14) (.skip) (.exit 0))) (.seq (.blk 1 (.seq (.rgd [.s (.mv 17 (.t 0)), .s (.mv 18 (.t 5)), .s (.ia 19 .inst (.t 17) (.t 18)), .s (.load 20 true 5 (.t 19)), .s (.mv 21 (.t 1)), .s (.mv 22 (.t 5)), .s (.ia 23 .inst (.t 21) (.t 22)), .s (.load 24 true 5 (.t 23)), .s (.call (some 25) 62 [(.t 20), (.t 24)]), .s (.bnot 26 (.t 25))] (.tk 0 (.tk 1 (.tk 2 (.tk 3 (.tk 4 (.tk 5 (.tk 6 (.tk 7 (.one 8 true (.tk 9 (.done none)))))))))))) (.cond (.t 26) (.seq (.reg [.s (.mv 4 (.k (.v (.c .ff))))]) (.ret)) (.skip)))) (.reg [.s (.mv 15 (.t 5)), .s (.bin 16 .add (.t 15) (.k (.v (.c (.int .i64 1))))), .s (.mv 5 (.t 16))]))
def pf_laws_eqInsS : PF := ⟨[.t 4], .seq (.reg [.s (.mv 4 (.k (.v (.c .ff))))]) (.seq (.seq (.reg [.s (.mv 6 (.t 0)), .s (.len 7 false (.t 6)), .s (.mv 8 (.t 1)), .s (.len 9 false (.t 8)), .s (.bin 10 .neq (.t 7) (.t 9))]) (.cond (.t 10) (.seq (.reg [.s (.mv 4 (.k (.v (.c .ff))))]) (.ret)) (.skip))) (.seq (.seq (.reg [.s (.mv 5 (.k (.v (.c (.int .i64 0)))))]) (.blk 0 (.loop [0, 1, 5] lb_laws_eqInsS_0))) (.seq (.reg [.s (.mv 4 (.k (.v (.c .tt))))]) (.ret))))⟩
def c_laws_eqInsS : Fun := ⟨19, [], fun ts K => as2 ts fun t0 t1 => arC (pL .inst) t0 fun a => arC (pL .inst) t1 fun b => chk (a.length ≤ 2147483647) (K (tB (decide (a = b))) [])⟩
theorem run_laws_eqInsS (a : List (FT.Ty .inst)) (b : List (FT.Ty .inst)) (hpre : a.length ≤ 2147483647) : runK [c_laws_eqIns] (a.length + 1) [] pf_laws_eqInsS [tL false .inst a, tL false .inst b] fun r o => r = tB (decide (a = b)) ∧ o = [] := by
  conv => whnf
  refine sel_i (fun h => ?_) (fun h => ?_)
  · conv => whnf
    refine ⟨?_, rfl⟩
    simp at h
    simp
    intro e; subst e; simp at h
  · conv => whnf
    refine loop (α := Nat) (fun i => ⟨[(0, .v (.c (.sl false .inst 0))), (1, .v (.c (.sl false .inst 1))), (5, .v (.c (.int .i64 (i : Int))))], [(1, some (.flat false .inst none b)), (0, some (.flat false .inst none a))], nums.tail.tail, [], false, []⟩)
      (fun i => i ≤ a.length ∧ a.take i = b.take i) (fun i => a.length - i) (fun i R hI hR => ?_) 0 _ ⟨by simp, by simp⟩ (by omega)
    conv => whnf
    repeat' (first | (refine sel_i (fun h2 => ?_) (fun h2 => ?_) <;> conv => whnf) | (refine chk_c ?_ ?_ <;> conv => whnf))
    all_goals (have hl : a.length = b.length := by simp at h; omega)
    · exact ⟨by simp at h2; omega⟩
    · exact ⟨by simp at h2; omega⟩
    · exact ⟨by simp at h2; omega⟩
    · exact ⟨by simp at h2; omega⟩
    · refine ⟨?_, rfl⟩
      have hne : a ≠ b := fun e => by subst e; simp at h2
      simp [hne]
    · rename_i h3
      have hlt : i < a.length := by simpa using h3
      rw [wrap_id (n := (i : Int) + 1) (by omega) (by omega)]
      exact hR (i + 1) ⟨by omega, take_step (z := FT.zero .inst) hI.2 hlt (by omega) (nd_t h2)⟩ (by omega)
    · refine ⟨?_, rfl⟩
      have hge : a.length ≤ i := by simpa using h2
      have : a = b := take_all hI.2 hge (by omega)
      simp [this]
theorem ok_laws_eqInsS : FunOk Try.prog c_laws_eqInsS := funOk (E := [c_laws_eqIns]) (envOk_cons ok_laws_eqIns (envOk_nil)) mixd Try.func19 (pf := pf_laws_eqInsS) (by kernel_rfl) fun ts K h => by
  obtain ⟨t0, t1, e0, h⟩ := as2_out h
  subst e0
  obtain ⟨a, e1, hq⟩ := arC_out (rd_l .inst) h
  clear h
  subst e1
  have h := hq
  clear hq
  obtain ⟨b, e1, hq⟩ := arC_out (rd_l .inst) h
  clear h
  subst e1
  have h := hq
  clear hq
  obtain ⟨hpre, h⟩ := chk_o h
  exact ⟨_, _, h, Nat.le_of_ble_eq_true (show Nat.ble 2 Try.f19.ntmps = true by kernel_rfl), _, run_laws_eqInsS a b hpre⟩

def lb_laws_markInsS_0 : PC := .seq (.seq (.reg [.s (.mv 6 (.t 5)), .s (.mv 7 (.t 0)), .s (.len 8 false (.t 7)), .s (.bin 9 .lss (.t 6) (.t 8))]) (.cond (.t 9) (.skip) (.exit 0))) (.seq (.blk 1 (.seq (.reg [.s (.mv 12 (.t 0)), .s (.mv 13 (.t 5)), .s (.mv 14 (.t 1)), .s (.ia 15 .inst (.t 12) (.t 13)), .s (.fa 16 (.t 15) 0), .s (.store 1 (.t 16) (.t 14))]) (.seq (.reg [.s (.mv 17 (.t 1)), .s (.bin 18 .add (.t 17) (.k (.v (.c (.int .i64 1))))), .s (.mv 1 (.t 18))]) (.seq (.reg [.s (.mv 19 (.t 0)), .s (.mv 20 (.t 5)), .s (.mv 21 (.t 1)), .s (.ia 22 .inst (.t 19) (.t 20)), .s (.fa 23 (.t 22) 1), .s (.store 1 (.t 23) (.t 21))]) (.seq (.reg [.s (.mv 24 (.t 1)), .s (.bin 25 .add (.t 24) (.k (.v (.c (.int .i64 1))))), .s (.mv 1 (.t 25))]) (.seq (.reg [.s (.mv 26 (.t 0)), .s (.mv 27 (.t 5)), .s (.mv 28 (.t 1)), .s (.ia 29 .inst (.t 26) (.t 27)), .s (.fa 30 (.t 29) 2), .s (.store 1 (.t 30) (.t 28))]) (.seq (.reg [.s (.mv 31 (.t 1)), .s (.bin 32 .add (.t 31) (.k (.v (.c (.int .i64 1))))), .s (.mv 1 (.t 32))]) (.seq (.reg [.s (.mv 33 (.t 0)), .s (.mv 34 (.t 5)), .s (.mv 35 (.t 1)), .s (.ia 36 .inst (.t 33) (.t 34)), .s (.fa 37 (.t 36) 3), .s (.store 1 (.t 37) (.t 35))]) (.seq (.reg [.s (.mv 38 (.t 1)), .s (.bin 39 .add (.t 38) (.k (.v (.c (.int .i64 1))))), .s (.mv 1 (.t 39))]) (.seq (.reg [.s (.mv 40 (.t 0)), .s (.mv 41 (.t 5)), .s (.mv 42 (.t 1)), .s (.ia 43 .inst (.t 40) (.t 41)), .s (.fa 44 (.t 43) 4), .s (.store 1 (.t 44) (.t 42))]) (.reg [.s (.mv 45 (.t 1)), .s (.bin 46 .add (.t 45) (.k (.v (.c (.int .i64 1))))), .s (.mv 1 (.t 46))]))))))))))) (.reg [.s (.mv 10 (.t 5)), .s (.bin 11 .add (.t 10) (.k (.v (.c (.int .i64 1))))), .s (.mv 5 (.t 11))]))
def pf_laws_markInsS : PF := ⟨[.t 4], .seq (.reg [.s (.mv 4 (.k (.v (.c (.int .i64 0)))))]) (.seq (.seq (.reg [.s (.mv 5 (.k (.v (.c (.int .i64 0)))))]) (.blk 0 (.loop [0, 1, 5] lb_laws_markInsS_0))) (.seq (.reg [.s (.mv 47 (.t 1)), .s (.mv 4 (.t 47))]) (.ret)))⟩
def c_laws_markInsS : Fun := ⟨20, [true, false], fun ts K => as2 ts fun t0 t1 => arC (pO .inst) t0 fun a => arC (pI .i64) t1 fun k => chk (0 ≤ k ∧ k ≤ 1125899906842624 ∧ a.length ≤ 2147483647) (K (tN (k + 5 * a.length)) ([tL true .inst (mkInsS a.length k)]))⟩
theorem run_laws_markInsS (a : List (FT.Ty .inst)) (k : Int) (hpre : 0 ≤ k ∧ k ≤ 1125899906842624 ∧ a.length ≤ 2147483647) : runK [] (a.length + 1) [true, false] pf_laws_markInsS [tL true .inst a, tI .i64 k] fun r o => r = tN (k + 5 * a.length) ∧ o = [tL true .inst (mkInsS a.length k)] := by
  have hml : (mkInsS a.length k).length = a.length := by simp [mkInsS]
  conv => whnf
  refine loop (α := Nat × Int × List Inst) (fun p => ⟨[(0, .v (.c (.sl false .inst 0))), (1, .v (.c (.int .i64 p.2.1))), (5, .v (.c (.int .i64 (p.1 : Int))))], [(0, some (.flat true .inst none p.2.2))], nums.tail, [.v (.c (.sl false .inst 0))], false, []⟩)
      (fun p => p.1 ≤ a.length ∧ p.2.1 = k + 5 * p.1 ∧ p.2.2 = (mkInsS a.length k).take p.1 ++ a.drop p.1) (fun p => a.length - p.1) (fun p R hI hR => ?_) (0, k, a) _ ⟨by simp, by simp, by simp⟩ (by simp)
  obtain ⟨i, c, xs⟩ := p
  obtain ⟨hi, hc, hx⟩ := hI
  dsimp only at hi hc hx
  have hlen : xs.length = a.length := by rw [hx]; simp [hml]; omega
  dsimp only
  conv => whnf
  refine sel_i (fun h2 => ?_) (fun h2 => ?_)
  · have hlt : i < a.length := by simp at h2; omega
    have hget : ∀ x : Inst, (xs.set i x).getD i (FT.zero .inst) = x := fun x => by simp [List.getD_eq_getElem?_getD, hlen, hlt]
    have hmk : (mkInsS a.length k)[i]? = some (elIns c) := by simp [mkInsS, hlt, hc]
    conv => whnf
    repeat' (refine chk_c ?_ ?_ <;> conv => whnf)
    all_goals first
      | (refine ⟨?_⟩; omega)
      | (refine ⟨?_⟩; simp; done)
      | (refine ⟨?_⟩; simp; omega)
      | skip
    simp (disch := omega) only [wrap_id, Int.toNat_natCast, hget, List.set_set]
    exact hR (i + 1, c + 1 + 1 + 1 + 1 + 1, xs.set i (elIns c)) ⟨by omega, by simp; omega, by rw [hx]; exact set_mid hml hlt hmk⟩ (by simp; omega)
  · have hge : i = a.length := by simp at h2; omega
    subst hge
    conv => whnf
    refine ⟨by rw [hc], ?_⟩
    rw [hx, List.take_of_length_le (by omega), List.drop_eq_nil_of_le (by omega), List.append_nil]
theorem ok_laws_markInsS : FunOk Try.prog c_laws_markInsS := funOk (E := []) (envOk_nil) mixd Try.func20 (pf := pf_laws_markInsS) (by kernel_rfl) fun ts K h => by
  obtain ⟨t0, t1, e0, h⟩ := as2_out h
  subst e0
  obtain ⟨a, e1, hq⟩ := arC_out (rd_o .inst) h
  clear h
  subst e1
  have h := hq
  clear hq
  obtain ⟨k, e1, hq⟩ := arC_out (rd_int .i64) h
  clear h
  subst e1
  have h := hq
  clear hq
  obtain ⟨hpre, h⟩ := chk_o h
  exact ⟨_, _, h, Nat.le_of_ble_eq_true (show Nat.ble 2 Try.f20.ntmps = true by kernel_rfl), _, run_laws_markInsS a k hpre⟩

def lb_laws_heldInsS_0 : PC := .seq (.seq (.reg [.s (.mv 6 (.t 5)), .s (.mv 7 (.t 0)), .s (.len 8 false (.t 7)), .s (.bin 9 .lss (.t 6) (.t 8))]) (.cond (.t 9) (.skip) (.exit 0))) (.seq (.blk 1 (.seq (.seq (.reg [.s (.mv 12 (.t 0)), .s (.mv 13 (.t 5)), .s (.ia 14 .inst (.t 12) (.t 13)), .s (.fa 15 (.t 14) 0), .s (.load 16 false 1 (.t 15)), .s (.mv 17 (.t 1)), .s (.bin 18 .neq (.t 16) (.t 17))]) (.cond (.t 18) (.seq (.reg [.s (.mv 4 (.k (.v (.c (.int .i64 (-1))))))]) (.ret)) (.skip))) (.seq (.reg [.s (.mv 19 (.t 1)), .s (.bin 20 .add (.t 19) (.k (.v (.c (.int .i64 1))))), .s (.mv 1 (.t 20))]) (.seq (.seq (.reg [.s (.mv 21 (.t 0)), .s (.mv 22 (.t 5)), .s (.ia 23 .inst (.t 21) (.t 22)), .s (.fa 24 (.t 23) 1), .s (.load 25 false 1 (.t 24)), .s (.mv 26 (.t 1)), .s (.bin 27 .neq (.t 25) (.t 26))]) (.cond (.t 27) (.seq (.reg [.s (.mv 4 (.k (.v (.c (.int .i64 (-1))))))]) (.ret)) (.skip))) (.seq (.reg [.s (.mv 28 (.t 1)), .s (.bin 29 .add (.t 28) (.k (.v (.c (.int .i64 1))))), .s (.mv 1 (.t 29))]) (.seq (.seq (.reg [.s (.mv 30 (.t 0)), .s (.mv 31 (.t 5)), .s (.ia 32 .inst (.t 30) (.t 31)), .s (.fa 33 (.t 32) 2), .s (.load 34 false 1 (.t 33)), .s (.mv 35 (.t 1)), .s (.bin 36 .neq (.t 34) (.t 35))]) (.cond (.t 36) (.seq (.reg [.s (.mv 4 (.k (.v (.c (.int .i64 (-1))))))]) (.ret)) (.skip))) (.seq (.reg [.s (.mv 37 (.t 1)), .s (.bin 38 .add (.t 37) (.k (.v (.c (.int .i64 1))))), .s (.mv 1 (.t 38))]) (.seq (.seq (.reg [.s (.mv 39 (.t 0)), .s (.mv 40 (.t 5)), .s (.ia 41 .inst (.t 39) (.t 40)), .s (.fa 42 (.t 41) 3), .s (.load 43 false 1 (.t 42)), .s (.mv 44 (.t 1)), .s (.bin 45 .neq (.t 43) (.t 44))]) (.cond (.t 45) (.seq (.reg [.s (.mv 4 (.k (.v (.c (.int .i64 (-1))))))]) (.ret)) (.skip))) (.seq (.reg [.s (.mv 46 (.t 1)), .s (.bin 47 .add (.t 46) (.k (.v (.c (.int .i64 1))))), .s (.mv 1 (.t 47))]) (.seq (.seq (.reg [.s (.mv 48 (.t 0)), .s (.mv 49 (.t 5)), .s (.ia 50 .inst (.t 48) (.t 49)), .s (.fa 51 (.t 50) 4), .s (.load 52 false 1 (.t 51)), .s (.mv 53 (.t 1)), .s (.bin 54 .neq (.t 52) (.t 53))]) (.cond (.t 54) (.seq (.reg [.s (.mv 4 (.k (.v (.c (.int .i64 (-1))))))]) (.ret)) (.skip))) (.reg [.s (.mv 55 (.t 1)), .s (.bin 56 .add (.t 55) (.k (.v (.c (.int .i64 1))))), .s (.mv 1 (.t 56))]))))))))))) (.reg [.s (.mv 10 (.t 5)), .s (.bin 11 .add (.t 10) (.k (.v (.c (.int .i64 1))))), .s (.mv 5 (.t 11))]))
def pf_laws_heldInsS : PF := ⟨[.t 4], .seq (.reg [.s (.mv 4 (.k (.v (.c (.int .i64 0)))))]) (.seq (.seq (.reg [.s (.mv 5 (.k (.v (.c (.int .i64 0)))))]) (.blk 0 (.loop [0, 1, 5] lb_laws_heldInsS_0))) (.seq (.reg [.s (.mv 57 (.t 1)), .s (.mv 4 (.t 57))]) (.ret)))⟩
def c_laws_heldInsS : Fun := ⟨21, [], fun ts K => as2 ts fun t0 t1 => arC (pL .inst) t0 fun a => arC (pI .i64) t1 fun k => chk (0 ≤ k ∧ k ≤ 1125899906842624 ∧ a.length ≤ 2147483647) (K (tN (hres (a = mkInsS a.length k) (k + 5 * a.length))) [])⟩
theorem run_laws_heldInsS (a : List (FT.Ty .inst)) (k : Int) (hpre : 0 ≤ k ∧ k ≤ 1125899906842624 ∧ a.length ≤ 2147483647) : runK [] (a.length + 1) [] pf_laws_heldInsS [tL false .inst a, tI .i64 k] fun r o => r = tN (hres (a = mkInsS a.length k) (k + 5 * a.length)) ∧ o = [] := by
  have hml : (mkInsS a.length k).length = a.length := by simp [mkInsS]
  conv => whnf
  refine loop (α := Nat × Int) (fun p => ⟨[(0, .v (.c (.sl false .inst 0))), (1, .v (.c (.int .i64 p.2))), (5, .v (.c (.int .i64 (p.1 : Int))))], [(0, some (.flat false .inst none a))], nums.tail, [], false, []⟩)
      (fun p => p.1 ≤ a.length ∧ p.2 = k + 5 * p.1 ∧ a.take p.1 = (mkInsS a.length k).take p.1) (fun p => a.length - p.1) (fun p R hI hR => ?_) (0, k) _ ⟨by simp, by simp, by simp⟩ (by simp)
  obtain ⟨i, c⟩ := p
  obtain ⟨hi, hc, hx⟩ := hI
  dsimp only at hi hc hx
  dsimp only
  conv => whnf
  refine sel_i (fun h2 => ?_) (fun h2 => ?_)
  · have hlt : i < a.length := by simp at h2; omega
    have hmk : (mkInsS a.length k).getD i (FT.zero .inst) = elIns c := by simp [mkInsS, List.getD_eq_getElem?_getD, hlt, hc]
    have hne : a.getD i (FT.zero .inst) ≠ elIns c → a ≠ mkInsS a.length k := fun h e => h (by rw [← hmk, ← e])
    conv => whnf
    repeat' (first | (refine sel_i (fun h2 => ?_) (fun h2 => ?_) <;> conv => whnf) | (refine chk_c ?_ ?_ <;> conv => whnf))
    all_goals first
      | (refine ⟨?_⟩; omega)
      | (refine ⟨?_⟩; simp; done)
      | (refine ⟨?_⟩; simp; omega)
      | (refine ⟨?_, rfl⟩
         rw [hres_no (hne (fun e => by
           simp (disch := omega) only [wrap_id, Int.toNat_natCast, e] at h2
           simp [elIns] at h2))])
      | skip
    rename_i e0 e1 e2 e3 e4
    simp (disch := omega) only [wrap_id, Int.toNat_natCast] at e1 e2 e3 e4 h2 ⊢
    have he : a.getD i (FT.zero .inst) = elIns c := by
      generalize a.getD i (FT.zero .inst) = v at e1 e2 e3 e4 h2
      obtain ⟨v0, v1, v2, v3, v4⟩ := v
      simp at e1 e2 e3 e4 h2
      simp [elIns, *]
    exact hR (i + 1, c + 1 + 1 + 1 + 1 + 1) ⟨by omega, by simp; omega, take_step hx hlt (by omega) (he.trans hmk.symm)⟩ (by simp; omega)
  · have hge : i = a.length := by simp at h2; omega
    subst hge
    conv => whnf
    refine ⟨?_, rfl⟩
    rw [List.take_of_length_le (by omega), List.take_of_length_le (by omega)] at hx
    rw [hres_yes hx, hc]
theorem ok_laws_heldInsS : FunOk Try.prog c_laws_heldInsS := funOk (E := []) (envOk_nil) mixd Try.func21 (pf := pf_laws_heldInsS) (by kernel_rfl) fun ts K h => by
  obtain ⟨t0, t1, e0, h⟩ := as2_out h
  subst e0
  obtain ⟨a, e1, hq⟩ := arC_out (rd_l .inst) h
  clear h
  subst e1
  have h := hq
  clear hq
  obtain ⟨k, e1, hq⟩ := arC_out (rd_int .i64) h
  clear h
  subst e1
  have h := hq
  clear hq
  obtain ⟨hpre, h⟩ := chk_o h
  exact ⟨_, _, h, Nat.le_of_ble_eq_true (show Nat.ble 2 Try.f21.ntmps = true by kernel_rfl), _, run_laws_heldInsS a k hpre⟩

def copyCode (a b n : Int) : List Inst := (List.range n.toNat).flatMap (fun j : Nat => [⟨10, 1, 0, 0, w64 (a + j)⟩, ⟨11, 0, 0, 1, w64 (b + j)⟩])
def copyAll (a b n : Int) : List Inst := if room a n && room b n then copyCode a b n ++ [⟨15, 0, 0, 0, 0⟩] else []
def wipeCode (a n : Int) : List Inst := ⟨1, 1, 0, 0, 0⟩ :: (List.range n.toNat).map (fun j : Nat => ⟨11, 0, 0, 1, w64 (a + j)⟩)
def wipeAll (a n : Int) : List Inst := if room a n then wipeCode a n ++ [⟨15, 0, 0, 0, 0⟩] else []
theorem room_n {a n : Int} (h : room a n = true) : 1 ≤ n ∧ n ≤ 20 := by
  simp [room, inR] at h; exact ⟨h.1.1, h.1.2⟩
theorem copyCode_len (a b : Int) (m : Nat) : ((List.range m).flatMap (fun j : Nat => ([⟨10, 1, 0, 0, w64 (a + j)⟩, ⟨11, 0, 0, 1, w64 (b + j)⟩] : List Inst))).length = 2 * m := by
  induction m with
  | zero => rfl
  | succ m ih => rw [List.range_succ, List.flatMap_append, List.length_append, ih]; simp; omega
theorem copyAll_le (a b n : Int) : (copyAll a b n).length ≤ 41 := by
  unfold copyAll
  split
  · rename_i h
    have := room_n (a := a) (n := n) (by simp at h; exact h.1)
    have hl := copyCode_len a b n.toNat
    simp only [copyCode, List.length_append, hl, List.length_cons, List.length_nil]; omega
  · simp
theorem wipeAll_le (a n : Int) : (wipeAll a n).length ≤ 22 := by
  unfold wipeAll
  split
  · rename_i h
    have := room_n h
    simp [wipeCode]; omega
  · simp

def lb_spec_WipeCode_0 : PC := .seq (.seq (.reg [.s (.mv 15 (.t 7)), .s (.mv 16 (.t 1)), .s (.bin 17 .lss (.t 15) (.t 16))]) (.cond (.t 17) (.skip) (.exit 0))) (.seq (.blk 1 (.reg [.s (.mv 20 (.t 6)), .s (.mv 21 (.t 0)), .s (.mv 22 (.t 7)), .s (.bin 23 .add (.t 21) (.t 22)), .s (.build 24 [.int .i64 0, .int .i64 0, .int .i64 0, .int .i64 0, .int .i64 0] [(0, 1, (.k (.v (.c (.int .i64 11))))), (3, 1, (.k (.v (.c (.int .i64 1))))), (4, 1, (.t 23))]), .s (.bs 25 .inst [(.t 24)]), .s (.app 26 .inst (.t 20) (.t 25)), .s (.mv 6 (.t 26))])) (.reg [.s (.mv 18 (.t 7)), .s (.bin 19 .add (.t 18) (.k (.v (.c (.int .i64 1))))), .s (.mv 7 (.t 19))]))
def pf_spec_WipeCode : PF := ⟨[.t 4, .t 5], .seq (.reg [.s (.mv 4 (.k (.v (.c (.nils .inst))))), .s (.mv 5 (.k (.v (.c .ff))))]) (.seq (.seq (.reg [.s (.mv 8 (.t 0)), .s (.mv 9 (.t 1)), .s (.call (some 10) 60 [(.t 8), (.t 9)]), .s (.bnot 11 (.t 10))]) (.cond (.t 11) (.seq (.reg [.s (.bs 12 .inst []), .s (.mv 4 (.t 12)), .s (.mv 5 (.k (.v (.c .ff))))]) (.ret)) (.skip))) (.seq (.reg [.s (.build 13 [.int .i64 0, .int .i64 0, .int .i64 0, .int .i64 0, .int .i64 0] [(0, 1, (.k (.v (.c (.int .i64 1))))), (1, 1, (.k (.v (.c (.int .i64 1)))))]), .s (.bs 14 .inst [(.t 13)]), .s (.mv 6 (.t 14))]) (.seq (.seq (.reg [.s (.mv 7 (.k (.v (.c (.int .i64 0)))))]) (.blk 0 (.loop [0, 1, 6, 7] lb_spec_WipeCode_0))) (.seq (.reg [.s (.mv 27 (.t 6)), .s (.build 28 [.int .i64 0, .int .i64 0, .int .i64 0, .int .i64 0, .int .i64 0] [(0, 1, (.k (.v (.c (.int .i64 15)))))]), .s (.bs 29 .inst [(.t 28)]), .s (.app 30 .inst (.t 27) (.t 29)), .s (.mv 4 (.t 30)), .s (.mv 5 (.k (.v (.c .tt))))]) (.ret)))))⟩
def c_spec_WipeCode : Fun := ⟨24, [], fun ts K => as2 ts fun t0 t1 => arC (pI .i64) t0 fun a => arC (pI .i64) t1 fun n => K (.tup [.c (tl true .inst (wipeAll a n)), .c (.bool (room a n))]) []⟩
theorem run_spec_WipeCode (a : Int) (n : Int) : runK [c_spec_l27Ok] (n.toNat + 1) [] pf_spec_WipeCode [tI .i64 a, tI .i64 n] fun r o => r = .tup [.c (tl true .inst (wipeAll a n)), .c (.bool (room a n))] ∧ o = [] := by
  conv => whnf
  refine sel_i (fun h => ?_) (fun h => ?_)
  · conv => whnf
    refine ⟨?_, rfl⟩
    simp at h; simp [wipeAll, h]
  · have hr : room a n = true := by simpa using h
    have hn := room_n hr
    conv => whnf
    refine loop (α := Nat × List Inst) (fun p => ⟨[(0, .v (.c (.int .i64 a))), (1, .v (.c (.int .i64 n))), (6, .v (.c (.sl true .inst 0))), (7, .v (.c (.int .i64 (p.1 : Int))))], [(0, some (.flat true .inst none p.2))], nums.tail, [], false, []⟩)
      (fun p => p.1 ≤ n.toNat ∧ p.2 = ⟨1, 1, 0, 0, 0⟩ :: (List.range p.1).map (fun j : Nat => ⟨11, 0, 0, 1, w64 (a + j)⟩)) (fun p => n.toNat - p.1) (fun p R hI hR => ?_) (0, [⟨1, 1, 0, 0, 0⟩]) _ ⟨by simp, by simp⟩ (by simp)
    obtain ⟨i, xs⟩ := p
    obtain ⟨hi, hx⟩ := hI
    dsimp only at hi hx
    have hlen : xs.length = i + 1 := by rw [hx]; simp
    dsimp only
    conv => whnf
    refine sel_i (fun h2 => ?_) (fun h2 => ?_)
    · have hlt : (i : Int) < n := by simpa using h2
      conv => whnf
      refine chk_i (by simp only [List.length_cons, List.length_nil]; have := hlen; omega) ?_
      conv => whnf
      simp (disch := omega) only [wrap_id (n := (i : Int) + 1)]
      exact hR (i + 1, xs ++ [⟨11, 0, 0, 1, w64 (a + i)⟩]) ⟨by simp; omega, by rw [hx]; simp [List.range_succ]⟩ (by simp; omega)
    · have hge : i = n.toNat := by simp at h2; omega
      conv => whnf
      refine chk_i (by simp only [List.length_cons, List.length_nil]; have := hlen; omega) ?_
      conv => whnf
      refine ⟨?_, rfl⟩
      have : wipeAll a n = xs ++ [⟨15, 0, 0, 0, 0⟩] := by rw [hx, hge]; simp [wipeAll, hr, wipeCode]
      rw [this, hr]
theorem ok_spec_WipeCode : FunOk Try.prog c_spec_WipeCode := funOk (E := [c_spec_l27Ok]) (envOk_cons ok_spec_l27Ok (envOk_nil)) mixd Try.func24 (pf := pf_spec_WipeCode) (by kernel_rfl) fun ts K h => by
  obtain ⟨t0, t1, e0, h⟩ := as2_out h
  subst e0
  obtain ⟨a, e1, hq⟩ := arC_out (rd_int .i64) h
  clear h
  subst e1
  have h := hq
  clear hq
  obtain ⟨n, e1, hq⟩ := arC_out (rd_int .i64) h
  clear h
  subst e1
  have h := hq
  clear hq
  exact ⟨_, _, h, Nat.le_of_ble_eq_true (show Nat.ble 2 Try.f24.ntmps = true by kernel_rfl), _, run_spec_WipeCode a n⟩

def lb_impl_WipeCode_0 : PC := .seq (.reg [.s (.bin 16 .lss (.t 15) (.t 14))]) (.seq (.cond (.t 16) (.skip) (.exit 0)) (.seq (.blk 1 (.seq (.reg [.s (.mv 17 (.t 15)), .s (.mv 7 (.t 17))]) (.reg [.s (.mv 18 (.t 6)), .s (.mv 19 (.t 0)), .s (.mv 20 (.t 7)), .s (.bin 21 .add (.t 19) (.t 20)), .s (.build 22 [.int .i64 0, .int .i64 0, .int .i64 0, .int .i64 0, .int .i64 0] [(0, 1, (.k (.v (.c (.int .i64 11))))), (3, 1, (.k (.v (.c (.int .i64 1))))), (4, 1, (.t 21))]), .s (.bs 23 .inst [(.t 22)]), .s (.app 24 .inst (.t 18) (.t 23)), .s (.mv 6 (.t 24))]))) (.reg [.s (.bin 25 .add (.t 15) (.k (.v (.c (.int .i64 1))))), .s (.mv 15 (.t 25))])))
def pf_impl_WipeCode : PF := ⟨[.t 4, .t 5], .seq (.reg [.s (.mv 4 (.k (.v (.c (.nils .inst))))), .s (.mv 5 (.k (.v (.c .ff))))]) (.seq (.seq (.reg [.s (.mv 8 (.t 0)), .s (.mv 9 (.t 1)), .s (.call (some 10) 61 [(.t 8), (.t 9)]), .s (.bnot 11 (.t 10))]) (.cond (.t 11) (.seq (.reg [.s (.mv 4 (.k (.v (.c (.nils .inst))))), .s (.mv 5 (.k (.v (.c .ff))))]) (.ret)) (.skip))) (.seq (.reg [.s (.build 12 [.int .i64 0, .int .i64 0, .int .i64 0, .int .i64 0, .int .i64 0] [(0, 1, (.k (.v (.c (.int .i64 1))))), (1, 1, (.k (.v (.c (.int .i64 1)))))]), .s (.bs 13 .inst [(.t 12)]), .s (.mv 6 (.t 13))]) (.seq (.seq (.reg [.s (.mv 14 (.t 1)), .s (.mv 15 (.k (.v (.c (.int .i64 0)))))]) (.blk 0 (.loop [0, 6, 14, 15] lb_impl_WipeCode_0))) (.seq (.reg [.s (.mv 26 (.t 6)), .s (.build 27 [.int .i64 0, .int .i64 0, .int .i64 0, .int .i64 0, .int .i64 0] [(0, 1, (.k (.v (.c (.int .i64 15)))))]), .s (.bs 28 .inst [(.t 27)]), .s (.app 29 .inst (.t 26) (.t 28)), .s (.mv 4 (.t 29)), .s (.mv 5 (.k (.v (.c .tt))))]) (.ret)))))⟩
def c_impl_WipeCode : Fun := ⟨25, [], fun ts K => as2 ts fun t0 t1 => arC (pI .i64) t0 fun a => arC (pI .i64) t1 fun n => K (.tup [.c (tl true .inst (wipeAll a n)), .c (.bool (room a n))]) []⟩
theorem run_impl_WipeCode (a : Int) (n : Int) : runK [c_impl_roomFor] (n.toNat + 1) [] pf_impl_WipeCode [tI .i64 a, tI .i64 n] fun r o => r = .tup [.c (tl true .inst (wipeAll a n)), .c (.bool (room a n))] ∧ o = [] := by
  conv => whnf
  refine sel_i (fun h => ?_) (fun h => ?_)
  · conv => whnf
    refine ⟨?_, rfl⟩
    simp at h; simp [wipeAll, h]
  · have hr : room a n = true := by simpa using h
    have hn := room_n hr
    conv => whnf
    refine loop (α := Nat × List Inst) (fun p => ⟨[(0, .v (.c (.int .i64 a))), (6, .v (.c (.sl true .inst 0))), (14, .v (.c (.int .i64 n))), (15, .v (.c (.int .i64 (p.1 : Int))))], [(0, some (.flat true .inst none p.2))], nums.tail, [], false, []⟩)
      (fun p => p.1 ≤ n.toNat ∧ p.2 = ⟨1, 1, 0, 0, 0⟩ :: (List.range p.1).map (fun j : Nat => ⟨11, 0, 0, 1, w64 (a + j)⟩)) (fun p => n.toNat - p.1) (fun p R hI hR => ?_) (0, [⟨1, 1, 0, 0, 0⟩]) _ ⟨by simp, by simp⟩ (by simp)
    obtain ⟨i, xs⟩ := p
    obtain ⟨hi, hx⟩ := hI
    dsimp only at hi hx
    have hlen : xs.length = i + 1 := by rw [hx]; simp
    dsimp only
    conv => whnf
    refine sel_i (fun h2 => ?_) (fun h2 => ?_)
    · have hlt : (i : Int) < n := by simpa using h2
      conv => whnf
      refine chk_i (by simp only [List.length_cons, List.length_nil]; have := hlen; omega) ?_
      conv => whnf
      simp (disch := omega) only [wrap_id (n := (i : Int) + 1)]
      exact hR (i + 1, xs ++ [⟨11, 0, 0, 1, w64 (a + i)⟩]) ⟨by simp; omega, by rw [hx]; simp [List.range_succ]⟩ (by simp; omega)
    · have hge : i = n.toNat := by simp at h2; omega
      conv => whnf
      refine chk_i (by simp only [List.length_cons, List.length_nil]; have := hlen; omega) ?_
      conv => whnf
      refine ⟨?_, rfl⟩
      have : wipeAll a n = xs ++ [⟨15, 0, 0, 0, 0⟩] := by rw [hx, hge]; simp [wipeAll, hr, wipeCode]
      rw [this, hr]
theorem ok_impl_WipeCode : FunOk Try.prog c_impl_WipeCode := funOk (E := [c_impl_roomFor]) (envOk_cons ok_impl_roomFor (envOk_nil)) mixd Try.func25 (pf := pf_impl_WipeCode) (by kernel_rfl) fun ts K h => by
  obtain ⟨t0, t1, e0, h⟩ := as2_out h
  subst e0
  obtain ⟨a, e1, hq⟩ := arC_out (rd_int .i64) h
  clear h
  subst e1
  have h := hq
  clear hq
  obtain ⟨n, e1, hq⟩ := arC_out (rd_int .i64) h
  clear h
  subst e1
  have h := hq
  clear hq
  exact ⟨_, _, h, Nat.le_of_ble_eq_true (show Nat.ble 2 Try.f25.ntmps = true by kernel_rfl), _, run_impl_WipeCode a n⟩

def lb_spec_CopyCode_0 : PC := .seq (.seq (.reg [.s (.mv 22 (.t 9)), .s (.mv 23 (.t 2)), .s (.bin 24 .lss (.t 22) (.t 23))]) (.cond (.t 24) (.skip) (.exit 0))) (.seq (.blk 1 (.reg [.s (.mv 27 (.t 8)), .s (.mv 28 (.t 0)), .s (.mv 29 (.t 9)), .s (.bin 30 .add (.t 28) (.t 29)), .s (.build 31 [.int .i64 0, .int .i64 0, .int .i64 0, .int .i64 0, .int .i64 0] [(0, 1, (.k (.v (.c (.int .i64 10))))), (1, 1, (.k (.v (.c (.int .i64 1))))), (4, 1, (.t 30))]), .s (.mv 32 (.t 1)), .s (.mv 33 (.t 9)), .s (.bin 34 .add (.t 32) (.t 33)), .s (.build 35 [.int .i64 0, .int .i64 0, .int .i64 0, .int .i64 0, .int .i64 0] [(0, 1, (.k (.v (.c (.int .i64 11))))), (3, 1, (.k (.v (.c (.int .i64 1))))), (4, 1, (.t 34))]), .s (.bs 36 .inst [(.t 31), (.t 35)]), .s (.app 37 .inst (.t 27) (.t 36)), .s (.mv 8 (.t 37))])) (.reg [.s (.mv 25 (.t 9)), .s (.bin 26 .add (.t 25) (.k (.v (.c (.int .i64 1))))), .s (.mv 9 (.t 26))]))
def pf_spec_CopyCode : PF := ⟨[.t 6, .t 7], .seq (.reg [.s (.mv 6 (.k (.v (.c (.nils .inst))))), .s (.mv 7 (.k (.v (.c .ff))))]) (.seq (.reg [.s (.bs 10 .inst []), .s (.mv 8 (.t 10))]) (.seq (.seq (.reg [.s (.mv 11 (.t 0)), .s (.mv 12 (.t 2)), .s (.call (some 13) 60 [(.t 11), (.t 12)]), .s (.bnot 14 (.t 13)), .s (.mv 15 (.t 14)), .g 15 false (some 16) (.mv 16 (.t 1)), .g 15 false (some 17) (.mv 17 (.t 2)), .g 15 false (some 18) (.call (some 18) 60 [(.t 16), (.t 17)]), .g 15 false (some 19) (.bnot 19 (.t 18)), .s (.pick 20 (.t 15) (.k (.v (.c .tt))) (.t 19))]) (.cond (.t 20) (.seq (.reg [.s (.mv 21 (.t 8)), .s (.mv 6 (.t 21)), .s (.mv 7 (.k (.v (.c .ff))))]) (.ret)) (.skip))) (.seq (.seq (.reg [.s (.mv 9 (.k (.v (.c (.int .i64 0)))))]) (.blk 0 (.loop [0, 1, 2, 8, 9] lb_spec_CopyCode_0))) (.seq (.reg [.s (.mv 38 (.t 8)), .s (.build 39 [.int .i64 0, .int .i64 0, .int .i64 0, .int .i64 0, .int .i64 0] [(0, 1, (.k (.v (.c (.int .i64 15)))))]), .s (.bs 40 .inst [(.t 39)]), .s (.app 41 .inst (.t 38) (.t 40)), .s (.mv 6 (.t 41)), .s (.mv 7 (.k (.v (.c .tt))))]) (.ret)))))⟩
def c_spec_CopyCode : Fun := ⟨22, [], fun ts K => as3 ts fun t0 t1 t2 => arC (pI .i64) t0 fun a => arC (pI .i64) t1 fun b => arC (pI .i64) t2 fun n => K (.tup [.c (tl true .inst (copyAll a b n)), .c (.bool (room a n && room b n))]) []⟩
theorem run_spec_CopyCode (a : Int) (b : Int) (n : Int) : runK [c_spec_l27Ok] (n.toNat + 1) [] pf_spec_CopyCode [tI .i64 a, tI .i64 b, tI .i64 n] fun r o => r = .tup [.c (tl true .inst (copyAll a b n)), .c (.bool (room a n && room b n))] ∧ o = [] := by
  conv => whnf
  refine sel_i (fun h => ?_) (fun h => ?_)
  · conv => whnf
    refine ⟨?_, rfl⟩
    simp at h; simp [copyAll, h]
  · have hr : room a n = true := by simpa using h
    have hn := room_n hr
    conv => whnf
    refine sel_i (fun h => ?_) (fun h => ?_)
    · conv => whnf
      refine ⟨?_, rfl⟩
      simp at h; simp [copyAll, h]
    have hr2 : room b n = true := by simpa using h
    conv => whnf
    refine loop (α := Nat × List Inst) (fun p => ⟨[(0, .v (.c (.int .i64 a))), (1, .v (.c (.int .i64 b))), (2, .v (.c (.int .i64 n))), (8, .v (.c (.sl true .inst 0))), (9, .v (.c (.int .i64 (p.1 : Int))))], [(0, some (.flat true .inst none p.2))], nums.tail, [], false, []⟩)
      (fun p => p.1 ≤ n.toNat ∧ p.2 = copyCode a b p.1) (fun p => n.toNat - p.1) (fun p R hI hR => ?_) (0, []) _ ⟨by simp, by simp [copyCode]⟩ (by simp)
    obtain ⟨i, xs⟩ := p
    obtain ⟨hi, hx⟩ := hI
    dsimp only at hi hx
    have hlen : xs.length = 2 * i := by rw [hx]; simpa [copyCode] using copyCode_len a b i
    dsimp only
    conv => whnf
    refine sel_i (fun h2 => ?_) (fun h2 => ?_)
    · have hlt : (i : Int) < n := by simpa using h2
      conv => whnf
      refine chk_i (by simp only [List.length_cons, List.length_nil]; have := hlen; omega) ?_
      conv => whnf
      simp (disch := omega) only [wrap_id (n := (i : Int) + 1)]
      exact hR (i + 1, xs ++ [⟨10, 1, 0, 0, w64 (a + i)⟩, ⟨11, 0, 0, 1, w64 (b + i)⟩]) ⟨by simp; omega, by rw [hx]; simp only [copyCode, Int.toNat_natCast, List.range_succ, List.flatMap_append]; rfl⟩ (by simp; omega)
    · have hge : i = n.toNat := by simp at h2; omega
      conv => whnf
      refine chk_i (by simp only [List.length_cons, List.length_nil]; have := hlen; omega) ?_
      conv => whnf
      refine ⟨?_, rfl⟩
      have : copyAll a b n = xs ++ [⟨15, 0, 0, 0, 0⟩] := by
        have hm : max n 0 = n := by omega
        rw [hx, hge]; simp [copyAll, hr, hr2, copyCode, hm]
      rw [this, hr, hr2]
      rfl
theorem ok_spec_CopyCode : FunOk Try.prog c_spec_CopyCode := funOk (E := [c_spec_l27Ok]) (envOk_cons ok_spec_l27Ok (envOk_nil)) mixd Try.func22 (pf := pf_spec_CopyCode) (by kernel_rfl) fun ts K h => by
  obtain ⟨t0, t1, t2, e0, h⟩ := as3_out h
  subst e0
  obtain ⟨a, e1, hq⟩ := arC_out (rd_int .i64) h
  clear h
  subst e1
  have h := hq
  clear hq
  obtain ⟨b, e1, hq⟩ := arC_out (rd_int .i64) h
  clear h
  subst e1
  have h := hq
  clear hq
  obtain ⟨n, e1, hq⟩ := arC_out (rd_int .i64) h
  clear h
  subst e1
  have h := hq
  clear hq
  exact ⟨_, _, h, Nat.le_of_ble_eq_true (show Nat.ble 3 Try.f22.ntmps = true by kernel_rfl), _, run_spec_CopyCode a b n⟩

def lb_impl_CopyCode_0 : PC := .seq (.reg [.s (.bin 23 .lss (.t 22) (.t 21))]) (.seq (.cond (.t 23) (.skip) (.exit 0)) (.seq (.blk 1 (.seq (.reg [.s (.mv 24 (.t 22)), .s (.mv 9 (.t 24))]) (.reg [.s (.mv 25 (.t 8)), .s (.mv 26 (.t 0)), .s (.mv 27 (.t 9)), .s (.bin 28 .add (.t 26) (.t 27)), .s (.build 29 [.int .i64 0, .int .i64 0, .int .i64 0, .int .i64 0, .int .i64 0] [(0, 1, (.k (.v (.c (.int .i64 10))))), (1, 1, (.k (.v (.c (.int .i64 1))))), (4, 1, (.t 28))]), .s (.mv 30 (.t 1)), .s (.mv 31 (.t 9)), .s (.bin 32 .add (.t 30) (.t 31)), .s (.build 33 [.int .i64 0, .int .i64 0, .int .i64 0, .int .i64 0, .int .i64 0] [(0, 1, (.k (.v (.c (.int .i64 11))))), (3, 1, (.k (.v (.c (.int .i64 1))))), (4, 1, (.t 32))]), .s (.bs 34 .inst [(.t 29), (.t 33)]), .s (.app 35 .inst (.t 25) (.t 34)), .s (.mv 8 (.t 35))]))) (.reg [.s (.bin 36 .add (.t 22) (.k (.v (.c (.int .i64 1))))), .s (.mv 22 (.t 36))])))
def pf_impl_CopyCode : PF := ⟨[.t 6, .t 7], .seq (.reg [.s (.mv 6 (.k (.v (.c (.nils .inst))))), .s (.mv 7 (.k (.v (.c .ff))))]) (.seq (.seq (.reg [.s (.mv 10 (.t 0)), .s (.mv 11 (.t 2)), .s (.call (some 12) 61 [(.t 10), (.t 11)]), .s (.bnot 13 (.t 12)), .s (.mv 14 (.t 13)), .g 14 false (some 15) (.mv 15 (.t 1)), .g 14 false (some 16) (.mv 16 (.t 2)), .g 14 false (some 17) (.call (some 17) 61 [(.t 15), (.t 16)]), .g 14 false (some 18) (.bnot 18 (.t 17)), .s (.pick 19 (.t 14) (.k (.v (.c .tt))) (.t 18))]) (.cond (.t 19) (.seq (.reg [.s (.mv 6 (.k (.v (.c (.nils .inst))))), .s (.mv 7 (.k (.v (.c .ff))))]) (.ret)) (.skip))) (.seq (.reg [.s (.bs 20 .inst []), .s (.mv 8 (.t 20))]) (.seq (.seq (.reg [.s (.mv 21 (.t 2)), .s (.mv 22 (.k (.v (.c (.int .i64 0)))))]) (.blk 0 (.loop [0, 1, 8, 21, 22] lb_impl_CopyCode_0))) (.seq (.reg [.s (.mv 37 (.t 8)), .s (.build 38 [.int .i64 0, .int .i64 0, .int .i64 0, .int .i64 0, .int .i64 0] [(0, 1, (.k (.v (.c (.int .i64 15)))))]), .s (.bs 39 .inst [(.t 38)]), .s (.app 40 .inst (.t 37) (.t 39)), .s (.mv 6 (.t 40)), .s (.mv 7 (.k (.v (.c .tt))))]) (.ret)))))⟩
def c_impl_CopyCode : Fun := ⟨23, [], fun ts K => as3 ts fun t0 t1 t2 => arC (pI .i64) t0 fun a => arC (pI .i64) t1 fun b => arC (pI .i64) t2 fun n => K (.tup [.c (tl true .inst (copyAll a b n)), .c (.bool (room a n && room b n))]) []⟩
theorem run_impl_CopyCode (a : Int) (b : Int) (n : Int) : runK [c_impl_roomFor] (n.toNat + 1) [] pf_impl_CopyCode [tI .i64 a, tI .i64 b, tI .i64 n] fun r o => r = .tup [.c (tl true .inst (copyAll a b n)), .c (.bool (room a n && room b n))] ∧ o = [] := by
  conv => whnf
  refine sel_i (fun h => ?_) (fun h => ?_)
  · conv => whnf
    refine ⟨?_, rfl⟩
    simp at h; simp [copyAll, h]
  · have hr : room a n = true := by simpa using h
    have hn := room_n hr
    conv => whnf
    refine sel_i (fun h => ?_) (fun h => ?_)
    · conv => whnf
      refine ⟨?_, rfl⟩
      simp at h; simp [copyAll, h]
    have hr2 : room b n = true := by simpa using h
    conv => whnf
    refine loop (α := Nat × List Inst) (fun p => ⟨[(0, .v (.c (.int .i64 a))), (1, .v (.c (.int .i64 b))), (8, .v (.c (.sl true .inst 0))), (21, .v (.c (.int .i64 n))), (22, .v (.c (.int .i64 (p.1 : Int))))], [(0, some (.flat true .inst none p.2))], nums.tail, [], false, []⟩)
      (fun p => p.1 ≤ n.toNat ∧ p.2 = copyCode a b p.1) (fun p => n.toNat - p.1) (fun p R hI hR => ?_) (0, []) _ ⟨by simp, by simp [copyCode]⟩ (by simp)
    obtain ⟨i, xs⟩ := p
    obtain ⟨hi, hx⟩ := hI
    dsimp only at hi hx
    have hlen : xs.length = 2 * i := by rw [hx]; simpa [copyCode] using copyCode_len a b i
    dsimp only
    conv => whnf
    refine sel_i (fun h2 => ?_) (fun h2 => ?_)
    · have hlt : (i : Int) < n := by simpa using h2
      conv => whnf
      refine chk_i (by simp only [List.length_cons, List.length_nil]; have := hlen; omega) ?_
      conv => whnf
      simp (disch := omega) only [wrap_id (n := (i : Int) + 1)]
      exact hR (i + 1, xs ++ [⟨10, 1, 0, 0, w64 (a + i)⟩, ⟨11, 0, 0, 1, w64 (b + i)⟩]) ⟨by simp; omega, by rw [hx]; simp only [copyCode, Int.toNat_natCast, List.range_succ, List.flatMap_append]; rfl⟩ (by simp; omega)
    · have hge : i = n.toNat := by simp at h2; omega
      conv => whnf
      refine chk_i (by simp only [List.length_cons, List.length_nil]; have := hlen; omega) ?_
      conv => whnf
      refine ⟨?_, rfl⟩
      have : copyAll a b n = xs ++ [⟨15, 0, 0, 0, 0⟩] := by
        have hm : max n 0 = n := by omega
        rw [hx, hge]; simp [copyAll, hr, hr2, copyCode, hm]
      rw [this, hr, hr2]
      rfl
theorem ok_impl_CopyCode : FunOk Try.prog c_impl_CopyCode := funOk (E := [c_impl_roomFor]) (envOk_cons ok_impl_roomFor (envOk_nil)) mixd Try.func23 (pf := pf_impl_CopyCode) (by kernel_rfl) fun ts K h => by
  obtain ⟨t0, t1, t2, e0, h⟩ := as3_out h
  subst e0
  obtain ⟨a, e1, hq⟩ := arC_out (rd_int .i64) h
  clear h
  subst e1
  have h := hq
  clear hq
  obtain ⟨b, e1, hq⟩ := arC_out (rd_int .i64) h
  clear h
  subst e1
  have h := hq
  clear hq
  obtain ⟨n, e1, hq⟩ := arC_out (rd_int .i64) h
  clear h
  subst e1
  have h := hq
  clear hq
  exact ⟨_, _, h, Nat.le_of_ble_eq_true (show Nat.ble 3 Try.f23.ntmps = true by kernel_rfl), _, run_impl_CopyCode a b n⟩
end Go.Pi
