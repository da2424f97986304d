/- Contracts of functions, each out of its run by PI. No conditions. -/
import Derived.Test.YthpjpaginggjaaaPiFn
import Derived.KernelRfl
import Derived.ProofKit
import Derived.Test.YthpjpaginggjaaaRows
namespace Go.Pi
open Go.Proofs
set_option linter.unusedVariables false
set_option linter.unusedSimpArgs false
set_option maxRecDepth 100000
attribute [local irreducible] iterN
theorem mixd : Try.prog.follows .mixedOrders = true := by kernel_rfl
theorem etaKey (x : Key) : (⟨x.base, x.top, x.perms, x.sealed⟩ : Key) = x := rfl
theorem etaWord (x : Word) : (⟨x.n, x.is, x.key⟩ : Word) = x := rfl
theorem etaInst (x : Inst) : (⟨x.op, x.r, x.a, x.b, x.n⟩ : Inst) = x := rfl
theorem etaEff (x : Eff) : (⟨x.trap, x.r, x.val, x.next, x.addr, x.put, x.drop⟩ : Eff) = x := rfl
theorem etaPacked (x : Packed) : (⟨x.e, x.b, x.l⟩ : Packed) = x := rfl
theorem keyEq (a b : Key) : (a.base == b.base && (a.top == b.top && (a.perms == b.perms && a.sealed == b.sealed))) = decide (a = b) := by
  obtain ⟨a1, a2, a3, a4⟩ := a
  obtain ⟨b1, b2, b3, b4⟩ := b
  rw [Bool.eq_iff_iff]; simp
theorem keyEq0 (a : Key) : (a.base == 0 && (a.top == 0 && (a.perms == 0 && a.sealed == 0))) = decide (a = ⟨0, 0, 0, 0⟩) := keyEq a ⟨0, 0, 0, 0⟩
theorem beqI (a b : Int) : (a == b) = decide (a = b) := rfl


def inR (n lo hi : Int) : Bool := decide (lo ≤ n) && decide (n ≤ hi)

def pf_impl_in : PF := ⟨[.t 6], .seq (.reg [.s (.mv 6 (.k (.v (.c .ff))))]) (.seq (.reg [.s (.mv 7 (.t 0)), .s (.mv 8 (.t 1)), .s (.bin 9 .geq (.t 7) (.t 8)), .s (.mv 10 (.t 9)), .g 10 true (some 11) (.mv 11 (.t 0)), .g 10 true (some 12) (.mv 12 (.t 2)), .g 10 true (some 13) (.bin 13 .leq (.t 11) (.t 12)), .s (.pick 14 (.t 10) (.t 13) (.k (.v (.c .ff)))), .s (.mv 6 (.t 14))]) (.ret))⟩
def c_impl_in : Fun := ⟨98, [], fun ts K => as3 ts fun t0 t1 t2 => arC (pI .i64) t0 fun n => arC (pI .i64) t1 fun lo => arC (pI .i64) t2 fun hi => K (tB (inR n lo hi)) []⟩
theorem run_impl_in (n : Int) (lo : Int) (hi : Int) : runK [] (0) [] pf_impl_in [tI .i64 n, tI .i64 lo, tI .i64 hi] fun r o => r = tB (inR n lo hi) ∧ o = [] := by
  conv => whnf
  refine sel_i (fun h => ?_) (fun h => ?_) <;> conv => whnf
  all_goals (refine ⟨?_, rfl⟩; simp at h; simp [inR] <;> omega)
theorem ok_impl_in : FunOk Try.prog c_impl_in := funOk (E := []) (envOk_nil) mixd Try.func98 (pf := pf_impl_in) (by kernel_rfl) fun ts K h => by
  obtain ⟨t0, t1, t2, e0, h⟩ := as3_out h
  subst e0
  obtain ⟨n, e1, hq⟩ := arC_out (rd_int .i64) h
  clear h
  subst e1
  have h := hq
  clear hq
  obtain ⟨lo, e1, hq⟩ := arC_out (rd_int .i64) h
  clear h
  subst e1
  have h := hq
  clear hq
  obtain ⟨hi, e1, hq⟩ := arC_out (rd_int .i64) h
  clear h
  subst e1
  have h := hq
  clear hq
  exact ⟨_, _, h, Nat.le_of_ble_eq_true (show Nat.ble 3 Try.f98.ntmps = true by kernel_rfl), _, run_impl_in n lo hi⟩

def pf_spec_l1In : PF := ⟨[.t 6], .seq (.reg [.s (.mv 6 (.k (.v (.c .ff))))]) (.seq (.reg [.s (.mv 7 (.t 0)), .s (.mv 8 (.t 1)), .s (.bin 9 .geq (.t 7) (.t 8)), .s (.mv 10 (.t 9)), .g 10 true (some 11) (.mv 11 (.t 0)), .g 10 true (some 12) (.mv 12 (.t 2)), .g 10 true (some 13) (.bin 13 .leq (.t 11) (.t 12)), .s (.pick 14 (.t 10) (.t 13) (.k (.v (.c .ff)))), .s (.mv 6 (.t 14))]) (.ret))⟩
def c_spec_l1In : Fun := ⟨149, [], fun ts K => as3 ts fun t0 t1 t2 => arC (pI .i64) t0 fun n => arC (pI .i64) t1 fun lo => arC (pI .i64) t2 fun hi => K (tB (inR n lo hi)) []⟩
theorem run_spec_l1In (n : Int) (lo : Int) (hi : Int) : runK [] (0) [] pf_spec_l1In [tI .i64 n, tI .i64 lo, tI .i64 hi] fun r o => r = tB (inR n lo hi) ∧ o = [] := by
  conv => whnf
  refine sel_i (fun h => ?_) (fun h => ?_) <;> conv => whnf
  all_goals (refine ⟨?_, rfl⟩; simp at h; simp [inR] <;> omega)
theorem ok_spec_l1In : FunOk Try.prog c_spec_l1In := funOk (E := []) (envOk_nil) mixd Try.func149 (pf := pf_spec_l1In) (by kernel_rfl) fun ts K h => by
  obtain ⟨t0, t1, t2, e0, h⟩ := as3_out h
  subst e0
  obtain ⟨n, e1, hq⟩ := arC_out (rd_int .i64) h
  clear h
  subst e1
  have h := hq
  clear hq
  obtain ⟨lo, e1, hq⟩ := arC_out (rd_int .i64) h
  clear h
  subst e1
  have h := hq
  clear hq
  obtain ⟨hi, e1, hq⟩ := arC_out (rd_int .i64) h
  clear h
  subst e1
  have h := hq
  clear hq
  exact ⟨_, _, h, Nat.le_of_ble_eq_true (show Nat.ble 3 Try.f149.ntmps = true by kernel_rfl), _, run_spec_l1In n lo hi⟩

theorem set_mid {α : Type} {m a : List α} {i : Nat} {x : α} (h : m.length = a.length) (hi : i < a.length) (hx : m[i]? = some x) : (m.take i ++ a.drop i).set i x = m.take (i + 1) ++ a.drop (i + 1) := by
  rw [List.set_append_right _ _ (by simp; omega)]
  have hm : min i m.length = i := by omega
  simp only [List.length_take, hm, Nat.sub_self]
  rw [List.drop_eq_getElem_cons hi, List.set_cons_zero, List.take_add_one, hx]
  simp

theorem etaMemory (m : Mem) : (⟨m.words, m.gone⟩ : Mem) = m := rfl

def memNew : Mem := ⟨List.replicate 24 ⟨0, false, ⟨0, 0, 0, 0⟩⟩, List.replicate 24 false⟩

def pf_spec_MemoryNew : PF := ⟨[.c 0 true 2], .seq (.reg [.s (.alloc 0 [.nils .word, .nils .bool])]) (.seq (.rgd [] [.s (.mkS 1 .word (.k (.v (.c (.int .i64 24))))), .s (.mkS 2 .bool (.k (.v (.c (.int .i64 24))))), .s (.build 3 [.nils .word, .nils .bool] [(0, 1, (.t 1)), (1, 1, (.t 2))]), .s (.store 2 (.t 0) (.t 3))] (.alt 0 false (.one 1 true (.tk 2 (.one 3 true (.done (some [0]))))) (.alt 1 false (.one 0 true (.tk 2 (.one 3 true (.done (some [0]))))) (.nil)))) (.ret))⟩
def c_spec_MemoryNew : Fun := ⟨111, [], fun ts K => as0 ts (K (tG (memNew.tc true [])) [])⟩
theorem run_spec_MemoryNew  : runK [] (0) [] pf_spec_MemoryNew [] fun r o => r = tG (memNew.tc true []) ∧ o = [] := by
  conv => whnf
  repeat' first | refine chk_c ?_ ?_ | refine And.intro ?_ ?_ <;> conv => whnf
  all_goals first
    | (refine ⟨?_⟩; omega)
    | exact ⟨rfl, rfl⟩
    | rfl
    | exact True.intro
theorem ok_spec_MemoryNew : FunOk Try.prog c_spec_MemoryNew := funOk (E := []) (envOk_nil) mixd Try.func111 (pf := pf_spec_MemoryNew) (by kernel_rfl) fun ts K h => by
  obtain ⟨e0, h⟩ := as0_out h
  subst e0
  exact ⟨_, _, h, Nat.le_of_ble_eq_true (show Nat.ble 0 Try.f111.ntmps = true by kernel_rfl), _, run_spec_MemoryNew ⟩


def LMem (m : Mem) (n : Nat) : Prop := m.words.length ≤ n ∧ m.gone.length ≤ n
def LTwo (t : Two) (n : Nat) : Prop := LMem t.mem n ∧ t.a.regs.length ≤ n ∧ t.b.regs.length ≤ n
def pf_spec_l8Copy : PF := ⟨[.c 2 true 2], .seq (.reg [.s (.box 1 (.t 0)), .s (.alloc 2 [.nils .word, .nils .bool])]) (.seq (.rgd [] [.s (.bs 3 .word []), .s (.fa 4 (.t 1) 0), .s (.load 5 false 1 (.t 4)), .s (.app 6 .word (.t 3) (.t 5)), .s (.bs 7 .bool []), .s (.fa 8 (.t 1) 1), .s (.load 9 false 1 (.t 8)), .s (.app 10 .bool (.t 7) (.t 9)), .s (.build 11 [.nils .word, .nils .bool] [(0, 1, (.t 6)), (1, 1, (.t 10))]), .s (.store 2 (.t 2) (.t 11))] (.tk 1 (.tk 2 (.tk 5 (.tk 6 (.alt 0 false (.alt 3 false (.one 4 false (.one 7 true (.tk 8 (.one 9 true (.done (some [2])))))) (.alt 4 false (.one 3 false (.one 7 true (.tk 8 (.one 9 true (.done (some [2])))))) (.nil))) (.alt 4 false (.one 0 false (.one 3 false (.one 7 true (.tk 8 (.one 9 true (.done (some [2]))))))) (.nil)))))))) (.ret))⟩
def c_spec_l8Copy : Fun := ⟨190, [], fun ts K => as1 ts fun t0 => arG pMemT t0 fun m => chk (LMem m 2147483647) (K (tG (m.tc true [])) [])⟩
theorem run_spec_l8Copy (m : Mem) (hpre : LMem m 2147483647) : runK [] (0) [] pf_spec_l8Copy [tG (m.tc false [])] fun r o => r = tG (m.tc true []) ∧ o = [] := by
  obtain ⟨l1, l2⟩ := hpre
  conv => whnf
  repeat' (first | (refine chk_c ?_ ?_ <;> conv => whnf) | (refine And.intro ?_ ?_ <;> conv => whnf))
  all_goals first
    | (refine ⟨?_⟩; omega)
    | (refine ⟨?_⟩; simp; done)
    | (refine ⟨?_⟩; simp [LMem, LTwo] at *; omega)
    | rfl
    | exact True.intro
    | exact ⟨rfl, rfl⟩
theorem ok_spec_l8Copy : FunOk Try.prog c_spec_l8Copy := funOk (E := []) (envOk_nil) mixd Try.func190 (pf := pf_spec_l8Copy) (by kernel_rfl) fun ts K h => by
  obtain ⟨t0, e0, h⟩ := as1_out h
  subst e0
  obtain ⟨m, e1, hq⟩ := arG_out rd_mem h
  clear h
  subst e1
  have h := hq
  clear hq
  obtain ⟨hpre, h⟩ := chk_o h
  exact ⟨_, _, h, Nat.le_of_ble_eq_true (show Nat.ble 1 Try.f190.ntmps = true by kernel_rfl), _, run_spec_l8Copy m hpre⟩

def sideState (t : Two) (who : Int) : State :=
  if who = 0 then ⟨t.a.regs, t.a.pc, t.mem, t.a.trap⟩ else if who = 1 then ⟨t.b.regs, t.b.pc, t.mem, t.b.trap⟩ else ⟨[], ⟨0, false, ⟨0, 0, 0, 0⟩⟩, ⟨[], []⟩, 0⟩

def LState (s : State) (n : Nat) : Prop := s.regs.length ≤ n ∧ LMem s.mem n

theorem etaState (m : State) : (⟨m.regs, m.pc, m.mem, m.trap⟩ : State) = m := rfl


def boundsOk (b t : Int) : Bool := decide (0 ≤ b) && decide (b ≤ t) && decide (t ≤ 4096)

def pf_impl_BoundsOk : PF := ⟨[.t 4], .seq (.reg [.s (.mv 4 (.k (.v (.c .ff))))]) (.seq (.reg [.s (.mv 5 (.t 0)), .s (.mv 6 (.t 1)), .s (.call (some 7) 98 [(.t 5), (.k (.v (.c (.int .i64 0)))), (.t 6)]), .s (.mv 8 (.t 7)), .g 8 true (some 9) (.mv 9 (.t 1)), .g 8 true (some 10) (.bin 10 .leq (.t 9) (.k (.v (.c (.int .i64 4096))))), .s (.pick 11 (.t 8) (.t 10) (.k (.v (.c .ff)))), .s (.mv 4 (.t 11))]) (.ret))⟩
def c_impl_BoundsOk : Fun := ⟨205, [], fun ts K => as2 ts fun t0 t1 => arC (pI .i64) t0 fun b => arC (pI .i64) t1 fun t => K (tB (boundsOk b t)) []⟩
theorem run_impl_BoundsOk (b : Int) (t : Int) : runK [c_impl_in] (0) [] pf_impl_BoundsOk [tI .i64 b, tI .i64 t] fun r o => r = tB (boundsOk b t) ∧ o = [] := by
  conv => whnf
  refine sel_i (fun h => ?_) (fun h => ?_) <;> conv => whnf
  all_goals (refine ⟨?_, rfl⟩; simp [inR] at h; simp [boundsOk] <;> omega)
theorem ok_impl_BoundsOk : FunOk Try.prog c_impl_BoundsOk := funOk (E := [c_impl_in]) (envOk_cons ok_impl_in (envOk_nil)) mixd Try.func205 (pf := pf_impl_BoundsOk) (by kernel_rfl) fun ts K h => by
  obtain ⟨t0, t1, e0, h⟩ := as2_out h
  subst e0
  obtain ⟨b, e1, hq⟩ := arC_out (rd_int .i64) h
  clear h
  subst e1
  have h := hq
  clear hq
  obtain ⟨t, e1, hq⟩ := arC_out (rd_int .i64) h
  clear h
  subst e1
  have h := hq
  clear hq
  exact ⟨_, _, h, Nat.le_of_ble_eq_true (show Nat.ble 2 Try.f205.ntmps = true by kernel_rfl), _, run_impl_BoundsOk b t⟩

def pf_spec_BoundsOk : PF := ⟨[.t 4], .seq (.reg [.s (.mv 4 (.k (.v (.c .ff))))]) (.seq (.reg [.s (.mv 5 (.t 0)), .s (.call (some 6) 149 [(.t 5), (.k (.v (.c (.int .i64 0)))), (.k (.v (.c (.int .i64 4096))))]), .s (.mv 7 (.t 6)), .g 7 true (some 8) (.mv 8 (.t 1)), .g 7 true (some 9) (.call (some 9) 149 [(.t 8), (.k (.v (.c (.int .i64 0)))), (.k (.v (.c (.int .i64 4096))))]), .s (.pick 10 (.t 7) (.t 9) (.k (.v (.c .ff)))), .s (.mv 11 (.t 10)), .g 11 true (some 12) (.mv 12 (.t 0)), .g 11 true (some 13) (.mv 13 (.t 1)), .g 11 true (some 14) (.bin 14 .leq (.t 12) (.t 13)), .s (.pick 15 (.t 11) (.t 14) (.k (.v (.c .ff)))), .s (.mv 4 (.t 15))]) (.ret))⟩
def c_spec_BoundsOk : Fun := ⟨225, [], fun ts K => as2 ts fun t0 t1 => arC (pI .i64) t0 fun b => arC (pI .i64) t1 fun t => K (tB (boundsOk b t)) []⟩
theorem run_spec_BoundsOk (b : Int) (t : Int) : runK [c_spec_l1In] (0) [] pf_spec_BoundsOk [tI .i64 b, tI .i64 t] fun r o => r = tB (boundsOk b t) ∧ o = [] := by
  conv => whnf
  repeat' (refine sel_i (fun h => ?_) (fun h => ?_) <;> conv => whnf)
  all_goals (refine ⟨?_, rfl⟩; simp_all [inR, boundsOk] <;> omega)
theorem ok_spec_BoundsOk : FunOk Try.prog c_spec_BoundsOk := funOk (E := [c_spec_l1In]) (envOk_cons ok_spec_l1In (envOk_nil)) mixd Try.func225 (pf := pf_spec_BoundsOk) (by kernel_rfl) fun ts K h => by
  obtain ⟨t0, t1, e0, h⟩ := as2_out h
  subst e0
  obtain ⟨b, e1, hq⟩ := arC_out (rd_int .i64) h
  clear h
  subst e1
  have h := hq
  clear hq
  obtain ⟨t, e1, hq⟩ := arC_out (rd_int .i64) h
  clear h
  subst e1
  have h := hq
  clear hq
  exact ⟨_, _, h, Nat.le_of_ble_eq_true (show Nat.ble 2 Try.f225.ntmps = true by kernel_rfl), _, run_spec_BoundsOk b t⟩

def packB (b : Int) (e : Nat) : Int := b / 2 ^ e
def packL (b t : Int) (e : Nat) : Int := (t - b / 2 ^ e * 2 ^ e + 2 ^ e - 1) / 2 ^ e
theorem e_cases {e : Nat} (he : e ≤ 6) : e = 0 ∨ e = 1 ∨ e = 2 ∨ e = 3 ∨ e = 4 ∨ e = 5 ∨ e = 6 := by omega
theorem e_min {e : Nat} (he : e ≤ 6) : min (e : Int).toNat IntKind.i64.bits = e := by rcases e_cases he with rfl | rfl | rfl | rfl | rfl | rfl | rfl <;> decide
theorem p_pos (e : Nat) : (0 : Int) ≤ 2 ^ e := Int.le_of_lt (Int.pow_pos (by decide))
theorem shr_b {b : Int} {e : Nat} (he : e ≤ 6) : b.fdiv (2 ^ min (e : Int).toNat IntKind.i64.bits) = packB b e := by
  rw [e_min he, Int.fdiv_eq_ediv_of_nonneg _ (p_pos e)]; rfl
theorem shr_l {b t : Int} {e : Nat} (he : e ≤ 6) (h : 0 ≤ b) (h1 : b ≤ t) (h2 : t ≤ 4096) :
    (IntKind.i64.wrap (IntKind.i64.wrap (IntKind.i64.wrap (t - IntKind.i64.wrap (packB b e * 2 ^ min (e : Int).toNat IntKind.i64.bits)) + IntKind.i64.wrap (1 * 2 ^ min (e : Int).toNat IntKind.i64.bits)) - 1)).fdiv (2 ^ min (e : Int).toNat IntKind.i64.bits) = packL b t e := by
  rw [e_min he, Int.fdiv_eq_ediv_of_nonneg _ (p_pos e)]
  unfold packB packL
  rcases e_cases he with rfl | rfl | rfl | rfl | rfl | rfl | rfl <;> simp only [Int.reducePow, Int.pow_zero] <;>
    rw [wrap_id (n := _ * _) (by omega) (by omega), wrap_id (n := t - _) (by omega) (by omega), wrap_id (n := 1 * _) (by omega) (by omega), wrap_id (n := _ + _) (by omega) (by omega), wrap_id (by omega) (by omega)] <;> simp
theorem shr_m {b t : Int} {e : Nat} (he : e ≤ 6) (h : 0 ≤ b) (h1 : b ≤ t) (h2 : t ≤ 4096) :
    packB (IntKind.i64.wrap (IntKind.i64.wrap (IntKind.i64.wrap (t - IntKind.i64.wrap (packB b e * 2 ^ min (e : Int).toNat IntKind.i64.bits)) + IntKind.i64.wrap (1 * 2 ^ min (e : Int).toNat IntKind.i64.bits)) - 1)) e = packL b t e := by
  rw [← shr_l he h h1 h2, shr_b he]
def packOk (b t : Int) (e : Nat) : Bool := decide (packB b e ≤ 63) && decide (packL b t e ≤ 63)
def packGo (b t : Int) : Nat → Nat → Option Packed
  | 0, _ => none
  | n + 1, e => if packOk b t e then some ⟨e, packB b e, packL b t e⟩ else packGo b t n (e + 1)
def pack (b t : Int) : Option Packed := if boundsOk b t then packGo b t 7 0 else none
def packT (o : Option Packed) : Tree := .tup [.g ((o.getD ⟨0, 0, 0⟩).tc []), .c (.bool o.isSome)]
theorem pack_no {b t : Int} (h : boundsOk b t = false) : pack b t = none := by simp [pack, h]
theorem pack_yes {b t : Int} (h : boundsOk b t = true) : pack b t = packGo b t 7 0 := by simp [pack, h]
theorem packGo_t {b t : Int} {n e : Nat} (h : packOk b t e = true) : packGo b t (n + 1) e = some ⟨e, packB b e, packL b t e⟩ := by simp [packGo, h]
theorem packGo_f {b t : Int} {n e : Nat} (h : packOk b t e = false) : packGo b t (n + 1) e = packGo b t n (e + 1) := by simp [packGo, h]
theorem bounds_n {b t : Int} (h : boundsOk b t = true) : 0 ≤ b ∧ b ≤ t ∧ t ≤ 4096 := by simp [boundsOk] at h; omega

def lb_spec_Pack_0 : PC := .seq (.seq (.reg [.s (.mv 14 (.t 6)), .s (.bin 15 .leq (.t 14) (.k (.v (.c (.int .i64 6)))))]) (.cond (.t 15) (.skip) (.exit 0))) (.seq (.blk 1 (.seq (.reg [.s (.mv 18 (.t 0)), .s (.mv 19 (.t 6)), .s (.bin 20 .shr (.t 18) (.t 19)), .s (.mv 7 (.t 20))]) (.seq (.rgd [] [.s (.mv 21 (.t 1)), .s (.mv 22 (.t 7)), .s (.mv 23 (.t 6)), .s (.bin 24 .shl (.t 22) (.t 23)), .s (.bin 25 .sub (.t 21) (.t 24)), .s (.mv 26 (.t 6)), .s (.bin 27 .shl (.k (.v (.c (.int .i64 1)))) (.t 26)), .s (.bin 28 .add (.t 25) (.t 27)), .s (.bin 29 .sub (.t 28) (.k (.v (.c (.int .i64 1))))), .s (.mv 30 (.t 6)), .s (.bin 31 .shr (.t 29) (.t 30)), .s (.mv 8 (.t 31))] (.tk 0 (.tk 1 (.tk 2 (.tk 3 (.tk 4 (.tk 5 (.tk 6 (.tk 7 (.tk 8 (.tk 9 (.tk 10 (.tk 11 (.done none)))))))))))))) (.seq (.reg [.s (.mv 32 (.t 7)), .s (.bin 33 .leq (.t 32) (.k (.v (.c (.int .i64 63))))), .s (.mv 34 (.t 33)), .g 34 true (some 35) (.mv 35 (.t 8)), .g 34 true (some 36) (.bin 36 .leq (.t 35) (.k (.v (.c (.int .i64 63))))), .s (.pick 37 (.t 34) (.t 36) (.k (.v (.c .ff))))]) (.cond (.t 37) (.seq (.reg [.s (.mv 38 (.t 6)), .s (.mv 39 (.t 7)), .s (.mv 40 (.t 8)), .s (.build 41 [.int .i64 0, .int .i64 0, .int .i64 0] [(0, 1, (.t 38)), (1, 1, (.t 39)), (2, 1, (.t 40))]), .s (.store 3 (.t 4) (.t 41)), .s (.mv 5 (.k (.v (.c .tt))))]) (.ret)) (.skip)))))) (.reg [.s (.mv 16 (.t 6)), .s (.bin 17 .add (.t 16) (.k (.v (.c (.int .i64 1))))), .s (.mv 6 (.t 17))]))
def pf_spec_Pack : PF := ⟨[.c 4 true 3, .t 5], .seq (.reg [.s (.alloc 4 [.int .i64 0, .int .i64 0, .int .i64 0]), .s (.mv 5 (.k (.v (.c .ff))))]) (.seq (.seq (.reg [.s (.mv 9 (.t 0)), .s (.mv 10 (.t 1)), .s (.call (some 11) 225 [(.t 9), (.t 10)]), .s (.bnot 12 (.t 11))]) (.cond (.t 12) (.seq (.reg [.s (.build 13 [.int .i64 0, .int .i64 0, .int .i64 0] []), .s (.store 3 (.t 4) (.t 13)), .s (.mv 5 (.k (.v (.c .ff))))]) (.ret)) (.skip))) (.seq (.seq (.reg [.s (.mv 6 (.k (.v (.c (.int .i64 0)))))]) (.blk 0 (.loop [0, 1, 4, 6] lb_spec_Pack_0))) (.seq (.reg [.s (.build 42 [.int .i64 0, .int .i64 0, .int .i64 0] []), .s (.store 3 (.t 4) (.t 42)), .s (.mv 5 (.k (.v (.c .ff))))]) (.ret))))⟩
def c_spec_Pack : Fun := ⟨247, [], fun ts K => as2 ts fun t0 t1 => arC (pI .i64) t0 fun b => arC (pI .i64) t1 fun t => K (packT (pack b t)) []⟩
theorem run_spec_Pack (b : Int) (t : Int) : runK [c_spec_BoundsOk] (8) [] pf_spec_Pack [tI .i64 b, tI .i64 t] fun r o => r = packT (pack b t) ∧ o = [] := by
  conv => whnf
  refine sel_i (fun h => ?_) (fun h => ?_)
  · rw [pack_no (by simpa using h)]
    conv => whnf
    exact ⟨rfl, rfl⟩
  have hb : boundsOk b t = true := by simpa using h
  obtain ⟨b1, b2, b3⟩ := bounds_n hb
  rw [pack_yes hb]
  conv => whnf
  refine loop (α := Nat) (fun e => ⟨[(0, .v (.c (.int .i64 b))), (1, .v (.c (.int .i64 t))), (4, .v (.c (.ptr 0 0))), (6, .v (.c (.int .i64 (e : Int))))], [(0, some (.box true [.int .i64 0, .int .i64 0, .int .i64 0]))], nums.tail, [], false, []⟩)
      (fun e => e ≤ 7 ∧ packGo b t 7 0 = packGo b t (7 - e) e) (fun e => 7 - e) (fun e R hI hR => ?_) 0 _ ⟨by omega, rfl⟩ (by omega)
  obtain ⟨hI, hG⟩ := hI
  conv => whnf
  refine sel_i (fun h2 => ?_) (fun h2 => ?_)
  · have he : e ≤ 6 := by simp at h2; omega
    rw [show 7 - e = (6 - e) + 1 by omega] at hG
    conv => whnf
    repeat' (refine chk_c ?_ ?_ <;> conv => whnf)
    any_goals (refine ⟨?_⟩; omega)
    simp only [shr_b he, shr_m he b1 b2 b3]
    refine sel_i (fun h3 => ?_) (fun h3 => ?_)
    · conv => whnf
      refine sel_i (fun h4 => ?_) (fun h4 => ?_)
      · rw [hG, packGo_t (by simp only [packOk, h3, h4, Bool.and_self])]
        conv => whnf
        exact ⟨rfl, rfl⟩
      · conv => whnf
        rw [wrap_id (by omega) (by omega)]
        exact hR (e + 1) ⟨by omega, by rw [hG, packGo_f (by simp only [packOk, h3, h4, Bool.and_false])]; rw [show 7 - (e + 1) = 6 - e by omega]⟩ (by omega)
    · conv => whnf
      rw [wrap_id (by omega) (by omega)]
      exact hR (e + 1) ⟨by omega, by rw [hG, packGo_f (by simp only [packOk, h3, Bool.false_and])]; rw [show 7 - (e + 1) = 6 - e by omega]⟩ (by omega)
  · have he : e = 7 := by simp at h2; omega
    subst he
    rw [hG]
    conv => whnf
    exact ⟨rfl, rfl⟩
theorem ok_spec_Pack : FunOk Try.prog c_spec_Pack := funOk (E := [c_spec_BoundsOk]) (envOk_cons ok_spec_BoundsOk (envOk_nil)) mixd Try.func247 (pf := pf_spec_Pack) (by kernel_rfl) fun ts K h => by
  obtain ⟨t0, t1, e0, h⟩ := as2_out h
  subst e0
  obtain ⟨b, e1, hq⟩ := arC_out (rd_int .i64) h
  clear h
  subst e1
  have h := hq
  clear hq
  obtain ⟨t, e1, hq⟩ := arC_out (rd_int .i64) h
  clear h
  subst e1
  have h := hq
  clear hq
  exact ⟨_, _, h, Nat.le_of_ble_eq_true (show Nat.ble 2 Try.f247.ntmps = true by kernel_rfl), _, run_spec_Pack b t⟩

theorem p_wrap {e : Nat} (he : e ≤ 6) : IntKind.i64.wrap (1 * 2 ^ min (e : Int).toNat IntKind.i64.bits) = 2 ^ e := by
  rw [e_min he]
  rcases e_cases he with rfl | rfl | rfl | rfl | rfl | rfl | rfl <;> decide
theorem quo_b {b : Int} {e : Nat} (he : e ≤ 6) (h : 0 ≤ b) (h1 : b ≤ 4096) : IntKind.i64.wrap (b.tdiv (2 ^ e)) = packB b e := by
  rw [Int.tdiv_eq_ediv_of_nonneg h]
  unfold packB
  rcases e_cases he with rfl | rfl | rfl | rfl | rfl | rfl | rfl <;> simp only [Int.reducePow, Int.pow_zero] <;> exact wrap_id (by omega) (by omega)
theorem quo_l {b t : Int} {e : Nat} (he : e ≤ 6) (h : 0 ≤ b) (h1 : b ≤ t) (h2 : t ≤ 4096) :
    IntKind.i64.wrap ((IntKind.i64.wrap (IntKind.i64.wrap (IntKind.i64.wrap (t - IntKind.i64.wrap (packB b e * 2 ^ e)) + 2 ^ e) - 1)).tdiv (2 ^ e)) = packL b t e := by
  unfold packB packL
  rcases e_cases he with rfl | rfl | rfl | rfl | rfl | rfl | rfl <;> simp only [Int.reducePow, Int.pow_zero] <;>
    rw [wrap_id (n := _ * _) (by omega) (by omega), wrap_id (n := t - _) (by omega) (by omega), wrap_id (n := _ + _) (by omega) (by omega), wrap_id (n := _ - 1) (by omega) (by omega), Int.tdiv_eq_ediv_of_nonneg (by omega)] <;> exact wrap_id (by omega) (by omega)

def lb_impl_Pack_0 : PC := .seq (.reg [.s (.bin 16 .lss (.t 15) (.k (.v (.c (.int .i64 7)))))]) (.seq (.cond (.t 16) (.skip) (.exit 0)) (.seq (.blk 1 (.seq (.reg [.s (.mv 17 (.t 15)), .s (.mv 6 (.t 17))]) (.seq (.reg [.s (.mv 18 (.t 6)), .s (.bin 19 .shl (.k (.v (.c (.int .i64 1)))) (.t 18)), .s (.mv 7 (.t 19))]) (.seq (.reg [.s (.mv 20 (.t 0)), .s (.mv 21 (.t 7)), .s (.bin 22 .quo (.t 20) (.t 21)), .s (.mv 8 (.t 22))]) (.seq (.reg [.s (.mv 23 (.t 1)), .s (.mv 24 (.t 8)), .s (.mv 25 (.t 7)), .s (.bin 26 .mul (.t 24) (.t 25)), .s (.bin 27 .sub (.t 23) (.t 26)), .s (.mv 28 (.t 7)), .s (.bin 29 .add (.t 27) (.t 28)), .s (.bin 30 .sub (.t 29) (.k (.v (.c (.int .i64 1))))), .s (.mv 31 (.t 7)), .s (.bin 32 .quo (.t 30) (.t 31)), .s (.mv 9 (.t 32))]) (.seq (.reg [.s (.mv 33 (.t 8)), .s (.bin 34 .leq (.t 33) (.k (.v (.c (.int .i64 63))))), .s (.mv 35 (.t 34)), .g 35 true (some 36) (.mv 36 (.t 9)), .g 35 true (some 37) (.bin 37 .leq (.t 36) (.k (.v (.c (.int .i64 63))))), .s (.pick 38 (.t 35) (.t 37) (.k (.v (.c .ff))))]) (.cond (.t 38) (.seq (.reg [.s (.mv 39 (.t 6)), .s (.mv 40 (.t 8)), .s (.mv 41 (.t 9)), .s (.build 42 [.int .i64 0, .int .i64 0, .int .i64 0] [(0, 1, (.t 39)), (1, 1, (.t 40)), (2, 1, (.t 41))]), .s (.store 3 (.t 4) (.t 42)), .s (.mv 5 (.k (.v (.c .tt))))]) (.ret)) (.skip)))))))) (.reg [.s (.bin 43 .add (.t 15) (.k (.v (.c (.int .i64 1))))), .s (.mv 15 (.t 43))])))
def pf_impl_Pack : PF := ⟨[.c 4 true 3, .t 5], .seq (.reg [.s (.alloc 4 [.int .i64 0, .int .i64 0, .int .i64 0]), .s (.mv 5 (.k (.v (.c .ff))))]) (.seq (.seq (.reg [.s (.mv 10 (.t 0)), .s (.mv 11 (.t 1)), .s (.call (some 12) 205 [(.t 10), (.t 11)]), .s (.bnot 13 (.t 12))]) (.cond (.t 13) (.seq (.reg [.s (.build 14 [.int .i64 0, .int .i64 0, .int .i64 0] []), .s (.store 3 (.t 4) (.t 14)), .s (.mv 5 (.k (.v (.c .ff))))]) (.ret)) (.skip))) (.seq (.seq (.reg [.s (.mv 15 (.k (.v (.c (.int .i64 0)))))]) (.blk 0 (.loop [0, 1, 4, 15] lb_impl_Pack_0))) (.seq (.reg [.s (.build 44 [.int .i64 0, .int .i64 0, .int .i64 0] []), .s (.store 3 (.t 4) (.t 44)), .s (.mv 5 (.k (.v (.c .ff))))]) (.ret))))⟩
def c_impl_Pack : Fun := ⟨230, [], fun ts K => as2 ts fun t0 t1 => arC (pI .i64) t0 fun b => arC (pI .i64) t1 fun t => K (packT (pack b t)) []⟩
theorem run_impl_Pack (b : Int) (t : Int) : runK [c_impl_BoundsOk] (8) [] pf_impl_Pack [tI .i64 b, tI .i64 t] fun r o => r = packT (pack b t) ∧ o = [] := by
  conv => whnf
  refine sel_i (fun h => ?_) (fun h => ?_)
  · rw [pack_no (by simpa using h)]
    conv => whnf
    exact ⟨rfl, rfl⟩
  have hb : boundsOk b t = true := by simpa using h
  obtain ⟨b1, b2, b3⟩ := bounds_n hb
  rw [pack_yes hb]
  conv => whnf
  refine loop (α := Nat) (fun e => ⟨[(0, .v (.c (.int .i64 b))), (1, .v (.c (.int .i64 t))), (4, .v (.c (.ptr 0 0))), (15, .v (.c (.int .i64 (e : Int))))], [(0, some (.box true [.int .i64 0, .int .i64 0, .int .i64 0]))], nums.tail, [], false, []⟩)
      (fun e => e ≤ 7 ∧ packGo b t 7 0 = packGo b t (7 - e) e) (fun e => 7 - e) (fun e R hI hR => ?_) 0 _ ⟨by omega, rfl⟩ (by omega)
  obtain ⟨hI, hG⟩ := hI
  conv => whnf
  refine sel_i (fun h2 => ?_) (fun h2 => ?_)
  · have he : e ≤ 6 := by simp at h2; omega
    rw [show 7 - e = (6 - e) + 1 by omega] at hG
    conv => whnf
    repeat' (refine chk_c ?_ ?_ <;> conv => whnf)
    any_goals (refine ⟨?_⟩; first | omega | (rw [p_wrap he]; exact Int.ne_of_gt (Int.pow_pos (by decide))))
    simp only [p_wrap he, quo_b he b1 (Int.le_trans b2 b3), quo_l he b1 b2 b3]
    refine sel_i (fun h3 => ?_) (fun h3 => ?_)
    · conv => whnf
      refine sel_i (fun h4 => ?_) (fun h4 => ?_)
      · rw [hG, packGo_t (by simp only [packOk, h3, h4, Bool.and_self])]
        conv => whnf
        exact ⟨rfl, rfl⟩
      · conv => whnf
        rw [wrap_id (by omega) (by omega)]
        exact hR (e + 1) ⟨by omega, by rw [hG, packGo_f (by simp only [packOk, h3, h4, Bool.and_false])]; rw [show 7 - (e + 1) = 6 - e by omega]⟩ (by omega)
    · conv => whnf
      rw [wrap_id (by omega) (by omega)]
      exact hR (e + 1) ⟨by omega, by rw [hG, packGo_f (by simp only [packOk, h3, Bool.false_and])]; rw [show 7 - (e + 1) = 6 - e by omega]⟩ (by omega)
  · have he : e = 7 := by simp at h2; omega
    subst he
    rw [hG]
    conv => whnf
    exact ⟨rfl, rfl⟩
theorem ok_impl_Pack : FunOk Try.prog c_impl_Pack := funOk (E := [c_impl_BoundsOk]) (envOk_cons ok_impl_BoundsOk (envOk_nil)) mixd Try.func230 (pf := pf_impl_Pack) (by kernel_rfl) fun ts K h => by
  obtain ⟨t0, t1, e0, h⟩ := as2_out h
  subst e0
  obtain ⟨b, e1, hq⟩ := arC_out (rd_int .i64) h
  clear h
  subst e1
  have h := hq
  clear hq
  obtain ⟨t, e1, hq⟩ := arC_out (rd_int .i64) h
  clear h
  subst e1
  have h := hq
  clear hq
  exact ⟨_, _, h, Nat.le_of_ble_eq_true (show Nat.ble 2 Try.f230.ntmps = true by kernel_rfl), _, run_impl_Pack b t⟩

def pf_spec_l1Min : PF := ⟨[.t 4], .seq (.reg [.s (.mv 4 (.k (.v (.c (.int .i64 0)))))]) (.seq (.seq (.reg [.s (.mv 5 (.t 0)), .s (.mv 6 (.t 1)), .s (.bin 7 .lss (.t 5) (.t 6))]) (.cond (.t 7) (.seq (.reg [.s (.mv 8 (.t 0)), .s (.mv 4 (.t 8))]) (.ret)) (.skip))) (.seq (.reg [.s (.mv 9 (.t 1)), .s (.mv 4 (.t 9))]) (.ret)))⟩
def c_spec_l1Min : Fun := ⟨92, [], fun ts K => as2 ts fun t0 t1 => arC (pI .i64) t0 fun a => arC (pI .i64) t1 fun b => K (tN (min a b)) []⟩
theorem run_spec_l1Min (a : Int) (b : Int) : runK [] (0) [] pf_spec_l1Min [tI .i64 a, tI .i64 b] fun r o => r = tN (min a b) ∧ o = [] := by
  conv => whnf
  refine sel_i (fun h => ?_) (fun h => ?_) <;> conv => whnf
  all_goals (refine ⟨?_, rfl⟩; simp at h; congr 3; omega)
theorem ok_spec_l1Min : FunOk Try.prog c_spec_l1Min := funOk (E := []) (envOk_nil) mixd Try.func92 (pf := pf_spec_l1Min) (by kernel_rfl) fun ts K h => by
  obtain ⟨t0, t1, e0, h⟩ := as2_out h
  subst e0
  obtain ⟨a, e1, hq⟩ := arC_out (rd_int .i64) h
  clear h
  subst e1
  have h := hq
  clear hq
  obtain ⟨b, e1, hq⟩ := arC_out (rd_int .i64) h
  clear h
  subst e1
  have h := hq
  clear hq
  exact ⟨_, _, h, Nat.le_of_ble_eq_true (show Nat.ble 2 Try.f92.ntmps = true by kernel_rfl), _, run_spec_l1Min a b⟩

def unpackOk (p : Packed) : Bool := inR p.e 0 6 && inR p.b 0 63 && inR p.l 0 63
def unpack (p : Packed) : Int × Int × Bool := if unpackOk p then (p.b * 2 ^ p.e.toNat, min 4096 ((p.b + p.l) * 2 ^ p.e.toNat), true) else (0, 0, false)
def unpackT (x : Int × Int × Bool) : Tree := .tup [.c (.int .i64 x.1), .c (.int .i64 x.2.1), .c (.bool x.2.2)]
theorem unpack_no {p : Packed} (h : unpackOk p = false) : unpack p = (0, 0, false) := by simp [unpack, h]
theorem unpack_yes {p : Packed} (h : unpackOk p = true) : unpack p = (p.b * 2 ^ p.e.toNat, min 4096 ((p.b + p.l) * 2 ^ p.e.toNat), true) := by simp [unpack, h]

theorem unpack_sh {p : Packed} (h : unpackOk p = true) : IntKind.i64.wrap (p.b * 2 ^ min p.e.toNat IntKind.i64.bits) = p.b * 2 ^ p.e.toNat ∧ IntKind.i64.wrap (IntKind.i64.wrap (p.b + p.l) * 2 ^ min p.e.toNat IntKind.i64.bits) = (p.b + p.l) * 2 ^ p.e.toNat := by
  obtain ⟨pe, pb, pl⟩ := p
  simp [unpackOk, inR] at h
  obtain ⟨e, he⟩ : ∃ e : Nat, pe = e := ⟨pe.toNat, by omega⟩
  subst he
  dsimp only
  have he6 : e ≤ 6 := by omega
  rw [e_min he6, wrap_id (n := pb + pl) (by omega) (by omega)]
  rcases e_cases he6 with rfl | rfl | rfl | rfl | rfl | rfl | rfl <;> simp only [Int.reducePow, Int.pow_zero, Int.toNat_natCast] <;> exact ⟨wrap_id (by omega) (by omega), wrap_id (by omega) (by omega)⟩
def wide (b t : Int) : Int × Int := if boundsOk b t then (if (pack b t).isSome then ((unpack ((pack b t).getD ⟨0, 0, 0⟩)).1, (unpack ((pack b t).getD ⟨0, 0, 0⟩)).2.1) else (0, 4096)) else (0, 0)
theorem pack_isSome {b t : Int} (h : (pack b t).isSome = true) : boundsOk b t = true := by
  by_cases hb : boundsOk b t = true
  · exact hb
  · rw [pack_no (by simpa using hb)] at h; simp at h
def wideT (x : Int × Int) : Tree := .tup [.c (.int .i64 x.1), .c (.int .i64 x.2)]
def exact_ (b t : Int) : Bool := boundsOk b t && decide ((wide b t).1 = b) && decide ((wide b t).2 = t)
def keyOk (k : Key) : Bool := exact_ k.base k.top && inR k.perms 0 63 && inR k.sealed 0 7
def wordOk (w : Word) : Bool := inR w.n 0 65535 && (if w.is then keyOk w.key else decide (w.key = ⟨0, 0, 0, 0⟩))

def pf_spec_Unpack : PF := ⟨[.t 2, .t 3, .t 4], .seq (.reg [.s (.box 1 (.t 0)), .s (.mv 2 (.k (.v (.c (.int .i64 0))))), .s (.mv 3 (.k (.v (.c (.int .i64 0))))), .s (.mv 4 (.k (.v (.c .ff))))]) (.seq (.seq (.reg [.s (.fa 5 (.t 1) 0), .s (.load 6 false 1 (.t 5)), .s (.call (some 7) 149 [(.t 6), (.k (.v (.c (.int .i64 0)))), (.k (.v (.c (.int .i64 6))))]), .s (.bnot 8 (.t 7)), .s (.mv 9 (.t 8)), .g 9 false (some 10) (.fa 10 (.t 1) 1), .g 9 false (some 11) (.load 11 false 1 (.t 10)), .g 9 false (some 12) (.call (some 12) 149 [(.t 11), (.k (.v (.c (.int .i64 0)))), (.k (.v (.c (.int .i64 63))))]), .g 9 false (some 13) (.bnot 13 (.t 12)), .s (.pick 14 (.t 9) (.k (.v (.c .tt))) (.t 13)), .s (.mv 15 (.t 14)), .g 15 false (some 16) (.fa 16 (.t 1) 2), .g 15 false (some 17) (.load 17 false 1 (.t 16)), .g 15 false (some 18) (.call (some 18) 149 [(.t 17), (.k (.v (.c (.int .i64 0)))), (.k (.v (.c (.int .i64 63))))]), .g 15 false (some 19) (.bnot 19 (.t 18)), .s (.pick 20 (.t 15) (.k (.v (.c .tt))) (.t 19))]) (.cond (.t 20) (.seq (.reg [.s (.mv 2 (.k (.v (.c (.int .i64 0))))), .s (.mv 3 (.k (.v (.c (.int .i64 0))))), .s (.mv 4 (.k (.v (.c .ff))))]) (.ret)) (.skip))) (.seq (.rgd [] [.s (.fa 21 (.t 1) 1), .s (.load 22 false 1 (.t 21)), .s (.fa 23 (.t 1) 0), .s (.load 24 false 1 (.t 23)), .s (.bin 25 .shl (.t 22) (.t 24)), .s (.fa 26 (.t 1) 1), .s (.load 27 false 1 (.t 26)), .s (.fa 28 (.t 1) 2), .s (.load 29 false 1 (.t 28)), .s (.bin 30 .add (.t 27) (.t 29)), .s (.fa 31 (.t 1) 0), .s (.load 32 false 1 (.t 31)), .s (.bin 33 .shl (.t 30) (.t 32)), .s (.call (some 34) 92 [(.t 33), (.k (.v (.c (.int .i64 4096))))]), .s (.mv 2 (.t 25)), .s (.mv 3 (.t 34)), .s (.mv 4 (.k (.v (.c .tt))))] (.tk 0 (.tk 1 (.tk 2 (.tk 3 (.tk 4 (.tk 5 (.tk 6 (.tk 7 (.tk 8 (.tk 9 (.tk 10 (.tk 11 (.tk 12 (.one 13 false (.tk 14 (.tk 15 (.tk 16 (.done none))))))))))))))))))) (.ret)))⟩
def c_spec_Unpack : Fun := ⟨248, [], fun ts K => as1 ts fun t0 => arG pPackedT t0 fun p => K (unpackT (unpack p)) []⟩
theorem run_spec_Unpack (p : Packed) : runK [c_spec_l1Min, c_spec_l1In] (0) [] pf_spec_Unpack [tG (p.tc [])] fun r o => r = unpackT (unpack p) ∧ o = [] := by
  conv => whnf
  repeat' (first | (refine sel_i (fun h => ?_) (fun h => ?_) <;> conv => whnf) | (refine chk_c ?_ ?_ <;> conv => whnf) | (refine And.intro ?_ rfl) | (refine And.intro ?_ ?_ <;> conv => whnf))
  all_goals first
    | (rw [unpack_no (by simp_all [unpackOk])]; rfl)
    | (refine ⟨?_⟩; simp_all [inR]; done)
    | (have hk : unpackOk p = true := by simp_all [unpackOk]
       rw [(unpack_sh hk).1, (unpack_sh hk).2, unpack_yes hk]; rfl)
    | (have hk : unpackOk p = true := by simp_all [unpackOk]
       rw [(unpack_sh hk).1, (unpack_sh hk).2, unpack_yes hk, Int.min_comm]; rfl)
theorem ok_spec_Unpack : FunOk Try.prog c_spec_Unpack := funOk (E := [c_spec_l1Min, c_spec_l1In]) (envOk_cons ok_spec_l1Min (envOk_cons ok_spec_l1In (envOk_nil))) mixd Try.func248 (pf := pf_spec_Unpack) (by kernel_rfl) fun ts K h => by
  obtain ⟨t0, e0, h⟩ := as1_out h
  subst e0
  obtain ⟨p, e1, hq⟩ := arG_out rd_packed h
  clear h
  subst e1
  have h := hq
  clear hq
  exact ⟨_, _, h, Nat.le_of_ble_eq_true (show Nat.ble 1 Try.f248.ntmps = true by kernel_rfl), _, run_spec_Unpack p⟩

def pf_impl_Unpack : PF := ⟨[.t 2, .t 3, .t 4], .seq (.reg [.s (.box 1 (.t 0)), .s (.mv 2 (.k (.v (.c (.int .i64 0))))), .s (.mv 3 (.k (.v (.c (.int .i64 0))))), .s (.mv 4 (.k (.v (.c .ff))))]) (.seq (.seq (.reg [.s (.fa 5 (.t 1) 0), .s (.load 6 false 1 (.t 5)), .s (.call (some 7) 98 [(.t 6), (.k (.v (.c (.int .i64 0)))), (.k (.v (.c (.int .i64 6))))]), .s (.bnot 8 (.t 7)), .s (.mv 9 (.t 8)), .g 9 false (some 10) (.fa 10 (.t 1) 1), .g 9 false (some 11) (.load 11 false 1 (.t 10)), .g 9 false (some 12) (.call (some 12) 98 [(.t 11), (.k (.v (.c (.int .i64 0)))), (.k (.v (.c (.int .i64 63))))]), .g 9 false (some 13) (.bnot 13 (.t 12)), .s (.pick 14 (.t 9) (.k (.v (.c .tt))) (.t 13)), .s (.mv 15 (.t 14)), .g 15 false (some 16) (.fa 16 (.t 1) 2), .g 15 false (some 17) (.load 17 false 1 (.t 16)), .g 15 false (some 18) (.call (some 18) 98 [(.t 17), (.k (.v (.c (.int .i64 0)))), (.k (.v (.c (.int .i64 63))))]), .g 15 false (some 19) (.bnot 19 (.t 18)), .s (.pick 20 (.t 15) (.k (.v (.c .tt))) (.t 19))]) (.cond (.t 20) (.seq (.reg [.s (.mv 2 (.k (.v (.c (.int .i64 0))))), .s (.mv 3 (.k (.v (.c (.int .i64 0))))), .s (.mv 4 (.k (.v (.c .ff))))]) (.ret)) (.skip))) (.seq (.rgd [] [.s (.fa 21 (.t 1) 1), .s (.load 22 false 1 (.t 21)), .s (.fa 23 (.t 1) 0), .s (.load 24 false 1 (.t 23)), .s (.bin 25 .shl (.t 22) (.t 24)), .s (.fa 26 (.t 1) 1), .s (.load 27 false 1 (.t 26)), .s (.fa 28 (.t 1) 2), .s (.load 29 false 1 (.t 28)), .s (.bin 30 .add (.t 27) (.t 29)), .s (.fa 31 (.t 1) 0), .s (.load 32 false 1 (.t 31)), .s (.bin 33 .shl (.t 30) (.t 32)), .s (.mm 34 false (.k (.v (.c (.int .i64 4096)))) (.t 33)), .s (.mv 2 (.t 25)), .s (.mv 3 (.t 34)), .s (.mv 4 (.k (.v (.c .tt))))] (.tk 0 (.tk 1 (.tk 2 (.tk 3 (.tk 4 (.tk 5 (.tk 6 (.tk 7 (.tk 8 (.tk 9 (.tk 10 (.tk 11 (.tk 12 (.tk 13 (.tk 14 (.tk 15 (.tk 16 (.done none))))))))))))))))))) (.ret)))⟩
def c_impl_Unpack : Fun := ⟨231, [], fun ts K => as1 ts fun t0 => arG pPackedT t0 fun p => K (unpackT (unpack p)) []⟩
theorem run_impl_Unpack (p : Packed) : runK [c_impl_in] (0) [] pf_impl_Unpack [tG (p.tc [])] fun r o => r = unpackT (unpack p) ∧ o = [] := by
  conv => whnf
  repeat' (first | (refine sel_i (fun h => ?_) (fun h => ?_) <;> conv => whnf) | (refine chk_c ?_ ?_ <;> conv => whnf) | (refine And.intro ?_ rfl) | (refine And.intro ?_ ?_ <;> conv => whnf))
  all_goals first
    | (rw [unpack_no (by simp_all [unpackOk])]; rfl)
    | (refine ⟨?_⟩; simp_all [inR]; done)
    | (have hk : unpackOk p = true := by simp_all [unpackOk]
       rw [(unpack_sh hk).1, (unpack_sh hk).2, unpack_yes hk]; rfl)
    | (have hk : unpackOk p = true := by simp_all [unpackOk]
       rw [(unpack_sh hk).1, (unpack_sh hk).2, unpack_yes hk, Int.min_comm]; rfl)
theorem ok_impl_Unpack : FunOk Try.prog c_impl_Unpack := funOk (E := [c_impl_in]) (envOk_cons ok_impl_in (envOk_nil)) mixd Try.func231 (pf := pf_impl_Unpack) (by kernel_rfl) fun ts K h => by
  obtain ⟨t0, e0, h⟩ := as1_out h
  subst e0
  obtain ⟨p, e1, hq⟩ := arG_out rd_packed h
  clear h
  subst e1
  have h := hq
  clear hq
  exact ⟨_, _, h, Nat.le_of_ble_eq_true (show Nat.ble 1 Try.f231.ntmps = true by kernel_rfl), _, run_impl_Unpack p⟩

def pf_spec_Wide : PF := ⟨[.t 4, .t 5], .seq (.reg [.s (.mv 4 (.k (.v (.c (.int .i64 0))))), .s (.mv 5 (.k (.v (.c (.int .i64 0)))))]) (.seq (.reg [.s (.mv 12 (.t 0)), .s (.mv 13 (.t 1)), .s (.call (some 14) 247 [(.t 12), (.t 13)]), .s (.mv 11 (.t 14)), .s (.ext 15 (.t 11) 0), .s (.ext 16 (.t 11) 1), .s (.alloc 6 [.int .i64 0, .int .i64 0, .int .i64 0]), .s (.store 3 (.t 6) (.t 15)), .s (.mv 7 (.t 16))]) (.seq (.seq (.reg [.s (.mv 17 (.t 7)), .s (.bnot 18 (.t 17))]) (.cond (.t 18) (.seq (.seq (.reg [.s (.mv 19 (.t 0)), .s (.mv 20 (.t 1)), .s (.call (some 21) 225 [(.t 19), (.t 20)])]) (.cond (.t 21) (.seq (.reg [.s (.mv 4 (.k (.v (.c (.int .i64 0))))), .s (.mv 5 (.k (.v (.c (.int .i64 4096)))))]) (.ret)) (.skip))) (.seq (.reg [.s (.mv 4 (.k (.v (.c (.int .i64 0))))), .s (.mv 5 (.k (.v (.c (.int .i64 0)))))]) (.ret))) (.skip))) (.seq (.reg [.s (.load 23 true 3 (.t 6)), .s (.call (some 24) 248 [(.t 23)]), .s (.mv 22 (.t 24)), .s (.ext 25 (.t 22) 0), .s (.ext 26 (.t 22) 1), .s (.ext 27 (.t 22) 2), .s (.mv 8 (.t 25)), .s (.mv 9 (.t 26)), .s (.mv 10 (.t 27))]) (.seq (.reg [.s (.mv 28 (.t 8)), .s (.mv 29 (.t 9)), .s (.mv 4 (.t 28)), .s (.mv 5 (.t 29))]) (.ret)))))⟩
def c_spec_Wide : Fun := ⟨227, [], fun ts K => as2 ts fun t0 t1 => arC (pI .i64) t0 fun b => arC (pI .i64) t1 fun t => K (wideT (wide b t)) []⟩
theorem run_spec_Wide (b : Int) (t : Int) : runK [c_spec_BoundsOk, c_spec_Pack, c_spec_Unpack] (0) [] pf_spec_Wide [tI .i64 b, tI .i64 t] fun r o => r = wideT (wide b t) ∧ o = [] := by
  conv => whnf
  repeat' (first | (refine sel_i (fun h => ?_) (fun h => ?_) <;> conv => whnf) | (refine chk_c ?_ ?_ <;> conv => whnf) | (refine And.intro ?_ rfl) | (refine And.intro ?_ ?_ <;> conv => whnf))
  all_goals ((try simp only [etaPacked]); first | (simp_all [wide, wideT]; done) | (have hb := pack_isSome (b := b) (t := t) (by simpa using h); simp_all [wide, wideT]; done))
theorem ok_spec_Wide : FunOk Try.prog c_spec_Wide := funOk (E := [c_spec_BoundsOk, c_spec_Pack, c_spec_Unpack]) (envOk_cons ok_spec_BoundsOk (envOk_cons ok_spec_Pack (envOk_cons ok_spec_Unpack (envOk_nil)))) mixd Try.func227 (pf := pf_spec_Wide) (by kernel_rfl) fun ts K h => by
  obtain ⟨t0, t1, e0, h⟩ := as2_out h
  subst e0
  obtain ⟨b, e1, hq⟩ := arC_out (rd_int .i64) h
  clear h
  subst e1
  have h := hq
  clear hq
  obtain ⟨t, e1, hq⟩ := arC_out (rd_int .i64) h
  clear h
  subst e1
  have h := hq
  clear hq
  exact ⟨_, _, h, Nat.le_of_ble_eq_true (show Nat.ble 2 Try.f227.ntmps = true by kernel_rfl), _, run_spec_Wide b t⟩

def pf_impl_Wide : PF := ⟨[.t 4, .t 5], .seq (.reg [.s (.mv 4 (.k (.v (.c (.int .i64 0))))), .s (.mv 5 (.k (.v (.c (.int .i64 0)))))]) (.seq (.seq (.reg [.s (.mv 11 (.t 0)), .s (.mv 12 (.t 1)), .s (.call (some 13) 205 [(.t 11), (.t 12)]), .s (.bnot 14 (.t 13))]) (.cond (.t 14) (.seq (.reg [.s (.mv 4 (.k (.v (.c (.int .i64 0))))), .s (.mv 5 (.k (.v (.c (.int .i64 0)))))]) (.ret)) (.skip))) (.seq (.reg [.s (.mv 16 (.t 0)), .s (.mv 17 (.t 1)), .s (.call (some 18) 230 [(.t 16), (.t 17)]), .s (.mv 15 (.t 18)), .s (.ext 19 (.t 15) 0), .s (.ext 20 (.t 15) 1), .s (.alloc 6 [.int .i64 0, .int .i64 0, .int .i64 0]), .s (.store 3 (.t 6) (.t 19)), .s (.mv 7 (.t 20))]) (.seq (.seq (.reg [.s (.mv 21 (.t 7)), .s (.bnot 22 (.t 21))]) (.cond (.t 22) (.seq (.reg [.s (.mv 4 (.k (.v (.c (.int .i64 0))))), .s (.mv 5 (.k (.v (.c (.int .i64 4096)))))]) (.ret)) (.skip))) (.seq (.reg [.s (.load 24 true 3 (.t 6)), .s (.call (some 25) 231 [(.t 24)]), .s (.mv 23 (.t 25)), .s (.ext 26 (.t 23) 0), .s (.ext 27 (.t 23) 1), .s (.ext 28 (.t 23) 2), .s (.mv 8 (.t 26)), .s (.mv 9 (.t 27)), .s (.mv 10 (.t 28))]) (.seq (.reg [.s (.mv 29 (.t 8)), .s (.mv 30 (.t 9)), .s (.mv 4 (.t 29)), .s (.mv 5 (.t 30))]) (.ret))))))⟩
def c_impl_Wide : Fun := ⟨204, [], fun ts K => as2 ts fun t0 t1 => arC (pI .i64) t0 fun b => arC (pI .i64) t1 fun t => K (wideT (wide b t)) []⟩
theorem run_impl_Wide (b : Int) (t : Int) : runK [c_impl_BoundsOk, c_impl_Pack, c_impl_Unpack] (0) [] pf_impl_Wide [tI .i64 b, tI .i64 t] fun r o => r = wideT (wide b t) ∧ o = [] := by
  conv => whnf
  repeat' (first | (refine sel_i (fun h => ?_) (fun h => ?_) <;> conv => whnf) | (refine chk_c ?_ ?_ <;> conv => whnf) | (refine And.intro ?_ rfl) | (refine And.intro ?_ ?_ <;> conv => whnf))
  all_goals ((try simp only [etaPacked]); first | (simp_all [wide, wideT]; done) | (have hb := pack_isSome (b := b) (t := t) (by simpa using h); simp_all [wide, wideT]; done))
theorem ok_impl_Wide : FunOk Try.prog c_impl_Wide := funOk (E := [c_impl_BoundsOk, c_impl_Pack, c_impl_Unpack]) (envOk_cons ok_impl_BoundsOk (envOk_cons ok_impl_Pack (envOk_cons ok_impl_Unpack (envOk_nil)))) mixd Try.func204 (pf := pf_impl_Wide) (by kernel_rfl) fun ts K h => by
  obtain ⟨t0, t1, e0, h⟩ := as2_out h
  subst e0
  obtain ⟨b, e1, hq⟩ := arC_out (rd_int .i64) h
  clear h
  subst e1
  have h := hq
  clear hq
  obtain ⟨t, e1, hq⟩ := arC_out (rd_int .i64) h
  clear h
  subst e1
  have h := hq
  clear hq
  exact ⟨_, _, h, Nat.le_of_ble_eq_true (show Nat.ble 2 Try.f204.ntmps = true by kernel_rfl), _, run_impl_Wide b t⟩

def pf_spec_Exact : PF := ⟨[.t 4], .seq (.reg [.s (.mv 4 (.k (.v (.c .ff))))]) (.seq (.reg [.s (.mv 8 (.t 0)), .s (.mv 9 (.t 1)), .s (.call (some 10) 227 [(.t 8), (.t 9)]), .s (.mv 7 (.t 10)), .s (.ext 11 (.t 7) 0), .s (.ext 12 (.t 7) 1), .s (.mv 5 (.t 11)), .s (.mv 6 (.t 12))]) (.seq (.reg [.s (.mv 13 (.t 0)), .s (.mv 14 (.t 1)), .s (.call (some 15) 225 [(.t 13), (.t 14)]), .s (.mv 16 (.t 15)), .g 16 true (some 17) (.mv 17 (.t 5)), .g 16 true (some 18) (.mv 18 (.t 0)), .g 16 true (some 19) (.bin 19 .eql (.t 17) (.t 18)), .s (.pick 20 (.t 16) (.t 19) (.k (.v (.c .ff)))), .s (.mv 21 (.t 20)), .g 21 true (some 22) (.mv 22 (.t 6)), .g 21 true (some 23) (.mv 23 (.t 1)), .g 21 true (some 24) (.bin 24 .eql (.t 22) (.t 23)), .s (.pick 25 (.t 21) (.t 24) (.k (.v (.c .ff)))), .s (.mv 4 (.t 25))]) (.ret)))⟩
def c_spec_Exact : Fun := ⟨203, [], fun ts K => as2 ts fun t0 t1 => arC (pI .i64) t0 fun b => arC (pI .i64) t1 fun t => K (tB (exact_ b t)) []⟩
theorem run_spec_Exact (b : Int) (t : Int) : runK [c_spec_BoundsOk, c_spec_Wide] (0) [] pf_spec_Exact [tI .i64 b, tI .i64 t] fun r o => r = tB (exact_ b t) ∧ o = [] := by
  conv => whnf
  repeat' (first | (refine sel_i (fun h => ?_) (fun h => ?_) <;> conv => whnf) | (refine chk_c ?_ ?_ <;> conv => whnf) | (refine And.intro ?_ rfl) | (refine And.intro ?_ ?_ <;> conv => whnf))
  all_goals ((try simp only [beqI]); simp_all [exact_]; done)
theorem ok_spec_Exact : FunOk Try.prog c_spec_Exact := funOk (E := [c_spec_BoundsOk, c_spec_Wide]) (envOk_cons ok_spec_BoundsOk (envOk_cons ok_spec_Wide (envOk_nil))) mixd Try.func203 (pf := pf_spec_Exact) (by kernel_rfl) fun ts K h => by
  obtain ⟨t0, t1, e0, h⟩ := as2_out h
  subst e0
  obtain ⟨b, e1, hq⟩ := arC_out (rd_int .i64) h
  clear h
  subst e1
  have h := hq
  clear hq
  obtain ⟨t, e1, hq⟩ := arC_out (rd_int .i64) h
  clear h
  subst e1
  have h := hq
  clear hq
  exact ⟨_, _, h, Nat.le_of_ble_eq_true (show Nat.ble 2 Try.f203.ntmps = true by kernel_rfl), _, run_spec_Exact b t⟩

def pf_impl_Exact : PF := ⟨[.t 4], .seq (.reg [.s (.mv 4 (.k (.v (.c .ff))))]) (.seq (.reg [.s (.mv 8 (.t 0)), .s (.mv 9 (.t 1)), .s (.call (some 10) 204 [(.t 8), (.t 9)]), .s (.mv 7 (.t 10)), .s (.ext 11 (.t 7) 0), .s (.ext 12 (.t 7) 1), .s (.mv 5 (.t 11)), .s (.mv 6 (.t 12))]) (.seq (.reg [.s (.mv 13 (.t 0)), .s (.mv 14 (.t 1)), .s (.call (some 15) 205 [(.t 13), (.t 14)]), .s (.mv 16 (.t 15)), .g 16 true (some 17) (.mv 17 (.t 5)), .g 16 true (some 18) (.mv 18 (.t 0)), .g 16 true (some 19) (.bin 19 .eql (.t 17) (.t 18)), .s (.pick 20 (.t 16) (.t 19) (.k (.v (.c .ff)))), .s (.mv 21 (.t 20)), .g 21 true (some 22) (.mv 22 (.t 6)), .g 21 true (some 23) (.mv 23 (.t 1)), .g 21 true (some 24) (.bin 24 .eql (.t 22) (.t 23)), .s (.pick 25 (.t 21) (.t 24) (.k (.v (.c .ff)))), .s (.mv 4 (.t 25))]) (.ret)))⟩
def c_impl_Exact : Fun := ⟨161, [], fun ts K => as2 ts fun t0 t1 => arC (pI .i64) t0 fun b => arC (pI .i64) t1 fun t => K (tB (exact_ b t)) []⟩
theorem run_impl_Exact (b : Int) (t : Int) : runK [c_impl_Wide, c_impl_BoundsOk] (0) [] pf_impl_Exact [tI .i64 b, tI .i64 t] fun r o => r = tB (exact_ b t) ∧ o = [] := by
  conv => whnf
  repeat' (first | (refine sel_i (fun h => ?_) (fun h => ?_) <;> conv => whnf) | (refine chk_c ?_ ?_ <;> conv => whnf) | (refine And.intro ?_ rfl) | (refine And.intro ?_ ?_ <;> conv => whnf))
  all_goals ((try simp only [beqI]); simp_all [exact_]; done)
theorem ok_impl_Exact : FunOk Try.prog c_impl_Exact := funOk (E := [c_impl_Wide, c_impl_BoundsOk]) (envOk_cons ok_impl_Wide (envOk_cons ok_impl_BoundsOk (envOk_nil))) mixd Try.func161 (pf := pf_impl_Exact) (by kernel_rfl) fun ts K h => by
  obtain ⟨t0, t1, e0, h⟩ := as2_out h
  subst e0
  obtain ⟨b, e1, hq⟩ := arC_out (rd_int .i64) h
  clear h
  subst e1
  have h := hq
  clear hq
  obtain ⟨t, e1, hq⟩ := arC_out (rd_int .i64) h
  clear h
  subst e1
  have h := hq
  clear hq
  exact ⟨_, _, h, Nat.le_of_ble_eq_true (show Nat.ble 2 Try.f161.ntmps = true by kernel_rfl), _, run_impl_Exact b t⟩

def pf_spec_KeyOk : PF := ⟨[.t 2], .seq (.reg [.s (.box 1 (.t 0)), .s (.mv 2 (.k (.v (.c .ff))))]) (.seq (.reg [.s (.fa 3 (.t 1) 0), .s (.load 4 false 1 (.t 3)), .s (.fa 5 (.t 1) 1), .s (.load 6 false 1 (.t 5)), .s (.call (some 7) 203 [(.t 4), (.t 6)]), .s (.mv 8 (.t 7)), .g 8 true (some 9) (.fa 9 (.t 1) 2), .g 8 true (some 10) (.load 10 false 1 (.t 9)), .g 8 true (some 11) (.call (some 11) 149 [(.t 10), (.k (.v (.c (.int .i64 0)))), (.k (.v (.c (.int .i64 63))))]), .s (.pick 12 (.t 8) (.t 11) (.k (.v (.c .ff)))), .s (.mv 13 (.t 12)), .g 13 true (some 14) (.fa 14 (.t 1) 3), .g 13 true (some 15) (.load 15 false 1 (.t 14)), .g 13 true (some 16) (.call (some 16) 149 [(.t 15), (.k (.v (.c (.int .i64 0)))), (.k (.v (.c (.int .i64 7))))]), .s (.pick 17 (.t 13) (.t 16) (.k (.v (.c .ff)))), .s (.mv 2 (.t 17))]) (.ret))⟩
def c_spec_KeyOk : Fun := ⟨160, [], fun ts K => as1 ts fun t0 => arG pKeyT t0 fun k => K (tB (keyOk k)) []⟩
theorem run_spec_KeyOk (k : Key) : runK [c_spec_l1In, c_spec_Exact] (0) [] pf_spec_KeyOk [tG (k.tc [])] fun r o => r = tB (keyOk k) ∧ o = [] := by
  conv => whnf
  repeat' (first | (refine sel_i (fun h => ?_) (fun h => ?_) <;> conv => whnf) | (refine chk_c ?_ ?_ <;> conv => whnf) | (refine And.intro ?_ rfl) | (refine And.intro ?_ ?_ <;> conv => whnf))
  all_goals (simp_all [keyOk]; done)
theorem ok_spec_KeyOk : FunOk Try.prog c_spec_KeyOk := funOk (E := [c_spec_l1In, c_spec_Exact]) (envOk_cons ok_spec_l1In (envOk_cons ok_spec_Exact (envOk_nil))) mixd Try.func160 (pf := pf_spec_KeyOk) (by kernel_rfl) fun ts K h => by
  obtain ⟨t0, e0, h⟩ := as1_out h
  subst e0
  obtain ⟨k, e1, hq⟩ := arG_out rd_key h
  clear h
  subst e1
  have h := hq
  clear hq
  exact ⟨_, _, h, Nat.le_of_ble_eq_true (show Nat.ble 1 Try.f160.ntmps = true by kernel_rfl), _, run_spec_KeyOk k⟩

def pf_impl_KeyOk : PF := ⟨[.t 2], .seq (.reg [.s (.box 1 (.t 0)), .s (.mv 2 (.k (.v (.c .ff))))]) (.seq (.reg [.s (.fa 3 (.t 1) 0), .s (.load 4 false 1 (.t 3)), .s (.fa 5 (.t 1) 1), .s (.load 6 false 1 (.t 5)), .s (.call (some 7) 161 [(.t 4), (.t 6)]), .s (.mv 8 (.t 7)), .g 8 true (some 9) (.fa 9 (.t 1) 2), .g 8 true (some 10) (.load 10 false 1 (.t 9)), .g 8 true (some 11) (.call (some 11) 98 [(.t 10), (.k (.v (.c (.int .i64 0)))), (.k (.v (.c (.int .i64 63))))]), .s (.pick 12 (.t 8) (.t 11) (.k (.v (.c .ff)))), .s (.mv 13 (.t 12)), .g 13 true (some 14) (.fa 14 (.t 1) 3), .g 13 true (some 15) (.load 15 false 1 (.t 14)), .g 13 true (some 16) (.call (some 16) 98 [(.t 15), (.k (.v (.c (.int .i64 0)))), (.k (.v (.c (.int .i64 7))))]), .s (.pick 17 (.t 13) (.t 16) (.k (.v (.c .ff)))), .s (.mv 2 (.t 17))]) (.ret))⟩
def c_impl_KeyOk : Fun := ⟨99, [], fun ts K => as1 ts fun t0 => arG pKeyT t0 fun k => K (tB (keyOk k)) []⟩
theorem run_impl_KeyOk (k : Key) : runK [c_impl_in, c_impl_Exact] (0) [] pf_impl_KeyOk [tG (k.tc [])] fun r o => r = tB (keyOk k) ∧ o = [] := by
  conv => whnf
  repeat' (first | (refine sel_i (fun h => ?_) (fun h => ?_) <;> conv => whnf) | (refine chk_c ?_ ?_ <;> conv => whnf) | (refine And.intro ?_ rfl) | (refine And.intro ?_ ?_ <;> conv => whnf))
  all_goals (simp_all [keyOk]; done)
theorem ok_impl_KeyOk : FunOk Try.prog c_impl_KeyOk := funOk (E := [c_impl_in, c_impl_Exact]) (envOk_cons ok_impl_in (envOk_cons ok_impl_Exact (envOk_nil))) mixd Try.func99 (pf := pf_impl_KeyOk) (by kernel_rfl) fun ts K h => by
  obtain ⟨t0, e0, h⟩ := as1_out h
  subst e0
  obtain ⟨k, e1, hq⟩ := arG_out rd_key h
  clear h
  subst e1
  have h := hq
  clear hq
  exact ⟨_, _, h, Nat.le_of_ble_eq_true (show Nat.ble 1 Try.f99.ntmps = true by kernel_rfl), _, run_impl_KeyOk k⟩

def pf_spec_WordOk : PF := ⟨[.t 2], .seq (.reg [.s (.box 1 (.t 0)), .s (.mv 2 (.k (.v (.c .ff))))]) (.seq (.reg [.s (.fa 3 (.t 1) 0), .s (.load 4 false 1 (.t 3)), .s (.call (some 5) 149 [(.t 4), (.k (.v (.c (.int .i64 0)))), (.k (.v (.c (.int .i64 65535))))]), .s (.mv 6 (.t 5)), .g 6 true (some 7) (.fa 7 (.t 1) 1), .g 6 true (some 8) (.load 8 false 1 (.t 7)), .g 6 true (some 9) (.mv 9 (.t 8)), .g 9 true (some 10) (.fa 10 (.t 1) 2), .g 9 true (some 11) (.load 11 true 4 (.t 10)), .g 9 true (some 12) (.call (some 12) 160 [(.t 11)]), .g 6 true (some 13) (.pick 13 (.t 9) (.t 12) (.k (.v (.c .ff)))), .g 6 true (some 14) (.mv 14 (.t 13)), .g 14 false (some 15) (.fa 15 (.t 1) 1), .g 14 false (some 16) (.load 16 false 1 (.t 15)), .g 14 false (some 17) (.bnot 17 (.t 16)), .g 14 false (some 18) (.mv 18 (.t 17)), .g 18 true (some 19) (.fa 19 (.t 1) 2), .g 18 true (some 20) (.load 20 true 4 (.t 19)), .g 18 true (some 21) (.build 21 [.int .i64 0, .int .i64 0, .int .i64 0, .int .i64 0] []), .g 18 true (some 22) (.eqs 22 true [.i, .i, .i, .i] false (.t 20) (.t 21)), .g 14 false (some 23) (.pick 23 (.t 18) (.t 22) (.k (.v (.c .ff)))), .g 6 true (some 24) (.pick 24 (.t 14) (.k (.v (.c .tt))) (.t 23)), .s (.pick 25 (.t 6) (.t 24) (.k (.v (.c .ff)))), .s (.mv 2 (.t 25))]) (.ret))⟩
def c_spec_WordOk : Fun := ⟨90, [], fun ts K => as1 ts fun t0 => arG pWordT t0 fun w => K (tB (wordOk w)) []⟩
theorem run_spec_WordOk (w : Word) : runK [c_spec_l1In, c_spec_KeyOk] (0) [] pf_spec_WordOk [tG (w.tc [])] fun r o => r = tB (wordOk w) ∧ o = [] := by
  conv => whnf
  repeat' (first | (refine sel_i (fun h => ?_) (fun h => ?_) <;> conv => whnf) | (refine chk_c ?_ ?_ <;> conv => whnf) | (refine And.intro ?_ rfl) | (refine And.intro ?_ ?_ <;> conv => whnf))
  all_goals (try simp only [etaKey, keyEq0] at *); first | rfl | (simp_all [wordOk]; done) | trace_state
theorem ok_spec_WordOk : FunOk Try.prog c_spec_WordOk := funOk (E := [c_spec_l1In, c_spec_KeyOk]) (envOk_cons ok_spec_l1In (envOk_cons ok_spec_KeyOk (envOk_nil))) mixd Try.func90 (pf := pf_spec_WordOk) (by kernel_rfl) fun ts K h => by
  obtain ⟨t0, e0, h⟩ := as1_out h
  subst e0
  obtain ⟨w, e1, hq⟩ := arG_out rd_word h
  clear h
  subst e1
  have h := hq
  clear hq
  exact ⟨_, _, h, Nat.le_of_ble_eq_true (show Nat.ble 1 Try.f90.ntmps = true by kernel_rfl), _, run_spec_WordOk w⟩

def pf_impl_WordOk : PF := ⟨[.t 2], .seq (.reg [.s (.box 1 (.t 0)), .s (.mv 2 (.k (.v (.c .ff))))]) (.seq (.seq (.reg [.s (.fa 3 (.t 1) 1), .s (.load 4 false 1 (.t 3))]) (.cond (.t 4) (.seq (.reg [.s (.fa 5 (.t 1) 0), .s (.load 6 false 1 (.t 5)), .s (.call (some 7) 98 [(.t 6), (.k (.v (.c (.int .i64 0)))), (.k (.v (.c (.int .i64 65535))))]), .s (.mv 8 (.t 7)), .g 8 true (some 9) (.fa 9 (.t 1) 2), .g 8 true (some 10) (.load 10 true 4 (.t 9)), .g 8 true (some 11) (.call (some 11) 99 [(.t 10)]), .s (.pick 12 (.t 8) (.t 11) (.k (.v (.c .ff)))), .s (.mv 2 (.t 12))]) (.ret)) (.skip))) (.seq (.reg [.s (.fa 13 (.t 1) 0), .s (.load 14 false 1 (.t 13)), .s (.call (some 15) 98 [(.t 14), (.k (.v (.c (.int .i64 0)))), (.k (.v (.c (.int .i64 65535))))]), .s (.mv 16 (.t 15)), .g 16 true (some 17) (.fa 17 (.t 1) 2), .g 16 true (some 18) (.load 18 true 4 (.t 17)), .g 16 true (some 19) (.build 19 [.int .i64 0, .int .i64 0, .int .i64 0, .int .i64 0] []), .g 16 true (some 20) (.eqs 20 true [.i, .i, .i, .i] false (.t 18) (.t 19)), .s (.pick 21 (.t 16) (.t 20) (.k (.v (.c .ff)))), .s (.mv 2 (.t 21))]) (.ret)))⟩
def c_impl_WordOk : Fun := ⟨28, [], fun ts K => as1 ts fun t0 => arG pWordT t0 fun w => K (tB (wordOk w)) []⟩
theorem run_impl_WordOk (w : Word) : runK [c_impl_in, c_impl_KeyOk] (0) [] pf_impl_WordOk [tG (w.tc [])] fun r o => r = tB (wordOk w) ∧ o = [] := by
  conv => whnf
  repeat' (first | (refine sel_i (fun h => ?_) (fun h => ?_) <;> conv => whnf) | (refine chk_c ?_ ?_ <;> conv => whnf) | (refine And.intro ?_ rfl) | (refine And.intro ?_ ?_ <;> conv => whnf))
  all_goals (try simp only [etaKey, keyEq0] at *); first | rfl | (simp_all [wordOk]; done) | trace_state
theorem ok_impl_WordOk : FunOk Try.prog c_impl_WordOk := funOk (E := [c_impl_in, c_impl_KeyOk]) (envOk_cons ok_impl_in (envOk_cons ok_impl_KeyOk (envOk_nil))) mixd Try.func28 (pf := pf_impl_WordOk) (by kernel_rfl) fun ts K h => by
  obtain ⟨t0, e0, h⟩ := as1_out h
  subst e0
  obtain ⟨w, e1, hq⟩ := arG_out rd_word h
  clear h
  subst e1
  have h := hq
  clear hq
  exact ⟨_, _, h, Nat.le_of_ble_eq_true (show Nat.ble 1 Try.f28.ntmps = true by kernel_rfl), _, run_impl_WordOk w⟩

def pf_impl_MemoryOk_1 : PF := ⟨[.t 2], .seq (.reg [.s (.box 1 (.t 0)), .s (.mv 2 (.k (.v (.c .ff))))]) (.seq (.reg [.s (.load 3 true 6 (.t 1)), .s (.call (some 4) 28 [(.t 3)]), .s (.bnot 5 (.t 4)), .s (.mv 2 (.t 5))]) (.ret))⟩
def c_impl_MemoryOk_1 : Fun := ⟨97, [], fun ts K => as1 ts fun t0 => arG pWordT t0 fun w => K (tB (!wordOk w)) []⟩
theorem run_impl_MemoryOk_1 (w : Word) : runK [c_impl_WordOk] (0) [] pf_impl_MemoryOk_1 [tG (w.tc [])] fun r o => r = tB (!wordOk w) ∧ o = [] := by
  conv => whnf
  repeat' (first
    | exact rfl
    | exact trivial
    | (refine sel_i (fun h => ?_) (fun h => ?_) <;> conv => whnf)
    | (refine chk_c ?_ ?_ <;> conv => whnf)
    | (refine And.intro ?_ ?_ <;> conv => whnf))
theorem ok_impl_MemoryOk_1 : FunOk Try.prog c_impl_MemoryOk_1 := funOk (E := [c_impl_WordOk]) (envOk_cons ok_impl_WordOk (envOk_nil)) mixd Try.func97 (pf := pf_impl_MemoryOk_1) (by kernel_rfl) fun ts K h => by
  obtain ⟨t0, e0, h⟩ := as1_out h
  subst e0
  obtain ⟨w, e1, hq⟩ := arG_out rd_word h
  clear h
  subst e1
  have h := hq
  clear hq
  exact ⟨_, _, h, Nat.le_of_ble_eq_true (show Nat.ble 1 Try.f97.ntmps = true by kernel_rfl), _, run_impl_MemoryOk_1 w⟩

def pf_impl_wordsOk_1 : PF := ⟨[.t 2], .seq (.reg [.s (.box 1 (.t 0)), .s (.mv 2 (.k (.v (.c .ff))))]) (.seq (.reg [.s (.load 3 true 6 (.t 1)), .s (.call (some 4) 28 [(.t 3)]), .s (.bnot 5 (.t 4)), .s (.mv 2 (.t 5))]) (.ret))⟩
def c_impl_wordsOk_1 : Fun := ⟨170, [], fun ts K => as1 ts fun t0 => arG pWordT t0 fun w => K (tB (!wordOk w)) []⟩
theorem run_impl_wordsOk_1 (w : Word) : runK [c_impl_WordOk] (0) [] pf_impl_wordsOk_1 [tG (w.tc [])] fun r o => r = tB (!wordOk w) ∧ o = [] := by
  conv => whnf
  repeat' (first
    | exact rfl
    | exact trivial
    | (refine sel_i (fun h => ?_) (fun h => ?_) <;> conv => whnf)
    | (refine chk_c ?_ ?_ <;> conv => whnf)
    | (refine And.intro ?_ ?_ <;> conv => whnf))
theorem ok_impl_wordsOk_1 : FunOk Try.prog c_impl_wordsOk_1 := funOk (E := [c_impl_WordOk]) (envOk_cons ok_impl_WordOk (envOk_nil)) mixd Try.func170 (pf := pf_impl_wordsOk_1) (by kernel_rfl) fun ts K h => by
  obtain ⟨t0, e0, h⟩ := as1_out h
  subst e0
  obtain ⟨w, e1, hq⟩ := arG_out rd_word h
  clear h
  subst e1
  have h := hq
  clear hq
  exact ⟨_, _, h, Nat.le_of_ble_eq_true (show Nat.ble 1 Try.f170.ntmps = true by kernel_rfl), _, run_impl_wordsOk_1 w⟩

def lb_slices_IndexFunc_Word_0 : PC := .seq (.reg [.s (.bin 9 .lss (.t 8) (.t 7))]) (.seq (.cond (.t 9) (.skip) (.exit 0)) (.seq (.blk 1 (.seq (.reg [.s (.mv 10 (.t 8)), .s (.mv 5 (.t 10))]) (.seq (.reg [.s (.mv 11 (.t 1)), .s (.mv 12 (.t 0)), .s (.mv 13 (.t 5)), .s (.ia 14 .word (.t 12) (.t 13)), .s (.load 15 true 6 (.t 14)), .s (.callv (some 16) (.t 11) [(.t 15)])]) (.cond (.t 16) (.seq (.reg [.s (.mv 17 (.t 5)), .s (.mv 4 (.t 17))]) (.ret)) (.skip))))) (.reg [.s (.bin 18 .add (.t 8) (.k (.v (.c (.int .i64 1))))), .s (.mv 8 (.t 18))])))
def pf_slices_IndexFunc_Word : PF := ⟨[.t 4], .seq (.reg [.s (.mv 4 (.k (.v (.c (.int .i64 0)))))]) (.seq (.seq (.reg [.s (.mv 6 (.t 0)), .s (.len 7 false (.t 6)), .s (.mv 8 (.k (.v (.c (.int .i64 0)))))]) (.blk 0 (.loop [0, 1, 7, 8] lb_slices_IndexFunc_Word_0))) (.seq (.reg [.s (.mv 4 (.k (.v (.c (.int .i64 (-1))))))]) (.ret)))⟩
def c_slices_IndexFunc_Word__impl_MemoryOk_1 : Fun := ⟨159, [], fun ts K => as2 ts fun t0 t1 => arC (pL .word) t0 fun xs => arF0 97 t1 fun g => chk (xs.length ≤ 2147483647) (K (tN (idxOf (fun w => !wordOk w) xs)) [])⟩
theorem run_slices_IndexFunc_Word__impl_MemoryOk_1 (xs : List (FT.Ty .word)) (g : Unit) (hpre : xs.length ≤ 2147483647) : runK [c_impl_MemoryOk_1] (xs.length + 1) [] pf_slices_IndexFunc_Word [tL false .word xs, .fn 97 []] fun r o => r = tN (idxOf (fun w => !wordOk w) xs) ∧ o = [] := by
  conv => whnf
  refine loop (α := Nat) (fun i => ⟨[(0, .v (.c (.sl false .word 0))), (1, .fn 97 []), (7, .v (.c (.int .i64 (xs.length : Int)))), (8, .v (.c (.int .i64 (i : Int))))], [(0, some (.flat false .word none xs))], nums.tail, [], false, []⟩)
      (fun i => i ≤ xs.length ∧ idxOf (fun w => !wordOk w) xs = idxGo (fun w => !wordOk w) (xs.drop i) i) (fun i => xs.length - i) (fun i R hI hR => ?_) 0 _ ⟨by simp, rfl⟩ (by simp)
  obtain ⟨hi, hx⟩ := hI
  conv => whnf
  refine sel_i (fun h2 => ?_) (fun h2 => ?_)
  · have hlt : i < xs.length := by simp at h2; omega
    conv => whnf
    repeat (refine chk_i (by first | omega | (simp; omega)) ?_; conv => whnf)
    refine sel_i (fun h3 => ?_) (fun h3 => ?_)
    · conv => whnf
      rw [hx, idxGo_yes (z := FT.zero .word) hlt (by first | (simp only [keyEq] at h3; exact h3) | (simpa using h3))]
      exact ⟨rfl, rfl⟩
    · conv => whnf
      rw [wrap_id (n := (i : Int) + 1) (by omega) (by omega)]
      exact hR (i + 1) ⟨by omega, by rw [hx, idxGo_no (z := FT.zero .word) hlt (by first | (simp only [keyEq] at h3; exact h3) | (simpa using h3))]⟩ (by omega)
  · conv => whnf
    rw [hx, idxGo_end (by simp at h2; omega)]
    exact ⟨rfl, rfl⟩
theorem ok_slices_IndexFunc_Word__impl_MemoryOk_1 : FunOk Try.prog c_slices_IndexFunc_Word__impl_MemoryOk_1 := funOk (E := [c_impl_MemoryOk_1]) (envOk_cons ok_impl_MemoryOk_1 (envOk_nil)) mixd Try.func159 (pf := pf_slices_IndexFunc_Word) (by kernel_rfl) fun ts K h => by
  obtain ⟨t0, t1, e0, h⟩ := as2_out h
  subst e0
  obtain ⟨xs, e1, hq⟩ := arC_out (rd_l .word) h
  clear h
  subst e1
  have h := hq
  clear hq
  obtain ⟨g, e1, hq⟩ := arF0_out h
  clear h
  subst e1
  have h := hq
  clear hq
  obtain ⟨hpre, h⟩ := chk_o h
  exact ⟨_, _, h, Nat.le_of_ble_eq_true (show Nat.ble 2 Try.f159.ntmps = true by kernel_rfl), _, run_slices_IndexFunc_Word__impl_MemoryOk_1 xs g hpre⟩

def pf_slices_ContainsFunc_Word : PF := ⟨[.t 4], .seq (.reg [.s (.mv 4 (.k (.v (.c .ff))))]) (.seq (.reg [.s (.mv 5 (.t 0)), .s (.mv 6 (.t 1)), .s (.call (some 7) 159 [(.t 5), (.t 6)]), .s (.bin 8 .geq (.t 7) (.k (.v (.c (.int .i64 0))))), .s (.mv 4 (.t 8))]) (.ret))⟩
def c_slices_ContainsFunc_Word__impl_MemoryOk_1 : Fun := ⟨86, [], fun ts K => as2 ts fun t0 t1 => arC (pL .word) t0 fun xs => arF0 97 t1 fun g => chk (xs.length ≤ 2147483647) (K (tB (xs.any (fun w => !wordOk w))) [])⟩
theorem run_slices_ContainsFunc_Word__impl_MemoryOk_1 (xs : List (FT.Ty .word)) (g : Unit) (hpre : xs.length ≤ 2147483647) : runK [c_slices_IndexFunc_Word__impl_MemoryOk_1, c_impl_MemoryOk_1] (0) [] pf_slices_ContainsFunc_Word [tL false .word xs, .fn 97 []] fun r o => r = tB (xs.any (fun w => !wordOk w)) ∧ o = [] := by
  conv => whnf
  repeat' (first | (refine sel_i (fun h => ?_) (fun h => ?_) <;> conv => whnf) | (refine chk_c ?_ ?_ <;> conv => whnf) | (refine And.intro ?_ rfl) | (refine And.intro ?_ ?_ <;> conv => whnf))
  all_goals first | (refine ⟨?_⟩; exact hpre) | exact hpre | (rw [← idxOf_any]; rfl) | (rw [← idxOf_any])
theorem ok_slices_ContainsFunc_Word__impl_MemoryOk_1 : FunOk Try.prog c_slices_ContainsFunc_Word__impl_MemoryOk_1 := funOk (E := [c_slices_IndexFunc_Word__impl_MemoryOk_1, c_impl_MemoryOk_1]) (envOk_cons ok_slices_IndexFunc_Word__impl_MemoryOk_1 (envOk_cons ok_impl_MemoryOk_1 (envOk_nil))) mixd Try.func86 (pf := pf_slices_ContainsFunc_Word) (by kernel_rfl) fun ts K h => by
  obtain ⟨t0, t1, e0, h⟩ := as2_out h
  subst e0
  obtain ⟨xs, e1, hq⟩ := arC_out (rd_l .word) h
  clear h
  subst e1
  have h := hq
  clear hq
  obtain ⟨g, e1, hq⟩ := arF0_out h
  clear h
  subst e1
  have h := hq
  clear hq
  obtain ⟨hpre, h⟩ := chk_o h
  exact ⟨_, _, h, Nat.le_of_ble_eq_true (show Nat.ble 2 Try.f86.ntmps = true by kernel_rfl), _, run_slices_ContainsFunc_Word__impl_MemoryOk_1 xs g hpre⟩

def c_slices_IndexFunc_Word__impl_wordsOk_1 : Fun := ⟨159, [], fun ts K => as2 ts fun t0 t1 => arC (pL .word) t0 fun xs => arF0 170 t1 fun g => chk (xs.length ≤ 2147483647) (K (tN (idxOf (fun w => !wordOk w) xs)) [])⟩
theorem run_slices_IndexFunc_Word__impl_wordsOk_1 (xs : List (FT.Ty .word)) (g : Unit) (hpre : xs.length ≤ 2147483647) : runK [c_impl_wordsOk_1] (xs.length + 1) [] pf_slices_IndexFunc_Word [tL false .word xs, .fn 170 []] fun r o => r = tN (idxOf (fun w => !wordOk w) xs) ∧ o = [] := by
  conv => whnf
  refine loop (α := Nat) (fun i => ⟨[(0, .v (.c (.sl false .word 0))), (1, .fn 170 []), (7, .v (.c (.int .i64 (xs.length : Int)))), (8, .v (.c (.int .i64 (i : Int))))], [(0, some (.flat false .word none xs))], nums.tail, [], false, []⟩)
      (fun i => i ≤ xs.length ∧ idxOf (fun w => !wordOk w) xs = idxGo (fun w => !wordOk w) (xs.drop i) i) (fun i => xs.length - i) (fun i R hI hR => ?_) 0 _ ⟨by simp, rfl⟩ (by simp)
  obtain ⟨hi, hx⟩ := hI
  conv => whnf
  refine sel_i (fun h2 => ?_) (fun h2 => ?_)
  · have hlt : i < xs.length := by simp at h2; omega
    conv => whnf
    repeat (refine chk_i (by first | omega | (simp; omega)) ?_; conv => whnf)
    refine sel_i (fun h3 => ?_) (fun h3 => ?_)
    · conv => whnf
      rw [hx, idxGo_yes (z := FT.zero .word) hlt (by first | (simp only [keyEq] at h3; exact h3) | (simpa using h3))]
      exact ⟨rfl, rfl⟩
    · conv => whnf
      rw [wrap_id (n := (i : Int) + 1) (by omega) (by omega)]
      exact hR (i + 1) ⟨by omega, by rw [hx, idxGo_no (z := FT.zero .word) hlt (by first | (simp only [keyEq] at h3; exact h3) | (simpa using h3))]⟩ (by omega)
  · conv => whnf
    rw [hx, idxGo_end (by simp at h2; omega)]
    exact ⟨rfl, rfl⟩
theorem ok_slices_IndexFunc_Word__impl_wordsOk_1 : FunOk Try.prog c_slices_IndexFunc_Word__impl_wordsOk_1 := funOk (E := [c_impl_wordsOk_1]) (envOk_cons ok_impl_wordsOk_1 (envOk_nil)) mixd Try.func159 (pf := pf_slices_IndexFunc_Word) (by kernel_rfl) fun ts K h => by
  obtain ⟨t0, t1, e0, h⟩ := as2_out h
  subst e0
  obtain ⟨xs, e1, hq⟩ := arC_out (rd_l .word) h
  clear h
  subst e1
  have h := hq
  clear hq
  obtain ⟨g, e1, hq⟩ := arF0_out h
  clear h
  subst e1
  have h := hq
  clear hq
  obtain ⟨hpre, h⟩ := chk_o h
  exact ⟨_, _, h, Nat.le_of_ble_eq_true (show Nat.ble 2 Try.f159.ntmps = true by kernel_rfl), _, run_slices_IndexFunc_Word__impl_wordsOk_1 xs g hpre⟩

def c_slices_ContainsFunc_Word__impl_wordsOk_1 : Fun := ⟨86, [], fun ts K => as2 ts fun t0 t1 => arC (pL .word) t0 fun xs => arF0 170 t1 fun g => chk (xs.length ≤ 2147483647) (K (tB (xs.any (fun w => !wordOk w))) [])⟩
theorem run_slices_ContainsFunc_Word__impl_wordsOk_1 (xs : List (FT.Ty .word)) (g : Unit) (hpre : xs.length ≤ 2147483647) : runK [c_slices_IndexFunc_Word__impl_wordsOk_1, c_impl_wordsOk_1] (0) [] pf_slices_ContainsFunc_Word [tL false .word xs, .fn 170 []] fun r o => r = tB (xs.any (fun w => !wordOk w)) ∧ o = [] := by
  conv => whnf
  repeat' (first | (refine sel_i (fun h => ?_) (fun h => ?_) <;> conv => whnf) | (refine chk_c ?_ ?_ <;> conv => whnf) | (refine And.intro ?_ rfl) | (refine And.intro ?_ ?_ <;> conv => whnf))
  all_goals first | (refine ⟨?_⟩; exact hpre) | exact hpre | (rw [← idxOf_any]; rfl) | (rw [← idxOf_any])
theorem ok_slices_ContainsFunc_Word__impl_wordsOk_1 : FunOk Try.prog c_slices_ContainsFunc_Word__impl_wordsOk_1 := funOk (E := [c_slices_IndexFunc_Word__impl_wordsOk_1, c_impl_wordsOk_1]) (envOk_cons ok_slices_IndexFunc_Word__impl_wordsOk_1 (envOk_cons ok_impl_wordsOk_1 (envOk_nil))) mixd Try.func86 (pf := pf_slices_ContainsFunc_Word) (by kernel_rfl) fun ts K h => by
  obtain ⟨t0, t1, e0, h⟩ := as2_out h
  subst e0
  obtain ⟨xs, e1, hq⟩ := arC_out (rd_l .word) h
  clear h
  subst e1
  have h := hq
  clear hq
  obtain ⟨g, e1, hq⟩ := arF0_out h
  clear h
  subst e1
  have h := hq
  clear hq
  obtain ⟨hpre, h⟩ := chk_o h
  exact ⟨_, _, h, Nat.le_of_ble_eq_true (show Nat.ble 2 Try.f86.ntmps = true by kernel_rfl), _, run_slices_ContainsFunc_Word__impl_wordsOk_1 xs g hpre⟩

def memoryOk (m : Mem) : Bool := decide (m.words.length = 24) && decide (m.gone.length = 24) && m.words.all wordOk
def stateOk (s : State) : Bool := decide (s.regs.length = 8) && s.regs.all wordOk && wordOk s.pc && memoryOk s.mem && inR s.trap 0 5
theorem all_any {α : Type} (p : α → Bool) (xs : List α) : xs.any (fun w => !p w) = !xs.all p := by
  induction xs with
  | nil => rfl
  | cons x xs ih => simp [ih]
theorem all_end {α : Type} {p : α → Bool} {xs : List α} {i : Nat} (h : xs.length ≤ i) (hi : (xs.drop i).all p = xs.all p) : xs.all p = true := by
  rw [← hi, List.drop_eq_nil_of_le h]; rfl
theorem all_no {α : Type} {p : α → Bool} {z : α} {xs : List α} {i : Nat} (h : i < xs.length) (hp : p (xs.getD i z) = false) (hi : (xs.drop i).all p = xs.all p) : xs.all p = false := by
  have e : xs.getD i z = xs[i] := by simp [List.getD_eq_getElem?_getD, h]
  rw [e] at hp; rw [← hi, List.drop_eq_getElem_cons h, List.all_cons, hp]; rfl
theorem all_yes {α : Type} {p : α → Bool} {z : α} {xs : List α} {i : Nat} (h : i < xs.length) (hp : p (xs.getD i z) = true) (hi : (xs.drop i).all p = xs.all p) : (xs.drop (i + 1)).all p = xs.all p := by
  have e : xs.getD i z = xs[i] := by simp [List.getD_eq_getElem?_getD, h]
  rw [e] at hp; rw [← hi, List.drop_eq_getElem_cons h, List.all_cons, hp]; rfl
theorem eqLen (n k : Nat) : ((n : Int) == (k : Int)) = decide (n = k) := by
  rw [Bool.eq_iff_iff]; simp; omega
theorem neLen (n k : Nat) : ((n : Int) != (k : Int)) = !decide (n = k) := by
  rw [bne, eqLen]
theorem eqLen8 (n : Nat) : ((n : Int) == 8) = decide (n = 8) := eqLen n 8
theorem eqLen24 (n : Nat) : ((n : Int) == 24) = decide (n = 24) := eqLen n 24
theorem neLen24 (n : Nat) : ((n : Int) != 24) = !decide (n = 24) := neLen n 24

def pf_impl_MemoryOk : PF := ⟨[.t 2], .seq (.reg [.s (.box 1 (.t 0)), .s (.mv 2 (.k (.v (.c .ff))))]) (.seq (.reg [.s (.fa 3 (.t 1) 0), .s (.load 4 false 1 (.t 3)), .s (.len 5 false (.t 4)), .s (.bin 6 .eql (.t 5) (.k (.v (.c (.int .i64 24))))), .s (.mv 7 (.t 6)), .g 7 true (some 8) (.fa 8 (.t 1) 1), .g 7 true (some 9) (.load 9 false 1 (.t 8)), .g 7 true (some 10) (.len 10 false (.t 9)), .g 7 true (some 11) (.bin 11 .eql (.t 10) (.k (.v (.c (.int .i64 24))))), .s (.pick 12 (.t 7) (.t 11) (.k (.v (.c .ff)))), .s (.mv 13 (.t 12)), .g 13 true (some 14) (.fa 14 (.t 1) 0), .g 13 true (some 15) (.load 15 false 1 (.t 14)), .g 13 true (some 16) (.call (some 16) 86 [(.t 15), (.k (.fn 97 []))]), .g 13 true (some 17) (.bnot 17 (.t 16)), .s (.pick 18 (.t 13) (.t 17) (.k (.v (.c .ff)))), .s (.mv 2 (.t 18))]) (.ret))⟩
def c_impl_MemoryOk : Fun := ⟨27, [], fun ts K => as1 ts fun t0 => arG pMemT t0 fun m => chk (LMem m 2147483647) (K (tB (memoryOk m)) [])⟩
theorem run_impl_MemoryOk (m : Mem) (hpre : LMem m 2147483647) : runK [c_slices_ContainsFunc_Word__impl_MemoryOk_1, c_impl_MemoryOk_1] (0) [] pf_impl_MemoryOk [tG (m.tc false [])] fun r o => r = tB (memoryOk m) ∧ o = [] := by
  obtain ⟨l1, l2⟩ := hpre
  conv => whnf
  repeat' (first | (refine sel_i (fun h => ?_) (fun h => ?_) <;> conv => whnf) | (refine chk_c ?_ ?_ <;> conv => whnf) | (refine And.intro ?_ rfl) | (refine And.intro ?_ ?_ <;> conv => whnf))
  all_goals first | (refine ⟨?_⟩; exact l1) | (simp only [eqLen24, all_any] at *; simp_all [memoryOk]; done)
theorem ok_impl_MemoryOk : FunOk Try.prog c_impl_MemoryOk := funOk (E := [c_slices_ContainsFunc_Word__impl_MemoryOk_1, c_impl_MemoryOk_1]) (envOk_cons ok_slices_ContainsFunc_Word__impl_MemoryOk_1 (envOk_cons ok_impl_MemoryOk_1 (envOk_nil))) mixd Try.func27 (pf := pf_impl_MemoryOk) (by kernel_rfl) fun ts K h => by
  obtain ⟨t0, e0, h⟩ := as1_out h
  subst e0
  obtain ⟨m, e1, hq⟩ := arG_out rd_mem h
  clear h
  subst e1
  have h := hq
  clear hq
  obtain ⟨hpre, h⟩ := chk_o h
  exact ⟨_, _, h, Nat.le_of_ble_eq_true (show Nat.ble 1 Try.f27.ntmps = true by kernel_rfl), _, run_impl_MemoryOk m hpre⟩

def pf_impl_wordsOk : PF := ⟨[.t 2], .seq (.reg [.s (.mv 2 (.k (.v (.c .ff))))]) (.seq (.reg [.s (.mv 3 (.t 0)), .s (.call (some 4) 86 [(.t 3), (.k (.fn 170 []))]), .s (.bnot 5 (.t 4)), .s (.mv 2 (.t 5))]) (.ret))⟩
def c_impl_wordsOk : Fun := ⟨114, [], fun ts K => as1 ts fun t0 => arC (pL .word) t0 fun xs => chk (xs.length ≤ 2147483647) (K (tB (xs.all wordOk)) [])⟩
theorem run_impl_wordsOk (xs : List (FT.Ty .word)) (hpre : xs.length ≤ 2147483647) : runK [c_slices_ContainsFunc_Word__impl_wordsOk_1, c_impl_wordsOk_1] (0) [] pf_impl_wordsOk [tL false .word xs] fun r o => r = tB (xs.all wordOk) ∧ o = [] := by
  conv => whnf
  repeat' (first | (refine sel_i (fun h => ?_) (fun h => ?_) <;> conv => whnf) | (refine chk_c ?_ ?_ <;> conv => whnf) | (refine And.intro ?_ rfl) | (refine And.intro ?_ ?_ <;> conv => whnf))
  all_goals first | (refine ⟨?_⟩; exact hpre) | (rw [all_any]; simp; done)
theorem ok_impl_wordsOk : FunOk Try.prog c_impl_wordsOk := funOk (E := [c_slices_ContainsFunc_Word__impl_wordsOk_1, c_impl_wordsOk_1]) (envOk_cons ok_slices_ContainsFunc_Word__impl_wordsOk_1 (envOk_cons ok_impl_wordsOk_1 (envOk_nil))) mixd Try.func114 (pf := pf_impl_wordsOk) (by kernel_rfl) fun ts K h => by
  obtain ⟨t0, e0, h⟩ := as1_out h
  subst e0
  obtain ⟨xs, e1, hq⟩ := arC_out (rd_l .word) h
  clear h
  subst e1
  have h := hq
  clear hq
  obtain ⟨hpre, h⟩ := chk_o h
  exact ⟨_, _, h, Nat.le_of_ble_eq_true (show Nat.ble 1 Try.f114.ntmps = true by kernel_rfl), _, run_impl_wordsOk xs hpre⟩

def pf_impl_StateOk : PF := ⟨[.t 2], .seq (.reg [.s (.box 1 (.t 0)), .s (.mv 2 (.k (.v (.c .ff))))]) (.seq (.reg [.s (.fa 3 (.t 1) 0), .s (.load 4 false 1 (.t 3)), .s (.len 5 false (.t 4)), .s (.bin 6 .eql (.t 5) (.k (.v (.c (.int .i64 8))))), .s (.mv 7 (.t 6)), .g 7 true (some 8) (.fa 8 (.t 1) 0), .g 7 true (some 9) (.load 9 false 1 (.t 8)), .g 7 true (some 10) (.call (some 10) 114 [(.t 9)]), .s (.pick 11 (.t 7) (.t 10) (.k (.v (.c .ff)))), .s (.mv 12 (.t 11)), .g 12 true (some 13) (.fa 13 (.t 1) 1), .g 12 true (some 14) (.load 14 true 6 (.t 13)), .g 12 true (some 15) (.call (some 15) 28 [(.t 14)]), .s (.pick 16 (.t 12) (.t 15) (.k (.v (.c .ff)))), .s (.mv 17 (.t 16)), .g 17 true (some 18) (.fa 18 (.t 1) 7), .g 17 true (some 19) (.load 19 true 2 (.t 18)), .g 17 true (some 20) (.call (some 20) 27 [(.t 19)]), .s (.pick 21 (.t 17) (.t 20) (.k (.v (.c .ff)))), .s (.mv 22 (.t 21)), .g 22 true (some 23) (.fa 23 (.t 1) 9), .g 22 true (some 24) (.load 24 false 1 (.t 23)), .g 22 true (some 25) (.call (some 25) 98 [(.t 24), (.k (.v (.c (.int .i64 0)))), (.k (.v (.c (.int .i64 5))))]), .s (.pick 26 (.t 22) (.t 25) (.k (.v (.c .ff)))), .s (.mv 2 (.t 26))]) (.ret))⟩
def c_impl_StateOk : Fun := ⟨43, [], fun ts K => as1 ts fun t0 => arG pStateT t0 fun s => chk (LState s 2147483647) (K (tB (stateOk s)) [])⟩
theorem run_impl_StateOk (s : State) (hpre : LState s 2147483647) : runK [c_impl_MemoryOk, c_impl_WordOk, c_impl_in, c_impl_wordsOk] (0) [] pf_impl_StateOk [tG (s.tc false [])] fun r o => r = tB (stateOk s) ∧ o = [] := by
  obtain ⟨l0, l1, l2⟩ := hpre
  conv => whnf
  repeat' (first | (refine sel_i (fun h => ?_) (fun h => ?_) <;> conv => whnf) | (refine chk_c ?_ ?_ <;> conv => whnf) | (refine And.intro ?_ rfl) | (refine And.intro ?_ ?_ <;> conv => whnf))
  all_goals first | (refine ⟨?_⟩; exact l0) | (refine ⟨?_⟩; exact ⟨l1, l2⟩)| (simp only [eqLen8, etaKey, etaWord, etaMemory] at *; simp only [stateOk, *, Bool.true_and, Bool.false_and, Bool.and_false, Bool.and_true]; done)
theorem ok_impl_StateOk : FunOk Try.prog c_impl_StateOk := funOk (E := [c_impl_MemoryOk, c_impl_WordOk, c_impl_in, c_impl_wordsOk]) (envOk_cons ok_impl_MemoryOk (envOk_cons ok_impl_WordOk (envOk_cons ok_impl_in (envOk_cons ok_impl_wordsOk (envOk_nil))))) mixd Try.func43 (pf := pf_impl_StateOk) (by kernel_rfl) fun ts K h => by
  obtain ⟨t0, e0, h⟩ := as1_out h
  subst e0
  obtain ⟨s, e1, hq⟩ := arG_out rd_state h
  clear h
  subst e1
  have h := hq
  clear hq
  obtain ⟨hpre, h⟩ := chk_o h
  exact ⟨_, _, h, Nat.le_of_ble_eq_true (show Nat.ble 1 Try.f43.ntmps = true by kernel_rfl), _, run_impl_StateOk s hpre⟩

def lb_spec_MemoryOk_0 : PC := .seq (.seq (.reg [.s (.mv 14 (.t 3)), .s (.bin 15 .lss (.t 14) (.k (.v (.c (.int .i64 24)))))]) (.cond (.t 15) (.skip) (.exit 0))) (.seq (.blk 1 (.seq (.reg [.s (.fa 18 (.t 1) 0), .s (.load 19 false 1 (.t 18)), .s (.mv 20 (.t 3)), .s (.ia 21 .word (.t 19) (.t 20)), .s (.load 22 true 6 (.t 21)), .s (.call (some 23) 90 [(.t 22)]), .s (.bnot 24 (.t 23))]) (.cond (.t 24) (.seq (.reg [.s (.mv 2 (.k (.v (.c .ff))))]) (.ret)) (.skip)))) (.reg [.s (.mv 16 (.t 3)), .s (.bin 17 .add (.t 16) (.k (.v (.c (.int .i64 1))))), .s (.mv 3 (.t 17))]))
def pf_spec_MemoryOk : PF := ⟨[.t 2], .seq (.reg [.s (.box 1 (.t 0)), .s (.mv 2 (.k (.v (.c .ff))))]) (.seq (.seq (.reg [.s (.fa 4 (.t 1) 0), .s (.load 5 false 1 (.t 4)), .s (.len 6 false (.t 5)), .s (.bin 7 .neq (.t 6) (.k (.v (.c (.int .i64 24))))), .s (.mv 8 (.t 7)), .g 8 false (some 9) (.fa 9 (.t 1) 1), .g 8 false (some 10) (.load 10 false 1 (.t 9)), .g 8 false (some 11) (.len 11 false (.t 10)), .g 8 false (some 12) (.bin 12 .neq (.t 11) (.k (.v (.c (.int .i64 24))))), .s (.pick 13 (.t 8) (.k (.v (.c .tt))) (.t 12))]) (.cond (.t 13) (.seq (.reg [.s (.mv 2 (.k (.v (.c .ff))))]) (.ret)) (.skip))) (.seq (.seq (.reg [.s (.mv 3 (.k (.v (.c (.int .i64 0)))))]) (.blk 0 (.loop [1, 3] lb_spec_MemoryOk_0))) (.seq (.reg [.s (.mv 2 (.k (.v (.c .tt))))]) (.ret))))⟩
def c_spec_MemoryOk : Fun := ⟨89, [], fun ts K => as1 ts fun t0 => arG pMemT t0 fun m => K (tB (memoryOk m)) []⟩
theorem run_spec_MemoryOk (m : Mem) : runK [c_spec_WordOk] (25) [] pf_spec_MemoryOk [tG (m.tc false [])] fun r o => r = tB (memoryOk m) ∧ o = [] := by
  conv => whnf
  repeat' (first | (refine sel_i (fun h => ?_) (fun h => ?_) <;> conv => whnf) | (refine chk_c ?_ ?_ <;> conv => whnf) | (refine And.intro ?_ rfl) | (refine And.intro ?_ ?_ <;> conv => whnf))
  · simp only [neLen24] at h; simp_all [memoryOk]
  · simp only [neLen24] at *; simp_all [memoryOk]
  rename_i h1
  have hw : m.words.length = 24 := by simp only [neLen24] at h1; simpa using h1
  have hg : m.gone.length = 24 := by simp only [neLen24] at h; simpa using h
  have hm : memoryOk m = m.words.all wordOk := by simp [memoryOk, hw, hg]
  rw [hm]
  refine loop (α := Nat) (fun i => ⟨[(1, .v (.c (.ptr 0 0))), (3, .v (.c (.int .i64 (i : Int))))], [(2, some (.flat false .bool none m.gone)), (1, some (.flat false .word none m.words)), (0, some (.box true [.sl false .word 1, .sl false .bool 2]))], nums.tail.tail.tail, [], false, []⟩)
      (fun i => i ≤ 24 ∧ (m.words.drop i).all wordOk = m.words.all wordOk) (fun i => 24 - i) (fun i R hI hR => ?_) 0 _ ⟨by simp, by simp⟩ (by simp)
  obtain ⟨hi, hx⟩ := hI
  conv => whnf
  repeat' (first | (refine sel_i (fun h => ?_) (fun h => ?_) <;> conv => whnf) | (refine chk_c ?_ ?_ <;> conv => whnf) | (refine And.intro ?_ rfl) | (refine And.intro ?_ ?_ <;> conv => whnf))
  all_goals simp only [etaKey, etaWord, Int.toNat_natCast, Bool.not_eq_true', Bool.not_eq_false', decide_eq_true_eq, decide_eq_false_iff_not] at *
  all_goals first
    | (refine ⟨?_⟩; omega)
    | (rw [all_no (by omega) (by assumption) hx]; done)
    | (rw [all_end (by omega) hx]; done)
    | (rw [wrap_id (n := (i : Int) + 1) (by omega) (by omega)]; exact hR (i + 1) ⟨by omega, all_yes (by omega) (by assumption) hx⟩ (by omega))
theorem ok_spec_MemoryOk : FunOk Try.prog c_spec_MemoryOk := funOk (E := [c_spec_WordOk]) (envOk_cons ok_spec_WordOk (envOk_nil)) mixd Try.func89 (pf := pf_spec_MemoryOk) (by kernel_rfl) fun ts K h => by
  obtain ⟨t0, e0, h⟩ := as1_out h
  subst e0
  obtain ⟨m, e1, hq⟩ := arG_out rd_mem h
  clear h
  subst e1
  have h := hq
  clear hq
  exact ⟨_, _, h, Nat.le_of_ble_eq_true (show Nat.ble 1 Try.f89.ntmps = true by kernel_rfl), _, run_spec_MemoryOk m⟩

def lb_spec_StateOk_0 : PC := .seq (.seq (.reg [.s (.mv 4 (.t 3)), .s (.fa 5 (.t 1) 0), .s (.load 6 false 1 (.t 5)), .s (.len 7 false (.t 6)), .s (.bin 8 .lss (.t 4) (.t 7))]) (.cond (.t 8) (.skip) (.exit 0))) (.seq (.blk 1 (.seq (.reg [.s (.fa 11 (.t 1) 0), .s (.load 12 false 1 (.t 11)), .s (.mv 13 (.t 3)), .s (.ia 14 .word (.t 12) (.t 13)), .s (.load 15 true 6 (.t 14)), .s (.call (some 16) 90 [(.t 15)]), .s (.bnot 17 (.t 16))]) (.cond (.t 17) (.seq (.reg [.s (.mv 2 (.k (.v (.c .ff))))]) (.ret)) (.skip)))) (.reg [.s (.mv 9 (.t 3)), .s (.bin 10 .add (.t 9) (.k (.v (.c (.int .i64 1))))), .s (.mv 3 (.t 10))]))
def pf_spec_StateOk : PF := ⟨[.t 2], .seq (.reg [.s (.box 1 (.t 0)), .s (.mv 2 (.k (.v (.c .ff))))]) (.seq (.seq (.reg [.s (.mv 3 (.k (.v (.c (.int .i64 0)))))]) (.blk 0 (.loop [1, 3] lb_spec_StateOk_0))) (.seq (.reg [.s (.fa 18 (.t 1) 0), .s (.load 19 false 1 (.t 18)), .s (.len 20 false (.t 19)), .s (.bin 21 .eql (.t 20) (.k (.v (.c (.int .i64 8))))), .s (.mv 22 (.t 21)), .g 22 true (some 23) (.fa 23 (.t 1) 1), .g 22 true (some 24) (.load 24 true 6 (.t 23)), .g 22 true (some 25) (.call (some 25) 90 [(.t 24)]), .s (.pick 26 (.t 22) (.t 25) (.k (.v (.c .ff)))), .s (.mv 27 (.t 26)), .g 27 true (some 28) (.fa 28 (.t 1) 7), .g 27 true (some 29) (.load 29 true 2 (.t 28)), .g 27 true (some 30) (.call (some 30) 89 [(.t 29)]), .s (.pick 31 (.t 27) (.t 30) (.k (.v (.c .ff)))), .s (.mv 32 (.t 31)), .g 32 true (some 33) (.fa 33 (.t 1) 9), .g 32 true (some 34) (.load 34 false 1 (.t 33)), .g 32 true (some 35) (.call (some 35) 149 [(.t 34), (.k (.v (.c (.int .i64 0)))), (.k (.v (.c (.int .i64 5))))]), .s (.pick 36 (.t 32) (.t 35) (.k (.v (.c .ff)))), .s (.mv 2 (.t 36))]) (.ret)))⟩
def c_spec_StateOk : Fun := ⟨112, [], fun ts K => as1 ts fun t0 => arG pStateT t0 fun s => chk (LState s 2147483647) (K (tB (stateOk s)) [])⟩
theorem run_spec_StateOk (s : State) (hpre : LState s 2147483647) : runK [c_spec_MemoryOk, c_spec_WordOk, c_spec_l1In] (s.regs.length + 1) [] pf_spec_StateOk [tG (s.tc false [])] fun r o => r = tB (stateOk s) ∧ o = [] := by
  obtain ⟨l0, l1, l2⟩ := hpre
  conv => whnf
  refine loop (α := Nat) (fun i => ⟨[(1, .v (.c (.ptr 0 0))), (3, .v (.c (.int .i64 (i : Int))))], [(3, some (.flat false .bool none s.mem.gone)), (2, some (.flat false .word none s.mem.words)), (1, some (.flat false .word none s.regs)),
        (0, some (.box true [.sl false .word 1, .int .i64 s.pc.n, .bool s.pc.is, .int .i64 s.pc.key.base, .int .i64 s.pc.key.top, .int .i64 s.pc.key.perms, .int .i64 s.pc.key.sealed, .sl false .word 2, .sl false .bool 3, .int .i64 s.trap]))], nums.tail.tail.tail.tail, [], false, []⟩)
      (fun i => i ≤ s.regs.length ∧ (s.regs.drop i).all wordOk = s.regs.all wordOk) (fun i => s.regs.length - i) (fun i R hI hR => ?_) 0 _ ⟨by simp, by simp⟩ (by simp)
  obtain ⟨hi, hx⟩ := hI
  conv => whnf
  repeat' (first | (refine sel_i (fun h => ?_) (fun h => ?_) <;> conv => whnf) | (refine chk_c ?_ ?_ <;> conv => whnf) | (refine And.intro ?_ rfl) | (refine And.intro ?_ ?_ <;> conv => whnf))
  all_goals simp only [etaKey, etaWord, etaMemory, eqLen8, Int.toNat_natCast, Bool.not_eq_true', Bool.not_eq_false', decide_eq_true_eq, decide_eq_false_iff_not] at *
  all_goals first
    | (refine ⟨?_⟩; omega)
    | (have e := all_no (by omega) (by assumption) hx; simp only [stateOk, e, Bool.false_and, Bool.and_false]; done)
    | (rw [wrap_id (n := (i : Int) + 1) (by omega) (by omega)]; exact hR (i + 1) ⟨by omega, all_yes (by omega) (by assumption) hx⟩ (by omega))
    | (have e := all_end (by omega) hx; simp only [stateOk, e, *, decide_true, decide_false, Bool.true_and, Bool.false_and, Bool.and_false, Bool.and_true]; done)
    | trace_state
theorem ok_spec_StateOk : FunOk Try.prog c_spec_StateOk := funOk (E := [c_spec_MemoryOk, c_spec_WordOk, c_spec_l1In]) (envOk_cons ok_spec_MemoryOk (envOk_cons ok_spec_WordOk (envOk_cons ok_spec_l1In (envOk_nil)))) mixd Try.func112 (pf := pf_spec_StateOk) (by kernel_rfl) fun ts K h => by
  obtain ⟨t0, e0, h⟩ := as1_out h
  subst e0
  obtain ⟨s, e1, hq⟩ := arG_out rd_state h
  clear h
  subst e1
  have h := hq
  clear hq
  obtain ⟨hpre, h⟩ := chk_o h
  exact ⟨_, _, h, Nat.le_of_ble_eq_true (show Nat.ble 1 Try.f112.ntmps = true by kernel_rfl), _, run_spec_StateOk s hpre⟩

def twoOk (t : Two) : Bool := stateOk (sideState t 0) && stateOk (sideState t 1)

def andI (a b : Int) : Int := IntKind.i64.wrap (BitVec.ofInt IntKind.i64.bits a &&& BitVec.ofInt IntKind.i64.bits b).toNat
theorem andI_eq (a b : Int) : IntKind.i64.wrap (BitVec.ofInt IntKind.i64.bits a &&& BitVec.ofInt IntKind.i64.bits b).toNat = andI a b := rfl
abbrev w0 : Word := ⟨0, false, ⟨0, 0, 0, 0⟩⟩
def hasKey (l : List Word) (k : Key) : Bool := l.any (fun x => decide (x.key = k))
def putW (out : List Word) (w : Word) : List Word := if w.is && wordOk w && !hasKey out w.key then out ++ [w] else out
def scan (ws : List Word) : Nat → Nat → List Word → List Word
  | 0, _, out => out
  | n + 1, c, out => scan ws n (c + 1) (putW out (ws.getD c (FT.zero .word)))
def opens (k : Key) : Bool := !(andI k.perms 1 == 0) && !(andI k.perms 8 == 0)
def closStep (ws out : List Word) (k : Key) : List Word := if opens k then scan ws (min k.top 24 - k.base).toNat k.base.toNat out else out
def closGo (ws : List Word) : Nat → Nat → List Word → List Word
  | 0, _, out => out
  | n + 1, i, out => if i < out.length then closGo ws n (i + 1) (closStep ws out (out.getD i (FT.zero .word)).key) else out
def closFirst (l : List Word) : List Word := l.foldl putW []
def closure (m : Mem) (l : List Word) : List Word := if memoryOk m then closGo m.words (l.length + 24) 0 (closFirst l) else []
theorem getD_mem {ws : List Word} {c : Nat} (h : c < ws.length) : ws.getD c (FT.zero .word) ∈ ws := by
  have e : ws.getD c (FT.zero .word) = ws[c] := by simp [List.getD_eq_getElem?_getD, h]
  rw [e]; exact List.getElem_mem h

def hasP (w : Word) (p : Int) : Bool := w.is && (andI w.key.perms p != 0)
def canSeal (m : Mem) (l : List Word) : Bool := (closure m l).any (fun w => hasP w 32)

def orI (a b : Int) : Int := IntKind.i64.wrap (BitVec.ofInt IntKind.i64.bits a ||| BitVec.ofInt IntKind.i64.bits b).toNat
theorem orI_eq (a b : Int) : IntKind.i64.wrap (BitVec.ofInt IntKind.i64.bits a ||| BitVec.ofInt IntKind.i64.bits b).toNat = orI a b := rfl
def U8s (b : List Int) : Prop := ∀ x ∈ b, 0 ≤ x ∧ x ≤ 255
theorem U8s.at {b : List Int} (h : U8s b) (i : Nat) : 0 ≤ b.getD i 0 ∧ b.getD i 0 ≤ 255 := by
  rw [List.getD_eq_getElem?_getD]
  cases e : b[i]? with
  | none => simp
  | some x => exact h x (List.mem_of_getElem? e)
theorem orI_add {x y : Int} (hx : 0 ≤ x ∧ x ≤ 255) (hy : 0 ≤ y ∧ y ≤ 255) : orI (x * 256) y = x * 256 + y := by
  obtain ⟨m, rfl⟩ := Int.eq_ofNat_of_zero_le hx.1
  obtain ⟨n, rfl⟩ := Int.eq_ofNat_of_zero_le hy.1
  have e : (m * 256 : Nat) ||| n = m * 256 + n := by
    have := Nat.two_pow_add_eq_or_of_lt (i := 8) (b := n) (by omega) m
    rw [Nat.mul_comm]; exact this.symm
  unfold orI
  rw [show ((m : Int) * 256) = ((m * 256 : Nat) : Int) by omega, BitVec.ofInt_natCast, BitVec.ofInt_natCast, BitVec.toNat_or, BitVec.toNat_ofNat, BitVec.toNat_ofNat]
  rw [Nat.mod_eq_of_lt (a := m * 256) (by show _ < 2 ^ 64; omega), Nat.mod_eq_of_lt (a := n) (by show _ < 2 ^ 64; omega), e]
  rw [wrap_id (by omega) (by omega)]; omega
theorem andI_255 {n : Int} (h : 0 ≤ n ∧ n ≤ 65535) : andI n 255 = n % 256 := by
  obtain ⟨m, rfl⟩ := Int.eq_ofNat_of_zero_le h.1
  have e : m &&& 255 = m % 256 := Nat.and_two_pow_sub_one_eq_mod m 8
  unfold andI
  rw [show (255 : Int) = ((255 : Nat) : Int) by rfl, BitVec.ofInt_natCast, BitVec.ofInt_natCast, BitVec.toNat_and, BitVec.toNat_ofNat, BitVec.toNat_ofNat]
  rw [Nat.mod_eq_of_lt (a := m) (by show _ < 2 ^ 64; omega), Nat.mod_eq_of_lt (a := 255) (by decide), e]
  rw [wrap_id (by omega) (by omega)]; omega
theorem u8_id {n : Int} (h : 0 ≤ n ∧ n ≤ 255) : IntKind.u8.wrap n = n := by
  show n % 256 = n
  omega
theorem hi8 {n : Int} (h : 0 ≤ n ∧ n ≤ 65535) : IntKind.u8.wrap (n.fdiv (2 ^ min (Int.toNat 8) IntKind.i64.bits)) = n / 256 := by
  rw [show (2 ^ min (Int.toNat 8) IntKind.i64.bits : Int) = 256 by decide, Int.fdiv_eq_ediv_of_nonneg _ (by decide), u8_id (by omega)]
theorem lo8 {n : Int} (h : 0 ≤ n ∧ n ≤ 65535) : IntKind.u8.wrap (andI n 255) = n % 256 := by
  rw [andI_255 h, u8_id (by omega)]
theorem two8 {x y : Int} (hx : 0 ≤ x ∧ x ≤ 255) (hy : 0 ≤ y ∧ y ≤ 255) : orI (IntKind.i64.wrap (IntKind.i64.wrap x * 2 ^ min (Int.toNat 8) IntKind.i64.bits)) (IntKind.i64.wrap y) = x * 256 + y := by
  rw [show (2 ^ min (Int.toNat 8) IntKind.i64.bits : Int) = 256 by decide, wrap_id (n := x) (by omega) (by omega), wrap_id (n := y) (by omega) (by omega), wrap_id (by omega) (by omega), orI_add hx hy]
def wordBytes (w : Word) : List Int :=
  if wordOk w then (if w.is then [w.n / 256, w.n % 256, 1, w.key.base / 256, w.key.base % 256, w.key.top / 256, w.key.top % 256, w.key.perms, w.key.sealed] else [w.n / 256, w.n % 256, 0]) else []
theorem wordOk_n {w : Word} (h : wordOk w = true) : 0 ≤ w.n ∧ w.n ≤ 65535 := by
  simp only [wordOk, Bool.and_eq_true] at h; simpa [inR] using h.1
theorem wordOk_key {w : Word} (h : wordOk w = true) (h2 : w.is = true) : 0 ≤ w.key.base ∧ w.key.base ≤ w.key.top ∧ w.key.top ≤ 4096 ∧ 0 ≤ w.key.perms ∧ w.key.perms ≤ 63 ∧ 0 ≤ w.key.sealed ∧ w.key.sealed ≤ 7 := by
  simp only [wordOk, h2, if_true, Bool.and_eq_true, keyOk, exact_] at h
  have := bounds_n h.2.1.1.1.1
  have h3 := h.2.1.2
  have h4 := h.2.2
  simp [inR] at h3 h4
  omega
theorem zu8 : FT.zero (.int .u8) = (0 : Int) := rfl
theorem win_at {b : List Int} {o n i : Nat} (h : i < n) : (win b o n).getD i 0 = b.getD (o + i) 0 := by
  simp [win, List.getD_eq_getElem?_getD, List.getElem?_take, h]
theorem win_len {α : Type} {b : List α} {o n : Nat} (h : o + n ≤ b.length) : (win b o n).length = n := by
  simp [win]; omega
theorem U8s.win {b : List Int} (h : U8s b) (o n : Nat) : U8s (win b o n) := fun x hx => h x (List.mem_of_mem_drop (List.mem_of_mem_take hx))
theorem tn2 : Int.toNat 2 = 2 := rfl
theorem tn3 : Int.toNat 3 = 3 := rfl
theorem tn5 : Int.toNat 5 = 5 := rfl
theorem tn7 : Int.toNat 7 = 7 := rfl
theorem tn8 : Int.toNat 8 = 8 := rfl

def pf_spec_WordBytes : PF := ⟨[.t 2], .seq (.reg [.s (.box 1 (.t 0)), .s (.mv 2 (.k (.v (.c (.nils (.int .u8))))))]) (.seq (.seq (.reg [.s (.load 5 true 6 (.t 1)), .s (.call (some 6) 90 [(.t 5)]), .s (.bnot 7 (.t 6))]) (.cond (.t 7) (.seq (.reg [.s (.bs 8 (.int .u8) []), .s (.mv 2 (.t 8))]) (.ret)) (.skip))) (.seq (.reg [.s (.fa 9 (.t 1) 0), .s (.load 10 false 1 (.t 9)), .s (.bin 11 .shr (.t 10) (.k (.v (.c (.int .u64 8))))), .s (.conv 12 .u8 (.t 11)), .s (.fa 13 (.t 1) 0), .s (.load 14 false 1 (.t 13)), .s (.bin 15 .and (.t 14) (.k (.v (.c (.int .i64 255))))), .s (.conv 16 .u8 (.t 15)), .s (.bs 17 (.int .u8) [(.t 12), (.t 16)]), .s (.mv 3 (.t 17))]) (.seq (.seq (.reg [.s (.fa 18 (.t 1) 1), .s (.load 19 false 1 (.t 18)), .s (.bnot 20 (.t 19))]) (.cond (.t 20) (.seq (.reg [.s (.mv 21 (.t 3)), .s (.bs 22 (.int .u8) [(.k (.v (.c (.int .u8 0))))]), .s (.app 23 (.int .u8) (.t 21) (.t 22)), .s (.mv 2 (.t 23))]) (.ret)) (.skip))) (.seq (.reg [.s (.fa 24 (.t 1) 2), .s (.load 25 true 4 (.t 24)), .s (.alloc 4 [.int .i64 0, .int .i64 0, .int .i64 0, .int .i64 0]), .s (.store 4 (.t 4) (.t 25))]) (.seq (.reg [.s (.mv 26 (.t 3)), .s (.fa 27 (.t 4) 0), .s (.load 28 false 1 (.t 27)), .s (.bin 29 .shr (.t 28) (.k (.v (.c (.int .u64 8))))), .s (.conv 30 .u8 (.t 29)), .s (.fa 31 (.t 4) 0), .s (.load 32 false 1 (.t 31)), .s (.bin 33 .and (.t 32) (.k (.v (.c (.int .i64 255))))), .s (.conv 34 .u8 (.t 33)), .s (.fa 35 (.t 4) 1), .s (.load 36 false 1 (.t 35)), .s (.bin 37 .shr (.t 36) (.k (.v (.c (.int .u64 8))))), .s (.conv 38 .u8 (.t 37)), .s (.fa 39 (.t 4) 1), .s (.load 40 false 1 (.t 39)), .s (.bin 41 .and (.t 40) (.k (.v (.c (.int .i64 255))))), .s (.conv 42 .u8 (.t 41)), .s (.fa 43 (.t 4) 2), .s (.load 44 false 1 (.t 43)), .s (.conv 45 .u8 (.t 44)), .s (.fa 46 (.t 4) 3), .s (.load 47 false 1 (.t 46)), .s (.conv 48 .u8 (.t 47)), .s (.bs 49 (.int .u8) [(.k (.v (.c (.int .u8 1)))), (.t 30), (.t 34), (.t 38), (.t 42), (.t 45), (.t 48)]), .s (.app 50 (.int .u8) (.t 26) (.t 49)), .s (.mv 2 (.t 50))]) (.ret))))))⟩
def c_spec_WordBytes : Fun := ⟨40, [], fun ts K => as1 ts fun t0 => arG pWordT t0 fun w => K (tL true (.int .u8) (wordBytes w)) []⟩
theorem run_spec_WordBytes (w : Word) : runK [c_spec_WordOk] (0) [] pf_spec_WordBytes [tG (w.tc [])] fun r o => r = tL true (.int .u8) (wordBytes w) ∧ o = [] := by
  conv => whnf
  repeat' (first | (refine sel_i (fun h => ?_) (fun h => ?_) <;> conv => whnf) | (refine chk_c ?_ ?_ <;> conv => whnf) | (refine And.intro ?_ rfl) | (refine And.intro ?_ ?_ <;> conv => whnf))
  all_goals (try simp only [etaKey, etaWord, Bool.not_eq_true', Bool.not_eq_false', andI_eq] at *)
  all_goals first
    | (refine ⟨?_⟩; decide)
    | (refine ⟨?_⟩; show 3 ≤ 2147483647; decide)
    | (refine ⟨?_⟩; show 9 ≤ 2147483647; decide)
    | (simp only [wordBytes, *]; rfl)
    | (rename_i h1
       have h2 := h
       have hn := wordOk_n h1
       rw [hi8 hn, lo8 hn]
       simp only [wordBytes, h1, h2, if_true, Bool.false_eq_true, if_false]; rfl)
    | (rename_i h1
       have h2 := h
       have hn := wordOk_n h1
       have hk := wordOk_key h1 h2
       rw [hi8 hn, lo8 hn, hi8 (by omega), lo8 (by omega), hi8 (by omega), lo8 (by omega), u8_id (by omega), u8_id (by omega)]
       simp only [wordBytes, h1, h2, if_true]; rfl)
    | trace_state
theorem ok_spec_WordBytes : FunOk Try.prog c_spec_WordBytes := funOk (E := [c_spec_WordOk]) (envOk_cons ok_spec_WordOk (envOk_nil)) mixd Try.func40 (pf := pf_spec_WordBytes) (by kernel_rfl) fun ts K h => by
  obtain ⟨t0, e0, h⟩ := as1_out h
  subst e0
  obtain ⟨w, e1, hq⟩ := arG_out rd_word h
  clear h
  subst e1
  have h := hq
  clear hq
  exact ⟨_, _, h, Nat.le_of_ble_eq_true (show Nat.ble 1 Try.f40.ntmps = true by kernel_rfl), _, run_spec_WordBytes w⟩

def pf_impl_twoOf : PF := ⟨[.t 2], .seq (.reg [.s (.mv 2 (.k (.v (.c (.int .i64 0)))))]) (.seq (.rgd [] [.s (.mv 3 (.t 0)), .s (.ia 4 (.int .u8) (.t 3) (.k (.v (.c (.int .i64 0))))), .s (.load 5 false 1 (.t 4)), .s (.conv 6 .i64 (.t 5)), .s (.bin 7 .shl (.t 6) (.k (.v (.c (.int .u64 8))))), .s (.mv 8 (.t 0)), .s (.ia 9 (.int .u8) (.t 8) (.k (.v (.c (.int .i64 1))))), .s (.load 10 false 1 (.t 9)), .s (.conv 11 .i64 (.t 10)), .s (.bin 12 .or (.t 7) (.t 11)), .s (.mv 2 (.t 12))] (.tk 0 (.tk 1 (.tk 2 (.tk 3 (.tk 4 (.tk 5 (.tk 6 (.tk 7 (.tk 8 (.tk 9 (.tk 10 (.done none))))))))))))) (.ret))⟩
def c_impl_twoOf : Fun := ⟨107, [], fun ts K => as1 ts fun t0 => arC (pL (.int .u8)) t0 fun b => chk (2 ≤ b.length ∧ U8s b) (K (tN (b.getD 0 0 * 256 + b.getD 1 0)) [])⟩
theorem run_impl_twoOf (b : List (FT.Ty (.int .u8))) (hpre : 2 ≤ b.length ∧ U8s b) : runK [] (0) [] pf_impl_twoOf [tL false (.int .u8) b] fun r o => r = tN (b.getD 0 0 * 256 + b.getD 1 0) ∧ o = [] := by
  obtain ⟨l1, l2⟩ := hpre
  conv => whnf
  repeat' (first | (refine sel_i (fun h => ?_) (fun h => ?_) <;> conv => whnf) | (refine chk_c ?_ ?_ <;> conv => whnf) | (refine And.intro ?_ rfl) | (refine And.intro ?_ ?_ <;> conv => whnf))
  all_goals first
    | (refine ⟨?_⟩; decide)
    | (refine ⟨?_⟩; show (0 : Int) ≤ 0 ∧ 0 < (b.length : Int); omega)
    | (refine ⟨?_⟩; show (0 : Int) ≤ 1 ∧ 1 < (b.length : Int); omega)
    | (refine ⟨?_⟩; show 0 < b.length; omega)
    | (refine ⟨?_⟩; show 1 < b.length; omega)
    | (simp only [orI_eq, zu8]; rw [two8 (l2.at _) (l2.at _)]; rfl)
    | trace_state
theorem ok_impl_twoOf : FunOk Try.prog c_impl_twoOf := funOk (E := []) (envOk_nil) mixd Try.func107 (pf := pf_impl_twoOf) (by kernel_rfl) fun ts K h => by
  obtain ⟨t0, e0, h⟩ := as1_out h
  subst e0
  obtain ⟨b, e1, hq⟩ := arC_out (rd_l (.int .u8)) h
  clear h
  subst e1
  have h := hq
  clear hq
  obtain ⟨hpre, h⟩ := chk_o h
  exact ⟨_, _, h, Nat.le_of_ble_eq_true (show Nat.ble 1 Try.f107.ntmps = true by kernel_rfl), _, run_impl_twoOf b hpre⟩

def wordAt (b : List Int) (i : Nat) : Word := ⟨b.getD i 0 * 256 + b.getD (i + 1) 0, true, ⟨b.getD (i + 3) 0 * 256 + b.getD (i + 4) 0, b.getD (i + 5) 0 * 256 + b.getD (i + 6) 0, b.getD (i + 7) 0, b.getD (i + 8) 0⟩⟩
def wordOf (b : List Int) (a : Int) : Option (Word × Int) :=
  if inR a 0 (b.length - 3) then
    (if b.getD (a.toNat + 2) 0 = 0 then some (⟨b.getD a.toNat 0 * 256 + b.getD (a.toNat + 1) 0, false, ⟨0, 0, 0, 0⟩⟩, a + 3)
     else if b.getD (a.toNat + 2) 0 = 1 ∧ a + 9 ≤ b.length ∧ wordOk (wordAt b a.toNat) = true then some (wordAt b a.toNat, a + 9) else none)
  else none
def wordOfT (o : Option (Word × Int)) : Tree := .tup [.g ((o.getD (⟨0, false, ⟨0, 0, 0, 0⟩⟩, 0)).1.tc []), .c (.int .i64 (o.getD (⟨0, false, ⟨0, 0, 0, 0⟩⟩, 0)).2), .c (.bool o.isSome)]
theorem wordOf_out {b : List Int} {a : Int} (h : inR a 0 (b.length - 3) = false) : wordOf b a = none := by simp [wordOf, h]
theorem wordOf_plain {b : List Int} {a : Int} (h : inR a 0 (b.length - 3) = true) (h2 : b.getD (a.toNat + 2) 0 = 0) : wordOf b a = some (⟨b.getD a.toNat 0 * 256 + b.getD (a.toNat + 1) 0, false, ⟨0, 0, 0, 0⟩⟩, a + 3) := by simp only [wordOf, h, h2, if_true]
theorem wordOf_key {b : List Int} {a : Int} (h : inR a 0 (b.length - 3) = true) (h2 : b.getD (a.toNat + 2) 0 = 1) (h3 : a + 9 ≤ b.length) (h4 : wordOk (wordAt b a.toNat) = true) : wordOf b a = some (wordAt b a.toNat, a + 9) := by
  simp only [wordOf, h, h2, h3, h4, if_true]; rfl
theorem wordOf_no {b : List Int} {a : Int} (h2 : b.getD (a.toNat + 2) 0 ≠ 0) (h3 : ¬ (b.getD (a.toNat + 2) 0 = 1 ∧ a + 9 ≤ b.length ∧ wordOk (wordAt b a.toNat) = true)) : wordOf b a = none := by
  simp only [wordOf, h2, h3, if_false]; simp
theorem strI_inj {xs ys : List Int} (hx : U8s xs) (hy : U8s ys) (h : strI xs = strI ys) : xs = ys := by
  have h1 : xs.map (fun n => UInt8.ofNat n.toNat) = ys.map (fun n => UInt8.ofNat n.toNat) := by
    have := congrArg (fun s => s.data.toList) h
    simpa [strI] using this
  clear h
  induction xs generalizing ys with
  | nil => cases ys with
    | nil => rfl
    | cons y ys => simp at h1
  | cons x xs ih => cases ys with
    | nil => simp at h1
    | cons y ys =>
      simp only [List.map_cons, List.cons.injEq] at h1
      have e := ih (fun z hz => hx z (by simp [hz])) (fun z hz => hy z (by simp [hz])) h1.2
      have a1 := hx x (by simp)
      have a2 := hy y (by simp)
      have h2 := congrArg UInt8.toNat h1.1
      simp only [UInt8.toNat_ofNat'] at h2
      rw [e, show x = y by omega]
theorem beqS (a b : ByteArray) : (a == b) = decide (a = b) := by
  obtain ⟨a⟩ := a
  obtain ⟨b⟩ := b
  rw [Bool.eq_iff_iff]
  simp only [decide_eq_true_eq, ByteArray.mk.injEq]
  show (a == b) = true ↔ _
  exact beq_iff_eq
theorem strI_eq {xs ys : List Int} (hx : U8s xs) (hy : U8s ys) : (strI xs == strI ys) = decide (xs = ys) := by
  rw [beqS, Bool.eq_iff_iff]; simp only [decide_eq_true_eq]
  exact ⟨strI_inj hx hy, fun h => by rw [h]⟩
theorem wordBytes_u8 (w : Word) : U8s (wordBytes w) := by
  intro x hx
  unfold wordBytes at hx
  split at hx
  · rename_i h
    have hn := wordOk_n h
    split at hx
    · rename_i h2
      have hk := wordOk_key h h2
      simp at hx
      omega
    · simp at hx
      omega
  · cases hx
theorem win3 {b : List Int} {a : Nat} (h : a + 3 ≤ b.length) : win b a 3 = [b.getD a 0, b.getD (a + 1) 0, b.getD (a + 2) 0] := by
  apply List.ext_getElem
  · rw [win_len h]; rfl
  · intro i h1 h2
    have hi : i < 3 := by simpa using h2
    have e := win_at (b := b) (o := a) hi
    rw [List.getD_eq_getElem?_getD, List.getElem?_eq_getElem h1, Option.getD_some] at e
    rw [e]
    match i, hi with
    | 0, _ => rfl
    | 1, _ => rfl
    | 2, _ => rfl
theorem win9 {b : List Int} {a : Nat} (h : a + 9 ≤ b.length) : win b a 9 = [b.getD a 0, b.getD (a + 1) 0, b.getD (a + 2) 0, b.getD (a + 3) 0, b.getD (a + 4) 0, b.getD (a + 5) 0, b.getD (a + 6) 0, b.getD (a + 7) 0, b.getD (a + 8) 0] := by
  apply List.ext_getElem
  · rw [win_len h]; rfl
  · intro i h1 h2
    have hi : i < 9 := by simpa using h2
    have e := win_at (b := b) (o := a) hi
    rw [List.getD_eq_getElem?_getD, List.getElem?_eq_getElem h1, Option.getD_some] at e
    rw [e]
    match i, hi with
    | 0, _ => rfl
    | 1, _ => rfl
    | 2, _ => rfl
    | 3, _ => rfl
    | 4, _ => rfl
    | 5, _ => rfl
    | 6, _ => rfl
    | 7, _ => rfl
    | 8, _ => rfl
theorem wordOk_plain {b : List Int} (h : U8s b) (i j : Nat) : wordOk ⟨b.getD i 0 * 256 + b.getD j 0, false, ⟨0, 0, 0, 0⟩⟩ = true := by
  have := h.at i; have := h.at j
  generalize b.getD i 0 = x at *
  generalize b.getD j 0 = y at *
  simp [wordOk, inR]; omega
theorem wordBytes_plain {b : List Int} (h : U8s b) (i j : Nat) : wordBytes ⟨b.getD i 0 * 256 + b.getD j 0, false, ⟨0, 0, 0, 0⟩⟩ = [b.getD i 0, b.getD j 0, 0] := by
  have := h.at i; have := h.at j
  simp only [wordBytes, wordOk_plain h, if_true, Bool.false_eq_true, if_false]
  rw [show (b.getD i 0 * 256 + b.getD j 0) / 256 = b.getD i 0 by omega, show (b.getD i 0 * 256 + b.getD j 0) % 256 = b.getD j 0 by omega]
theorem wordBytes_at {b : List Int} (h : U8s b) {a : Nat} (hw : wordOk (wordAt b a) = true) : wordBytes (wordAt b a) = [b.getD a 0, b.getD (a + 1) 0, 1, b.getD (a + 3) 0, b.getD (a + 4) 0, b.getD (a + 5) 0, b.getD (a + 6) 0, b.getD (a + 7) 0, b.getD (a + 8) 0] := by
  have := h.at a; have := h.at (a + 1); have := h.at (a + 3); have := h.at (a + 4); have := h.at (a + 5); have := h.at (a + 6)
  unfold wordBytes
  rw [if_pos hw]
  simp only [wordAt, if_true]
  rw [show (b.getD a 0 * 256 + b.getD (a + 1) 0) / 256 = b.getD a 0 by omega, show (b.getD a 0 * 256 + b.getD (a + 1) 0) % 256 = b.getD (a + 1) 0 by omega,
    show (b.getD (a + 3) 0 * 256 + b.getD (a + 4) 0) / 256 = b.getD (a + 3) 0 by omega, show (b.getD (a + 3) 0 * 256 + b.getD (a + 4) 0) % 256 = b.getD (a + 4) 0 by omega,
    show (b.getD (a + 5) 0 * 256 + b.getD (a + 6) 0) / 256 = b.getD (a + 5) 0 by omega, show (b.getD (a + 5) 0 * 256 + b.getD (a + 6) 0) % 256 = b.getD (a + 6) 0 by omega]

def pf_impl_WordOf : PF := ⟨[.c 4 true 6, .t 5, .t 6], .seq (.reg [.s (.alloc 4 [.int .i64 0, .ff, .int .i64 0, .int .i64 0, .int .i64 0, .int .i64 0]), .s (.mv 5 (.k (.v (.c (.int .i64 0))))), .s (.mv 6 (.k (.v (.c .ff))))]) (.seq (.seq (.reg [.s (.mv 9 (.t 1)), .s (.mv 10 (.t 0)), .s (.len 11 false (.t 10)), .s (.bin 12 .sub (.t 11) (.k (.v (.c (.int .i64 3))))), .s (.call (some 13) 98 [(.t 9), (.k (.v (.c (.int .i64 0)))), (.t 12)]), .s (.bnot 14 (.t 13))]) (.cond (.t 14) (.seq (.reg [.s (.build 15 [.int .i64 0, .ff, .int .i64 0, .int .i64 0, .int .i64 0, .int .i64 0] []), .s (.store 6 (.t 4) (.t 15)), .s (.mv 5 (.k (.v (.c (.int .i64 0))))), .s (.mv 6 (.k (.v (.c .ff))))]) (.ret)) (.skip))) (.seq (.reg [.s (.mv 16 (.t 0)), .s (.mv 17 (.t 1)), .s (.slc 18 (.int .u8) (.t 16) (some (.t 17)) none), .s (.mv 7 (.t 18))]) (.seq (.reg [.s (.mv 19 (.t 7)), .s (.call (some 20) 107 [(.t 19)]), .s (.build 21 [.int .i64 0, .ff, .int .i64 0, .int .i64 0, .int .i64 0, .int .i64 0] [(0, 1, (.t 20))]), .s (.alloc 8 [.int .i64 0, .ff, .int .i64 0, .int .i64 0, .int .i64 0, .int .i64 0]), .s (.store 6 (.t 8) (.t 21))]) (.seq (.blk 0 (.seq (.reg [.s (.mv 23 (.t 7)), .s (.ia 24 (.int .u8) (.t 23) (.k (.v (.c (.int .i64 2))))), .s (.load 25 false 1 (.t 24)), .s (.bin 26 .eql (.t 25) (.k (.v (.c (.int .u8 0))))), .s (.mv 22 (.t 26))]) (.cond (.t 22) (.seq (.reg [.s (.load 27 true 6 (.t 8)), .s (.mv 28 (.t 1)), .s (.bin 29 .add (.t 28) (.k (.v (.c (.int .i64 3))))), .s (.store 6 (.t 4) (.t 27)), .s (.mv 5 (.t 29)), .s (.mv 6 (.k (.v (.c .tt))))]) (.ret)) (.seq (.reg [.s (.mv 31 (.t 7)), .s (.ia 32 (.int .u8) (.t 31) (.k (.v (.c (.int .i64 2))))), .s (.load 33 false 1 (.t 32)), .s (.bin 34 .neq (.t 33) (.k (.v (.c (.int .u8 1))))), .s (.mv 35 (.t 34)), .g 35 false (some 36) (.mv 36 (.t 7)), .g 35 false (some 37) (.len 37 false (.t 36)), .g 35 false (some 38) (.bin 38 .lss (.t 37) (.k (.v (.c (.int .i64 9))))), .s (.pick 39 (.t 35) (.k (.v (.c .tt))) (.t 38)), .s (.mv 30 (.t 39))]) (.cond (.t 30) (.seq (.reg [.s (.build 40 [.int .i64 0, .ff, .int .i64 0, .int .i64 0, .int .i64 0, .int .i64 0] []), .s (.store 6 (.t 4) (.t 40)), .s (.mv 5 (.k (.v (.c (.int .i64 0))))), .s (.mv 6 (.k (.v (.c .ff))))]) (.ret)) (.skip)))))) (.seq (.reg [.s (.fa 41 (.t 8) 1), .s (.store 1 (.t 41) (.k (.v (.c .tt))))]) (.seq (.rgd [] [.s (.mv 42 (.t 7)), .s (.slc 43 (.int .u8) (.t 42) (some (.k (.v (.c (.int .i64 3))))) none), .s (.call (some 44) 107 [(.t 43)]), .s (.mv 45 (.t 7)), .s (.slc 46 (.int .u8) (.t 45) (some (.k (.v (.c (.int .i64 5))))) none), .s (.call (some 47) 107 [(.t 46)]), .s (.mv 48 (.t 7)), .s (.ia 49 (.int .u8) (.t 48) (.k (.v (.c (.int .i64 7))))), .s (.load 50 false 1 (.t 49)), .s (.conv 51 .i64 (.t 50)), .s (.mv 52 (.t 7)), .s (.ia 53 (.int .u8) (.t 52) (.k (.v (.c (.int .i64 8))))), .s (.load 54 false 1 (.t 53)), .s (.conv 55 .i64 (.t 54)), .s (.build 56 [.int .i64 0, .int .i64 0, .int .i64 0, .int .i64 0] [(0, 1, (.t 44)), (1, 1, (.t 47)), (2, 1, (.t 51)), (3, 1, (.t 55))]), .s (.fa 57 (.t 8) 2), .s (.store 4 (.t 57) (.t 56))] (.tk 0 (.tk 3 (.tk 6 (.tk 7 (.tk 8 (.tk 9 (.tk 10 (.tk 11 (.tk 12 (.tk 13 (.alt 1 false (.alt 2 false (.one 4 false (.one 5 false (.tk 14 (.tk 15 (.one 16 true (.done (some [1, 4, 8]))))))) (.alt 4 false (.one 2 false (.one 5 false (.tk 14 (.tk 15 (.one 16 true (.done (some [1, 4, 8]))))))) (.nil))) (.alt 4 false (.one 1 false (.one 2 false (.one 5 false (.tk 14 (.tk 15 (.one 16 true (.done (some [1, 4, 8])))))))) (.nil)))))))))))))) (.seq (.seq (.reg [.s (.load 58 true 6 (.t 8)), .s (.call (some 59) 28 [(.t 58)]), .s (.bnot 60 (.t 59))]) (.cond (.t 60) (.seq (.reg [.s (.build 61 [.int .i64 0, .ff, .int .i64 0, .int .i64 0, .int .i64 0, .int .i64 0] []), .s (.store 6 (.t 4) (.t 61)), .s (.mv 5 (.k (.v (.c (.int .i64 0))))), .s (.mv 6 (.k (.v (.c .ff))))]) (.ret)) (.skip))) (.seq (.reg [.s (.load 62 true 6 (.t 8)), .s (.mv 63 (.t 1)), .s (.bin 64 .add (.t 63) (.k (.v (.c (.int .i64 9))))), .s (.store 6 (.t 4) (.t 62)), .s (.mv 5 (.t 64)), .s (.mv 6 (.k (.v (.c .tt))))]) (.ret)))))))))⟩
def c_impl_WordOf : Fun := ⟨33, [], fun ts K => as2 ts fun t0 t1 => arC (pL (.int .u8)) t0 fun b => arC (pI .i64) t1 fun at_ => chk (b.length ≤ 1048576 ∧ U8s b ∧ wfI .i64 at_) (K (wordOfT (wordOf b at_)) [])⟩
theorem run_impl_WordOf (b : List (FT.Ty (.int .u8))) (at_ : Int) (hpre : b.length ≤ 1048576 ∧ U8s b ∧ wfI .i64 at_) : runK [c_impl_WordOk, c_impl_in, c_impl_twoOf] (0) [] pf_impl_WordOf [tL false (.int .u8) b, tI .i64 at_] fun r o => r = wordOfT (wordOf b at_) ∧ o = [] := by
  obtain ⟨l1, l2, l3⟩ := hpre
  conv => whnf
  rw [wrap_id (n := (b.length : Int) - 3) (by omega) (by omega)]
  refine sel_i (fun h => ?_) (fun h => ?_)
  · conv => whnf
    rw [wordOf_out (by simpa using h)]
    exact ⟨rfl, rfl⟩
  have hr : inR at_ 0 (b.length - 3) = true := by simpa using h
  clear h
  have hb : 0 ≤ at_ ∧ at_ ≤ b.length - 3 := by simpa [inR] using hr
  clear l3
  obtain ⟨a, rfl⟩ := Int.eq_ofNat_of_zero_le hb.1
  have e1 : ((b.length : Int) - (a : Int)).toNat = b.length - a := by omega
  conv => whnf
  repeat' (first | (refine sel_i (fun h => ?_) (fun h => ?_) <;> conv => whnf) | (refine chk_c ?_ ?_ <;> conv => whnf) | (refine And.intro ?_ rfl) | (refine And.intro ?_ ?_ <;> conv => whnf))
  all_goals simp only [e1, zu8, tn2, tn3, tn5, tn7, tn8, Nat.zero_add, Int.toNat_natCast, etaKey, etaWord, beqI, decide_eq_true_eq, decide_eq_false_iff_not] at *
  all_goals first
    | (refine ⟨?_⟩; omega)
    | (refine ⟨?_⟩; exact ⟨by rw [win_len (by omega)]; omega, l2.win _ _⟩)
    | (rw [win_at (by omega), win_at (by omega), wrap_id (n := (a : Int) + 3) (by omega) (by omega), wordOf_plain hr (by assumption)]; rfl)
    | (rename_i g1
       rw [wordOf_no (b := b) (a := (a : Int)) g1 (fun q => by have := q.1; simp only [Int.toNat_natCast] at this; rw [this] at h; cases h)]; rfl)
    | (rename_i g1 g2; rw [wordOf_no (b := b) (a := (a : Int)) g1 (fun q => by omega)]; rfl)
    | skip
  all_goals
    (rename_i g1 g2 g3
     have g2 : b.getD (a + 2) 0 = 1 := by simpa using g2
     rw [wrap_id (n := b.getD (a + 7) 0) (by have := l2.at (a + 7); omega) (by have := l2.at (a + 7); omega), wrap_id (n := b.getD (a + 8) 0) (by have := l2.at (a + 8); omega) (by have := l2.at (a + 8); omega)] at h
     simp (disch := omega) only [win_at] at h)
  · have h' : (!wordOk (wordAt b a)) = true := h
    rw [wordOf_no (b := b) (a := (a : Int)) g1 (fun q => by have := q.2.2; simp only [Int.toNat_natCast] at this; rw [this] at h'; cases h')]; rfl
  · have h' : (!wordOk (wordAt b a)) = false := h
    rw [wrap_id (n := b.getD (a + 7) 0) (by have := l2.at (a + 7); omega) (by have := l2.at (a + 7); omega), wrap_id (n := b.getD (a + 8) 0) (by have := l2.at (a + 8); omega) (by have := l2.at (a + 8); omega), wrap_id (n := (a : Int) + 9) (by omega) (by omega)]
    simp (disch := omega) only [win_at]
    rw [wordOf_key hr g2 (by omega) (by simpa using h')]; rfl
theorem ok_impl_WordOf : FunOk Try.prog c_impl_WordOf := funOk (E := [c_impl_WordOk, c_impl_in, c_impl_twoOf]) (envOk_cons ok_impl_WordOk (envOk_cons ok_impl_in (envOk_cons ok_impl_twoOf (envOk_nil)))) mixd Try.func33 (pf := pf_impl_WordOf) (by kernel_rfl) fun ts K h => by
  obtain ⟨t0, t1, e0, h⟩ := as2_out h
  subst e0
  obtain ⟨b, e1, hq⟩ := arC_out (rd_l (.int .u8)) h
  clear h
  subst e1
  have h := hq
  clear hq
  obtain ⟨at_, e1, hq⟩ := arC_out (rd_int .i64) h
  clear h
  subst e1
  have h := hq
  clear hq
  obtain ⟨hpre, h⟩ := chk_o h
  exact ⟨_, _, h, Nat.le_of_ble_eq_true (show Nat.ble 2 Try.f33.ntmps = true by kernel_rfl), _, run_impl_WordOf b at_ hpre⟩

def pf_spec_WordOf : PF := ⟨[.c 4 true 6, .t 5, .t 6], .seq (.reg [.s (.alloc 4 [.int .i64 0, .ff, .int .i64 0, .int .i64 0, .int .i64 0, .int .i64 0]), .s (.mv 5 (.k (.v (.c (.int .i64 0))))), .s (.mv 6 (.k (.v (.c .ff))))]) (.seq (.seq (.reg [.s (.mv 9 (.t 1)), .s (.bin 10 .lss (.t 9) (.k (.v (.c (.int .i64 0))))), .s (.mv 11 (.t 10)), .g 11 false (some 12) (.mv 12 (.t 1)), .g 11 false (some 13) (.mv 13 (.t 0)), .g 11 false (some 14) (.len 14 false (.t 13)), .g 11 false (some 15) (.bin 15 .sub (.t 14) (.k (.v (.c (.int .i64 3))))), .g 11 false (some 16) (.bin 16 .gtr (.t 12) (.t 15)), .s (.pick 17 (.t 11) (.k (.v (.c .tt))) (.t 16))]) (.cond (.t 17) (.seq (.reg [.s (.build 18 [.int .i64 0, .ff, .int .i64 0, .int .i64 0, .int .i64 0, .int .i64 0] []), .s (.store 6 (.t 4) (.t 18)), .s (.mv 5 (.k (.v (.c (.int .i64 0))))), .s (.mv 6 (.k (.v (.c .ff))))]) (.ret)) (.skip))) (.seq (.rgd [] [.s (.mv 19 (.t 0)), .s (.mv 20 (.t 1)), .s (.ia 21 (.int .u8) (.t 19) (.t 20)), .s (.load 22 false 1 (.t 21)), .s (.conv 23 .i64 (.t 22)), .s (.bin 24 .shl (.t 23) (.k (.v (.c (.int .u64 8))))), .s (.mv 25 (.t 0)), .s (.mv 26 (.t 1)), .s (.bin 27 .add (.t 26) (.k (.v (.c (.int .i64 1))))), .s (.ia 28 (.int .u8) (.t 25) (.t 27)), .s (.load 29 false 1 (.t 28)), .s (.conv 30 .i64 (.t 29)), .s (.bin 31 .or (.t 24) (.t 30)), .s (.build 32 [.int .i64 0, .ff, .int .i64 0, .int .i64 0, .int .i64 0, .int .i64 0] [(0, 1, (.t 31))]), .s (.alloc 7 [.int .i64 0, .ff, .int .i64 0, .int .i64 0, .int .i64 0, .int .i64 0]), .s (.store 6 (.t 7) (.t 32))] (.tk 0 (.tk 1 (.tk 2 (.tk 3 (.tk 4 (.tk 5 (.tk 6 (.tk 7 (.tk 8 (.tk 9 (.tk 10 (.tk 11 (.tk 12 (.tk 13 (.one 14 false (.one 15 true (.done none)))))))))))))))))) (.seq (.reg [.s (.mv 33 (.t 1)), .s (.bin 34 .add (.t 33) (.k (.v (.c (.int .i64 3))))), .s (.mv 8 (.t 34))]) (.seq (.seq (.reg [.s (.mv 35 (.t 0)), .s (.mv 36 (.t 1)), .s (.bin 37 .add (.t 36) (.k (.v (.c (.int .i64 2))))), .s (.ia 38 (.int .u8) (.t 35) (.t 37)), .s (.load 39 false 1 (.t 38)), .s (.bin 40 .neq (.t 39) (.k (.v (.c (.int .u8 0)))))]) (.cond (.t 40) (.seq (.seq (.reg [.s (.mv 41 (.t 1)), .s (.mv 42 (.t 0)), .s (.len 43 false (.t 42)), .s (.bin 44 .sub (.t 43) (.k (.v (.c (.int .i64 9))))), .s (.bin 45 .gtr (.t 41) (.t 44))]) (.cond (.t 45) (.seq (.reg [.s (.build 46 [.int .i64 0, .ff, .int .i64 0, .int .i64 0, .int .i64 0, .int .i64 0] []), .s (.store 6 (.t 4) (.t 46)), .s (.mv 5 (.k (.v (.c (.int .i64 0))))), .s (.mv 6 (.k (.v (.c .ff))))]) (.ret)) (.skip))) (.seq (.reg [.s (.fa 47 (.t 7) 1), .s (.store 1 (.t 47) (.k (.v (.c .tt))))]) (.seq (.rgd [] [.s (.mv 48 (.t 0)), .s (.mv 49 (.t 1)), .s (.bin 50 .add (.t 49) (.k (.v (.c (.int .i64 3))))), .s (.ia 51 (.int .u8) (.t 48) (.t 50)), .s (.load 52 false 1 (.t 51)), .s (.conv 53 .i64 (.t 52)), .s (.bin 54 .shl (.t 53) (.k (.v (.c (.int .u64 8))))), .s (.mv 55 (.t 0)), .s (.mv 56 (.t 1)), .s (.bin 57 .add (.t 56) (.k (.v (.c (.int .i64 4))))), .s (.ia 58 (.int .u8) (.t 55) (.t 57)), .s (.load 59 false 1 (.t 58)), .s (.conv 60 .i64 (.t 59)), .s (.bin 61 .or (.t 54) (.t 60)), .s (.mv 62 (.t 0)), .s (.mv 63 (.t 1)), .s (.bin 64 .add (.t 63) (.k (.v (.c (.int .i64 5))))), .s (.ia 65 (.int .u8) (.t 62) (.t 64)), .s (.load 66 false 1 (.t 65)), .s (.conv 67 .i64 (.t 66)), .s (.bin 68 .shl (.t 67) (.k (.v (.c (.int .u64 8))))), .s (.mv 69 (.t 0)), .s (.mv 70 (.t 1)), .s (.bin 71 .add (.t 70) (.k (.v (.c (.int .i64 6))))), .s (.ia 72 (.int .u8) (.t 69) (.t 71)), .s (.load 73 false 1 (.t 72)), .s (.conv 74 .i64 (.t 73)), .s (.bin 75 .or (.t 68) (.t 74)), .s (.mv 76 (.t 0)), .s (.mv 77 (.t 1)), .s (.bin 78 .add (.t 77) (.k (.v (.c (.int .i64 7))))), .s (.ia 79 (.int .u8) (.t 76) (.t 78)), .s (.load 80 false 1 (.t 79)), .s (.conv 81 .i64 (.t 80)), .s (.mv 82 (.t 0)), .s (.mv 83 (.t 1)), .s (.bin 84 .add (.t 83) (.k (.v (.c (.int .i64 8))))), .s (.ia 85 (.int .u8) (.t 82) (.t 84)), .s (.load 86 false 1 (.t 85)), .s (.conv 87 .i64 (.t 86)), .s (.build 88 [.int .i64 0, .int .i64 0, .int .i64 0, .int .i64 0] [(0, 1, (.t 61)), (1, 1, (.t 75)), (2, 1, (.t 81)), (3, 1, (.t 87))]), .s (.fa 89 (.t 7) 2), .s (.store 4 (.t 89) (.t 88))] (.tk 0 (.tk 1 (.tk 2 (.tk 3 (.tk 4 (.tk 5 (.tk 6 (.tk 7 (.tk 8 (.tk 9 (.tk 10 (.tk 11 (.tk 12 (.tk 13 (.tk 14 (.tk 15 (.tk 16 (.tk 17 (.tk 18 (.tk 19 (.tk 20 (.tk 21 (.tk 22 (.tk 23 (.tk 24 (.tk 25 (.tk 26 (.tk 27 (.tk 28 (.tk 29 (.tk 30 (.tk 31 (.tk 32 (.tk 33 (.tk 34 (.tk 35 (.tk 36 (.tk 37 (.tk 38 (.tk 39 (.tk 40 (.tk 41 (.one 42 true (.done none))))))))))))))))))))))))))))))))))))))))))))) (.reg [.s (.mv 90 (.t 1)), .s (.bin 91 .add (.t 90) (.k (.v (.c (.int .i64 9))))), .s (.mv 8 (.t 91))])))) (.skip))) (.seq (.seq (.rgd [] [.s (.load 92 true 6 (.t 7)), .s (.call (some 93) 90 [(.t 92)]), .s (.bnot 94 (.t 93)), .s (.mv 95 (.t 94)), .g 95 false (some 96) (.load 96 true 6 (.t 7)), .g 95 false (some 97) (.call (some 97) 40 [(.t 96)]), .g 95 false (some 98) (.b2s 98 (.t 97)), .g 95 false (some 99) (.mv 99 (.t 0)), .g 95 false (some 100) (.mv 100 (.t 1)), .g 95 false (some 101) (.mv 101 (.t 8)), .g 95 false (some 102) (.slc 102 (.int .u8) (.t 99) (some (.t 100)) (some (.t 101))), .g 95 false (some 103) (.b2s 103 (.t 102)), .g 95 false (some 104) (.eqs 104 false [.s] true (.t 98) (.t 103)), .s (.pick 105 (.t 95) (.k (.v (.c .tt))) (.t 104))] (.tk 0 (.one 1 true (.tk 2 (.tk 3 (.tk 4 (.tk 7 (.tk 8 (.tk 9 (.alt 5 false (.alt 6 false (.one 10 false (.one 11 false (.tk 12 (.tk 13 (.done (some [4, 7, 8, 105])))))) (.alt 10 false (.alt 6 false (.one 11 false (.tk 12 (.tk 13 (.done (some [4, 7, 8, 105]))))) (.alt 11 false (.one 6 true (.tk 12 (.tk 13 (.done (some [4, 7, 8, 105]))))) (.nil))) (.nil))) (.alt 10 false (.alt 5 false (.alt 6 false (.one 11 false (.tk 12 (.tk 13 (.done (some [4, 7, 8, 105]))))) (.alt 11 false (.one 6 true (.tk 12 (.tk 13 (.done (some [4, 7, 8, 105]))))) (.nil))) (.alt 11 false (.one 5 true (.one 6 true (.tk 12 (.tk 13 (.done (some [4, 7, 8, 105])))))) (.nil))) (.nil)))))))))))) (.cond (.t 105) (.seq (.reg [.s (.build 106 [.int .i64 0, .ff, .int .i64 0, .int .i64 0, .int .i64 0, .int .i64 0] []), .s (.store 6 (.t 4) (.t 106)), .s (.mv 5 (.k (.v (.c (.int .i64 0))))), .s (.mv 6 (.k (.v (.c .ff))))]) (.ret)) (.skip))) (.seq (.reg [.s (.load 107 true 6 (.t 7)), .s (.mv 108 (.t 8)), .s (.store 6 (.t 4) (.t 107)), .s (.mv 5 (.t 108)), .s (.mv 6 (.k (.v (.c .tt))))]) (.ret)))))))⟩
def c_spec_WordOf : Fun := ⟨34, [], fun ts K => as2 ts fun t0 t1 => arC (pL (.int .u8)) t0 fun b => arC (pI .i64) t1 fun at_ => chk (b.length ≤ 1048576 ∧ U8s b ∧ wfI .i64 at_) (K (wordOfT (wordOf b at_)) [])⟩
theorem run_spec_WordOf (b : List (FT.Ty (.int .u8))) (at_ : Int) (hpre : b.length ≤ 1048576 ∧ U8s b ∧ wfI .i64 at_) : runK [c_spec_WordBytes, c_spec_WordOk] (0) [] pf_spec_WordOf [tL false (.int .u8) b, tI .i64 at_] fun r o => r = wordOfT (wordOf b at_) ∧ o = [] := by
  obtain ⟨l1, l2, l3⟩ := hpre
  conv => whnf
  refine sel_i (fun h => ?_) (fun h => ?_)
  · conv => whnf
    rw [wordOf_out (by simp [inR]; simp at h; omega)]
    exact ⟨rfl, rfl⟩
  simp only [decide_eq_false_iff_not, Int.not_lt] at h
  obtain ⟨a, rfl⟩ := Int.eq_ofNat_of_zero_le h
  conv => whnf
  rw [wrap_id (n := (b.length : Int) - 3) (by omega) (by omega)]
  refine sel_i (fun h2 => ?_) (fun h2 => ?_)
  · conv => whnf
    rw [wordOf_out (by simp [inR]; simp at h2; omega)]
    exact ⟨rfl, rfl⟩
  have hb : (a : Int) ≤ b.length - 3 := by simpa using h2
  have hr : inR (a : Int) 0 (b.length - 3) = true := by simp [inR]; omega
  clear h h2
  have w9 : IntKind.i64.wrap ((b.length : Int) - 9) = (b.length : Int) - 9 := wrap_id (by omega) (by omega)
  have w7 : IntKind.i64.wrap (b.getD (a + 7) 0) = b.getD (a + 7) 0 := wrap_id (by have := l2.at (a + 7); omega) (by have := l2.at (a + 7); omega)
  have w8 : IntKind.i64.wrap (b.getD (a + 8) 0) = b.getD (a + 8) 0 := wrap_id (by have := l2.at (a + 8); omega) (by have := l2.at (a + 8); omega)
  have c9 : (strI (wordBytes (wordAt b a)) == strI (win b a 9)) = decide (wordBytes (wordAt b a) = win b a 9) := by rw [strI_eq (wordBytes_u8 _) (l2.win _ _)]
  have c3 : (strI (wordBytes ⟨b.getD a 0 * 256 + b.getD (a + 1) 0, false, ⟨0, 0, 0, 0⟩⟩) == strI (win b a 3)) = decide (wordBytes ⟨b.getD a 0 * 256 + b.getD (a + 1) 0, false, ⟨0, 0, 0, 0⟩⟩ = win b a 3) := by rw [strI_eq (wordBytes_u8 _) (l2.win _ _)]
  have ew : (⟨b.getD a 0 * 256 + b.getD (a + 1) 0, true, ⟨b.getD (a + 3) 0 * 256 + b.getD (a + 4) 0, b.getD (a + 5) 0 * 256 + b.getD (a + 6) 0, b.getD (a + 7) 0, b.getD (a + 8) 0⟩⟩ : Word) = wordAt b a := rfl
  conv => whnf
  repeat' (first | (refine sel_i (fun h => ?_) (fun h => ?_) <;> conv => whnf) | (refine chk_c ?_ ?_ <;> conv => whnf) | (refine And.intro ?_ rfl) | (refine And.intro ?_ ?_ <;> conv => whnf))
  all_goals (try simp only [w9, zu8, Int.toNat_natCast, orI_eq, etaKey, etaWord, wrap_id (n := (a : Int) + 1) (by omega) (by omega), wrap_id (n := (a : Int) + 2) (by omega) (by omega), wrap_id (n := (a : Int) + 3) (by omega) (by omega), wrap_id (n := (a : Int) + 4) (by omega) (by omega), wrap_id (n := (a : Int) + 5) (by omega) (by omega), wrap_id (n := (a : Int) + 6) (by omega) (by omega), wrap_id (n := (a : Int) + 7) (by omega) (by omega), wrap_id (n := (a : Int) + 8) (by omega) (by omega), wrap_id (n := (a : Int) + 9) (by omega) (by omega)] at *)
  all_goals (try simp only [show ((a : Int) + 1).toNat = a + 1 by omega, show ((a : Int) + 2).toNat = a + 2 by omega, show ((a : Int) + 3).toNat = a + 3 by omega, show ((a : Int) + 4).toNat = a + 4 by omega, show ((a : Int) + 5).toNat = a + 5 by omega, show ((a : Int) + 6).toNat = a + 6 by omega, show ((a : Int) + 7).toNat = a + 7 by omega, show ((a : Int) + 8).toNat = a + 8 by omega] at *)
  all_goals (try simp only [two8 (l2.at _) (l2.at _)] at *)
  all_goals (try simp only [w7, w8, Nat.zero_add, show ((a : Int) + 9 - a).toNat = 9 by omega, show ((a : Int) + 3 - a).toNat = 3 by omega] at *)
  all_goals (try simp only [ew] at *)
  all_goals (try simp only [c9, c3, decide_eq_true_eq, decide_eq_false_iff_not, bne_iff_ne, bne_eq_false_iff_eq, Bool.not_eq_true', Bool.not_eq_false'] at *)
  all_goals try (refine ⟨?_⟩; first | omega | decide)
  · rw [wordOf_no (b := b) (a := (a : Int)) h (fun q => by omega)]; rfl
  · rename_i g1 g2
    rw [wordOf_no (b := b) (a := (a : Int)) g2 (fun q => by have := q.2.2; simp only [Int.toNat_natCast] at this; rw [this] at h; cases h)]; rfl
  · rename_i g1 g2 g3
    rw [wordOf_no (b := b) (a := (a : Int)) g2 (fun q => h (by rw [wordBytes_at l2 g3, win9 (by omega), show b.getD (a + 2) 0 = 1 from q.1]))]; rfl
  · rename_i g1 g2 g3
    rw [wordBytes_at l2 g3, win9 (by omega)] at h
    have g4 : b.getD (a + 2) 0 = 1 := by
      simp only [List.cons.injEq] at h
      exact h.2.2.1.symm
    rw [wordOf_key hr g4 (by omega) g3]; rfl
  · rename_i g1
    rw [wordOk_plain l2] at h; cases h
  · rename_i g1 g2
    exact absurd (by rw [wordBytes_plain l2, win3 (by omega), g1]) h
  · rename_i g1 g2
    rw [wordOf_plain hr g1]; rfl
theorem ok_spec_WordOf : FunOk Try.prog c_spec_WordOf := funOk (E := [c_spec_WordBytes, c_spec_WordOk]) (envOk_cons ok_spec_WordBytes (envOk_cons ok_spec_WordOk (envOk_nil))) mixd Try.func34 (pf := pf_spec_WordOf) (by kernel_rfl) fun ts K h => by
  obtain ⟨t0, t1, e0, h⟩ := as2_out h
  subst e0
  obtain ⟨b, e1, hq⟩ := arC_out (rd_l (.int .u8)) h
  clear h
  subst e1
  have h := hq
  clear hq
  obtain ⟨at_, e1, hq⟩ := arC_out (rd_int .i64) h
  clear h
  subst e1
  have h := hq
  clear hq
  obtain ⟨hpre, h⟩ := chk_o h
  exact ⟨_, _, h, Nat.le_of_ble_eq_true (show Nat.ble 2 Try.f34.ntmps = true by kernel_rfl), _, run_spec_WordOf b at_ hpre⟩


def filt (f : Nat → Bool) (n : Nat) : List Int := ((List.range n).filter f).map (fun c : Nat => (c : Int))
def coverP (ws : List Word) (p : Int) (c : Nat) : Bool := ws.any (fun w => hasP w p && inR c w.key.base (w.key.top - 1))
def cellsBy (m : Mem) (l : List Word) (p : Int) : List Int := filt (coverP (closure m l) p) 24


def heldW (s : Side) : List Word := s.regs ++ [s.pc]
def meetI (a b : List Int) : Bool := a.any (fun n => b.any (fun x => n == x))
def crossesB (m : Mem) (a b : List Word) : Bool := meetI (cellsBy m a 2) (cellsBy m b 1 ++ cellsBy m b 2)
def apartB (t : Two) : Bool := twoOk t && !canSeal t.mem (heldW t.a) && !canSeal t.mem (heldW t.b) && (!crossesB t.mem (heldW t.a) (heldW t.b) && !crossesB t.mem (heldW t.b) (heldW t.a))

theorem inR_t {n lo hi : Int} : inR n lo hi = true ↔ lo ≤ n ∧ n ≤ hi := by simp [inR]
theorem inR_f {n lo hi : Int} : inR n lo hi = false ↔ (n < lo ∨ hi < n) := by
  rw [Bool.eq_false_iff, ne_eq, inR_t]; omega

end Go.Pi
