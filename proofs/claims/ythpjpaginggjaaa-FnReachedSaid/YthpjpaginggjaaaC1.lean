/- Contracts of functions, each out of its run by PI. No conditions. -/
import Derived.Test.YthpjpaginggjaaaPiFn
import Derived.KernelRfl
import Derived.ProofKit
import Derived.Test.YthpjpaginggjaaaRows
namespace Go.Pi
open Go.Proofs
set_option linter.unusedVariables false
set_option linter.unusedSimpArgs false
set_option maxRecDepth 100000
attribute [local irreducible] iterN
theorem mixd : Try.prog.follows .mixedOrders = true := by kernel_rfl
theorem etaKey (x : Key) : (⟨x.base, x.top, x.perms, x.sealed⟩ : Key) = x := rfl
theorem etaWord (x : Word) : (⟨x.n, x.is, x.key⟩ : Word) = x := rfl
theorem etaInst (x : Inst) : (⟨x.op, x.r, x.a, x.b, x.n⟩ : Inst) = x := rfl
theorem etaPacked (x : Packed) : (⟨x.e, x.b, x.l⟩ : Packed) = x := rfl
theorem keyEq (a b : Key) : (a.base == b.base && (a.top == b.top && (a.perms == b.perms && a.sealed == b.sealed))) = decide (a = b) := by
  obtain ⟨a1, a2, a3, a4⟩ := a
  obtain ⟨b1, b2, b3, b4⟩ := b
  rw [Bool.eq_iff_iff]; simp
theorem keyEq0 (a : Key) : (a.base == 0 && (a.top == 0 && (a.perms == 0 && a.sealed == 0))) = decide (a = ⟨0, 0, 0, 0⟩) := keyEq a ⟨0, 0, 0, 0⟩
theorem beqI (a b : Int) : (a == b) = decide (a = b) := rfl


def inR (n lo hi : Int) : Bool := decide (lo ≤ n) && decide (n ≤ hi)

def pf_impl_in : PF := ⟨[.t 6], .seq (.reg [.s (.mv 6 (.k (.v (.c .ff))))]) (.seq (.reg [.s (.mv 7 (.t 0)), .s (.mv 8 (.t 1)), .s (.bin 9 .geq (.t 7) (.t 8)), .s (.mv 10 (.t 9)), .g 10 true (some 11) (.mv 11 (.t 0)), .g 10 true (some 12) (.mv 12 (.t 2)), .g 10 true (some 13) (.bin 13 .leq (.t 11) (.t 12)), .s (.pick 14 (.t 10) (.t 13) (.k (.v (.c .ff)))), .s (.mv 6 (.t 14))]) (.ret))⟩
def c_impl_in : Fun := ⟨98, [], fun ts K => as3 ts fun t0 t1 t2 => arC (pI .i64) t0 fun n => arC (pI .i64) t1 fun lo => arC (pI .i64) t2 fun hi => K (tB (inR n lo hi)) []⟩
theorem run_impl_in (n : Int) (lo : Int) (hi : Int) : runK [] (0) [] pf_impl_in [tI .i64 n, tI .i64 lo, tI .i64 hi] fun r o => r = tB (inR n lo hi) ∧ o = [] := by
  conv => whnf
  refine sel_i (fun h => ?_) (fun h => ?_) <;> conv => whnf
  all_goals (refine ⟨?_, rfl⟩; simp at h; simp [inR] <;> omega)
theorem ok_impl_in : FunOk Try.prog c_impl_in := funOk (E := []) (envOk_nil) mixd Try.func98 (pf := pf_impl_in) (by kernel_rfl) fun ts K h => by
  obtain ⟨t0, t1, t2, e0, h⟩ := as3_out h
  subst e0
  obtain ⟨n, e1, hq⟩ := arC_out (rd_int .i64) h
  clear h
  subst e1
  have h := hq
  clear hq
  obtain ⟨lo, e1, hq⟩ := arC_out (rd_int .i64) h
  clear h
  subst e1
  have h := hq
  clear hq
  obtain ⟨hi, e1, hq⟩ := arC_out (rd_int .i64) h
  clear h
  subst e1
  have h := hq
  clear hq
  exact ⟨_, _, h, Nat.le_of_ble_eq_true (show Nat.ble 3 Try.f98.ntmps = true by kernel_rfl), _, run_impl_in n lo hi⟩

def pf_spec_l1In : PF := ⟨[.t 6], .seq (.reg [.s (.mv 6 (.k (.v (.c .ff))))]) (.seq (.reg [.s (.mv 7 (.t 0)), .s (.mv 8 (.t 1)), .s (.bin 9 .geq (.t 7) (.t 8)), .s (.mv 10 (.t 9)), .g 10 true (some 11) (.mv 11 (.t 0)), .g 10 true (some 12) (.mv 12 (.t 2)), .g 10 true (some 13) (.bin 13 .leq (.t 11) (.t 12)), .s (.pick 14 (.t 10) (.t 13) (.k (.v (.c .ff)))), .s (.mv 6 (.t 14))]) (.ret))⟩
def c_spec_l1In : Fun := ⟨149, [], fun ts K => as3 ts fun t0 t1 t2 => arC (pI .i64) t0 fun n => arC (pI .i64) t1 fun lo => arC (pI .i64) t2 fun hi => K (tB (inR n lo hi)) []⟩
theorem run_spec_l1In (n : Int) (lo : Int) (hi : Int) : runK [] (0) [] pf_spec_l1In [tI .i64 n, tI .i64 lo, tI .i64 hi] fun r o => r = tB (inR n lo hi) ∧ o = [] := by
  conv => whnf
  refine sel_i (fun h => ?_) (fun h => ?_) <;> conv => whnf
  all_goals (refine ⟨?_, rfl⟩; simp at h; simp [inR] <;> omega)
theorem ok_spec_l1In : FunOk Try.prog c_spec_l1In := funOk (E := []) (envOk_nil) mixd Try.func149 (pf := pf_spec_l1In) (by kernel_rfl) fun ts K h => by
  obtain ⟨t0, t1, t2, e0, h⟩ := as3_out h
  subst e0
  obtain ⟨n, e1, hq⟩ := arC_out (rd_int .i64) h
  clear h
  subst e1
  have h := hq
  clear hq
  obtain ⟨lo, e1, hq⟩ := arC_out (rd_int .i64) h
  clear h
  subst e1
  have h := hq
  clear hq
  obtain ⟨hi, e1, hq⟩ := arC_out (rd_int .i64) h
  clear h
  subst e1
  have h := hq
  clear hq
  exact ⟨_, _, h, Nat.le_of_ble_eq_true (show Nat.ble 3 Try.f149.ntmps = true by kernel_rfl), _, run_spec_l1In n lo hi⟩


theorem etaMemory (m : Mem) : (⟨m.words, m.gone⟩ : Mem) = m := rfl

def memNew : Mem := ⟨List.replicate 24 ⟨0, false, ⟨0, 0, 0, 0⟩⟩, List.replicate 24 false⟩

def pf_spec_MemoryNew : PF := ⟨[.c 0 true 2], .seq (.reg [.s (.alloc 0 [.nils .word, .nils .bool])]) (.seq (.rgd [] [.s (.mkS 1 .word (.k (.v (.c (.int .i64 24))))), .s (.mkS 2 .bool (.k (.v (.c (.int .i64 24))))), .s (.build 3 [.nils .word, .nils .bool] [(0, 1, (.t 1)), (1, 1, (.t 2))]), .s (.store 2 (.t 0) (.t 3))] (.alt 0 false (.one 1 true (.tk 2 (.one 3 true (.done (some [0]))))) (.alt 1 false (.one 0 true (.tk 2 (.one 3 true (.done (some [0]))))) (.nil)))) (.ret))⟩
def c_spec_MemoryNew : Fun := ⟨111, [], fun ts K => as0 ts (K (tG (memNew.tc true [])) [])⟩
theorem run_spec_MemoryNew  : runK [] (0) [] pf_spec_MemoryNew [] fun r o => r = tG (memNew.tc true []) ∧ o = [] := by
  conv => whnf
  repeat' first | refine chk_c ?_ ?_ | refine And.intro ?_ ?_ <;> conv => whnf
  all_goals first
    | (refine ⟨?_⟩; omega)
    | exact ⟨rfl, rfl⟩
    | rfl
    | exact True.intro
theorem ok_spec_MemoryNew : FunOk Try.prog c_spec_MemoryNew := funOk (E := []) (envOk_nil) mixd Try.func111 (pf := pf_spec_MemoryNew) (by kernel_rfl) fun ts K h => by
  obtain ⟨e0, h⟩ := as0_out h
  subst e0
  exact ⟨_, _, h, Nat.le_of_ble_eq_true (show Nat.ble 0 Try.f111.ntmps = true by kernel_rfl), _, run_spec_MemoryNew ⟩


def LMem (m : Mem) (n : Nat) : Prop := m.words.length ≤ n ∧ m.gone.length ≤ n
def LTwo (t : Two) (n : Nat) : Prop := LMem t.mem n ∧ t.a.regs.length ≤ n ∧ t.b.regs.length ≤ n
def sideState (t : Two) (who : Int) : State :=
  if who = 0 then ⟨t.a.regs, t.a.pc, t.mem, t.a.trap⟩ else if who = 1 then ⟨t.b.regs, t.b.pc, t.mem, t.b.trap⟩ else ⟨[], ⟨0, false, ⟨0, 0, 0, 0⟩⟩, ⟨[], []⟩, 0⟩

def LState (s : State) (n : Nat) : Prop := s.regs.length ≤ n ∧ LMem s.mem n

theorem etaState (m : State) : (⟨m.regs, m.pc, m.mem, m.trap⟩ : State) = m := rfl

theorem LTwo.mono {t : Two} {n m : Nat} (h : LTwo t n) (k : n ≤ m) : LTwo t m := ⟨⟨Nat.le_trans h.1.1 k, Nat.le_trans h.1.2 k⟩, Nat.le_trans h.2.1 k, Nat.le_trans h.2.2 k⟩

def boundsOk (b t : Int) : Bool := decide (0 ≤ b) && decide (b ≤ t) && decide (t ≤ 4096)

def pf_impl_BoundsOk : PF := ⟨[.t 4], .seq (.reg [.s (.mv 4 (.k (.v (.c .ff))))]) (.seq (.reg [.s (.mv 5 (.t 0)), .s (.mv 6 (.t 1)), .s (.call (some 7) 98 [(.t 5), (.k (.v (.c (.int .i64 0)))), (.t 6)]), .s (.mv 8 (.t 7)), .g 8 true (some 9) (.mv 9 (.t 1)), .g 8 true (some 10) (.bin 10 .leq (.t 9) (.k (.v (.c (.int .i64 4096))))), .s (.pick 11 (.t 8) (.t 10) (.k (.v (.c .ff)))), .s (.mv 4 (.t 11))]) (.ret))⟩
def c_impl_BoundsOk : Fun := ⟨205, [], fun ts K => as2 ts fun t0 t1 => arC (pI .i64) t0 fun b => arC (pI .i64) t1 fun t => K (tB (boundsOk b t)) []⟩
theorem run_impl_BoundsOk (b : Int) (t : Int) : runK [c_impl_in] (0) [] pf_impl_BoundsOk [tI .i64 b, tI .i64 t] fun r o => r = tB (boundsOk b t) ∧ o = [] := by
  conv => whnf
  refine sel_i (fun h => ?_) (fun h => ?_) <;> conv => whnf
  all_goals (refine ⟨?_, rfl⟩; simp [inR] at h; simp [boundsOk] <;> omega)
theorem ok_impl_BoundsOk : FunOk Try.prog c_impl_BoundsOk := funOk (E := [c_impl_in]) (envOk_cons ok_impl_in (envOk_nil)) mixd Try.func205 (pf := pf_impl_BoundsOk) (by kernel_rfl) fun ts K h => by
  obtain ⟨t0, t1, e0, h⟩ := as2_out h
  subst e0
  obtain ⟨b, e1, hq⟩ := arC_out (rd_int .i64) h
  clear h
  subst e1
  have h := hq
  clear hq
  obtain ⟨t, e1, hq⟩ := arC_out (rd_int .i64) h
  clear h
  subst e1
  have h := hq
  clear hq
  exact ⟨_, _, h, Nat.le_of_ble_eq_true (show Nat.ble 2 Try.f205.ntmps = true by kernel_rfl), _, run_impl_BoundsOk b t⟩

def pf_spec_BoundsOk : PF := ⟨[.t 4], .seq (.reg [.s (.mv 4 (.k (.v (.c .ff))))]) (.seq (.reg [.s (.mv 5 (.t 0)), .s (.call (some 6) 149 [(.t 5), (.k (.v (.c (.int .i64 0)))), (.k (.v (.c (.int .i64 4096))))]), .s (.mv 7 (.t 6)), .g 7 true (some 8) (.mv 8 (.t 1)), .g 7 true (some 9) (.call (some 9) 149 [(.t 8), (.k (.v (.c (.int .i64 0)))), (.k (.v (.c (.int .i64 4096))))]), .s (.pick 10 (.t 7) (.t 9) (.k (.v (.c .ff)))), .s (.mv 11 (.t 10)), .g 11 true (some 12) (.mv 12 (.t 0)), .g 11 true (some 13) (.mv 13 (.t 1)), .g 11 true (some 14) (.bin 14 .leq (.t 12) (.t 13)), .s (.pick 15 (.t 11) (.t 14) (.k (.v (.c .ff)))), .s (.mv 4 (.t 15))]) (.ret))⟩
def c_spec_BoundsOk : Fun := ⟨225, [], fun ts K => as2 ts fun t0 t1 => arC (pI .i64) t0 fun b => arC (pI .i64) t1 fun t => K (tB (boundsOk b t)) []⟩
theorem run_spec_BoundsOk (b : Int) (t : Int) : runK [c_spec_l1In] (0) [] pf_spec_BoundsOk [tI .i64 b, tI .i64 t] fun r o => r = tB (boundsOk b t) ∧ o = [] := by
  conv => whnf
  repeat' (refine sel_i (fun h => ?_) (fun h => ?_) <;> conv => whnf)
  all_goals (refine ⟨?_, rfl⟩; simp_all [inR, boundsOk] <;> omega)
theorem ok_spec_BoundsOk : FunOk Try.prog c_spec_BoundsOk := funOk (E := [c_spec_l1In]) (envOk_cons ok_spec_l1In (envOk_nil)) mixd Try.func225 (pf := pf_spec_BoundsOk) (by kernel_rfl) fun ts K h => by
  obtain ⟨t0, t1, e0, h⟩ := as2_out h
  subst e0
  obtain ⟨b, e1, hq⟩ := arC_out (rd_int .i64) h
  clear h
  subst e1
  have h := hq
  clear hq
  obtain ⟨t, e1, hq⟩ := arC_out (rd_int .i64) h
  clear h
  subst e1
  have h := hq
  clear hq
  exact ⟨_, _, h, Nat.le_of_ble_eq_true (show Nat.ble 2 Try.f225.ntmps = true by kernel_rfl), _, run_spec_BoundsOk b t⟩

def packB (b : Int) (e : Nat) : Int := b / 2 ^ e
def packL (b t : Int) (e : Nat) : Int := (t - b / 2 ^ e * 2 ^ e + 2 ^ e - 1) / 2 ^ e
theorem e_cases {e : Nat} (he : e ≤ 6) : e = 0 ∨ e = 1 ∨ e = 2 ∨ e = 3 ∨ e = 4 ∨ e = 5 ∨ e = 6 := by omega
theorem e_min {e : Nat} (he : e ≤ 6) : min (e : Int).toNat IntKind.i64.bits = e := by rcases e_cases he with rfl | rfl | rfl | rfl | rfl | rfl | rfl <;> decide
theorem p_pos (e : Nat) : (0 : Int) ≤ 2 ^ e := Int.le_of_lt (Int.pow_pos (by decide))
theorem shr_b {b : Int} {e : Nat} (he : e ≤ 6) : b.fdiv (2 ^ min (e : Int).toNat IntKind.i64.bits) = packB b e := by
  rw [e_min he, Int.fdiv_eq_ediv_of_nonneg _ (p_pos e)]; rfl
theorem shr_l {b t : Int} {e : Nat} (he : e ≤ 6) (h : 0 ≤ b) (h1 : b ≤ t) (h2 : t ≤ 4096) :
    (IntKind.i64.wrap (IntKind.i64.wrap (IntKind.i64.wrap (t - IntKind.i64.wrap (packB b e * 2 ^ min (e : Int).toNat IntKind.i64.bits)) + IntKind.i64.wrap (1 * 2 ^ min (e : Int).toNat IntKind.i64.bits)) - 1)).fdiv (2 ^ min (e : Int).toNat IntKind.i64.bits) = packL b t e := by
  rw [e_min he, Int.fdiv_eq_ediv_of_nonneg _ (p_pos e)]
  unfold packB packL
  rcases e_cases he with rfl | rfl | rfl | rfl | rfl | rfl | rfl <;> simp only [Int.reducePow, Int.pow_zero] <;>
    rw [wrap_id (n := _ * _) (by omega) (by omega), wrap_id (n := t - _) (by omega) (by omega), wrap_id (n := 1 * _) (by omega) (by omega), wrap_id (n := _ + _) (by omega) (by omega), wrap_id (by omega) (by omega)] <;> simp
theorem shr_m {b t : Int} {e : Nat} (he : e ≤ 6) (h : 0 ≤ b) (h1 : b ≤ t) (h2 : t ≤ 4096) :
    packB (IntKind.i64.wrap (IntKind.i64.wrap (IntKind.i64.wrap (t - IntKind.i64.wrap (packB b e * 2 ^ min (e : Int).toNat IntKind.i64.bits)) + IntKind.i64.wrap (1 * 2 ^ min (e : Int).toNat IntKind.i64.bits)) - 1)) e = packL b t e := by
  rw [← shr_l he h h1 h2, shr_b he]
def packOk (b t : Int) (e : Nat) : Bool := decide (packB b e ≤ 63) && decide (packL b t e ≤ 63)
def packGo (b t : Int) : Nat → Nat → Option Packed
  | 0, _ => none
  | n + 1, e => if packOk b t e then some ⟨e, packB b e, packL b t e⟩ else packGo b t n (e + 1)
def pack (b t : Int) : Option Packed := if boundsOk b t then packGo b t 7 0 else none
def packT (o : Option Packed) : Tree := .tup [.g ((o.getD ⟨0, 0, 0⟩).tc []), .c (.bool o.isSome)]
theorem pack_no {b t : Int} (h : boundsOk b t = false) : pack b t = none := by simp [pack, h]
theorem pack_yes {b t : Int} (h : boundsOk b t = true) : pack b t = packGo b t 7 0 := by simp [pack, h]
theorem packGo_t {b t : Int} {n e : Nat} (h : packOk b t e = true) : packGo b t (n + 1) e = some ⟨e, packB b e, packL b t e⟩ := by simp [packGo, h]
theorem packGo_f {b t : Int} {n e : Nat} (h : packOk b t e = false) : packGo b t (n + 1) e = packGo b t n (e + 1) := by simp [packGo, h]
theorem bounds_n {b t : Int} (h : boundsOk b t = true) : 0 ≤ b ∧ b ≤ t ∧ t ≤ 4096 := by simp [boundsOk] at h; omega

def lb_spec_Pack_0 : PC := .seq (.seq (.reg [.s (.mv 14 (.t 6)), .s (.bin 15 .leq (.t 14) (.k (.v (.c (.int .i64 6)))))]) (.cond (.t 15) (.skip) (.exit 0))) (.seq (.blk 1 (.seq (.reg [.s (.mv 18 (.t 0)), .s (.mv 19 (.t 6)), .s (.bin 20 .shr (.t 18) (.t 19)), .s (.mv 7 (.t 20))]) (.seq (.rgd [] [.s (.mv 21 (.t 1)), .s (.mv 22 (.t 7)), .s (.mv 23 (.t 6)), .s (.bin 24 .shl (.t 22) (.t 23)), .s (.bin 25 .sub (.t 21) (.t 24)), .s (.mv 26 (.t 6)), .s (.bin 27 .shl (.k (.v (.c (.int .i64 1)))) (.t 26)), .s (.bin 28 .add (.t 25) (.t 27)), .s (.bin 29 .sub (.t 28) (.k (.v (.c (.int .i64 1))))), .s (.mv 30 (.t 6)), .s (.bin 31 .shr (.t 29) (.t 30)), .s (.mv 8 (.t 31))] (.tk 0 (.tk 1 (.tk 2 (.tk 3 (.tk 4 (.tk 5 (.tk 6 (.tk 7 (.tk 8 (.tk 9 (.tk 10 (.tk 11 (.done none)))))))))))))) (.seq (.reg [.s (.mv 32 (.t 7)), .s (.bin 33 .leq (.t 32) (.k (.v (.c (.int .i64 63))))), .s (.mv 34 (.t 33)), .g 34 true (some 35) (.mv 35 (.t 8)), .g 34 true (some 36) (.bin 36 .leq (.t 35) (.k (.v (.c (.int .i64 63))))), .s (.pick 37 (.t 34) (.t 36) (.k (.v (.c .ff))))]) (.cond (.t 37) (.seq (.reg [.s (.mv 38 (.t 6)), .s (.mv 39 (.t 7)), .s (.mv 40 (.t 8)), .s (.build 41 [.int .i64 0, .int .i64 0, .int .i64 0] [(0, 1, (.t 38)), (1, 1, (.t 39)), (2, 1, (.t 40))]), .s (.store 3 (.t 4) (.t 41)), .s (.mv 5 (.k (.v (.c .tt))))]) (.ret)) (.skip)))))) (.reg [.s (.mv 16 (.t 6)), .s (.bin 17 .add (.t 16) (.k (.v (.c (.int .i64 1))))), .s (.mv 6 (.t 17))]))
def pf_spec_Pack : PF := ⟨[.c 4 true 3, .t 5], .seq (.reg [.s (.alloc 4 [.int .i64 0, .int .i64 0, .int .i64 0]), .s (.mv 5 (.k (.v (.c .ff))))]) (.seq (.seq (.reg [.s (.mv 9 (.t 0)), .s (.mv 10 (.t 1)), .s (.call (some 11) 225 [(.t 9), (.t 10)]), .s (.bnot 12 (.t 11))]) (.cond (.t 12) (.seq (.reg [.s (.build 13 [.int .i64 0, .int .i64 0, .int .i64 0] []), .s (.store 3 (.t 4) (.t 13)), .s (.mv 5 (.k (.v (.c .ff))))]) (.ret)) (.skip))) (.seq (.seq (.reg [.s (.mv 6 (.k (.v (.c (.int .i64 0)))))]) (.blk 0 (.loop [0, 1, 4, 6] lb_spec_Pack_0))) (.seq (.reg [.s (.build 42 [.int .i64 0, .int .i64 0, .int .i64 0] []), .s (.store 3 (.t 4) (.t 42)), .s (.mv 5 (.k (.v (.c .ff))))]) (.ret))))⟩
def c_spec_Pack : Fun := ⟨247, [], fun ts K => as2 ts fun t0 t1 => arC (pI .i64) t0 fun b => arC (pI .i64) t1 fun t => K (packT (pack b t)) []⟩
theorem run_spec_Pack (b : Int) (t : Int) : runK [c_spec_BoundsOk] (8) [] pf_spec_Pack [tI .i64 b, tI .i64 t] fun r o => r = packT (pack b t) ∧ o = [] := by
  conv => whnf
  refine sel_i (fun h => ?_) (fun h => ?_)
  · rw [pack_no (by simpa using h)]
    conv => whnf
    exact ⟨rfl, rfl⟩
  have hb : boundsOk b t = true := by simpa using h
  obtain ⟨b1, b2, b3⟩ := bounds_n hb
  rw [pack_yes hb]
  conv => whnf
  refine loop (α := Nat) (fun e => ⟨[(0, .v (.c (.int .i64 b))), (1, .v (.c (.int .i64 t))), (4, .v (.c (.ptr 0 0))), (6, .v (.c (.int .i64 (e : Int))))], [(0, some (.box true [.int .i64 0, .int .i64 0, .int .i64 0]))], nums.tail, [], false, []⟩)
      (fun e => e ≤ 7 ∧ packGo b t 7 0 = packGo b t (7 - e) e) (fun e => 7 - e) (fun e R hI hR => ?_) 0 _ ⟨by omega, rfl⟩ (by omega)
  obtain ⟨hI, hG⟩ := hI
  conv => whnf
  refine sel_i (fun h2 => ?_) (fun h2 => ?_)
  · have he : e ≤ 6 := by simp at h2; omega
    rw [show 7 - e = (6 - e) + 1 by omega] at hG
    conv => whnf
    repeat' (refine chk_c ?_ ?_ <;> conv => whnf)
    any_goals (refine ⟨?_⟩; omega)
    simp only [shr_b he, shr_m he b1 b2 b3]
    refine sel_i (fun h3 => ?_) (fun h3 => ?_)
    · conv => whnf
      refine sel_i (fun h4 => ?_) (fun h4 => ?_)
      · rw [hG, packGo_t (by simp only [packOk, h3, h4, Bool.and_self])]
        conv => whnf
        exact ⟨rfl, rfl⟩
      · conv => whnf
        rw [wrap_id (by omega) (by omega)]
        exact hR (e + 1) ⟨by omega, by rw [hG, packGo_f (by simp only [packOk, h3, h4, Bool.and_false])]; rw [show 7 - (e + 1) = 6 - e by omega]⟩ (by omega)
    · conv => whnf
      rw [wrap_id (by omega) (by omega)]
      exact hR (e + 1) ⟨by omega, by rw [hG, packGo_f (by simp only [packOk, h3, Bool.false_and])]; rw [show 7 - (e + 1) = 6 - e by omega]⟩ (by omega)
  · have he : e = 7 := by simp at h2; omega
    subst he
    rw [hG]
    conv => whnf
    exact ⟨rfl, rfl⟩
theorem ok_spec_Pack : FunOk Try.prog c_spec_Pack := funOk (E := [c_spec_BoundsOk]) (envOk_cons ok_spec_BoundsOk (envOk_nil)) mixd Try.func247 (pf := pf_spec_Pack) (by kernel_rfl) fun ts K h => by
  obtain ⟨t0, t1, e0, h⟩ := as2_out h
  subst e0
  obtain ⟨b, e1, hq⟩ := arC_out (rd_int .i64) h
  clear h
  subst e1
  have h := hq
  clear hq
  obtain ⟨t, e1, hq⟩ := arC_out (rd_int .i64) h
  clear h
  subst e1
  have h := hq
  clear hq
  exact ⟨_, _, h, Nat.le_of_ble_eq_true (show Nat.ble 2 Try.f247.ntmps = true by kernel_rfl), _, run_spec_Pack b t⟩

theorem p_wrap {e : Nat} (he : e ≤ 6) : IntKind.i64.wrap (1 * 2 ^ min (e : Int).toNat IntKind.i64.bits) = 2 ^ e := by
  rw [e_min he]
  rcases e_cases he with rfl | rfl | rfl | rfl | rfl | rfl | rfl <;> decide
theorem quo_b {b : Int} {e : Nat} (he : e ≤ 6) (h : 0 ≤ b) (h1 : b ≤ 4096) : IntKind.i64.wrap (b.tdiv (2 ^ e)) = packB b e := by
  rw [Int.tdiv_eq_ediv_of_nonneg h]
  unfold packB
  rcases e_cases he with rfl | rfl | rfl | rfl | rfl | rfl | rfl <;> simp only [Int.reducePow, Int.pow_zero] <;> exact wrap_id (by omega) (by omega)
theorem quo_l {b t : Int} {e : Nat} (he : e ≤ 6) (h : 0 ≤ b) (h1 : b ≤ t) (h2 : t ≤ 4096) :
    IntKind.i64.wrap ((IntKind.i64.wrap (IntKind.i64.wrap (IntKind.i64.wrap (t - IntKind.i64.wrap (packB b e * 2 ^ e)) + 2 ^ e) - 1)).tdiv (2 ^ e)) = packL b t e := by
  unfold packB packL
  rcases e_cases he with rfl | rfl | rfl | rfl | rfl | rfl | rfl <;> simp only [Int.reducePow, Int.pow_zero] <;>
    rw [wrap_id (n := _ * _) (by omega) (by omega), wrap_id (n := t - _) (by omega) (by omega), wrap_id (n := _ + _) (by omega) (by omega), wrap_id (n := _ - 1) (by omega) (by omega), Int.tdiv_eq_ediv_of_nonneg (by omega)] <;> exact wrap_id (by omega) (by omega)

def lb_impl_Pack_0 : PC := .seq (.reg [.s (.bin 16 .lss (.t 15) (.k (.v (.c (.int .i64 7)))))]) (.seq (.cond (.t 16) (.skip) (.exit 0)) (.seq (.blk 1 (.seq (.reg [.s (.mv 17 (.t 15)), .s (.mv 6 (.t 17))]) (.seq (.reg [.s (.mv 18 (.t 6)), .s (.bin 19 .shl (.k (.v (.c (.int .i64 1)))) (.t 18)), .s (.mv 7 (.t 19))]) (.seq (.reg [.s (.mv 20 (.t 0)), .s (.mv 21 (.t 7)), .s (.bin 22 .quo (.t 20) (.t 21)), .s (.mv 8 (.t 22))]) (.seq (.reg [.s (.mv 23 (.t 1)), .s (.mv 24 (.t 8)), .s (.mv 25 (.t 7)), .s (.bin 26 .mul (.t 24) (.t 25)), .s (.bin 27 .sub (.t 23) (.t 26)), .s (.mv 28 (.t 7)), .s (.bin 29 .add (.t 27) (.t 28)), .s (.bin 30 .sub (.t 29) (.k (.v (.c (.int .i64 1))))), .s (.mv 31 (.t 7)), .s (.bin 32 .quo (.t 30) (.t 31)), .s (.mv 9 (.t 32))]) (.seq (.reg [.s (.mv 33 (.t 8)), .s (.bin 34 .leq (.t 33) (.k (.v (.c (.int .i64 63))))), .s (.mv 35 (.t 34)), .g 35 true (some 36) (.mv 36 (.t 9)), .g 35 true (some 37) (.bin 37 .leq (.t 36) (.k (.v (.c (.int .i64 63))))), .s (.pick 38 (.t 35) (.t 37) (.k (.v (.c .ff))))]) (.cond (.t 38) (.seq (.reg [.s (.mv 39 (.t 6)), .s (.mv 40 (.t 8)), .s (.mv 41 (.t 9)), .s (.build 42 [.int .i64 0, .int .i64 0, .int .i64 0] [(0, 1, (.t 39)), (1, 1, (.t 40)), (2, 1, (.t 41))]), .s (.store 3 (.t 4) (.t 42)), .s (.mv 5 (.k (.v (.c .tt))))]) (.ret)) (.skip)))))))) (.reg [.s (.bin 43 .add (.t 15) (.k (.v (.c (.int .i64 1))))), .s (.mv 15 (.t 43))])))
def pf_impl_Pack : PF := ⟨[.c 4 true 3, .t 5], .seq (.reg [.s (.alloc 4 [.int .i64 0, .int .i64 0, .int .i64 0]), .s (.mv 5 (.k (.v (.c .ff))))]) (.seq (.seq (.reg [.s (.mv 10 (.t 0)), .s (.mv 11 (.t 1)), .s (.call (some 12) 205 [(.t 10), (.t 11)]), .s (.bnot 13 (.t 12))]) (.cond (.t 13) (.seq (.reg [.s (.build 14 [.int .i64 0, .int .i64 0, .int .i64 0] []), .s (.store 3 (.t 4) (.t 14)), .s (.mv 5 (.k (.v (.c .ff))))]) (.ret)) (.skip))) (.seq (.seq (.reg [.s (.mv 15 (.k (.v (.c (.int .i64 0)))))]) (.blk 0 (.loop [0, 1, 4, 15] lb_impl_Pack_0))) (.seq (.reg [.s (.build 44 [.int .i64 0, .int .i64 0, .int .i64 0] []), .s (.store 3 (.t 4) (.t 44)), .s (.mv 5 (.k (.v (.c .ff))))]) (.ret))))⟩
def c_impl_Pack : Fun := ⟨230, [], fun ts K => as2 ts fun t0 t1 => arC (pI .i64) t0 fun b => arC (pI .i64) t1 fun t => K (packT (pack b t)) []⟩
theorem run_impl_Pack (b : Int) (t : Int) : runK [c_impl_BoundsOk] (8) [] pf_impl_Pack [tI .i64 b, tI .i64 t] fun r o => r = packT (pack b t) ∧ o = [] := by
  conv => whnf
  refine sel_i (fun h => ?_) (fun h => ?_)
  · rw [pack_no (by simpa using h)]
    conv => whnf
    exact ⟨rfl, rfl⟩
  have hb : boundsOk b t = true := by simpa using h
  obtain ⟨b1, b2, b3⟩ := bounds_n hb
  rw [pack_yes hb]
  conv => whnf
  refine loop (α := Nat) (fun e => ⟨[(0, .v (.c (.int .i64 b))), (1, .v (.c (.int .i64 t))), (4, .v (.c (.ptr 0 0))), (15, .v (.c (.int .i64 (e : Int))))], [(0, some (.box true [.int .i64 0, .int .i64 0, .int .i64 0]))], nums.tail, [], false, []⟩)
      (fun e => e ≤ 7 ∧ packGo b t 7 0 = packGo b t (7 - e) e) (fun e => 7 - e) (fun e R hI hR => ?_) 0 _ ⟨by omega, rfl⟩ (by omega)
  obtain ⟨hI, hG⟩ := hI
  conv => whnf
  refine sel_i (fun h2 => ?_) (fun h2 => ?_)
  · have he : e ≤ 6 := by simp at h2; omega
    rw [show 7 - e = (6 - e) + 1 by omega] at hG
    conv => whnf
    repeat' (refine chk_c ?_ ?_ <;> conv => whnf)
    any_goals (refine ⟨?_⟩; first | omega | (rw [p_wrap he]; exact Int.ne_of_gt (Int.pow_pos (by decide))))
    simp only [p_wrap he, quo_b he b1 (Int.le_trans b2 b3), quo_l he b1 b2 b3]
    refine sel_i (fun h3 => ?_) (fun h3 => ?_)
    · conv => whnf
      refine sel_i (fun h4 => ?_) (fun h4 => ?_)
      · rw [hG, packGo_t (by simp only [packOk, h3, h4, Bool.and_self])]
        conv => whnf
        exact ⟨rfl, rfl⟩
      · conv => whnf
        rw [wrap_id (by omega) (by omega)]
        exact hR (e + 1) ⟨by omega, by rw [hG, packGo_f (by simp only [packOk, h3, h4, Bool.and_false])]; rw [show 7 - (e + 1) = 6 - e by omega]⟩ (by omega)
    · conv => whnf
      rw [wrap_id (by omega) (by omega)]
      exact hR (e + 1) ⟨by omega, by rw [hG, packGo_f (by simp only [packOk, h3, Bool.false_and])]; rw [show 7 - (e + 1) = 6 - e by omega]⟩ (by omega)
  · have he : e = 7 := by simp at h2; omega
    subst he
    rw [hG]
    conv => whnf
    exact ⟨rfl, rfl⟩
theorem ok_impl_Pack : FunOk Try.prog c_impl_Pack := funOk (E := [c_impl_BoundsOk]) (envOk_cons ok_impl_BoundsOk (envOk_nil)) mixd Try.func230 (pf := pf_impl_Pack) (by kernel_rfl) fun ts K h => by
  obtain ⟨t0, t1, e0, h⟩ := as2_out h
  subst e0
  obtain ⟨b, e1, hq⟩ := arC_out (rd_int .i64) h
  clear h
  subst e1
  have h := hq
  clear hq
  obtain ⟨t, e1, hq⟩ := arC_out (rd_int .i64) h
  clear h
  subst e1
  have h := hq
  clear hq
  exact ⟨_, _, h, Nat.le_of_ble_eq_true (show Nat.ble 2 Try.f230.ntmps = true by kernel_rfl), _, run_impl_Pack b t⟩

def pf_spec_l1Min : PF := ⟨[.t 4], .seq (.reg [.s (.mv 4 (.k (.v (.c (.int .i64 0)))))]) (.seq (.seq (.reg [.s (.mv 5 (.t 0)), .s (.mv 6 (.t 1)), .s (.bin 7 .lss (.t 5) (.t 6))]) (.cond (.t 7) (.seq (.reg [.s (.mv 8 (.t 0)), .s (.mv 4 (.t 8))]) (.ret)) (.skip))) (.seq (.reg [.s (.mv 9 (.t 1)), .s (.mv 4 (.t 9))]) (.ret)))⟩
def c_spec_l1Min : Fun := ⟨92, [], fun ts K => as2 ts fun t0 t1 => arC (pI .i64) t0 fun a => arC (pI .i64) t1 fun b => K (tN (min a b)) []⟩
theorem run_spec_l1Min (a : Int) (b : Int) : runK [] (0) [] pf_spec_l1Min [tI .i64 a, tI .i64 b] fun r o => r = tN (min a b) ∧ o = [] := by
  conv => whnf
  refine sel_i (fun h => ?_) (fun h => ?_) <;> conv => whnf
  all_goals (refine ⟨?_, rfl⟩; simp at h; congr 3; omega)
theorem ok_spec_l1Min : FunOk Try.prog c_spec_l1Min := funOk (E := []) (envOk_nil) mixd Try.func92 (pf := pf_spec_l1Min) (by kernel_rfl) fun ts K h => by
  obtain ⟨t0, t1, e0, h⟩ := as2_out h
  subst e0
  obtain ⟨a, e1, hq⟩ := arC_out (rd_int .i64) h
  clear h
  subst e1
  have h := hq
  clear hq
  obtain ⟨b, e1, hq⟩ := arC_out (rd_int .i64) h
  clear h
  subst e1
  have h := hq
  clear hq
  exact ⟨_, _, h, Nat.le_of_ble_eq_true (show Nat.ble 2 Try.f92.ntmps = true by kernel_rfl), _, run_spec_l1Min a b⟩

def unpackOk (p : Packed) : Bool := inR p.e 0 6 && inR p.b 0 63 && inR p.l 0 63
def unpack (p : Packed) : Int × Int × Bool := if unpackOk p then (p.b * 2 ^ p.e.toNat, min 4096 ((p.b + p.l) * 2 ^ p.e.toNat), true) else (0, 0, false)
def unpackT (x : Int × Int × Bool) : Tree := .tup [.c (.int .i64 x.1), .c (.int .i64 x.2.1), .c (.bool x.2.2)]
theorem unpack_no {p : Packed} (h : unpackOk p = false) : unpack p = (0, 0, false) := by simp [unpack, h]
theorem unpack_yes {p : Packed} (h : unpackOk p = true) : unpack p = (p.b * 2 ^ p.e.toNat, min 4096 ((p.b + p.l) * 2 ^ p.e.toNat), true) := by simp [unpack, h]

theorem unpack_sh {p : Packed} (h : unpackOk p = true) : IntKind.i64.wrap (p.b * 2 ^ min p.e.toNat IntKind.i64.bits) = p.b * 2 ^ p.e.toNat ∧ IntKind.i64.wrap (IntKind.i64.wrap (p.b + p.l) * 2 ^ min p.e.toNat IntKind.i64.bits) = (p.b + p.l) * 2 ^ p.e.toNat := by
  obtain ⟨pe, pb, pl⟩ := p
  simp [unpackOk, inR] at h
  obtain ⟨e, he⟩ : ∃ e : Nat, pe = e := ⟨pe.toNat, by omega⟩
  subst he
  dsimp only
  have he6 : e ≤ 6 := by omega
  rw [e_min he6, wrap_id (n := pb + pl) (by omega) (by omega)]
  rcases e_cases he6 with rfl | rfl | rfl | rfl | rfl | rfl | rfl <;> simp only [Int.reducePow, Int.pow_zero, Int.toNat_natCast] <;> exact ⟨wrap_id (by omega) (by omega), wrap_id (by omega) (by omega)⟩
def wide (b t : Int) : Int × Int := if boundsOk b t then (if (pack b t).isSome then ((unpack ((pack b t).getD ⟨0, 0, 0⟩)).1, (unpack ((pack b t).getD ⟨0, 0, 0⟩)).2.1) else (0, 4096)) else (0, 0)
theorem pack_isSome {b t : Int} (h : (pack b t).isSome = true) : boundsOk b t = true := by
  by_cases hb : boundsOk b t = true
  · exact hb
  · rw [pack_no (by simpa using hb)] at h; simp at h
def wideT (x : Int × Int) : Tree := .tup [.c (.int .i64 x.1), .c (.int .i64 x.2)]
def exact_ (b t : Int) : Bool := boundsOk b t && decide ((wide b t).1 = b) && decide ((wide b t).2 = t)
def keyOk (k : Key) : Bool := exact_ k.base k.top && inR k.perms 0 63 && inR k.sealed 0 7
def wordOk (w : Word) : Bool := inR w.n 0 65535 && (if w.is then keyOk w.key else decide (w.key = ⟨0, 0, 0, 0⟩))

def pf_spec_Unpack : PF := ⟨[.t 2, .t 3, .t 4], .seq (.reg [.s (.box 1 (.t 0)), .s (.mv 2 (.k (.v (.c (.int .i64 0))))), .s (.mv 3 (.k (.v (.c (.int .i64 0))))), .s (.mv 4 (.k (.v (.c .ff))))]) (.seq (.seq (.reg [.s (.fa 5 (.t 1) 0), .s (.load 6 false 1 (.t 5)), .s (.call (some 7) 149 [(.t 6), (.k (.v (.c (.int .i64 0)))), (.k (.v (.c (.int .i64 6))))]), .s (.bnot 8 (.t 7)), .s (.mv 9 (.t 8)), .g 9 false (some 10) (.fa 10 (.t 1) 1), .g 9 false (some 11) (.load 11 false 1 (.t 10)), .g 9 false (some 12) (.call (some 12) 149 [(.t 11), (.k (.v (.c (.int .i64 0)))), (.k (.v (.c (.int .i64 63))))]), .g 9 false (some 13) (.bnot 13 (.t 12)), .s (.pick 14 (.t 9) (.k (.v (.c .tt))) (.t 13)), .s (.mv 15 (.t 14)), .g 15 false (some 16) (.fa 16 (.t 1) 2), .g 15 false (some 17) (.load 17 false 1 (.t 16)), .g 15 false (some 18) (.call (some 18) 149 [(.t 17), (.k (.v (.c (.int .i64 0)))), (.k (.v (.c (.int .i64 63))))]), .g 15 false (some 19) (.bnot 19 (.t 18)), .s (.pick 20 (.t 15) (.k (.v (.c .tt))) (.t 19))]) (.cond (.t 20) (.seq (.reg [.s (.mv 2 (.k (.v (.c (.int .i64 0))))), .s (.mv 3 (.k (.v (.c (.int .i64 0))))), .s (.mv 4 (.k (.v (.c .ff))))]) (.ret)) (.skip))) (.seq (.rgd [] [.s (.fa 21 (.t 1) 1), .s (.load 22 false 1 (.t 21)), .s (.fa 23 (.t 1) 0), .s (.load 24 false 1 (.t 23)), .s (.bin 25 .shl (.t 22) (.t 24)), .s (.fa 26 (.t 1) 1), .s (.load 27 false 1 (.t 26)), .s (.fa 28 (.t 1) 2), .s (.load 29 false 1 (.t 28)), .s (.bin 30 .add (.t 27) (.t 29)), .s (.fa 31 (.t 1) 0), .s (.load 32 false 1 (.t 31)), .s (.bin 33 .shl (.t 30) (.t 32)), .s (.call (some 34) 92 [(.t 33), (.k (.v (.c (.int .i64 4096))))]), .s (.mv 2 (.t 25)), .s (.mv 3 (.t 34)), .s (.mv 4 (.k (.v (.c .tt))))] (.tk 0 (.tk 1 (.tk 2 (.tk 3 (.tk 4 (.tk 5 (.tk 6 (.tk 7 (.tk 8 (.tk 9 (.tk 10 (.tk 11 (.tk 12 (.one 13 false (.tk 14 (.tk 15 (.tk 16 (.done none))))))))))))))))))) (.ret)))⟩
def c_spec_Unpack : Fun := ⟨248, [], fun ts K => as1 ts fun t0 => arG pPackedT t0 fun p => K (unpackT (unpack p)) []⟩
theorem run_spec_Unpack (p : Packed) : runK [c_spec_l1Min, c_spec_l1In] (0) [] pf_spec_Unpack [tG (p.tc [])] fun r o => r = unpackT (unpack p) ∧ o = [] := by
  conv => whnf
  repeat' (first | (refine sel_i (fun h => ?_) (fun h => ?_) <;> conv => whnf) | (refine chk_c ?_ ?_ <;> conv => whnf) | (refine And.intro ?_ rfl) | (refine And.intro ?_ ?_ <;> conv => whnf))
  all_goals first
    | (rw [unpack_no (by simp_all [unpackOk])]; rfl)
    | (refine ⟨?_⟩; simp_all [inR]; done)
    | (have hk : unpackOk p = true := by simp_all [unpackOk]
       rw [(unpack_sh hk).1, (unpack_sh hk).2, unpack_yes hk]; rfl)
    | (have hk : unpackOk p = true := by simp_all [unpackOk]
       rw [(unpack_sh hk).1, (unpack_sh hk).2, unpack_yes hk, Int.min_comm]; rfl)
theorem ok_spec_Unpack : FunOk Try.prog c_spec_Unpack := funOk (E := [c_spec_l1Min, c_spec_l1In]) (envOk_cons ok_spec_l1Min (envOk_cons ok_spec_l1In (envOk_nil))) mixd Try.func248 (pf := pf_spec_Unpack) (by kernel_rfl) fun ts K h => by
  obtain ⟨t0, e0, h⟩ := as1_out h
  subst e0
  obtain ⟨p, e1, hq⟩ := arG_out rd_packed h
  clear h
  subst e1
  have h := hq
  clear hq
  exact ⟨_, _, h, Nat.le_of_ble_eq_true (show Nat.ble 1 Try.f248.ntmps = true by kernel_rfl), _, run_spec_Unpack p⟩

def pf_impl_Unpack : PF := ⟨[.t 2, .t 3, .t 4], .seq (.reg [.s (.box 1 (.t 0)), .s (.mv 2 (.k (.v (.c (.int .i64 0))))), .s (.mv 3 (.k (.v (.c (.int .i64 0))))), .s (.mv 4 (.k (.v (.c .ff))))]) (.seq (.seq (.reg [.s (.fa 5 (.t 1) 0), .s (.load 6 false 1 (.t 5)), .s (.call (some 7) 98 [(.t 6), (.k (.v (.c (.int .i64 0)))), (.k (.v (.c (.int .i64 6))))]), .s (.bnot 8 (.t 7)), .s (.mv 9 (.t 8)), .g 9 false (some 10) (.fa 10 (.t 1) 1), .g 9 false (some 11) (.load 11 false 1 (.t 10)), .g 9 false (some 12) (.call (some 12) 98 [(.t 11), (.k (.v (.c (.int .i64 0)))), (.k (.v (.c (.int .i64 63))))]), .g 9 false (some 13) (.bnot 13 (.t 12)), .s (.pick 14 (.t 9) (.k (.v (.c .tt))) (.t 13)), .s (.mv 15 (.t 14)), .g 15 false (some 16) (.fa 16 (.t 1) 2), .g 15 false (some 17) (.load 17 false 1 (.t 16)), .g 15 false (some 18) (.call (some 18) 98 [(.t 17), (.k (.v (.c (.int .i64 0)))), (.k (.v (.c (.int .i64 63))))]), .g 15 false (some 19) (.bnot 19 (.t 18)), .s (.pick 20 (.t 15) (.k (.v (.c .tt))) (.t 19))]) (.cond (.t 20) (.seq (.reg [.s (.mv 2 (.k (.v (.c (.int .i64 0))))), .s (.mv 3 (.k (.v (.c (.int .i64 0))))), .s (.mv 4 (.k (.v (.c .ff))))]) (.ret)) (.skip))) (.seq (.rgd [] [.s (.fa 21 (.t 1) 1), .s (.load 22 false 1 (.t 21)), .s (.fa 23 (.t 1) 0), .s (.load 24 false 1 (.t 23)), .s (.bin 25 .shl (.t 22) (.t 24)), .s (.fa 26 (.t 1) 1), .s (.load 27 false 1 (.t 26)), .s (.fa 28 (.t 1) 2), .s (.load 29 false 1 (.t 28)), .s (.bin 30 .add (.t 27) (.t 29)), .s (.fa 31 (.t 1) 0), .s (.load 32 false 1 (.t 31)), .s (.bin 33 .shl (.t 30) (.t 32)), .s (.mm 34 false (.k (.v (.c (.int .i64 4096)))) (.t 33)), .s (.mv 2 (.t 25)), .s (.mv 3 (.t 34)), .s (.mv 4 (.k (.v (.c .tt))))] (.tk 0 (.tk 1 (.tk 2 (.tk 3 (.tk 4 (.tk 5 (.tk 6 (.tk 7 (.tk 8 (.tk 9 (.tk 10 (.tk 11 (.tk 12 (.tk 13 (.tk 14 (.tk 15 (.tk 16 (.done none))))))))))))))))))) (.ret)))⟩
def c_impl_Unpack : Fun := ⟨231, [], fun ts K => as1 ts fun t0 => arG pPackedT t0 fun p => K (unpackT (unpack p)) []⟩
theorem run_impl_Unpack (p : Packed) : runK [c_impl_in] (0) [] pf_impl_Unpack [tG (p.tc [])] fun r o => r = unpackT (unpack p) ∧ o = [] := by
  conv => whnf
  repeat' (first | (refine sel_i (fun h => ?_) (fun h => ?_) <;> conv => whnf) | (refine chk_c ?_ ?_ <;> conv => whnf) | (refine And.intro ?_ rfl) | (refine And.intro ?_ ?_ <;> conv => whnf))
  all_goals first
    | (rw [unpack_no (by simp_all [unpackOk])]; rfl)
    | (refine ⟨?_⟩; simp_all [inR]; done)
    | (have hk : unpackOk p = true := by simp_all [unpackOk]
       rw [(unpack_sh hk).1, (unpack_sh hk).2, unpack_yes hk]; rfl)
    | (have hk : unpackOk p = true := by simp_all [unpackOk]
       rw [(unpack_sh hk).1, (unpack_sh hk).2, unpack_yes hk, Int.min_comm]; rfl)
theorem ok_impl_Unpack : FunOk Try.prog c_impl_Unpack := funOk (E := [c_impl_in]) (envOk_cons ok_impl_in (envOk_nil)) mixd Try.func231 (pf := pf_impl_Unpack) (by kernel_rfl) fun ts K h => by
  obtain ⟨t0, e0, h⟩ := as1_out h
  subst e0
  obtain ⟨p, e1, hq⟩ := arG_out rd_packed h
  clear h
  subst e1
  have h := hq
  clear hq
  exact ⟨_, _, h, Nat.le_of_ble_eq_true (show Nat.ble 1 Try.f231.ntmps = true by kernel_rfl), _, run_impl_Unpack p⟩

def pf_spec_Wide : PF := ⟨[.t 4, .t 5], .seq (.reg [.s (.mv 4 (.k (.v (.c (.int .i64 0))))), .s (.mv 5 (.k (.v (.c (.int .i64 0)))))]) (.seq (.reg [.s (.mv 12 (.t 0)), .s (.mv 13 (.t 1)), .s (.call (some 14) 247 [(.t 12), (.t 13)]), .s (.mv 11 (.t 14)), .s (.ext 15 (.t 11) 0), .s (.ext 16 (.t 11) 1), .s (.alloc 6 [.int .i64 0, .int .i64 0, .int .i64 0]), .s (.store 3 (.t 6) (.t 15)), .s (.mv 7 (.t 16))]) (.seq (.seq (.reg [.s (.mv 17 (.t 7)), .s (.bnot 18 (.t 17))]) (.cond (.t 18) (.seq (.seq (.reg [.s (.mv 19 (.t 0)), .s (.mv 20 (.t 1)), .s (.call (some 21) 225 [(.t 19), (.t 20)])]) (.cond (.t 21) (.seq (.reg [.s (.mv 4 (.k (.v (.c (.int .i64 0))))), .s (.mv 5 (.k (.v (.c (.int .i64 4096)))))]) (.ret)) (.skip))) (.seq (.reg [.s (.mv 4 (.k (.v (.c (.int .i64 0))))), .s (.mv 5 (.k (.v (.c (.int .i64 0)))))]) (.ret))) (.skip))) (.seq (.reg [.s (.load 23 true 3 (.t 6)), .s (.call (some 24) 248 [(.t 23)]), .s (.mv 22 (.t 24)), .s (.ext 25 (.t 22) 0), .s (.ext 26 (.t 22) 1), .s (.ext 27 (.t 22) 2), .s (.mv 8 (.t 25)), .s (.mv 9 (.t 26)), .s (.mv 10 (.t 27))]) (.seq (.reg [.s (.mv 28 (.t 8)), .s (.mv 29 (.t 9)), .s (.mv 4 (.t 28)), .s (.mv 5 (.t 29))]) (.ret)))))⟩
def c_spec_Wide : Fun := ⟨227, [], fun ts K => as2 ts fun t0 t1 => arC (pI .i64) t0 fun b => arC (pI .i64) t1 fun t => K (wideT (wide b t)) []⟩
theorem run_spec_Wide (b : Int) (t : Int) : runK [c_spec_BoundsOk, c_spec_Pack, c_spec_Unpack] (0) [] pf_spec_Wide [tI .i64 b, tI .i64 t] fun r o => r = wideT (wide b t) ∧ o = [] := by
  conv => whnf
  repeat' (first | (refine sel_i (fun h => ?_) (fun h => ?_) <;> conv => whnf) | (refine chk_c ?_ ?_ <;> conv => whnf) | (refine And.intro ?_ rfl) | (refine And.intro ?_ ?_ <;> conv => whnf))
  all_goals ((try simp only [etaPacked]); first | (simp_all [wide, wideT]; done) | (have hb := pack_isSome (b := b) (t := t) (by simpa using h); simp_all [wide, wideT]; done))
theorem ok_spec_Wide : FunOk Try.prog c_spec_Wide := funOk (E := [c_spec_BoundsOk, c_spec_Pack, c_spec_Unpack]) (envOk_cons ok_spec_BoundsOk (envOk_cons ok_spec_Pack (envOk_cons ok_spec_Unpack (envOk_nil)))) mixd Try.func227 (pf := pf_spec_Wide) (by kernel_rfl) fun ts K h => by
  obtain ⟨t0, t1, e0, h⟩ := as2_out h
  subst e0
  obtain ⟨b, e1, hq⟩ := arC_out (rd_int .i64) h
  clear h
  subst e1
  have h := hq
  clear hq
  obtain ⟨t, e1, hq⟩ := arC_out (rd_int .i64) h
  clear h
  subst e1
  have h := hq
  clear hq
  exact ⟨_, _, h, Nat.le_of_ble_eq_true (show Nat.ble 2 Try.f227.ntmps = true by kernel_rfl), _, run_spec_Wide b t⟩

def pf_impl_Wide : PF := ⟨[.t 4, .t 5], .seq (.reg [.s (.mv 4 (.k (.v (.c (.int .i64 0))))), .s (.mv 5 (.k (.v (.c (.int .i64 0)))))]) (.seq (.seq (.reg [.s (.mv 11 (.t 0)), .s (.mv 12 (.t 1)), .s (.call (some 13) 205 [(.t 11), (.t 12)]), .s (.bnot 14 (.t 13))]) (.cond (.t 14) (.seq (.reg [.s (.mv 4 (.k (.v (.c (.int .i64 0))))), .s (.mv 5 (.k (.v (.c (.int .i64 0)))))]) (.ret)) (.skip))) (.seq (.reg [.s (.mv 16 (.t 0)), .s (.mv 17 (.t 1)), .s (.call (some 18) 230 [(.t 16), (.t 17)]), .s (.mv 15 (.t 18)), .s (.ext 19 (.t 15) 0), .s (.ext 20 (.t 15) 1), .s (.alloc 6 [.int .i64 0, .int .i64 0, .int .i64 0]), .s (.store 3 (.t 6) (.t 19)), .s (.mv 7 (.t 20))]) (.seq (.seq (.reg [.s (.mv 21 (.t 7)), .s (.bnot 22 (.t 21))]) (.cond (.t 22) (.seq (.reg [.s (.mv 4 (.k (.v (.c (.int .i64 0))))), .s (.mv 5 (.k (.v (.c (.int .i64 4096)))))]) (.ret)) (.skip))) (.seq (.reg [.s (.load 24 true 3 (.t 6)), .s (.call (some 25) 231 [(.t 24)]), .s (.mv 23 (.t 25)), .s (.ext 26 (.t 23) 0), .s (.ext 27 (.t 23) 1), .s (.ext 28 (.t 23) 2), .s (.mv 8 (.t 26)), .s (.mv 9 (.t 27)), .s (.mv 10 (.t 28))]) (.seq (.reg [.s (.mv 29 (.t 8)), .s (.mv 30 (.t 9)), .s (.mv 4 (.t 29)), .s (.mv 5 (.t 30))]) (.ret))))))⟩
def c_impl_Wide : Fun := ⟨204, [], fun ts K => as2 ts fun t0 t1 => arC (pI .i64) t0 fun b => arC (pI .i64) t1 fun t => K (wideT (wide b t)) []⟩
theorem run_impl_Wide (b : Int) (t : Int) : runK [c_impl_BoundsOk, c_impl_Pack, c_impl_Unpack] (0) [] pf_impl_Wide [tI .i64 b, tI .i64 t] fun r o => r = wideT (wide b t) ∧ o = [] := by
  conv => whnf
  repeat' (first | (refine sel_i (fun h => ?_) (fun h => ?_) <;> conv => whnf) | (refine chk_c ?_ ?_ <;> conv => whnf) | (refine And.intro ?_ rfl) | (refine And.intro ?_ ?_ <;> conv => whnf))
  all_goals ((try simp only [etaPacked]); first | (simp_all [wide, wideT]; done) | (have hb := pack_isSome (b := b) (t := t) (by simpa using h); simp_all [wide, wideT]; done))
theorem ok_impl_Wide : FunOk Try.prog c_impl_Wide := funOk (E := [c_impl_BoundsOk, c_impl_Pack, c_impl_Unpack]) (envOk_cons ok_impl_BoundsOk (envOk_cons ok_impl_Pack (envOk_cons ok_impl_Unpack (envOk_nil)))) mixd Try.func204 (pf := pf_impl_Wide) (by kernel_rfl) fun ts K h => by
  obtain ⟨t0, t1, e0, h⟩ := as2_out h
  subst e0
  obtain ⟨b, e1, hq⟩ := arC_out (rd_int .i64) h
  clear h
  subst e1
  have h := hq
  clear hq
  obtain ⟨t, e1, hq⟩ := arC_out (rd_int .i64) h
  clear h
  subst e1
  have h := hq
  clear hq
  exact ⟨_, _, h, Nat.le_of_ble_eq_true (show Nat.ble 2 Try.f204.ntmps = true by kernel_rfl), _, run_impl_Wide b t⟩

def pf_spec_Exact : PF := ⟨[.t 4], .seq (.reg [.s (.mv 4 (.k (.v (.c .ff))))]) (.seq (.reg [.s (.mv 8 (.t 0)), .s (.mv 9 (.t 1)), .s (.call (some 10) 227 [(.t 8), (.t 9)]), .s (.mv 7 (.t 10)), .s (.ext 11 (.t 7) 0), .s (.ext 12 (.t 7) 1), .s (.mv 5 (.t 11)), .s (.mv 6 (.t 12))]) (.seq (.reg [.s (.mv 13 (.t 0)), .s (.mv 14 (.t 1)), .s (.call (some 15) 225 [(.t 13), (.t 14)]), .s (.mv 16 (.t 15)), .g 16 true (some 17) (.mv 17 (.t 5)), .g 16 true (some 18) (.mv 18 (.t 0)), .g 16 true (some 19) (.bin 19 .eql (.t 17) (.t 18)), .s (.pick 20 (.t 16) (.t 19) (.k (.v (.c .ff)))), .s (.mv 21 (.t 20)), .g 21 true (some 22) (.mv 22 (.t 6)), .g 21 true (some 23) (.mv 23 (.t 1)), .g 21 true (some 24) (.bin 24 .eql (.t 22) (.t 23)), .s (.pick 25 (.t 21) (.t 24) (.k (.v (.c .ff)))), .s (.mv 4 (.t 25))]) (.ret)))⟩
def c_spec_Exact : Fun := ⟨203, [], fun ts K => as2 ts fun t0 t1 => arC (pI .i64) t0 fun b => arC (pI .i64) t1 fun t => K (tB (exact_ b t)) []⟩
theorem run_spec_Exact (b : Int) (t : Int) : runK [c_spec_BoundsOk, c_spec_Wide] (0) [] pf_spec_Exact [tI .i64 b, tI .i64 t] fun r o => r = tB (exact_ b t) ∧ o = [] := by
  conv => whnf
  repeat' (first | (refine sel_i (fun h => ?_) (fun h => ?_) <;> conv => whnf) | (refine chk_c ?_ ?_ <;> conv => whnf) | (refine And.intro ?_ rfl) | (refine And.intro ?_ ?_ <;> conv => whnf))
  all_goals ((try simp only [beqI]); simp_all [exact_]; done)
theorem ok_spec_Exact : FunOk Try.prog c_spec_Exact := funOk (E := [c_spec_BoundsOk, c_spec_Wide]) (envOk_cons ok_spec_BoundsOk (envOk_cons ok_spec_Wide (envOk_nil))) mixd Try.func203 (pf := pf_spec_Exact) (by kernel_rfl) fun ts K h => by
  obtain ⟨t0, t1, e0, h⟩ := as2_out h
  subst e0
  obtain ⟨b, e1, hq⟩ := arC_out (rd_int .i64) h
  clear h
  subst e1
  have h := hq
  clear hq
  obtain ⟨t, e1, hq⟩ := arC_out (rd_int .i64) h
  clear h
  subst e1
  have h := hq
  clear hq
  exact ⟨_, _, h, Nat.le_of_ble_eq_true (show Nat.ble 2 Try.f203.ntmps = true by kernel_rfl), _, run_spec_Exact b t⟩

def pf_impl_Exact : PF := ⟨[.t 4], .seq (.reg [.s (.mv 4 (.k (.v (.c .ff))))]) (.seq (.reg [.s (.mv 8 (.t 0)), .s (.mv 9 (.t 1)), .s (.call (some 10) 204 [(.t 8), (.t 9)]), .s (.mv 7 (.t 10)), .s (.ext 11 (.t 7) 0), .s (.ext 12 (.t 7) 1), .s (.mv 5 (.t 11)), .s (.mv 6 (.t 12))]) (.seq (.reg [.s (.mv 13 (.t 0)), .s (.mv 14 (.t 1)), .s (.call (some 15) 205 [(.t 13), (.t 14)]), .s (.mv 16 (.t 15)), .g 16 true (some 17) (.mv 17 (.t 5)), .g 16 true (some 18) (.mv 18 (.t 0)), .g 16 true (some 19) (.bin 19 .eql (.t 17) (.t 18)), .s (.pick 20 (.t 16) (.t 19) (.k (.v (.c .ff)))), .s (.mv 21 (.t 20)), .g 21 true (some 22) (.mv 22 (.t 6)), .g 21 true (some 23) (.mv 23 (.t 1)), .g 21 true (some 24) (.bin 24 .eql (.t 22) (.t 23)), .s (.pick 25 (.t 21) (.t 24) (.k (.v (.c .ff)))), .s (.mv 4 (.t 25))]) (.ret)))⟩
def c_impl_Exact : Fun := ⟨161, [], fun ts K => as2 ts fun t0 t1 => arC (pI .i64) t0 fun b => arC (pI .i64) t1 fun t => K (tB (exact_ b t)) []⟩
theorem run_impl_Exact (b : Int) (t : Int) : runK [c_impl_Wide, c_impl_BoundsOk] (0) [] pf_impl_Exact [tI .i64 b, tI .i64 t] fun r o => r = tB (exact_ b t) ∧ o = [] := by
  conv => whnf
  repeat' (first | (refine sel_i (fun h => ?_) (fun h => ?_) <;> conv => whnf) | (refine chk_c ?_ ?_ <;> conv => whnf) | (refine And.intro ?_ rfl) | (refine And.intro ?_ ?_ <;> conv => whnf))
  all_goals ((try simp only [beqI]); simp_all [exact_]; done)
theorem ok_impl_Exact : FunOk Try.prog c_impl_Exact := funOk (E := [c_impl_Wide, c_impl_BoundsOk]) (envOk_cons ok_impl_Wide (envOk_cons ok_impl_BoundsOk (envOk_nil))) mixd Try.func161 (pf := pf_impl_Exact) (by kernel_rfl) fun ts K h => by
  obtain ⟨t0, t1, e0, h⟩ := as2_out h
  subst e0
  obtain ⟨b, e1, hq⟩ := arC_out (rd_int .i64) h
  clear h
  subst e1
  have h := hq
  clear hq
  obtain ⟨t, e1, hq⟩ := arC_out (rd_int .i64) h
  clear h
  subst e1
  have h := hq
  clear hq
  exact ⟨_, _, h, Nat.le_of_ble_eq_true (show Nat.ble 2 Try.f161.ntmps = true by kernel_rfl), _, run_impl_Exact b t⟩

def pf_spec_KeyOk : PF := ⟨[.t 2], .seq (.reg [.s (.box 1 (.t 0)), .s (.mv 2 (.k (.v (.c .ff))))]) (.seq (.reg [.s (.fa 3 (.t 1) 0), .s (.load 4 false 1 (.t 3)), .s (.fa 5 (.t 1) 1), .s (.load 6 false 1 (.t 5)), .s (.call (some 7) 203 [(.t 4), (.t 6)]), .s (.mv 8 (.t 7)), .g 8 true (some 9) (.fa 9 (.t 1) 2), .g 8 true (some 10) (.load 10 false 1 (.t 9)), .g 8 true (some 11) (.call (some 11) 149 [(.t 10), (.k (.v (.c (.int .i64 0)))), (.k (.v (.c (.int .i64 63))))]), .s (.pick 12 (.t 8) (.t 11) (.k (.v (.c .ff)))), .s (.mv 13 (.t 12)), .g 13 true (some 14) (.fa 14 (.t 1) 3), .g 13 true (some 15) (.load 15 false 1 (.t 14)), .g 13 true (some 16) (.call (some 16) 149 [(.t 15), (.k (.v (.c (.int .i64 0)))), (.k (.v (.c (.int .i64 7))))]), .s (.pick 17 (.t 13) (.t 16) (.k (.v (.c .ff)))), .s (.mv 2 (.t 17))]) (.ret))⟩
def c_spec_KeyOk : Fun := ⟨160, [], fun ts K => as1 ts fun t0 => arG pKeyT t0 fun k => K (tB (keyOk k)) []⟩
theorem run_spec_KeyOk (k : Key) : runK [c_spec_l1In, c_spec_Exact] (0) [] pf_spec_KeyOk [tG (k.tc [])] fun r o => r = tB (keyOk k) ∧ o = [] := by
  conv => whnf
  repeat' (first | (refine sel_i (fun h => ?_) (fun h => ?_) <;> conv => whnf) | (refine chk_c ?_ ?_ <;> conv => whnf) | (refine And.intro ?_ rfl) | (refine And.intro ?_ ?_ <;> conv => whnf))
  all_goals (simp_all [keyOk]; done)
theorem ok_spec_KeyOk : FunOk Try.prog c_spec_KeyOk := funOk (E := [c_spec_l1In, c_spec_Exact]) (envOk_cons ok_spec_l1In (envOk_cons ok_spec_Exact (envOk_nil))) mixd Try.func160 (pf := pf_spec_KeyOk) (by kernel_rfl) fun ts K h => by
  obtain ⟨t0, e0, h⟩ := as1_out h
  subst e0
  obtain ⟨k, e1, hq⟩ := arG_out rd_key h
  clear h
  subst e1
  have h := hq
  clear hq
  exact ⟨_, _, h, Nat.le_of_ble_eq_true (show Nat.ble 1 Try.f160.ntmps = true by kernel_rfl), _, run_spec_KeyOk k⟩

def pf_impl_KeyOk : PF := ⟨[.t 2], .seq (.reg [.s (.box 1 (.t 0)), .s (.mv 2 (.k (.v (.c .ff))))]) (.seq (.reg [.s (.fa 3 (.t 1) 0), .s (.load 4 false 1 (.t 3)), .s (.fa 5 (.t 1) 1), .s (.load 6 false 1 (.t 5)), .s (.call (some 7) 161 [(.t 4), (.t 6)]), .s (.mv 8 (.t 7)), .g 8 true (some 9) (.fa 9 (.t 1) 2), .g 8 true (some 10) (.load 10 false 1 (.t 9)), .g 8 true (some 11) (.call (some 11) 98 [(.t 10), (.k (.v (.c (.int .i64 0)))), (.k (.v (.c (.int .i64 63))))]), .s (.pick 12 (.t 8) (.t 11) (.k (.v (.c .ff)))), .s (.mv 13 (.t 12)), .g 13 true (some 14) (.fa 14 (.t 1) 3), .g 13 true (some 15) (.load 15 false 1 (.t 14)), .g 13 true (some 16) (.call (some 16) 98 [(.t 15), (.k (.v (.c (.int .i64 0)))), (.k (.v (.c (.int .i64 7))))]), .s (.pick 17 (.t 13) (.t 16) (.k (.v (.c .ff)))), .s (.mv 2 (.t 17))]) (.ret))⟩
def c_impl_KeyOk : Fun := ⟨99, [], fun ts K => as1 ts fun t0 => arG pKeyT t0 fun k => K (tB (keyOk k)) []⟩
theorem run_impl_KeyOk (k : Key) : runK [c_impl_in, c_impl_Exact] (0) [] pf_impl_KeyOk [tG (k.tc [])] fun r o => r = tB (keyOk k) ∧ o = [] := by
  conv => whnf
  repeat' (first | (refine sel_i (fun h => ?_) (fun h => ?_) <;> conv => whnf) | (refine chk_c ?_ ?_ <;> conv => whnf) | (refine And.intro ?_ rfl) | (refine And.intro ?_ ?_ <;> conv => whnf))
  all_goals (simp_all [keyOk]; done)
theorem ok_impl_KeyOk : FunOk Try.prog c_impl_KeyOk := funOk (E := [c_impl_in, c_impl_Exact]) (envOk_cons ok_impl_in (envOk_cons ok_impl_Exact (envOk_nil))) mixd Try.func99 (pf := pf_impl_KeyOk) (by kernel_rfl) fun ts K h => by
  obtain ⟨t0, e0, h⟩ := as1_out h
  subst e0
  obtain ⟨k, e1, hq⟩ := arG_out rd_key h
  clear h
  subst e1
  have h := hq
  clear hq
  exact ⟨_, _, h, Nat.le_of_ble_eq_true (show Nat.ble 1 Try.f99.ntmps = true by kernel_rfl), _, run_impl_KeyOk k⟩

def pf_spec_WordOk : PF := ⟨[.t 2], .seq (.reg [.s (.box 1 (.t 0)), .s (.mv 2 (.k (.v (.c .ff))))]) (.seq (.reg [.s (.fa 3 (.t 1) 0), .s (.load 4 false 1 (.t 3)), .s (.call (some 5) 149 [(.t 4), (.k (.v (.c (.int .i64 0)))), (.k (.v (.c (.int .i64 65535))))]), .s (.mv 6 (.t 5)), .g 6 true (some 7) (.fa 7 (.t 1) 1), .g 6 true (some 8) (.load 8 false 1 (.t 7)), .g 6 true (some 9) (.mv 9 (.t 8)), .g 9 true (some 10) (.fa 10 (.t 1) 2), .g 9 true (some 11) (.load 11 true 4 (.t 10)), .g 9 true (some 12) (.call (some 12) 160 [(.t 11)]), .g 6 true (some 13) (.pick 13 (.t 9) (.t 12) (.k (.v (.c .ff)))), .g 6 true (some 14) (.mv 14 (.t 13)), .g 14 false (some 15) (.fa 15 (.t 1) 1), .g 14 false (some 16) (.load 16 false 1 (.t 15)), .g 14 false (some 17) (.bnot 17 (.t 16)), .g 14 false (some 18) (.mv 18 (.t 17)), .g 18 true (some 19) (.fa 19 (.t 1) 2), .g 18 true (some 20) (.load 20 true 4 (.t 19)), .g 18 true (some 21) (.build 21 [.int .i64 0, .int .i64 0, .int .i64 0, .int .i64 0] []), .g 18 true (some 22) (.eqs 22 true [.i, .i, .i, .i] false (.t 20) (.t 21)), .g 14 false (some 23) (.pick 23 (.t 18) (.t 22) (.k (.v (.c .ff)))), .g 6 true (some 24) (.pick 24 (.t 14) (.k (.v (.c .tt))) (.t 23)), .s (.pick 25 (.t 6) (.t 24) (.k (.v (.c .ff)))), .s (.mv 2 (.t 25))]) (.ret))⟩
def c_spec_WordOk : Fun := ⟨90, [], fun ts K => as1 ts fun t0 => arG pWordT t0 fun w => K (tB (wordOk w)) []⟩
theorem run_spec_WordOk (w : Word) : runK [c_spec_l1In, c_spec_KeyOk] (0) [] pf_spec_WordOk [tG (w.tc [])] fun r o => r = tB (wordOk w) ∧ o = [] := by
  conv => whnf
  repeat' (first | (refine sel_i (fun h => ?_) (fun h => ?_) <;> conv => whnf) | (refine chk_c ?_ ?_ <;> conv => whnf) | (refine And.intro ?_ rfl) | (refine And.intro ?_ ?_ <;> conv => whnf))
  all_goals (try simp only [etaKey, keyEq0] at *); first | rfl | (simp_all [wordOk]; done) | trace_state
theorem ok_spec_WordOk : FunOk Try.prog c_spec_WordOk := funOk (E := [c_spec_l1In, c_spec_KeyOk]) (envOk_cons ok_spec_l1In (envOk_cons ok_spec_KeyOk (envOk_nil))) mixd Try.func90 (pf := pf_spec_WordOk) (by kernel_rfl) fun ts K h => by
  obtain ⟨t0, e0, h⟩ := as1_out h
  subst e0
  obtain ⟨w, e1, hq⟩ := arG_out rd_word h
  clear h
  subst e1
  have h := hq
  clear hq
  exact ⟨_, _, h, Nat.le_of_ble_eq_true (show Nat.ble 1 Try.f90.ntmps = true by kernel_rfl), _, run_spec_WordOk w⟩

def pf_impl_WordOk : PF := ⟨[.t 2], .seq (.reg [.s (.box 1 (.t 0)), .s (.mv 2 (.k (.v (.c .ff))))]) (.seq (.seq (.reg [.s (.fa 3 (.t 1) 1), .s (.load 4 false 1 (.t 3))]) (.cond (.t 4) (.seq (.reg [.s (.fa 5 (.t 1) 0), .s (.load 6 false 1 (.t 5)), .s (.call (some 7) 98 [(.t 6), (.k (.v (.c (.int .i64 0)))), (.k (.v (.c (.int .i64 65535))))]), .s (.mv 8 (.t 7)), .g 8 true (some 9) (.fa 9 (.t 1) 2), .g 8 true (some 10) (.load 10 true 4 (.t 9)), .g 8 true (some 11) (.call (some 11) 99 [(.t 10)]), .s (.pick 12 (.t 8) (.t 11) (.k (.v (.c .ff)))), .s (.mv 2 (.t 12))]) (.ret)) (.skip))) (.seq (.reg [.s (.fa 13 (.t 1) 0), .s (.load 14 false 1 (.t 13)), .s (.call (some 15) 98 [(.t 14), (.k (.v (.c (.int .i64 0)))), (.k (.v (.c (.int .i64 65535))))]), .s (.mv 16 (.t 15)), .g 16 true (some 17) (.fa 17 (.t 1) 2), .g 16 true (some 18) (.load 18 true 4 (.t 17)), .g 16 true (some 19) (.build 19 [.int .i64 0, .int .i64 0, .int .i64 0, .int .i64 0] []), .g 16 true (some 20) (.eqs 20 true [.i, .i, .i, .i] false (.t 18) (.t 19)), .s (.pick 21 (.t 16) (.t 20) (.k (.v (.c .ff)))), .s (.mv 2 (.t 21))]) (.ret)))⟩
def c_impl_WordOk : Fun := ⟨28, [], fun ts K => as1 ts fun t0 => arG pWordT t0 fun w => K (tB (wordOk w)) []⟩
theorem run_impl_WordOk (w : Word) : runK [c_impl_in, c_impl_KeyOk] (0) [] pf_impl_WordOk [tG (w.tc [])] fun r o => r = tB (wordOk w) ∧ o = [] := by
  conv => whnf
  repeat' (first | (refine sel_i (fun h => ?_) (fun h => ?_) <;> conv => whnf) | (refine chk_c ?_ ?_ <;> conv => whnf) | (refine And.intro ?_ rfl) | (refine And.intro ?_ ?_ <;> conv => whnf))
  all_goals (try simp only [etaKey, keyEq0] at *); first | rfl | (simp_all [wordOk]; done) | trace_state
theorem ok_impl_WordOk : FunOk Try.prog c_impl_WordOk := funOk (E := [c_impl_in, c_impl_KeyOk]) (envOk_cons ok_impl_in (envOk_cons ok_impl_KeyOk (envOk_nil))) mixd Try.func28 (pf := pf_impl_WordOk) (by kernel_rfl) fun ts K h => by
  obtain ⟨t0, e0, h⟩ := as1_out h
  subst e0
  obtain ⟨w, e1, hq⟩ := arG_out rd_word h
  clear h
  subst e1
  have h := hq
  clear hq
  exact ⟨_, _, h, Nat.le_of_ble_eq_true (show Nat.ble 1 Try.f28.ntmps = true by kernel_rfl), _, run_impl_WordOk w⟩

def pf_impl_MemoryOk_1 : PF := ⟨[.t 2], .seq (.reg [.s (.box 1 (.t 0)), .s (.mv 2 (.k (.v (.c .ff))))]) (.seq (.reg [.s (.load 3 true 6 (.t 1)), .s (.call (some 4) 28 [(.t 3)]), .s (.bnot 5 (.t 4)), .s (.mv 2 (.t 5))]) (.ret))⟩
def c_impl_MemoryOk_1 : Fun := ⟨97, [], fun ts K => as1 ts fun t0 => arG pWordT t0 fun w => K (tB (!wordOk w)) []⟩
theorem run_impl_MemoryOk_1 (w : Word) : runK [c_impl_WordOk] (0) [] pf_impl_MemoryOk_1 [tG (w.tc [])] fun r o => r = tB (!wordOk w) ∧ o = [] := by
  conv => whnf
  repeat' (first
    | exact rfl
    | exact trivial
    | (refine sel_i (fun h => ?_) (fun h => ?_) <;> conv => whnf)
    | (refine chk_c ?_ ?_ <;> conv => whnf)
    | (refine And.intro ?_ ?_ <;> conv => whnf))
theorem ok_impl_MemoryOk_1 : FunOk Try.prog c_impl_MemoryOk_1 := funOk (E := [c_impl_WordOk]) (envOk_cons ok_impl_WordOk (envOk_nil)) mixd Try.func97 (pf := pf_impl_MemoryOk_1) (by kernel_rfl) fun ts K h => by
  obtain ⟨t0, e0, h⟩ := as1_out h
  subst e0
  obtain ⟨w, e1, hq⟩ := arG_out rd_word h
  clear h
  subst e1
  have h := hq
  clear hq
  exact ⟨_, _, h, Nat.le_of_ble_eq_true (show Nat.ble 1 Try.f97.ntmps = true by kernel_rfl), _, run_impl_MemoryOk_1 w⟩

def lb_slices_IndexFunc_Word_0 : PC := .seq (.reg [.s (.bin 9 .lss (.t 8) (.t 7))]) (.seq (.cond (.t 9) (.skip) (.exit 0)) (.seq (.blk 1 (.seq (.reg [.s (.mv 10 (.t 8)), .s (.mv 5 (.t 10))]) (.seq (.reg [.s (.mv 11 (.t 1)), .s (.mv 12 (.t 0)), .s (.mv 13 (.t 5)), .s (.ia 14 .word (.t 12) (.t 13)), .s (.load 15 true 6 (.t 14)), .s (.callv (some 16) (.t 11) [(.t 15)])]) (.cond (.t 16) (.seq (.reg [.s (.mv 17 (.t 5)), .s (.mv 4 (.t 17))]) (.ret)) (.skip))))) (.reg [.s (.bin 18 .add (.t 8) (.k (.v (.c (.int .i64 1))))), .s (.mv 8 (.t 18))])))
def pf_slices_IndexFunc_Word : PF := ⟨[.t 4], .seq (.reg [.s (.mv 4 (.k (.v (.c (.int .i64 0)))))]) (.seq (.seq (.reg [.s (.mv 6 (.t 0)), .s (.len 7 false (.t 6)), .s (.mv 8 (.k (.v (.c (.int .i64 0)))))]) (.blk 0 (.loop [0, 1, 7, 8] lb_slices_IndexFunc_Word_0))) (.seq (.reg [.s (.mv 4 (.k (.v (.c (.int .i64 (-1))))))]) (.ret)))⟩
def c_slices_IndexFunc_Word__impl_MemoryOk_1 : Fun := ⟨159, [], fun ts K => as2 ts fun t0 t1 => arC (pL .word) t0 fun xs => arF0 97 t1 fun g => chk (xs.length ≤ 2147483647) (K (tN (idxOf (fun w => !wordOk w) xs)) [])⟩
theorem run_slices_IndexFunc_Word__impl_MemoryOk_1 (xs : List (FT.Ty .word)) (g : Unit) (hpre : xs.length ≤ 2147483647) : runK [c_impl_MemoryOk_1] (xs.length + 1) [] pf_slices_IndexFunc_Word [tL false .word xs, .fn 97 []] fun r o => r = tN (idxOf (fun w => !wordOk w) xs) ∧ o = [] := by
  conv => whnf
  refine loop (α := Nat) (fun i => ⟨[(0, .v (.c (.sl false .word 0))), (1, .fn 97 []), (7, .v (.c (.int .i64 (xs.length : Int)))), (8, .v (.c (.int .i64 (i : Int))))], [(0, some (.flat false .word none xs))], nums.tail, [], false, []⟩)
      (fun i => i ≤ xs.length ∧ idxOf (fun w => !wordOk w) xs = idxGo (fun w => !wordOk w) (xs.drop i) i) (fun i => xs.length - i) (fun i R hI hR => ?_) 0 _ ⟨by simp, rfl⟩ (by simp)
  obtain ⟨hi, hx⟩ := hI
  conv => whnf
  refine sel_i (fun h2 => ?_) (fun h2 => ?_)
  · have hlt : i < xs.length := by simp at h2; omega
    conv => whnf
    repeat (refine chk_i (by first | omega | (simp; omega)) ?_; conv => whnf)
    refine sel_i (fun h3 => ?_) (fun h3 => ?_)
    · conv => whnf
      rw [hx, idxGo_yes (z := FT.zero .word) hlt (by first | (simp only [keyEq] at h3; exact h3) | (simpa using h3))]
      exact ⟨rfl, rfl⟩
    · conv => whnf
      rw [wrap_id (n := (i : Int) + 1) (by omega) (by omega)]
      exact hR (i + 1) ⟨by omega, by rw [hx, idxGo_no (z := FT.zero .word) hlt (by first | (simp only [keyEq] at h3; exact h3) | (simpa using h3))]⟩ (by omega)
  · conv => whnf
    rw [hx, idxGo_end (by simp at h2; omega)]
    exact ⟨rfl, rfl⟩
theorem ok_slices_IndexFunc_Word__impl_MemoryOk_1 : FunOk Try.prog c_slices_IndexFunc_Word__impl_MemoryOk_1 := funOk (E := [c_impl_MemoryOk_1]) (envOk_cons ok_impl_MemoryOk_1 (envOk_nil)) mixd Try.func159 (pf := pf_slices_IndexFunc_Word) (by kernel_rfl) fun ts K h => by
  obtain ⟨t0, t1, e0, h⟩ := as2_out h
  subst e0
  obtain ⟨xs, e1, hq⟩ := arC_out (rd_l .word) h
  clear h
  subst e1
  have h := hq
  clear hq
  obtain ⟨g, e1, hq⟩ := arF0_out h
  clear h
  subst e1
  have h := hq
  clear hq
  obtain ⟨hpre, h⟩ := chk_o h
  exact ⟨_, _, h, Nat.le_of_ble_eq_true (show Nat.ble 2 Try.f159.ntmps = true by kernel_rfl), _, run_slices_IndexFunc_Word__impl_MemoryOk_1 xs g hpre⟩

def pf_slices_ContainsFunc_Word : PF := ⟨[.t 4], .seq (.reg [.s (.mv 4 (.k (.v (.c .ff))))]) (.seq (.reg [.s (.mv 5 (.t 0)), .s (.mv 6 (.t 1)), .s (.call (some 7) 159 [(.t 5), (.t 6)]), .s (.bin 8 .geq (.t 7) (.k (.v (.c (.int .i64 0))))), .s (.mv 4 (.t 8))]) (.ret))⟩
def c_slices_ContainsFunc_Word__impl_MemoryOk_1 : Fun := ⟨86, [], fun ts K => as2 ts fun t0 t1 => arC (pL .word) t0 fun xs => arF0 97 t1 fun g => chk (xs.length ≤ 2147483647) (K (tB (xs.any (fun w => !wordOk w))) [])⟩
theorem run_slices_ContainsFunc_Word__impl_MemoryOk_1 (xs : List (FT.Ty .word)) (g : Unit) (hpre : xs.length ≤ 2147483647) : runK [c_slices_IndexFunc_Word__impl_MemoryOk_1, c_impl_MemoryOk_1] (0) [] pf_slices_ContainsFunc_Word [tL false .word xs, .fn 97 []] fun r o => r = tB (xs.any (fun w => !wordOk w)) ∧ o = [] := by
  conv => whnf
  repeat' (first | (refine sel_i (fun h => ?_) (fun h => ?_) <;> conv => whnf) | (refine chk_c ?_ ?_ <;> conv => whnf) | (refine And.intro ?_ rfl) | (refine And.intro ?_ ?_ <;> conv => whnf))
  all_goals first | (refine ⟨?_⟩; exact hpre) | exact hpre | (rw [← idxOf_any]; rfl) | (rw [← idxOf_any])
theorem ok_slices_ContainsFunc_Word__impl_MemoryOk_1 : FunOk Try.prog c_slices_ContainsFunc_Word__impl_MemoryOk_1 := funOk (E := [c_slices_IndexFunc_Word__impl_MemoryOk_1, c_impl_MemoryOk_1]) (envOk_cons ok_slices_IndexFunc_Word__impl_MemoryOk_1 (envOk_cons ok_impl_MemoryOk_1 (envOk_nil))) mixd Try.func86 (pf := pf_slices_ContainsFunc_Word) (by kernel_rfl) fun ts K h => by
  obtain ⟨t0, t1, e0, h⟩ := as2_out h
  subst e0
  obtain ⟨xs, e1, hq⟩ := arC_out (rd_l .word) h
  clear h
  subst e1
  have h := hq
  clear hq
  obtain ⟨g, e1, hq⟩ := arF0_out h
  clear h
  subst e1
  have h := hq
  clear hq
  obtain ⟨hpre, h⟩ := chk_o h
  exact ⟨_, _, h, Nat.le_of_ble_eq_true (show Nat.ble 2 Try.f86.ntmps = true by kernel_rfl), _, run_slices_ContainsFunc_Word__impl_MemoryOk_1 xs g hpre⟩

def memoryOk (m : Mem) : Bool := decide (m.words.length = 24) && decide (m.gone.length = 24) && m.words.all wordOk
def stateOk (s : State) : Bool := decide (s.regs.length = 8) && s.regs.all wordOk && wordOk s.pc && memoryOk s.mem && inR s.trap 0 5
theorem all_any {α : Type} (p : α → Bool) (xs : List α) : xs.any (fun w => !p w) = !xs.all p := by
  induction xs with
  | nil => rfl
  | cons x xs ih => simp [ih]
theorem all_end {α : Type} {p : α → Bool} {xs : List α} {i : Nat} (h : xs.length ≤ i) (hi : (xs.drop i).all p = xs.all p) : xs.all p = true := by
  rw [← hi, List.drop_eq_nil_of_le h]; rfl
theorem all_no {α : Type} {p : α → Bool} {z : α} {xs : List α} {i : Nat} (h : i < xs.length) (hp : p (xs.getD i z) = false) (hi : (xs.drop i).all p = xs.all p) : xs.all p = false := by
  have e : xs.getD i z = xs[i] := by simp [List.getD_eq_getElem?_getD, h]
  rw [e] at hp; rw [← hi, List.drop_eq_getElem_cons h, List.all_cons, hp]; rfl
theorem all_yes {α : Type} {p : α → Bool} {z : α} {xs : List α} {i : Nat} (h : i < xs.length) (hp : p (xs.getD i z) = true) (hi : (xs.drop i).all p = xs.all p) : (xs.drop (i + 1)).all p = xs.all p := by
  have e : xs.getD i z = xs[i] := by simp [List.getD_eq_getElem?_getD, h]
  rw [e] at hp; rw [← hi, List.drop_eq_getElem_cons h, List.all_cons, hp]; rfl
theorem eqLen (n k : Nat) : ((n : Int) == (k : Int)) = decide (n = k) := by
  rw [Bool.eq_iff_iff]; simp; omega
theorem neLen (n k : Nat) : ((n : Int) != (k : Int)) = !decide (n = k) := by
  rw [bne, eqLen]
theorem eqLen24 (n : Nat) : ((n : Int) == 24) = decide (n = 24) := eqLen n 24
theorem neLen24 (n : Nat) : ((n : Int) != 24) = !decide (n = 24) := neLen n 24

def pf_impl_MemoryOk : PF := ⟨[.t 2], .seq (.reg [.s (.box 1 (.t 0)), .s (.mv 2 (.k (.v (.c .ff))))]) (.seq (.reg [.s (.fa 3 (.t 1) 0), .s (.load 4 false 1 (.t 3)), .s (.len 5 false (.t 4)), .s (.bin 6 .eql (.t 5) (.k (.v (.c (.int .i64 24))))), .s (.mv 7 (.t 6)), .g 7 true (some 8) (.fa 8 (.t 1) 1), .g 7 true (some 9) (.load 9 false 1 (.t 8)), .g 7 true (some 10) (.len 10 false (.t 9)), .g 7 true (some 11) (.bin 11 .eql (.t 10) (.k (.v (.c (.int .i64 24))))), .s (.pick 12 (.t 7) (.t 11) (.k (.v (.c .ff)))), .s (.mv 13 (.t 12)), .g 13 true (some 14) (.fa 14 (.t 1) 0), .g 13 true (some 15) (.load 15 false 1 (.t 14)), .g 13 true (some 16) (.call (some 16) 86 [(.t 15), (.k (.fn 97 []))]), .g 13 true (some 17) (.bnot 17 (.t 16)), .s (.pick 18 (.t 13) (.t 17) (.k (.v (.c .ff)))), .s (.mv 2 (.t 18))]) (.ret))⟩
def c_impl_MemoryOk : Fun := ⟨27, [], fun ts K => as1 ts fun t0 => arG pMemT t0 fun m => chk (LMem m 2147483647) (K (tB (memoryOk m)) [])⟩
theorem run_impl_MemoryOk (m : Mem) (hpre : LMem m 2147483647) : runK [c_slices_ContainsFunc_Word__impl_MemoryOk_1, c_impl_MemoryOk_1] (0) [] pf_impl_MemoryOk [tG (m.tc false [])] fun r o => r = tB (memoryOk m) ∧ o = [] := by
  obtain ⟨l1, l2⟩ := hpre
  conv => whnf
  repeat' (first | (refine sel_i (fun h => ?_) (fun h => ?_) <;> conv => whnf) | (refine chk_c ?_ ?_ <;> conv => whnf) | (refine And.intro ?_ rfl) | (refine And.intro ?_ ?_ <;> conv => whnf))
  all_goals first | (refine ⟨?_⟩; exact l1) | (simp only [eqLen24, all_any] at *; simp_all [memoryOk]; done)
theorem ok_impl_MemoryOk : FunOk Try.prog c_impl_MemoryOk := funOk (E := [c_slices_ContainsFunc_Word__impl_MemoryOk_1, c_impl_MemoryOk_1]) (envOk_cons ok_slices_ContainsFunc_Word__impl_MemoryOk_1 (envOk_cons ok_impl_MemoryOk_1 (envOk_nil))) mixd Try.func27 (pf := pf_impl_MemoryOk) (by kernel_rfl) fun ts K h => by
  obtain ⟨t0, e0, h⟩ := as1_out h
  subst e0
  obtain ⟨m, e1, hq⟩ := arG_out rd_mem h
  clear h
  subst e1
  have h := hq
  clear hq
  obtain ⟨hpre, h⟩ := chk_o h
  exact ⟨_, _, h, Nat.le_of_ble_eq_true (show Nat.ble 1 Try.f27.ntmps = true by kernel_rfl), _, run_impl_MemoryOk m hpre⟩

def lb_spec_MemoryOk_0 : PC := .seq (.seq (.reg [.s (.mv 14 (.t 3)), .s (.bin 15 .lss (.t 14) (.k (.v (.c (.int .i64 24)))))]) (.cond (.t 15) (.skip) (.exit 0))) (.seq (.blk 1 (.seq (.reg [.s (.fa 18 (.t 1) 0), .s (.load 19 false 1 (.t 18)), .s (.mv 20 (.t 3)), .s (.ia 21 .word (.t 19) (.t 20)), .s (.load 22 true 6 (.t 21)), .s (.call (some 23) 90 [(.t 22)]), .s (.bnot 24 (.t 23))]) (.cond (.t 24) (.seq (.reg [.s (.mv 2 (.k (.v (.c .ff))))]) (.ret)) (.skip)))) (.reg [.s (.mv 16 (.t 3)), .s (.bin 17 .add (.t 16) (.k (.v (.c (.int .i64 1))))), .s (.mv 3 (.t 17))]))
def pf_spec_MemoryOk : PF := ⟨[.t 2], .seq (.reg [.s (.box 1 (.t 0)), .s (.mv 2 (.k (.v (.c .ff))))]) (.seq (.seq (.reg [.s (.fa 4 (.t 1) 0), .s (.load 5 false 1 (.t 4)), .s (.len 6 false (.t 5)), .s (.bin 7 .neq (.t 6) (.k (.v (.c (.int .i64 24))))), .s (.mv 8 (.t 7)), .g 8 false (some 9) (.fa 9 (.t 1) 1), .g 8 false (some 10) (.load 10 false 1 (.t 9)), .g 8 false (some 11) (.len 11 false (.t 10)), .g 8 false (some 12) (.bin 12 .neq (.t 11) (.k (.v (.c (.int .i64 24))))), .s (.pick 13 (.t 8) (.k (.v (.c .tt))) (.t 12))]) (.cond (.t 13) (.seq (.reg [.s (.mv 2 (.k (.v (.c .ff))))]) (.ret)) (.skip))) (.seq (.seq (.reg [.s (.mv 3 (.k (.v (.c (.int .i64 0)))))]) (.blk 0 (.loop [1, 3] lb_spec_MemoryOk_0))) (.seq (.reg [.s (.mv 2 (.k (.v (.c .tt))))]) (.ret))))⟩
def c_spec_MemoryOk : Fun := ⟨89, [], fun ts K => as1 ts fun t0 => arG pMemT t0 fun m => K (tB (memoryOk m)) []⟩
theorem run_spec_MemoryOk (m : Mem) : runK [c_spec_WordOk] (25) [] pf_spec_MemoryOk [tG (m.tc false [])] fun r o => r = tB (memoryOk m) ∧ o = [] := by
  conv => whnf
  repeat' (first | (refine sel_i (fun h => ?_) (fun h => ?_) <;> conv => whnf) | (refine chk_c ?_ ?_ <;> conv => whnf) | (refine And.intro ?_ rfl) | (refine And.intro ?_ ?_ <;> conv => whnf))
  · simp only [neLen24] at h; simp_all [memoryOk]
  · simp only [neLen24] at *; simp_all [memoryOk]
  rename_i h1
  have hw : m.words.length = 24 := by simp only [neLen24] at h1; simpa using h1
  have hg : m.gone.length = 24 := by simp only [neLen24] at h; simpa using h
  have hm : memoryOk m = m.words.all wordOk := by simp [memoryOk, hw, hg]
  rw [hm]
  refine loop (α := Nat) (fun i => ⟨[(1, .v (.c (.ptr 0 0))), (3, .v (.c (.int .i64 (i : Int))))], [(2, some (.flat false .bool none m.gone)), (1, some (.flat false .word none m.words)), (0, some (.box true [.sl false .word 1, .sl false .bool 2]))], nums.tail.tail.tail, [], false, []⟩)
      (fun i => i ≤ 24 ∧ (m.words.drop i).all wordOk = m.words.all wordOk) (fun i => 24 - i) (fun i R hI hR => ?_) 0 _ ⟨by simp, by simp⟩ (by simp)
  obtain ⟨hi, hx⟩ := hI
  conv => whnf
  repeat' (first | (refine sel_i (fun h => ?_) (fun h => ?_) <;> conv => whnf) | (refine chk_c ?_ ?_ <;> conv => whnf) | (refine And.intro ?_ rfl) | (refine And.intro ?_ ?_ <;> conv => whnf))
  all_goals simp only [etaKey, etaWord, Int.toNat_natCast, Bool.not_eq_true', Bool.not_eq_false', decide_eq_true_eq, decide_eq_false_iff_not] at *
  all_goals first
    | (refine ⟨?_⟩; omega)
    | (rw [all_no (by omega) (by assumption) hx]; done)
    | (rw [all_end (by omega) hx]; done)
    | (rw [wrap_id (n := (i : Int) + 1) (by omega) (by omega)]; exact hR (i + 1) ⟨by omega, all_yes (by omega) (by assumption) hx⟩ (by omega))
theorem ok_spec_MemoryOk : FunOk Try.prog c_spec_MemoryOk := funOk (E := [c_spec_WordOk]) (envOk_cons ok_spec_WordOk (envOk_nil)) mixd Try.func89 (pf := pf_spec_MemoryOk) (by kernel_rfl) fun ts K h => by
  obtain ⟨t0, e0, h⟩ := as1_out h
  subst e0
  obtain ⟨m, e1, hq⟩ := arG_out rd_mem h
  clear h
  subst e1
  have h := hq
  clear hq
  exact ⟨_, _, h, Nat.le_of_ble_eq_true (show Nat.ble 1 Try.f89.ntmps = true by kernel_rfl), _, run_spec_MemoryOk m⟩

def twoOk (t : Two) : Bool := stateOk (sideState t 0) && stateOk (sideState t 1)

def andI (a b : Int) : Int := IntKind.i64.wrap (BitVec.ofInt IntKind.i64.bits a &&& BitVec.ofInt IntKind.i64.bits b).toNat
theorem andI_eq (a b : Int) : IntKind.i64.wrap (BitVec.ofInt IntKind.i64.bits a &&& BitVec.ofInt IntKind.i64.bits b).toNat = andI a b := rfl
abbrev w0 : Word := ⟨0, false, ⟨0, 0, 0, 0⟩⟩
def hasKey (l : List Word) (k : Key) : Bool := l.any (fun x => decide (x.key = k))
def putW (out : List Word) (w : Word) : List Word := if w.is && wordOk w && !hasKey out w.key then out ++ [w] else out
def scan (ws : List Word) : Nat → Nat → List Word → List Word
  | 0, _, out => out
  | n + 1, c, out => scan ws n (c + 1) (putW out (ws.getD c (FT.zero .word)))
def opens (k : Key) : Bool := !(andI k.perms 1 == 0) && !(andI k.perms 8 == 0)
def closStep (ws out : List Word) (k : Key) : List Word := if opens k then scan ws (min k.top 24 - k.base).toNat k.base.toNat out else out
def closGo (ws : List Word) : Nat → Nat → List Word → List Word
  | 0, _, out => out
  | n + 1, i, out => if i < out.length then closGo ws n (i + 1) (closStep ws out (out.getD i (FT.zero .word)).key) else out
def closFirst (l : List Word) : List Word := l.foldl putW []
def closure (m : Mem) (l : List Word) : List Word := if memoryOk m then closGo m.words (l.length + 24) 0 (closFirst l) else []
theorem putW_yes {out : List Word} {w : Word} (h1 : wordOk w = true) (h2 : w.is = true) (h3 : hasKey out w.key = false) : putW out w = out ++ [w] := by simp [putW, h1, h2, h3]
theorem putW_has {out : List Word} {w : Word} (h3 : hasKey out w.key = true) : putW out w = out := by simp [putW, h3]
theorem putW_is {out : List Word} {w : Word} (h3 : w.is = false) : putW out w = out := by simp [putW, h3]
theorem putW_ok {out : List Word} {w : Word} (h3 : wordOk w = false) : putW out w = out := by simp [putW, h3]
theorem foldl_take {α β : Type} (f : β → α → β) (b : β) {xs : List α} {i : Nat} (z : α) (h : i < xs.length) : (xs.take (i + 1)).foldl f b = f ((xs.take i).foldl f b) (xs.getD i z) := by
  have e : xs.getD i z = xs[i] := by simp [List.getD_eq_getElem?_getD, h]
  rw [List.take_add_one, List.getElem?_eq_getElem h, List.foldl_append, e]; rfl
def WOut (out : List Word) : Prop := ∀ w ∈ out, wordOk w = true ∧ w.is = true
theorem putW_out {out : List Word} {w : Word} (h : WOut out) : WOut (putW out w) := by
  unfold putW
  split
  · rename_i hw
    simp at hw
    intro x hx
    simp at hx
    rcases hx with hx | rfl
    · exact h x hx
    · exact ⟨hw.1.2, hw.1.1⟩
  · exact h
theorem putW_len (out : List Word) (w : Word) : out.length ≤ (putW out w).length ∧ (putW out w).length ≤ out.length + 1 := by
  unfold putW; split <;> simp
theorem wout_bounds {out : List Word} {i : Nat} (h : WOut out) (hi : i < out.length) : 0 ≤ (out.getD i (FT.zero .word)).key.base ∧ (out.getD i (FT.zero .word)).key.base ≤ (out.getD i (FT.zero .word)).key.top ∧ (out.getD i (FT.zero .word)).key.top ≤ 4096 := by
  have e : out.getD i (FT.zero .word) = out[i] := by simp [List.getD_eq_getElem?_getD, hi]
  rw [e]
  obtain ⟨h1, h2⟩ := h out[i] (List.getElem_mem hi)
  simp only [wordOk, h2, if_true, Bool.and_eq_true, keyOk, exact_] at h1
  exact bounds_n h1.2.1.1.1.1
def missing (ws out : List Word) : Nat := ws.countP (fun w => !hasKey out w.key)
theorem hasKey_app (out : List Word) (w : Word) (k : Key) : hasKey (out ++ [w]) k = (hasKey out k || decide (w.key = k)) := by simp [hasKey]
theorem missing_put {ws out : List Word} {w : Word} (hw : w ∈ ws) : (putW out w).length + missing ws (putW out w) ≤ out.length + missing ws out := by
  unfold putW
  split
  · rename_i h
    simp only [Bool.and_eq_true, Bool.not_eq_true'] at h
    have key : missing ws (out ++ [w]) + 1 ≤ missing ws out := by
      unfold missing
      have h1 : ∀ (l : List Word), l.countP (fun x => !hasKey (out ++ [w]) x.key) ≤ l.countP (fun x => !hasKey out x.key) := fun l =>
        List.countP_mono_left (fun x _ hx => by rw [hasKey_app] at hx; simp at hx; simp [hx.1])
      obtain ⟨a, b, rfl⟩ := List.append_of_mem hw
      have ha := h1 a
      have hb := h1 b
      rw [List.countP_append, List.countP_append, List.countP_cons, List.countP_cons]
      have e1 : (!hasKey (out ++ [w]) w.key) = false := by rw [hasKey_app]; simp
      rw [e1, h.2]
      simp; omega
    simp; omega
  · exact Nat.le_refl _
theorem missing_le (ws out : List Word) : missing ws out ≤ ws.length := List.countP_le_length
theorem closGo_end {ws out : List Word} {n i : Nat} (h : out.length ≤ i) : closGo ws n i out = out := by
  cases n with
  | zero => rfl
  | succ n => simp [closGo, show ¬ i < out.length by omega]
theorem closGo_step {ws out : List Word} {n i : Nat} (h : i < out.length) : closGo ws (n + 1) i out = closGo ws n (i + 1) (closStep ws out (out.getD i (FT.zero .word)).key) := by simp [closGo, h]
theorem closStep_no {ws out : List Word} {k : Key} (h : opens k = false) : closStep ws out k = out := by simp [closStep, h]
theorem closStep_yes {ws out : List Word} {k : Key} (h : opens k = true) : closStep ws out k = scan ws (min k.top 24 - k.base).toNat k.base.toNat out := by simp [closStep, h]
theorem getD_mem {ws : List Word} {c : Nat} (h : c < ws.length) : ws.getD c (FT.zero .word) ∈ ws := by
  have e : ws.getD c (FT.zero .word) = ws[c] := by simp [List.getD_eq_getElem?_getD, h]
  rw [e]; exact List.getElem_mem h
theorem memoryOk_n {m : Mem} (h : memoryOk m = true) : m.words.length = 24 ∧ m.gone.length = 24 ∧ ∀ w ∈ m.words, wordOk w = true := by
  simp [memoryOk] at h; exact ⟨h.1.1, h.1.2, h.2⟩

def lb_spec_l21Has_0 : PC := .seq (.seq (.reg [.s (.mv 6 (.t 5)), .s (.mv 7 (.t 0)), .s (.len 8 false (.t 7)), .s (.bin 9 .lss (.t 6) (.t 8))]) (.cond (.t 9) (.skip) (.exit 0))) (.seq (.blk 1 (.seq (.rgd [] [.s (.mv 12 (.t 0)), .s (.mv 13 (.t 5)), .s (.ia 14 .word (.t 12) (.t 13)), .s (.fa 15 (.t 14) 2), .s (.load 16 true 4 (.t 15)), .s (.load 17 true 4 (.t 3)), .s (.eqs 18 true [.i, .i, .i, .i] false (.t 16) (.t 17))] (.tk 0 (.tk 1 (.tk 2 (.tk 3 (.tk 4 (.tk 5 (.tk 6 (.done none))))))))) (.cond (.t 18) (.seq (.reg [.s (.mv 4 (.k (.v (.c .tt))))]) (.ret)) (.skip)))) (.reg [.s (.mv 10 (.t 5)), .s (.bin 11 .add (.t 10) (.k (.v (.c (.int .i64 1))))), .s (.mv 5 (.t 11))]))
def pf_spec_l21Has : PF := ⟨[.t 4], .seq (.reg [.s (.box 3 (.t 1)), .s (.mv 4 (.k (.v (.c .ff))))]) (.seq (.seq (.reg [.s (.mv 5 (.k (.v (.c (.int .i64 0)))))]) (.blk 0 (.loop [0, 3, 5] lb_spec_l21Has_0))) (.seq (.reg [.s (.mv 4 (.k (.v (.c .ff))))]) (.ret)))⟩
def c_spec_l21Has : Fun := ⟨91, [], fun ts K => as2 ts fun t0 t1 => arC (pL .word) t0 fun xs => arG pKeyT t1 fun k => chk (xs.length ≤ 2147483647) (K (tB (hasKey xs k)) [])⟩
theorem run_spec_l21Has (xs : List (FT.Ty .word)) (k : Key) (hpre : xs.length ≤ 2147483647) : runK [] (xs.length + 1) [] pf_spec_l21Has [tL false .word xs, tG (k.tc [])] fun r o => r = tB (hasKey xs k) ∧ o = [] := by
  conv => whnf
  refine loop (α := Nat) (fun i => ⟨[(0, .v (.c (.sl false .word 0))), (3, .v (.c (.ptr 1 0))), (5, .v (.c (.int .i64 (i : Int))))], [(1, some (.box true [.int .i64 k.base, .int .i64 k.top, .int .i64 k.perms, .int .i64 k.sealed])), (0, some (.flat false .word none xs))], nums.tail.tail, [], false, []⟩)
      (fun i => i ≤ xs.length ∧ (xs.drop i).any (fun x => decide (x.key = k)) = hasKey xs k) (fun i => xs.length - i) (fun i R hI hR => ?_) 0 _ ⟨by simp, by simp [hasKey]⟩ (by simp)
  obtain ⟨hi, hx⟩ := hI
  conv => whnf
  repeat' (first | (refine sel_i (fun h => ?_) (fun h => ?_) <;> conv => whnf) | (refine chk_c ?_ ?_ <;> conv => whnf) | (refine And.intro ?_ rfl) | (refine And.intro ?_ ?_ <;> conv => whnf))
  all_goals simp only [keyEq, Int.toNat_natCast, decide_eq_true_eq, decide_eq_false_iff_not] at *
  all_goals first
    | (refine ⟨?_⟩; omega)
    | (rw [show hasKey xs k = true from any_yes (z := FT.zero .word) (by omega) (decide_eq_true (by assumption)) hx]; done)
    | (rw [show hasKey xs k = false from any_end (by omega) hx]; done)
    | (rw [wrap_id (n := (i : Int) + 1) (by omega) (by omega)]; exact hR (i + 1) ⟨by omega, any_no (z := FT.zero .word) (by omega) (decide_eq_false (by assumption)) hx⟩ (by omega))
theorem ok_spec_l21Has : FunOk Try.prog c_spec_l21Has := funOk (E := []) (envOk_nil) mixd Try.func91 (pf := pf_spec_l21Has) (by kernel_rfl) fun ts K h => by
  obtain ⟨t0, t1, e0, h⟩ := as2_out h
  subst e0
  obtain ⟨xs, e1, hq⟩ := arC_out (rd_l .word) h
  clear h
  subst e1
  have h := hq
  clear hq
  obtain ⟨k, e1, hq⟩ := arG_out rd_key h
  clear h
  subst e1
  have h := hq
  clear hq
  obtain ⟨hpre, h⟩ := chk_o h
  exact ⟨_, _, h, Nat.le_of_ble_eq_true (show Nat.ble 2 Try.f91.ntmps = true by kernel_rfl), _, run_spec_l21Has xs k hpre⟩

def pf_impl_spanned : PF := ⟨[.t 2, .t 3], .seq (.reg [.s (.box 1 (.t 0)), .s (.mv 2 (.k (.v (.c (.int .i64 0))))), .s (.mv 3 (.k (.v (.c (.int .i64 0)))))]) (.seq (.rgd [] [.s (.fa 4 (.t 1) 0), .s (.load 5 false 1 (.t 4)), .s (.fa 6 (.t 1) 1), .s (.load 7 false 1 (.t 6)), .s (.mm 8 false (.t 7) (.k (.v (.c (.int .i64 24))))), .s (.mv 2 (.t 5)), .s (.mv 3 (.t 8))] (.tk 0 (.tk 1 (.tk 2 (.tk 3 (.tk 4 (.tk 5 (.tk 6 (.done none))))))))) (.ret))⟩
def c_impl_spanned : Fun := ⟨88, [], fun ts K => as1 ts fun t0 => arG pKeyT t0 fun k => K (.tup [.c (.int .i64 k.base), .c (.int .i64 (min k.top 24))]) []⟩
theorem run_impl_spanned (k : Key) : runK [] (0) [] pf_impl_spanned [tG (k.tc [])] fun r o => r = .tup [.c (.int .i64 k.base), .c (.int .i64 (min k.top 24))] ∧ o = [] := by
  conv => whnf
  repeat' (first
    | exact rfl
    | exact trivial
    | (refine sel_i (fun h => ?_) (fun h => ?_) <;> conv => whnf)
    | (refine chk_c ?_ ?_ <;> conv => whnf)
    | (refine And.intro ?_ ?_ <;> conv => whnf))
theorem ok_impl_spanned : FunOk Try.prog c_impl_spanned := funOk (E := []) (envOk_nil) mixd Try.func88 (pf := pf_impl_spanned) (by kernel_rfl) fun ts K h => by
  obtain ⟨t0, e0, h⟩ := as1_out h
  subst e0
  obtain ⟨k, e1, hq⟩ := arG_out rd_key h
  clear h
  subst e1
  have h := hq
  clear hq
  exact ⟨_, _, h, Nat.le_of_ble_eq_true (show Nat.ble 1 Try.f88.ntmps = true by kernel_rfl), _, run_impl_spanned k⟩

def pf_impl_Closure_1_1 : PF := ⟨[.t 3], .seq (.reg [.s (.box 2 (.t 0)), .s (.mv 3 (.k (.v (.c .ff))))]) (.seq (.reg [.s (.fa 4 (.t 2) 2), .s (.load 5 true 4 (.t 4)), .s (.fa 6 (.t 1) 2), .s (.load 7 true 4 (.t 6)), .s (.eqs 8 true [.i, .i, .i, .i] false (.t 5) (.t 7)), .s (.mv 3 (.t 8))]) (.ret))⟩
def c_impl_Closure_1_1 : Fun := ⟨87, [], fun ts K => as2 ts fun t0 t1 => arG pWordT t0 fun x => arP pWordT t1 fun w => K (tB (decide (x.key = w.key))) []⟩
theorem run_impl_Closure_1_1 (x : Word) (w : Word) : runK [] (0) [] pf_impl_Closure_1_1 [tG (x.tc []), .v (.ptr false 0 (w.tc []))] fun r o => r = tB (decide (x.key = w.key)) ∧ o = [] := by
  conv => whnf
  repeat' (first | (refine sel_i (fun h => ?_) (fun h => ?_) <;> conv => whnf) | (refine chk_c ?_ ?_ <;> conv => whnf) | (refine And.intro ?_ rfl) | (refine And.intro ?_ ?_ <;> conv => whnf))
  all_goals (rw [keyEq])
theorem ok_impl_Closure_1_1 : FunOk Try.prog c_impl_Closure_1_1 := funOk (E := []) (envOk_nil) mixd Try.func87 (pf := pf_impl_Closure_1_1) (by kernel_rfl) fun ts K h => by
  obtain ⟨t0, t1, e0, h⟩ := as2_out h
  subst e0
  obtain ⟨x, e1, hq⟩ := arG_out rd_word h
  clear h
  subst e1
  have h := hq
  clear hq
  obtain ⟨w, e1, hq⟩ := arP_out rd_word h
  clear h
  subst e1
  have h := hq
  clear hq
  exact ⟨_, _, h, Nat.le_of_ble_eq_true (show Nat.ble 2 Try.f87.ntmps = true by kernel_rfl), _, run_impl_Closure_1_1 x w⟩

def c_slices_IndexFunc_Word__impl_Closure_1_1 : Fun := ⟨159, [], fun ts K => as2 ts fun t0 t1 => arC (pL .word) t0 fun xs => arF1 87 pWordT t1 fun g => chk (xs.length ≤ 2147483647) (K (tN (idxOf (fun x => decide (x.key = g.key)) xs)) [])⟩
theorem run_slices_IndexFunc_Word__impl_Closure_1_1 (xs : List (FT.Ty .word)) (g : Word) (hpre : xs.length ≤ 2147483647) : runK [c_impl_Closure_1_1] (xs.length + 1) [] pf_slices_IndexFunc_Word [tL false .word xs, .fn 87 [.ptr false 0 (g.tc [])]] fun r o => r = tN (idxOf (fun x => decide (x.key = g.key)) xs) ∧ o = [] := by
  conv => whnf
  refine loop (α := Nat) (fun i => ⟨[(0, .v (.c (.sl false .word 0))), (1, .fn 87 [.c (.ptr 1 0)]), (7, .v (.c (.int .i64 (xs.length : Int)))), (8, .v (.c (.int .i64 (i : Int))))], [(1, some (.box false [.int .i64 g.n, .bool g.is, .int .i64 g.key.base, .int .i64 g.key.top, .int .i64 g.key.perms, .int .i64 g.key.sealed])), (0, some (.flat false .word none xs))], nums.tail.tail, [], false, []⟩)
      (fun i => i ≤ xs.length ∧ idxOf (fun x => decide (x.key = g.key)) xs = idxGo (fun x => decide (x.key = g.key)) (xs.drop i) i) (fun i => xs.length - i) (fun i R hI hR => ?_) 0 _ ⟨by simp, rfl⟩ (by simp)
  obtain ⟨hi, hx⟩ := hI
  conv => whnf
  refine sel_i (fun h2 => ?_) (fun h2 => ?_)
  · have hlt : i < xs.length := by simp at h2; omega
    conv => whnf
    repeat (refine chk_i (by first | omega | (simp; omega)) ?_; conv => whnf)
    refine sel_i (fun h3 => ?_) (fun h3 => ?_)
    · conv => whnf
      rw [hx, idxGo_yes (z := FT.zero .word) hlt (by first | (simp only [keyEq] at h3; exact h3) | (simpa using h3))]
      exact ⟨rfl, rfl⟩
    · conv => whnf
      rw [wrap_id (n := (i : Int) + 1) (by omega) (by omega)]
      exact hR (i + 1) ⟨by omega, by rw [hx, idxGo_no (z := FT.zero .word) hlt (by first | (simp only [keyEq] at h3; exact h3) | (simpa using h3))]⟩ (by omega)
  · conv => whnf
    rw [hx, idxGo_end (by simp at h2; omega)]
    exact ⟨rfl, rfl⟩
theorem ok_slices_IndexFunc_Word__impl_Closure_1_1 : FunOk Try.prog c_slices_IndexFunc_Word__impl_Closure_1_1 := funOk (E := [c_impl_Closure_1_1]) (envOk_cons ok_impl_Closure_1_1 (envOk_nil)) mixd Try.func159 (pf := pf_slices_IndexFunc_Word) (by kernel_rfl) fun ts K h => by
  obtain ⟨t0, t1, e0, h⟩ := as2_out h
  subst e0
  obtain ⟨xs, e1, hq⟩ := arC_out (rd_l .word) h
  clear h
  subst e1
  have h := hq
  clear hq
  obtain ⟨g, e1, hq⟩ := arF1_out rd_word h
  clear h
  subst e1
  have h := hq
  clear hq
  obtain ⟨hpre, h⟩ := chk_o h
  exact ⟨_, _, h, Nat.le_of_ble_eq_true (show Nat.ble 2 Try.f159.ntmps = true by kernel_rfl), _, run_slices_IndexFunc_Word__impl_Closure_1_1 xs g hpre⟩

def c_slices_ContainsFunc_Word__impl_Closure_1_1 : Fun := ⟨86, [], fun ts K => as2 ts fun t0 t1 => arC (pL .word) t0 fun xs => arF1 87 pWordT t1 fun g => chk (xs.length ≤ 2147483647) (K (tB (xs.any (fun x => decide (x.key = g.key)))) [])⟩
theorem run_slices_ContainsFunc_Word__impl_Closure_1_1 (xs : List (FT.Ty .word)) (g : Word) (hpre : xs.length ≤ 2147483647) : runK [c_slices_IndexFunc_Word__impl_Closure_1_1, c_impl_Closure_1_1] (0) [] pf_slices_ContainsFunc_Word [tL false .word xs, .fn 87 [.ptr false 0 (g.tc [])]] fun r o => r = tB (xs.any (fun x => decide (x.key = g.key))) ∧ o = [] := by
  conv => whnf
  repeat' (first | (refine sel_i (fun h => ?_) (fun h => ?_) <;> conv => whnf) | (refine chk_c ?_ ?_ <;> conv => whnf) | (refine And.intro ?_ rfl) | (refine And.intro ?_ ?_ <;> conv => whnf))
  all_goals first | (refine ⟨?_⟩; exact hpre) | exact hpre | (rw [← idxOf_any]; rfl) | (rw [← idxOf_any])
theorem ok_slices_ContainsFunc_Word__impl_Closure_1_1 : FunOk Try.prog c_slices_ContainsFunc_Word__impl_Closure_1_1 := funOk (E := [c_slices_IndexFunc_Word__impl_Closure_1_1, c_impl_Closure_1_1]) (envOk_cons ok_slices_IndexFunc_Word__impl_Closure_1_1 (envOk_cons ok_impl_Closure_1_1 (envOk_nil))) mixd Try.func86 (pf := pf_slices_ContainsFunc_Word) (by kernel_rfl) fun ts K h => by
  obtain ⟨t0, t1, e0, h⟩ := as2_out h
  subst e0
  obtain ⟨xs, e1, hq⟩ := arC_out (rd_l .word) h
  clear h
  subst e1
  have h := hq
  clear hq
  obtain ⟨g, e1, hq⟩ := arF1_out rd_word h
  clear h
  subst e1
  have h := hq
  clear hq
  obtain ⟨hpre, h⟩ := chk_o h
  exact ⟨_, _, h, Nat.le_of_ble_eq_true (show Nat.ble 2 Try.f86.ntmps = true by kernel_rfl), _, run_slices_ContainsFunc_Word__impl_Closure_1_1 xs g hpre⟩

def lb_spec_Closure_0 : PC := .seq (.seq (.reg [.s (.mv 16 (.t 6)), .s (.mv 17 (.t 1)), .s (.len 18 false (.t 17)), .s (.bin 19 .lss (.t 16) (.t 18))]) (.cond (.t 19) (.skip) (.exit 0))) (.seq (.blk 1 (.seq (.reg [.s (.mv 22 (.t 1)), .s (.mv 23 (.t 6)), .s (.ia 24 .word (.t 22) (.t 23)), .s (.load 25 true 6 (.t 24)), .s (.call (some 26) 90 [(.t 25)]), .s (.mv 27 (.t 26)), .g 27 true (some 28) (.mv 28 (.t 1)), .g 27 true (some 29) (.mv 29 (.t 6)), .g 27 true (some 30) (.ia 30 .word (.t 28) (.t 29)), .g 27 true (some 31) (.fa 31 (.t 30) 1), .g 27 true (some 32) (.load 32 false 1 (.t 31)), .s (.pick 33 (.t 27) (.t 32) (.k (.v (.c .ff)))), .s (.mv 34 (.t 33)), .g 34 true (some 35) (.mv 35 (.t 5)), .g 34 true (some 36) (.mv 36 (.t 1)), .g 34 true (some 37) (.mv 37 (.t 6)), .g 34 true (some 38) (.ia 38 .word (.t 36) (.t 37)), .g 34 true (some 39) (.fa 39 (.t 38) 2), .g 34 true (some 40) (.load 40 true 4 (.t 39)), .g 34 true (some 41) (.call (some 41) 91 [(.t 35), (.t 40)]), .g 34 true (some 42) (.bnot 42 (.t 41)), .s (.pick 43 (.t 34) (.t 42) (.k (.v (.c .ff))))]) (.cond (.t 43) (.reg [.s (.mv 44 (.t 5)), .s (.mv 45 (.t 1)), .s (.mv 46 (.t 6)), .s (.ia 47 .word (.t 45) (.t 46)), .s (.load 48 true 6 (.t 47)), .s (.bs 49 .word [(.t 48)]), .s (.app 50 .word (.t 44) (.t 49)), .s (.mv 5 (.t 50))]) (.skip)))) (.reg [.s (.mv 20 (.t 6)), .s (.bin 21 .add (.t 20) (.k (.v (.c (.int .i64 1))))), .s (.mv 6 (.t 21))]))
def lb_spec_Closure_1 : PC := .seq (.seq (.reg [.s (.mv 74 (.t 9)), .s (.fa 75 (.t 8) 1), .s (.load 76 false 1 (.t 75)), .s (.call (some 77) 92 [(.t 76), (.k (.v (.c (.int .i64 24))))]), .s (.bin 78 .lss (.t 74) (.t 77))]) (.cond (.t 78) (.skip) (.exit 4))) (.seq (.blk 5 (.seq (.reg [.s (.fa 81 (.t 2) 0), .s (.load 82 false 1 (.t 81)), .s (.mv 83 (.t 9)), .s (.ia 84 .word (.t 82) (.t 83)), .s (.load 85 true 6 (.t 84)), .s (.alloc 10 [.int .i64 0, .ff, .int .i64 0, .int .i64 0, .int .i64 0, .int .i64 0]), .s (.store 6 (.t 10) (.t 85))]) (.seq (.reg [.s (.fa 86 (.t 10) 1), .s (.load 87 false 1 (.t 86)), .s (.mv 88 (.t 87)), .g 88 true (some 89) (.mv 89 (.t 5)), .g 88 true (some 90) (.fa 90 (.t 10) 2), .g 88 true (some 91) (.load 91 true 4 (.t 90)), .g 88 true (some 92) (.call (some 92) 91 [(.t 89), (.t 91)]), .g 88 true (some 93) (.bnot 93 (.t 92)), .s (.pick 94 (.t 88) (.t 93) (.k (.v (.c .ff))))]) (.cond (.t 94) (.reg [.s (.mv 95 (.t 5)), .s (.load 96 true 6 (.t 10)), .s (.bs 97 .word [(.t 96)]), .s (.app 98 .word (.t 95) (.t 97)), .s (.mv 5 (.t 98))]) (.skip))))) (.reg [.s (.mv 79 (.t 9)), .s (.bin 80 .add (.t 79) (.k (.v (.c (.int .i64 1))))), .s (.mv 9 (.t 80))]))
def lb_spec_Closure_2 : PC := .seq (.seq (.reg [.s (.mv 51 (.t 7)), .s (.mv 52 (.t 5)), .s (.len 53 false (.t 52)), .s (.bin 54 .lss (.t 51) (.t 53))]) (.cond (.t 54) (.skip) (.exit 2))) (.seq (.blk 3 (.seq (.reg [.s (.mv 57 (.t 5)), .s (.mv 58 (.t 7)), .s (.ia 59 .word (.t 57) (.t 58)), .s (.fa 60 (.t 59) 2), .s (.load 61 true 4 (.t 60)), .s (.alloc 8 [.int .i64 0, .int .i64 0, .int .i64 0, .int .i64 0]), .s (.store 4 (.t 8) (.t 61))]) (.seq (.seq (.reg [.s (.fa 62 (.t 8) 2), .s (.load 63 false 1 (.t 62)), .s (.bin 64 .and (.t 63) (.k (.v (.c (.int .i64 1))))), .s (.bin 65 .eql (.t 64) (.k (.v (.c (.int .i64 0))))), .s (.mv 66 (.t 65)), .g 66 false (some 67) (.fa 67 (.t 8) 2), .g 66 false (some 68) (.load 68 false 1 (.t 67)), .g 66 false (some 69) (.bin 69 .and (.t 68) (.k (.v (.c (.int .i64 8))))), .g 66 false (some 70) (.bin 70 .eql (.t 69) (.k (.v (.c (.int .i64 0))))), .s (.pick 71 (.t 66) (.k (.v (.c .tt))) (.t 70))]) (.cond (.t 71) (.exit 3) (.skip))) (.seq (.reg [.s (.fa 72 (.t 8) 0), .s (.load 73 false 1 (.t 72)), .s (.mv 9 (.t 73))]) (.blk 4 (.loop [2, 5, 7, 8, 9] lb_spec_Closure_1)))))) (.reg [.s (.mv 55 (.t 7)), .s (.bin 56 .add (.t 55) (.k (.v (.c (.int .i64 1))))), .s (.mv 7 (.t 56))]))
def pf_spec_Closure : PF := ⟨[.t 4], .seq (.reg [.s (.box 2 (.t 0)), .s (.mv 4 (.k (.v (.c (.nils .word)))))]) (.seq (.reg [.s (.bs 11 .word []), .s (.mv 5 (.t 11))]) (.seq (.seq (.reg [.s (.load 12 true 2 (.t 2)), .s (.call (some 13) 89 [(.t 12)]), .s (.bnot 14 (.t 13))]) (.cond (.t 14) (.seq (.reg [.s (.mv 15 (.t 5)), .s (.mv 4 (.t 15))]) (.ret)) (.skip))) (.seq (.seq (.reg [.s (.mv 6 (.k (.v (.c (.int .i64 0)))))]) (.blk 0 (.loop [1, 2, 5, 6] lb_spec_Closure_0))) (.seq (.seq (.reg [.s (.mv 7 (.k (.v (.c (.int .i64 0)))))]) (.blk 2 (.loop [2, 5, 7] lb_spec_Closure_2))) (.seq (.reg [.s (.mv 99 (.t 5)), .s (.mv 4 (.t 99))]) (.ret))))))⟩
def c_spec_Closure : Fun := ⟨19, [], fun ts K => as2 ts fun t0 t1 => arG pMemT t0 fun m => arC (pL .word) t1 fun l => chk (LMem m 2147483647 ∧ l.length ≤ 1048576) (K (tL true .word (closure m l)) [])⟩
theorem run_spec_Closure (m : Mem) (l : List (FT.Ty .word)) (hpre : LMem m 2147483647 ∧ l.length ≤ 1048576) : runK [c_spec_MemoryOk, c_spec_WordOk, c_spec_l21Has, c_spec_l1Min] (l.length + 30) [] pf_spec_Closure [tG (m.tc false []), tL false .word l] fun r o => r = tL true .word (closure m l) ∧ o = [] := by
  obtain ⟨⟨l1, l2⟩, l3⟩ := hpre
  conv => whnf
  refine sel_i (fun h => ?_) (fun h => ?_)
  · conv => whnf
    repeat' (first | (refine sel_i (fun h => ?_) (fun h => ?_) <;> conv => whnf) | (refine chk_c ?_ ?_ <;> conv => whnf) | (refine And.intro ?_ rfl) | (refine And.intro ?_ ?_ <;> conv => whnf))
    simp only [etaMemory, Bool.not_eq_true'] at h
    simp only [closure, h]; rfl
  have hm : memoryOk m = true := by simpa using h
  clear h
  obtain ⟨m1, m2, m3⟩ := memoryOk_n hm
  rw [show closure m l = closGo m.words (l.length + 24) 0 (closFirst l) by simp only [closure, hm, if_true]]
  conv => whnf
  refine loop (α := Nat × List Word) (fun p => ⟨[(1, .v (.c (.sl false .word 0))), (2, .v (.c (.ptr 1 0))), (5, .v (.c (.sl true .word 4))), (6, .v (.c (.int .i64 (p.1 : Int))))],
        [(4, some (.flat true .word none p.2)), (3, some (.flat false .bool none m.gone)), (2, some (.flat false .word none m.words)), (1, some (.box true [.sl false .word 2, .sl false .bool 3])), (0, some (.flat false .word none l))], nums.tail.tail.tail.tail.tail, [], false, []⟩)
      (fun p => p.1 ≤ l.length ∧ p.2 = (l.take p.1).foldl putW [] ∧ p.2.length ≤ p.1 ∧ WOut p.2) (fun p => l.length - p.1) (fun p R hI hR => ?_) (0, []) _ ⟨by simp, by simp, by simp, by simp [WOut]⟩ (by simp)
  obtain ⟨i, out⟩ := p
  obtain ⟨hi, hx, hl, hw⟩ := hI
  dsimp only at hi hx hl hw
  dsimp only
  conv => whnf
  refine sel_i (fun h => ?_) (fun h => ?_)
  · have hlt : i < l.length := by simp at h; omega
    clear h
    have hstep : (l.take (i + 1)).foldl putW [] = putW out (l.getD i (FT.zero .word)) := by rw [foldl_take _ _ (FT.zero .word) hlt, hx]
    have hlen := putW_len out (l.getD i (FT.zero .word))
    have hout := putW_out (w := l.getD i (FT.zero .word)) hw
    conv => whnf
    repeat' (first | (refine sel_i (fun h => ?_) (fun h => ?_) <;> conv => whnf) | (refine chk_c ?_ ?_ <;> conv => whnf) | (refine And.intro ?_ rfl) | (refine And.intro ?_ ?_ <;> conv => whnf))
    all_goals simp only [etaKey, etaWord, Int.toNat_natCast, Bool.not_eq_true', Bool.not_eq_false'] at *
    all_goals first
      | (refine ⟨?_⟩; omega)
      | (refine ⟨?_⟩; simp; omega)
      | (rw [wrap_id (n := (i : Int) + 1) (by omega) (by omega)]
         exact hR (i + 1, _) ⟨by omega, by rw [hstep]; first | exact (putW_yes (by assumption) (by assumption) (by assumption)).symm | exact (putW_has (by assumption)).symm | exact (putW_is (by assumption)).symm | exact (putW_ok (by assumption)).symm, by simp; omega, by first | (rw [← putW_yes (by assumption) (by assumption) (by assumption)]; exact hout) | exact hw⟩ (by simp; omega))
      | trace_state
  · have hge : i = l.length := by simp at h; omega
    clear h hR
    subst hge
    rw [List.take_of_length_le (Nat.le_refl _)] at hx
    conv => whnf
    refine loop (α := Nat × List Word) (fun p => ⟨[(2, .v (.c (.ptr 0 0))), (5, .v (.c (.sl true .word 3))), (7, .v (.c (.int .i64 (p.1 : Int))))],
          [(3, some (.flat true .word none p.2)), (2, some (.flat false .bool none m.gone)), (1, some (.flat false .word none m.words)), (0, some (.box true [.sl false .word 1, .sl false .bool 2]))], nums.tail.tail.tail.tail, [], false, []⟩)
        (fun p => p.1 ≤ p.2.length ∧ closGo m.words (l.length + 24 - p.1) p.1 p.2 = closGo m.words (l.length + 24) 0 (closFirst l) ∧ p.2.length + missing m.words p.2 ≤ l.length + 24 ∧ WOut p.2) (fun p => l.length + 24 - p.1) (fun p R hI hR => ?_) (0, out) _
        ⟨by simp, by rw [hx]; rfl, by have := missing_le m.words out; dsimp only; omega, hw⟩ (by simp)
    clear hx hl hw
    obtain ⟨i, out⟩ := p
    obtain ⟨hi, hx, hl, hw⟩ := hI
    dsimp only at hi hx hl hw
    dsimp only
    conv => whnf
    refine sel_i (fun h => ?_) (fun h => ?_)
    · have hlt : i < out.length := by simp at h; omega
      clear h
      obtain ⟨b1, b2, b3⟩ := wout_bounds hw hlt
      rw [show l.length + 24 - i = (l.length + 24 - (i + 1)) + 1 by omega, closGo_step hlt] at hx
      conv => whnf
      repeat' (first | (refine sel_i (fun h => ?_) (fun h => ?_) <;> conv => whnf) | (refine chk_c ?_ ?_ <;> conv => whnf) | (refine And.intro ?_ rfl) | (refine And.intro ?_ ?_ <;> conv => whnf))
      all_goals simp only [andI_eq, Int.toNat_natCast] at *
      all_goals generalize hk : (out.getD i (FT.zero .word)).key = k at *
      all_goals try (refine ⟨?_⟩; first | omega | (simp; omega))
      · rw [wrap_id (n := (i : Int) + 1) (by omega) (by omega)]
        exact hR (i + 1, out) ⟨hlt, by rw [closStep_no (by simp [opens, *])] at hx; exact hx, hl, hw⟩ (by simp; omega)
      · rw [wrap_id (n := (i : Int) + 1) (by omega) (by omega)]
        exact hR (i + 1, out) ⟨hlt, by rw [closStep_no (by simp [opens, *])] at hx; exact hx, hl, hw⟩ (by simp; omega)
      have ho : opens k = true := by simp only [opens, *]; rfl
      refine loop (α := Int × List Word) (fun p => ⟨[(2, .v (.c (.ptr 0 0))), (5, .v (.c (.sl true .word 3))), (7, .v (.c (.int .i64 (i : Int)))), (8, .v (.c (.ptr 4 0))), (9, .v (.c (.int .i64 p.1)))],
            [(4, some (.box true [.int .i64 k.base, .int .i64 k.top, .int .i64 k.perms, .int .i64 k.sealed])), (3, some (.flat true .word none p.2)), (2, some (.flat false .bool none m.gone)), (1, some (.flat false .word none m.words)), (0, some (.box true [.sl false .word 1, .sl false .bool 2]))], nums.tail.tail.tail.tail.tail, [], false, []⟩)
          (fun p => 0 ≤ p.1 ∧ scan m.words (min k.top 24 - p.1).toNat p.1.toNat p.2 = closStep m.words out k ∧ p.2.length + missing m.words p.2 ≤ l.length + 24 ∧ WOut p.2 ∧ out.length ≤ p.2.length) (fun p => (min k.top 24 - p.1).toNat) (fun p R2 hI2 hR2 => ?_) (k.base, out) _
          ⟨b1, by rw [closStep_yes ho], hl, hw, Nat.le_refl _⟩ (by dsimp only; omega)
      obtain ⟨c, out2⟩ := p
      obtain ⟨gc, gx, gl, gw, gm⟩ := hI2
      dsimp only at gc gx gl gw gm
      dsimp only
      conv => whnf
      refine sel_i (fun h => ?_) (fun h => ?_)
      · have hc : c < min k.top 24 := by simpa using h
        clear h
        rw [show (min k.top 24 - c).toNat = (min k.top 24 - (c + 1)).toNat + 1 by omega, scan, show c.toNat + 1 = (c + 1).toNat by omega] at gx
        have hmem := getD_mem (ws := m.words) (c := c.toNat) (by omega)
        have hok := m3 _ hmem
        have hp := missing_put (out := out2) hmem
        have hpo := putW_out (w := m.words.getD c.toNat (FT.zero .word)) gw
        have hpl := putW_len out2 (m.words.getD c.toNat (FT.zero .word))
        conv => whnf
        repeat' (first | (refine sel_i (fun h => ?_) (fun h => ?_) <;> conv => whnf) | (refine chk_c ?_ ?_ <;> conv => whnf) | (refine And.intro ?_ rfl) | (refine And.intro ?_ ?_ <;> conv => whnf))
        all_goals simp only [etaKey, etaWord, Bool.not_eq_true', Bool.not_eq_false'] at *
        all_goals generalize m.words.getD c.toNat (FT.zero .word) = w at *
        all_goals first
          | (refine ⟨?_⟩; omega)
          | (refine ⟨?_⟩; simp; omega)
          | skip
        all_goals rw [wrap_id (n := c + 1) (by omega) (by omega)]
        · have e := putW_yes (out := out2) hok (by assumption) (by assumption)
          rw [e] at hp hpo hpl gx
          exact hR2 (c + 1, _) ⟨by dsimp only; omega, gx, by dsimp only; omega, hpo, by dsimp only; omega⟩ (by dsimp only; omega)
        · rw [putW_has (by assumption)] at gx
          exact hR2 (c + 1, _) ⟨by dsimp only; omega, gx, gl, gw, gm⟩ (by dsimp only; omega)
        · rw [putW_is (by assumption)] at gx
          exact hR2 (c + 1, _) ⟨by dsimp only; omega, gx, gl, gw, gm⟩ (by dsimp only; omega)
      · have hc : min k.top 24 ≤ c := by simp at h; omega
        rw [show (min k.top 24 - c).toNat = 0 by omega, scan] at gx
        conv => whnf
        rw [wrap_id (n := (i : Int) + 1) (by omega) (by omega)]
        exact hR (i + 1, out2) ⟨by dsimp only; omega, by rw [gx]; exact hx, gl, gw⟩ (by simp; omega)
    · have hge : out.length ≤ i := by simp at h; omega
      rw [closGo_end hge] at hx
      rw [← hx]
      conv => whnf
      exact ⟨rfl, rfl⟩
theorem ok_spec_Closure : FunOk Try.prog c_spec_Closure := funOk (E := [c_spec_MemoryOk, c_spec_WordOk, c_spec_l21Has, c_spec_l1Min]) (envOk_cons ok_spec_MemoryOk (envOk_cons ok_spec_WordOk (envOk_cons ok_spec_l21Has (envOk_cons ok_spec_l1Min (envOk_nil))))) mixd Try.func19 (pf := pf_spec_Closure) (by kernel_rfl) fun ts K h => by
  obtain ⟨t0, t1, e0, h⟩ := as2_out h
  subst e0
  obtain ⟨m, e1, hq⟩ := arG_out rd_mem h
  clear h
  subst e1
  have h := hq
  clear hq
  obtain ⟨l, e1, hq⟩ := arC_out (rd_l .word) h
  clear h
  subst e1
  have h := hq
  clear hq
  obtain ⟨hpre, h⟩ := chk_o h
  exact ⟨_, _, h, Nat.le_of_ble_eq_true (show Nat.ble 2 Try.f19.ntmps = true by kernel_rfl), _, run_spec_Closure m l hpre⟩

def pf_impl_Closure_1 : PF := ⟨[], .seq (.reg [.s (.box 2 (.t 0))]) (.seq (.reg [.s (.fa 3 (.t 2) 1), .s (.load 4 false 1 (.t 3)), .s (.mv 5 (.t 4)), .g 5 true (some 6) (.load 6 true 6 (.t 2)), .g 5 true (some 7) (.call (some 7) 28 [(.t 6)]), .s (.pick 8 (.t 5) (.t 7) (.k (.v (.c .ff)))), .s (.mv 9 (.t 8)), .g 9 true (some 10) (.load 10 false 1 (.t 1)), .g 9 true (some 11) (.mkf 11 87 [(.t 2)]), .g 9 true (some 12) (.call (some 12) 86 [(.t 10), (.t 11)]), .g 9 true (some 13) (.bnot 13 (.t 12)), .s (.pick 14 (.t 9) (.t 13) (.k (.v (.c .ff))))]) (.cond (.t 14) (.reg [.s (.load 15 false 1 (.t 1)), .s (.load 16 true 6 (.t 2)), .s (.bs 17 .word [(.t 16)]), .s (.app 18 .word (.t 15) (.t 17)), .s (.store 1 (.t 1) (.t 18))]) (.skip)))⟩
def c_impl_Closure_1 : Fun := ⟨85, [false, true], fun ts K => as2 ts fun t0 t1 => arG pWordT t0 fun w => arQ (pO .word) t1 fun out => chk (out.length ≤ 2147483646) (K (.tup []) ([.v (.ptr true 0 [tl true .word (putW out w)])]))⟩
theorem run_impl_Closure_1 (w : Word) (out : List (FT.Ty .word)) (hpre : out.length ≤ 2147483646) : runK [c_impl_WordOk, c_slices_ContainsFunc_Word__impl_Closure_1_1, c_impl_Closure_1_1] (0) [false, true] pf_impl_Closure_1 [tG (w.tc []), .v (.ptr true 0 [tl true .word out])] fun r o => r = .tup [] ∧ o = [.v (.ptr true 0 [tl true .word (putW out w)])] := by
  conv => whnf
  repeat' (first | (refine sel_i (fun h => ?_) (fun h => ?_) <;> conv => whnf) | (refine chk_c ?_ ?_ <;> conv => whnf) | (refine And.intro ?_ rfl) | (refine And.intro ?_ ?_ <;> conv => whnf))
  all_goals (try simp only [etaKey, etaWord, Bool.not_eq_true', Bool.not_eq_false'] at *)
  all_goals first
    | (refine ⟨?_⟩; show out.length ≤ 2147483647; omega)
    | (refine ⟨?_⟩; show out.length + 1 ≤ 2147483647; omega)
    | (rw [putW_has (by assumption)]; done)
    | (rw [putW_is (by assumption)]; done)
    | (rw [putW_ok (by assumption)]; done)
    | (rw [putW_yes (by assumption) (by assumption) (by assumption)]; done)
    | trace_state
theorem ok_impl_Closure_1 : FunOk Try.prog c_impl_Closure_1 := funOk (E := [c_impl_WordOk, c_slices_ContainsFunc_Word__impl_Closure_1_1, c_impl_Closure_1_1]) (envOk_cons ok_impl_WordOk (envOk_cons ok_slices_ContainsFunc_Word__impl_Closure_1_1 (envOk_cons ok_impl_Closure_1_1 (envOk_nil)))) mixd Try.func85 (pf := pf_impl_Closure_1) (by kernel_rfl) fun ts K h => by
  obtain ⟨t0, t1, e0, h⟩ := as2_out h
  subst e0
  obtain ⟨w, e1, hq⟩ := arG_out rd_word h
  clear h
  subst e1
  have h := hq
  clear hq
  obtain ⟨out, e1, hq⟩ := arQ_out (rd_o .word) h
  clear h
  subst e1
  have h := hq
  clear hq
  obtain ⟨hpre, h⟩ := chk_o h
  exact ⟨_, _, h, Nat.le_of_ble_eq_true (show Nat.ble 2 Try.f85.ntmps = true by kernel_rfl), _, run_impl_Closure_1 w out hpre⟩

def lb_impl_Closure_0 : PC := .seq (.reg [.s (.bin 22 .lss (.t 21) (.t 20))]) (.seq (.cond (.t 22) (.skip) (.exit 0)) (.seq (.blk 1 (.seq (.reg [.s (.ia 23 .word (.t 19) (.t 21)), .s (.load 24 true 6 (.t 23)), .s (.alloc 8 [.int .i64 0, .ff, .int .i64 0, .int .i64 0, .int .i64 0, .int .i64 0]), .s (.store 6 (.t 8) (.t 24))]) (.reg [.s (.mv 25 (.t 6)), .s (.load 26 true 6 (.t 8)), .s (.callv (some 27) (.t 25) [(.t 26)])]))) (.reg [.s (.bin 28 .add (.t 21) (.k (.v (.c (.int .i64 1))))), .s (.mv 21 (.t 28))])))
def lb_impl_Closure_1 : PC := .seq (.seq (.reg [.s (.mv 56 (.t 13)), .s (.mv 57 (.t 12)), .s (.bin 58 .lss (.t 56) (.t 57))]) (.cond (.t 58) (.skip) (.exit 4))) (.seq (.blk 5 (.reg [.s (.mv 61 (.t 6)), .s (.fa 62 (.t 2) 0), .s (.load 63 false 1 (.t 62)), .s (.mv 64 (.t 13)), .s (.ia 65 .word (.t 63) (.t 64)), .s (.load 66 true 6 (.t 65)), .s (.callv (some 67) (.t 61) [(.t 66)])])) (.reg [.s (.mv 59 (.t 13)), .s (.bin 60 .add (.t 59) (.k (.v (.c (.int .i64 1))))), .s (.mv 13 (.t 60))]))
def lb_impl_Closure_2 : PC := .seq (.seq (.reg [.s (.mv 29 (.t 9)), .s (.load 30 false 1 (.t 5)), .s (.len 31 false (.t 30)), .s (.bin 32 .lss (.t 29) (.t 31))]) (.cond (.t 32) (.skip) (.exit 2))) (.seq (.blk 3 (.seq (.reg [.s (.load 35 false 1 (.t 5)), .s (.mv 36 (.t 9)), .s (.ia 37 .word (.t 35) (.t 36)), .s (.fa 38 (.t 37) 2), .s (.load 39 true 4 (.t 38)), .s (.alloc 10 [.int .i64 0, .int .i64 0, .int .i64 0, .int .i64 0]), .s (.store 4 (.t 10) (.t 39))]) (.seq (.seq (.reg [.s (.fa 40 (.t 10) 2), .s (.load 41 false 1 (.t 40)), .s (.bin 42 .and (.t 41) (.k (.v (.c (.int .i64 1))))), .s (.bin 43 .eql (.t 42) (.k (.v (.c (.int .i64 0))))), .s (.mv 44 (.t 43)), .g 44 false (some 45) (.fa 45 (.t 10) 2), .g 44 false (some 46) (.load 46 false 1 (.t 45)), .g 44 false (some 47) (.bin 47 .and (.t 46) (.k (.v (.c (.int .i64 8))))), .g 44 false (some 48) (.bin 48 .eql (.t 47) (.k (.v (.c (.int .i64 0))))), .s (.pick 49 (.t 44) (.k (.v (.c .tt))) (.t 48))]) (.cond (.t 49) (.exit 3) (.skip))) (.seq (.reg [.s (.load 51 true 4 (.t 10)), .s (.call (some 52) 88 [(.t 51)]), .s (.mv 50 (.t 52)), .s (.ext 53 (.t 50) 0), .s (.ext 54 (.t 50) 1), .s (.mv 11 (.t 53)), .s (.mv 12 (.t 54))]) (.seq (.reg [.s (.mv 55 (.t 11)), .s (.mv 13 (.t 55))]) (.blk 4 (.loop [2, 5, 6, 9, 12, 13] lb_impl_Closure_1))))))) (.reg [.s (.mv 33 (.t 9)), .s (.bin 34 .add (.t 33) (.k (.v (.c (.int .i64 1))))), .s (.mv 9 (.t 34))]))
def pf_impl_Closure : PF := ⟨[.t 4], .seq (.reg [.s (.box 2 (.t 0)), .s (.mv 4 (.k (.v (.c (.nils .word)))))]) (.seq (.seq (.reg [.s (.load 14 true 2 (.t 2)), .s (.call (some 15) 27 [(.t 14)]), .s (.bnot 16 (.t 15))]) (.cond (.t 16) (.seq (.reg [.s (.mv 4 (.k (.v (.c (.nils .word)))))]) (.ret)) (.skip))) (.seq (.reg [.s (.bs 17 .word []), .s (.alloc 5 [.nils .word]), .s (.store 1 (.t 5) (.t 17))]) (.seq (.reg [.s (.mkf 18 85 [(.t 5)]), .s (.mv 6 (.t 18))]) (.seq (.seq (.reg [.s (.mv 19 (.t 1)), .s (.len 20 false (.t 19)), .s (.mv 21 (.k (.v (.c (.int .i64 0)))))]) (.blk 0 (.loop [2, 5, 6, 19, 20, 21] lb_impl_Closure_0))) (.seq (.seq (.reg [.s (.mv 9 (.k (.v (.c (.int .i64 0)))))]) (.blk 2 (.loop [2, 5, 6, 9] lb_impl_Closure_2))) (.seq (.reg [.s (.load 68 false 1 (.t 5)), .s (.mv 4 (.t 68))]) (.ret)))))))⟩
def c_impl_Closure : Fun := ⟨14, [], fun ts K => as2 ts fun t0 t1 => arG pMemT t0 fun m => arC (pL .word) t1 fun l => chk (LMem m 2147483647 ∧ l.length ≤ 1048576) (K (tL true .word (closure m l)) [])⟩
theorem run_impl_Closure (m : Mem) (l : List (FT.Ty .word)) (hpre : LMem m 2147483647 ∧ l.length ≤ 1048576) : runK [c_impl_MemoryOk, c_impl_Closure_1, c_impl_spanned] (l.length + 30) [] pf_impl_Closure [tG (m.tc false []), tL false .word l] fun r o => r = tL true .word (closure m l) ∧ o = [] := by
  obtain ⟨⟨l1, l2⟩, l3⟩ := hpre
  conv => whnf
  refine chk_i ⟨l1, l2⟩ ?_
  conv => whnf
  refine sel_i (fun h => ?_) (fun h => ?_)
  · conv => whnf
    repeat' (first | (refine sel_i (fun h => ?_) (fun h => ?_) <;> conv => whnf) | (refine chk_c ?_ ?_ <;> conv => whnf) | (refine And.intro ?_ rfl) | (refine And.intro ?_ ?_ <;> conv => whnf))
    simp only [etaMemory, Bool.not_eq_true'] at h
    simp only [closure, h]; rfl
  have hm : memoryOk m = true := by simpa using h
  clear h
  obtain ⟨m1, m2, m3⟩ := memoryOk_n hm
  rw [show closure m l = closGo m.words (l.length + 24) 0 (closFirst l) by simp only [closure, hm, if_true]]
  conv => whnf
  refine loop (α := Nat × List Word × Bool) (fun p => ⟨[(2, .v (.c (.ptr 0 0))), (5, .v (.c (.ptr 3 0))), (6, .fn 85 [.c (.ptr 3 0)]), (19, .v (.c (.sl false .word 5))), (20, .v (.c (.int .i64 (l.length : Int)))), (21, .v (.c (.int .i64 (p.1 : Int))))],
        [(5, some (.flat false .word none l)), (4, some (.flat true .word none p.2.1)), (3, some (.box true [.sl p.2.2 .word 4])), (2, some (.flat false .bool none m.gone)), (1, some (.flat false .word none m.words)), (0, some (.box true [.sl false .word 1, .sl false .bool 2]))], nums.tail.tail.tail.tail.tail.tail, [], false, []⟩)
      (fun p => p.1 ≤ l.length ∧ p.2.1 = (l.take p.1).foldl putW [] ∧ p.2.1.length ≤ p.1 ∧ WOut p.2.1) (fun p => l.length - p.1) (fun p R hI hR => ?_) (0, [], true) _ ⟨by simp, by simp, by simp, by simp [WOut]⟩ (by simp)
  obtain ⟨i, out, b⟩ := p
  obtain ⟨hi, hx, hl, hw⟩ := hI
  dsimp only at hi hx hl hw
  dsimp only
  conv => whnf
  refine sel_i (fun h => ?_) (fun h => ?_)
  · have hlt : i < l.length := by simp at h; omega
    clear h
    have hstep : (l.take (i + 1)).foldl putW [] = putW out (l.getD i (FT.zero .word)) := by rw [foldl_take _ _ (FT.zero .word) hlt, hx]
    have hlen := putW_len out (l.getD i (FT.zero .word))
    have hout := putW_out (w := l.getD i (FT.zero .word)) hw
    conv => whnf
    repeat' (first | (refine sel_i (fun h => ?_) (fun h => ?_) <;> conv => whnf) | (refine chk_c ?_ ?_ <;> conv => whnf) | (refine And.intro ?_ rfl) | (refine And.intro ?_ ?_ <;> conv => whnf))
    all_goals (try simp only [etaKey, etaWord, Int.toNat_natCast] at *)
    all_goals first
      | (refine ⟨?_⟩; omega)
      | (refine ⟨?_⟩; simp; omega)
      | (rw [wrap_id (n := (i : Int) + 1) (by omega) (by omega)]
         exact hR (i + 1, putW out (l.getD i (FT.zero .word)), false) ⟨by dsimp only; omega, hstep.symm, by dsimp only; omega, hout⟩ (by dsimp only; omega))
      | trace_state
  · have hge : i = l.length := by simp at h; omega
    clear h hR
    subst hge
    rw [List.take_of_length_le (Nat.le_refl _)] at hx
    conv => whnf
    refine loop (α := Nat × List Word × Bool) (fun p => ⟨[(2, .v (.c (.ptr 0 0))), (5, .v (.c (.ptr 3 0))), (6, .fn 85 [.c (.ptr 3 0)]), (9, .v (.c (.int .i64 (p.1 : Int))))],
          [(4, some (.flat true .word none p.2.1)), (3, some (.box true [.sl p.2.2 .word 4])), (2, some (.flat false .bool none m.gone)), (1, some (.flat false .word none m.words)), (0, some (.box true [.sl false .word 1, .sl false .bool 2]))], nums.tail.tail.tail.tail.tail, [], false, []⟩)
        (fun p => p.1 ≤ p.2.1.length ∧ closGo m.words (l.length + 24 - p.1) p.1 p.2.1 = closGo m.words (l.length + 24) 0 (closFirst l) ∧ p.2.1.length + missing m.words p.2.1 ≤ l.length + 24 ∧ WOut p.2.1) (fun p => l.length + 24 - p.1) (fun p R hI hR => ?_) (0, out, b) _
        ⟨by simp, by rw [hx]; rfl, by have := missing_le m.words out; dsimp only; omega, hw⟩ (by simp)
    clear hx hl hw
    obtain ⟨i, out, b⟩ := p
    obtain ⟨hi, hx, hl, hw⟩ := hI
    dsimp only at hi hx hl hw
    dsimp only
    conv => whnf
    refine sel_i (fun h => ?_) (fun h => ?_)
    · have hlt : i < out.length := by simp at h; omega
      clear h
      obtain ⟨b1, b2, b3⟩ := wout_bounds hw hlt
      rw [show l.length + 24 - i = (l.length + 24 - (i + 1)) + 1 by omega, closGo_step hlt] at hx
      conv => whnf
      repeat' (first | (refine sel_i (fun h => ?_) (fun h => ?_) <;> conv => whnf) | (refine chk_c ?_ ?_ <;> conv => whnf) | (refine And.intro ?_ rfl) | (refine And.intro ?_ ?_ <;> conv => whnf))
      all_goals simp only [andI_eq, Int.toNat_natCast] at *
      all_goals generalize hk : (out.getD i (FT.zero .word)).key = k at *
      all_goals try (refine ⟨?_⟩; first | omega | (simp; omega))
      · rw [wrap_id (n := (i : Int) + 1) (by omega) (by omega)]
        exact hR (i + 1, out, b) ⟨hlt, by rw [closStep_no (by simp [opens, *])] at hx; exact hx, hl, hw⟩ (by simp; omega)
      · rw [wrap_id (n := (i : Int) + 1) (by omega) (by omega)]
        exact hR (i + 1, out, b) ⟨hlt, by rw [closStep_no (by simp [opens, *])] at hx; exact hx, hl, hw⟩ (by simp; omega)
      have ho : opens k = true := by simp only [opens, *]; rfl
      refine loop (α := Int × List Word × Bool) (fun p => ⟨[(2, .v (.c (.ptr 0 0))), (5, .v (.c (.ptr 3 0))), (6, .fn 85 [.c (.ptr 3 0)]), (9, .v (.c (.int .i64 (i : Int)))), (12, .v (.c (.int .i64 (min k.top 24)))), (13, .v (.c (.int .i64 p.1)))],
            [(4, some (.flat true .word none p.2.1)), (3, some (.box true [.sl p.2.2 .word 4])), (2, some (.flat false .bool none m.gone)), (1, some (.flat false .word none m.words)), (0, some (.box true [.sl false .word 1, .sl false .bool 2]))], nums.tail.tail.tail.tail.tail, [], false, []⟩)
          (fun p => 0 ≤ p.1 ∧ scan m.words (min k.top 24 - p.1).toNat p.1.toNat p.2.1 = closStep m.words out k ∧ p.2.1.length + missing m.words p.2.1 ≤ l.length + 24 ∧ WOut p.2.1 ∧ out.length ≤ p.2.1.length) (fun p => (min k.top 24 - p.1).toNat) (fun p R2 hI2 hR2 => ?_) (k.base, out, b) _
          ⟨b1, by rw [closStep_yes ho], hl, hw, Nat.le_refl _⟩ (by dsimp only; omega)
      obtain ⟨c, out2, b2⟩ := p
      obtain ⟨gc, gx, gl, gw, gm⟩ := hI2
      dsimp only at gc gx gl gw gm
      dsimp only
      conv => whnf
      refine sel_i (fun h => ?_) (fun h => ?_)
      · have hc : c < min k.top 24 := by simpa using h
        clear h
        rw [show (min k.top 24 - c).toNat = (min k.top 24 - (c + 1)).toNat + 1 by omega, scan, show c.toNat + 1 = (c + 1).toNat by omega] at gx
        have hmem := getD_mem (ws := m.words) (c := c.toNat) (by omega)
        have hp := missing_put (out := out2) hmem
        have hpo := putW_out (w := m.words.getD c.toNat (FT.zero .word)) gw
        have hpl := putW_len out2 (m.words.getD c.toNat (FT.zero .word))
        conv => whnf
        repeat' (first | (refine sel_i (fun h => ?_) (fun h => ?_) <;> conv => whnf) | (refine chk_c ?_ ?_ <;> conv => whnf) | (refine And.intro ?_ rfl) | (refine And.intro ?_ ?_ <;> conv => whnf))
        all_goals (try simp only [etaKey, etaWord] at *)
        all_goals generalize m.words.getD c.toNat (FT.zero .word) = w at *
        all_goals try (refine ⟨?_⟩; first | omega | (simp; omega))
        rw [wrap_id (n := c + 1) (by omega) (by omega)]
        exact hR2 (c + 1, putW out2 w, false) ⟨by dsimp only; omega, gx, by dsimp only; omega, hpo, by dsimp only; omega⟩ (by dsimp only; omega)
      · have hc : min k.top 24 ≤ c := by simp at h; omega
        rw [show (min k.top 24 - c).toNat = 0 by omega, scan] at gx
        conv => whnf
        rw [wrap_id (n := (i : Int) + 1) (by omega) (by omega)]
        exact hR (i + 1, out2, b2) ⟨by dsimp only; omega, by rw [gx]; exact hx, gl, gw⟩ (by simp; omega)
    · have hge : out.length ≤ i := by simp at h; omega
      rw [closGo_end hge] at hx
      rw [← hx]
      conv => whnf
      exact ⟨rfl, rfl⟩
theorem ok_impl_Closure : FunOk Try.prog c_impl_Closure := funOk (E := [c_impl_MemoryOk, c_impl_Closure_1, c_impl_spanned]) (envOk_cons ok_impl_MemoryOk (envOk_cons ok_impl_Closure_1 (envOk_cons ok_impl_spanned (envOk_nil)))) mixd Try.func14 (pf := pf_impl_Closure) (by kernel_rfl) fun ts K h => by
  obtain ⟨t0, t1, e0, h⟩ := as2_out h
  subst e0
  obtain ⟨m, e1, hq⟩ := arG_out rd_mem h
  clear h
  subst e1
  have h := hq
  clear hq
  obtain ⟨l, e1, hq⟩ := arC_out (rd_l .word) h
  clear h
  subst e1
  have h := hq
  clear hq
  obtain ⟨hpre, h⟩ := chk_o h
  exact ⟨_, _, h, Nat.le_of_ble_eq_true (show Nat.ble 2 Try.f14.ntmps = true by kernel_rfl), _, run_impl_Closure m l hpre⟩
end Go.Pi
