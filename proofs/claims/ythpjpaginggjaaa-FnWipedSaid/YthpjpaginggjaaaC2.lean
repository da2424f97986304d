/- Contracts of functions, each out of its run by PI. No conditions. -/
import Derived.Test.YthpjpaginggjaaaC1
namespace Go.Pi
open Go.Proofs
set_option linter.unusedVariables false
set_option linter.unusedSimpArgs false
set_option maxRecDepth 100000
attribute [local irreducible] iterN
theorem andI_mask {q p : Int} (h : 0 ≤ p ∧ p ≤ 63) : (andI q p = p) ↔ (IntKind.i64.wrap (BitVec.ofInt IntKind.i64.bits p &&& ~~~ BitVec.ofInt IntKind.i64.bits q).toNat = 0) := by
  obtain ⟨m, rfl⟩ := Int.eq_ofNat_of_zero_le h.1
  have hy : (BitVec.ofInt IntKind.i64.bits (m : Int)).toNat = m := by
    rw [BitVec.ofInt_natCast, BitVec.toNat_ofNat]; exact Nat.mod_eq_of_lt (by show m < 2 ^ 64; omega)
  unfold andI
  generalize BitVec.ofInt IntKind.i64.bits (m : Int) = y at *
  generalize BitVec.ofInt IntKind.i64.bits q = x at *
  have h1 : (x &&& y).toNat ≤ y.toNat := by rw [BitVec.toNat_and]; exact Nat.and_le_right
  have h2 : (y &&& ~~~ x).toNat ≤ y.toNat := by rw [BitVec.toNat_and]; exact Nat.and_le_left
  have h3 : y.toNat ≤ 63 := by omega
  rw [wrap_id (by omega) (by omega), wrap_id (by omega) (by omega)]
  have e1 : (((x &&& y).toNat : Nat) : Int) = (m : Int) ↔ x &&& y = y := by
    rw [← hy, ← BitVec.toNat_inj]; omega
  have e2 : (((y &&& ~~~ x).toNat : Nat) : Int) = 0 ↔ y &&& ~~~ x = 0#_ := by
    rw [← BitVec.toNat_inj]; simp
  rw [e1, e2]
  constructor
  · intro h
    rw [← h]
    apply BitVec.eq_of_getLsbD_eq
    intro i hi
    simp only [BitVec.getLsbD_and, BitVec.getLsbD_not, BitVec.getLsbD_zero]
    cases x.getLsbD i <;> cases y.getLsbD i <;> simp
  · intro h
    apply BitVec.eq_of_getLsbD_eq
    intro i hi
    have := congrArg (fun v => v.getLsbD i) h
    simp only [BitVec.getLsbD_and, BitVec.getLsbD_not, BitVec.getLsbD_zero, hi, decide_true, Bool.true_and] at this ⊢
    cases hx : x.getLsbD i <;> cases hyy : y.getLsbD i <;> simp_all
def tryW (w : Word) (n p : Int) : Int := if w.is = false ∨ wordOk w = false then 1 else if w.key.sealed ≠ 0 then 2 else if andI w.key.perms p ≠ p then 3 else if n < w.key.base ∨ w.key.top ≤ n then 4 else 0
def takenW (y w : Word) : Word := if andI y.key.perms 8 = 0 then plainW w.n else w
def mayPut (y w : Word) : Bool := !w.is || andI y.key.perms 16 != 0
def openW (w : Word) : Bool := wordOk w && w.is && w.key.sealed == 0
theorem openW_is {w : Word} (h : openW w = true) : w.is = true := by simp only [openW, Bool.and_eq_true] at h; exact h.1.2
def weakenW (w : Word) (m : Int) : Word := if openW w then { w with key := { w.key with perms := andI w.key.perms (andI m 63) } } else plainW w.n
def narrowW (w : Word) (n : Int) : Word :=
  if openW w && inR n 0 4096 && boundsOk w.n (IntKind.i64.wrap (w.n + n)) then
    (if (wide w.n (IntKind.i64.wrap (w.n + n))).1 < w.key.base ∨ w.key.top < (wide w.n (IntKind.i64.wrap (w.n + n))).2 then plainW w.n else { w with key := { w.key with base := (wide w.n (IntKind.i64.wrap (w.n + n))).1, top := (wide w.n (IntKind.i64.wrap (w.n + n))).2 } })
  else plainW w.n
def pointW (w : Word) (n : Int) : Word := if openW w then ⟨andI n 65535, true, w.key⟩ else plainW n
def sealsB (y : Word) : Bool := openW y && (andI y.key.perms 32 != 0) && decide (y.key.base ≤ y.n) && decide (y.n < y.key.top) && inR y.n 1 7
def sealBy (w y : Word) : Word := if openW w && sealsB y then { w with key := { w.key with sealed := y.n } } else plainW w.n
def openBy (w y : Word) : Word := if wordOk w && w.is && sealsB y && w.key.sealed == y.n then { w with key := { w.key with sealed := 0 } } else plainW w.n

def pf_impl_Try : PF := ⟨[.t 6], .seq (.reg [.s (.box 3 (.t 0)), .s (.mv 6 (.k (.v (.c (.int .i64 0)))))]) (.seq (.blk 0 (.seq (.reg [.s (.fa 8 (.t 3) 1), .s (.load 9 false 1 (.t 8)), .s (.bnot 10 (.t 9)), .s (.mv 11 (.t 10)), .g 11 false (some 12) (.load 12 true 6 (.t 3)), .g 11 false (some 13) (.call (some 13) 28 [(.t 12)]), .g 11 false (some 14) (.bnot 14 (.t 13)), .s (.pick 15 (.t 11) (.k (.v (.c .tt))) (.t 14)), .s (.mv 7 (.t 15))]) (.cond (.t 7) (.seq (.reg [.s (.mv 6 (.k (.v (.c (.int .i64 1)))))]) (.ret)) (.seq (.reg [.s (.fa 17 (.t 3) 2), .s (.fa 18 (.t 17) 3), .s (.load 19 false 1 (.t 18)), .s (.bin 20 .neq (.t 19) (.k (.v (.c (.int .i64 0))))), .s (.mv 16 (.t 20))]) (.cond (.t 16) (.seq (.reg [.s (.mv 6 (.k (.v (.c (.int .i64 2)))))]) (.ret)) (.seq (.reg [.s (.mv 22 (.t 2)), .s (.fa 23 (.t 3) 2), .s (.fa 24 (.t 23) 2), .s (.load 25 false 1 (.t 24)), .s (.bin 26 .andNot (.t 22) (.t 25)), .s (.bin 27 .neq (.t 26) (.k (.v (.c (.int .i64 0))))), .s (.mv 21 (.t 27))]) (.cond (.t 21) (.seq (.reg [.s (.mv 6 (.k (.v (.c (.int .i64 3)))))]) (.ret)) (.seq (.reg [.s (.mv 29 (.t 1)), .s (.fa 30 (.t 3) 2), .s (.fa 31 (.t 30) 0), .s (.load 32 false 1 (.t 31)), .s (.bin 33 .lss (.t 29) (.t 32)), .s (.mv 34 (.t 33)), .g 34 false (some 35) (.mv 35 (.t 1)), .g 34 false (some 36) (.fa 36 (.t 3) 2), .g 34 false (some 37) (.fa 37 (.t 36) 1), .g 34 false (some 38) (.load 38 false 1 (.t 37)), .g 34 false (some 39) (.bin 39 .geq (.t 35) (.t 38)), .s (.pick 40 (.t 34) (.k (.v (.c .tt))) (.t 39)), .s (.mv 28 (.t 40))]) (.cond (.t 28) (.seq (.reg [.s (.mv 6 (.k (.v (.c (.int .i64 4)))))]) (.ret)) (.skip)))))))))) (.seq (.reg [.s (.mv 6 (.k (.v (.c (.int .i64 0)))))]) (.ret)))⟩
def c_impl_Try : Fun := ⟨80, [], fun ts K => as3 ts fun t0 t1 t2 => arG pWordT t0 fun w => arC (pI .i64) t1 fun n => arC (pI .i64) t2 fun p => chk (0 ≤ p ∧ p ≤ 63) (K (tN (tryW w n p)) [])⟩
theorem run_impl_Try (w : Word) (n : Int) (p : Int) (hpre : 0 ≤ p ∧ p ≤ 63) : runK [c_impl_WordOk] (0) [] pf_impl_Try [tG (w.tc []), tI .i64 n, tI .i64 p] fun r o => r = tN (tryW w n p) ∧ o = [] := by
  have hm := andI_mask (q := w.key.perms) hpre
  conv => whnf
  repeat' (first | (refine sel_i (fun h => ?_) (fun h => ?_) <;> conv => whnf) | (refine chk_c ?_ ?_ <;> conv => whnf) | (refine And.intro ?_ rfl) | (refine And.intro ?_ ?_ <;> conv => whnf))
  all_goals (try simp only [etaKey, etaWord, andI_eq, Bool.not_eq_true', Bool.not_eq_false', decide_eq_true_eq, decide_eq_false_iff_not, bne_iff_ne, ne_eq, bne_eq_false_iff_eq, beq_iff_eq, beq_eq_false_iff_ne] at *)
  all_goals (try simp only [← hm] at *)
  all_goals first | (simp_all [tryW]; done) | (simp_all [tryW]; omega) | trace_state
theorem ok_impl_Try : FunOk Try.prog c_impl_Try := funOk (E := [c_impl_WordOk]) (envOk_cons ok_impl_WordOk (envOk_nil)) mixd Try.func80 (pf := pf_impl_Try) (by kernel_rfl) fun ts K h => by
  obtain ⟨t0, t1, t2, e0, h⟩ := as3_out h
  subst e0
  obtain ⟨w, e1, hq⟩ := arG_out rd_word h
  clear h
  subst e1
  have h := hq
  clear hq
  obtain ⟨n, e1, hq⟩ := arC_out (rd_int .i64) h
  clear h
  subst e1
  have h := hq
  clear hq
  obtain ⟨p, e1, hq⟩ := arC_out (rd_int .i64) h
  clear h
  subst e1
  have h := hq
  clear hq
  obtain ⟨hpre, h⟩ := chk_o h
  exact ⟨_, _, h, Nat.le_of_ble_eq_true (show Nat.ble 3 Try.f80.ntmps = true by kernel_rfl), _, run_impl_Try w n p hpre⟩

def pf_impl_permits : PF := ⟨[.t 4], .seq (.reg [.s (.box 2 (.t 0)), .s (.mv 4 (.k (.v (.c .ff))))]) (.seq (.reg [.s (.fa 5 (.t 2) 2), .s (.fa 6 (.t 5) 2), .s (.load 7 false 1 (.t 6)), .s (.mv 8 (.t 1)), .s (.bin 9 .and (.t 7) (.t 8)), .s (.bin 10 .neq (.t 9) (.k (.v (.c (.int .i64 0))))), .s (.mv 4 (.t 10))]) (.ret))⟩
def c_impl_permits : Fun := ⟨255, [], fun ts K => as2 ts fun t0 t1 => arG pWordT t0 fun y => arC (pI .i64) t1 fun p => K (tB (andI y.key.perms p != 0)) []⟩
theorem run_impl_permits (y : Word) (p : Int) : runK [] (0) [] pf_impl_permits [tG (y.tc []), tI .i64 p] fun r o => r = tB (andI y.key.perms p != 0) ∧ o = [] := by
  conv => whnf
  repeat' (first
    | exact rfl
    | exact trivial
    | (refine sel_i (fun h => ?_) (fun h => ?_) <;> conv => whnf)
    | (refine chk_c ?_ ?_ <;> conv => whnf)
    | (refine And.intro ?_ ?_ <;> conv => whnf))
theorem ok_impl_permits : FunOk Try.prog c_impl_permits := funOk (E := []) (envOk_nil) mixd Try.func255 (pf := pf_impl_permits) (by kernel_rfl) fun ts K h => by
  obtain ⟨t0, t1, e0, h⟩ := as2_out h
  subst e0
  obtain ⟨y, e1, hq⟩ := arG_out rd_word h
  clear h
  subst e1
  have h := hq
  clear hq
  obtain ⟨p, e1, hq⟩ := arC_out (rd_int .i64) h
  clear h
  subst e1
  have h := hq
  clear hq
  exact ⟨_, _, h, Nat.le_of_ble_eq_true (show Nat.ble 2 Try.f255.ntmps = true by kernel_rfl), _, run_impl_permits y p⟩

def pf_impl_Taken : PF := ⟨[.c 4 true 6], .seq (.reg [.s (.box 2 (.t 0)), .s (.box 3 (.t 1)), .s (.alloc 4 [.int .i64 0, .ff, .int .i64 0, .int .i64 0, .int .i64 0, .int .i64 0])]) (.seq (.seq (.reg [.s (.load 5 true 6 (.t 2)), .s (.call (some 6) 255 [(.t 5), (.k (.v (.c (.int .i64 8))))])]) (.cond (.t 6) (.seq (.reg [.s (.load 7 true 6 (.t 3)), .s (.store 6 (.t 4) (.t 7))]) (.ret)) (.skip))) (.seq (.reg [.s (.load 8 true 6 (.t 3)), .s (.call (some 9) 128 [(.t 8)]), .s (.store 6 (.t 4) (.t 9))]) (.ret)))⟩
def c_impl_Taken : Fun := ⟨241, [], fun ts K => as2 ts fun t0 t1 => arG pWordT t0 fun y => arG pWordT t1 fun w => K (tG ((takenW y w).tc [])) []⟩
theorem run_impl_Taken (y : Word) (w : Word) : runK [c_impl_Bare, c_impl_permits] (0) [] pf_impl_Taken [tG (y.tc []), tG (w.tc [])] fun r o => r = tG ((takenW y w).tc []) ∧ o = [] := by
  conv => whnf
  repeat' (first | (refine sel_i (fun h => ?_) (fun h => ?_) <;> conv => whnf) | (refine chk_c ?_ ?_ <;> conv => whnf) | (refine And.intro ?_ rfl) | (refine And.intro ?_ ?_ <;> conv => whnf))
  all_goals (try simp only [etaKey, etaWord, andI_eq, Bool.not_eq_true', Bool.not_eq_false', decide_eq_true_eq, decide_eq_false_iff_not, bne_iff_ne, ne_eq, bne_eq_false_iff_eq, beq_iff_eq, beq_eq_false_iff_ne] at *)
  all_goals
    first
      | (rw [show takenW y w = plainW w.n by simp_all [takenW]]; rfl)
      | (rw [show takenW y w = w by simp_all [takenW]]; rfl)
      | trace_state
theorem ok_impl_Taken : FunOk Try.prog c_impl_Taken := funOk (E := [c_impl_Bare, c_impl_permits]) (envOk_cons ok_impl_Bare (envOk_cons ok_impl_permits (envOk_nil))) mixd Try.func241 (pf := pf_impl_Taken) (by kernel_rfl) fun ts K h => by
  obtain ⟨t0, t1, e0, h⟩ := as2_out h
  subst e0
  obtain ⟨y, e1, hq⟩ := arG_out rd_word h
  clear h
  subst e1
  have h := hq
  clear hq
  obtain ⟨w, e1, hq⟩ := arG_out rd_word h
  clear h
  subst e1
  have h := hq
  clear hq
  exact ⟨_, _, h, Nat.le_of_ble_eq_true (show Nat.ble 2 Try.f241.ntmps = true by kernel_rfl), _, run_impl_Taken y w⟩

def pf_impl_MayPut : PF := ⟨[.t 4], .seq (.reg [.s (.box 2 (.t 0)), .s (.box 3 (.t 1)), .s (.mv 4 (.k (.v (.c .ff))))]) (.seq (.reg [.s (.fa 5 (.t 3) 1), .s (.load 6 false 1 (.t 5)), .s (.bnot 7 (.t 6)), .s (.mv 8 (.t 7)), .g 8 false (some 9) (.load 9 true 6 (.t 2)), .g 8 false (some 10) (.call (some 10) 255 [(.t 9), (.k (.v (.c (.int .i64 16))))]), .s (.pick 11 (.t 8) (.k (.v (.c .tt))) (.t 10)), .s (.mv 4 (.t 11))]) (.ret))⟩
def c_impl_MayPut : Fun := ⟨242, [], fun ts K => as2 ts fun t0 t1 => arG pWordT t0 fun y => arG pWordT t1 fun w => K (tB (mayPut y w)) []⟩
theorem run_impl_MayPut (y : Word) (w : Word) : runK [c_impl_permits] (0) [] pf_impl_MayPut [tG (y.tc []), tG (w.tc [])] fun r o => r = tB (mayPut y w) ∧ o = [] := by
  conv => whnf
  repeat' (first | (refine sel_i (fun h => ?_) (fun h => ?_) <;> conv => whnf) | (refine chk_c ?_ ?_ <;> conv => whnf) | (refine And.intro ?_ rfl) | (refine And.intro ?_ ?_ <;> conv => whnf))
  all_goals (try simp only [etaKey, etaWord, andI_eq, Bool.not_eq_true', Bool.not_eq_false', decide_eq_true_eq, decide_eq_false_iff_not, bne_iff_ne, ne_eq, bne_eq_false_iff_eq, beq_iff_eq, beq_eq_false_iff_ne] at *)
  all_goals first | (simp_all [mayPut]; done) | (simp_all [mayPut]; omega) | trace_state
theorem ok_impl_MayPut : FunOk Try.prog c_impl_MayPut := funOk (E := [c_impl_permits]) (envOk_cons ok_impl_permits (envOk_nil)) mixd Try.func242 (pf := pf_impl_MayPut) (by kernel_rfl) fun ts K h => by
  obtain ⟨t0, t1, e0, h⟩ := as2_out h
  subst e0
  obtain ⟨y, e1, hq⟩ := arG_out rd_word h
  clear h
  subst e1
  have h := hq
  clear hq
  obtain ⟨w, e1, hq⟩ := arG_out rd_word h
  clear h
  subst e1
  have h := hq
  clear hq
  exact ⟨_, _, h, Nat.le_of_ble_eq_true (show Nat.ble 2 Try.f242.ntmps = true by kernel_rfl), _, run_impl_MayPut y w⟩

def pf_impl_open : PF := ⟨[.t 2], .seq (.reg [.s (.box 1 (.t 0)), .s (.mv 2 (.k (.v (.c .ff))))]) (.seq (.reg [.s (.load 3 true 6 (.t 1)), .s (.call (some 4) 28 [(.t 3)]), .s (.mv 5 (.t 4)), .g 5 true (some 6) (.fa 6 (.t 1) 1), .g 5 true (some 7) (.load 7 false 1 (.t 6)), .s (.pick 8 (.t 5) (.t 7) (.k (.v (.c .ff)))), .s (.mv 9 (.t 8)), .g 9 true (some 10) (.fa 10 (.t 1) 2), .g 9 true (some 11) (.fa 11 (.t 10) 3), .g 9 true (some 12) (.load 12 false 1 (.t 11)), .g 9 true (some 13) (.bin 13 .eql (.t 12) (.k (.v (.c (.int .i64 0))))), .s (.pick 14 (.t 9) (.t 13) (.k (.v (.c .ff)))), .s (.mv 2 (.t 14))]) (.ret))⟩
def c_impl_open : Fun := ⟨256, [], fun ts K => as1 ts fun t0 => arG pWordT t0 fun w => K (tB (openW w)) []⟩
theorem run_impl_open (w : Word) : runK [c_impl_WordOk] (0) [] pf_impl_open [tG (w.tc [])] fun r o => r = tB (openW w) ∧ o = [] := by
  conv => whnf
  repeat' (first | (refine sel_i (fun h => ?_) (fun h => ?_) <;> conv => whnf) | (refine chk_c ?_ ?_ <;> conv => whnf) | (refine And.intro ?_ rfl) | (refine And.intro ?_ ?_ <;> conv => whnf))
  all_goals (try simp only [etaKey, etaWord, andI_eq, Bool.not_eq_true', Bool.not_eq_false', decide_eq_true_eq, decide_eq_false_iff_not, bne_iff_ne, ne_eq, bne_eq_false_iff_eq, beq_iff_eq, beq_eq_false_iff_ne] at *)
  all_goals first | (simp_all [openW]; done) | (simp_all [openW]; omega) | trace_state
theorem ok_impl_open : FunOk Try.prog c_impl_open := funOk (E := [c_impl_WordOk]) (envOk_cons ok_impl_WordOk (envOk_nil)) mixd Try.func256 (pf := pf_impl_open) (by kernel_rfl) fun ts K h => by
  obtain ⟨t0, e0, h⟩ := as1_out h
  subst e0
  obtain ⟨w, e1, hq⟩ := arG_out rd_word h
  clear h
  subst e1
  have h := hq
  clear hq
  exact ⟨_, _, h, Nat.le_of_ble_eq_true (show Nat.ble 1 Try.f256.ntmps = true by kernel_rfl), _, run_impl_open w⟩

def pf_impl_Weaken : PF := ⟨[.c 4 true 6], .seq (.reg [.s (.box 2 (.t 0)), .s (.alloc 4 [.int .i64 0, .ff, .int .i64 0, .int .i64 0, .int .i64 0, .int .i64 0])]) (.seq (.seq (.reg [.s (.load 5 true 6 (.t 2)), .s (.call (some 6) 256 [(.t 5)]), .s (.bnot 7 (.t 6))]) (.cond (.t 7) (.seq (.reg [.s (.load 8 true 6 (.t 2)), .s (.call (some 9) 128 [(.t 8)]), .s (.store 6 (.t 4) (.t 9))]) (.ret)) (.skip))) (.seq (.reg [.s (.fa 10 (.t 2) 2), .s (.fa 11 (.t 10) 2), .s (.load 12 false 1 (.t 11)), .s (.mv 13 (.t 1)), .s (.bin 14 .and (.t 13) (.k (.v (.c (.int .i64 63))))), .s (.bin 15 .and (.t 12) (.t 14)), .s (.fa 16 (.t 2) 2), .s (.fa 17 (.t 16) 2), .s (.store 1 (.t 17) (.t 15))]) (.seq (.reg [.s (.load 18 true 6 (.t 2)), .s (.store 6 (.t 4) (.t 18))]) (.ret))))⟩
def c_impl_Weaken : Fun := ⟨257, [], fun ts K => as2 ts fun t0 t1 => arG pWordT t0 fun w => arC (pI .i64) t1 fun m => K (tG ((weakenW w m).tc [])) []⟩
theorem run_impl_Weaken (w : Word) (m : Int) : runK [c_impl_Bare, c_impl_open] (0) [] pf_impl_Weaken [tG (w.tc []), tI .i64 m] fun r o => r = tG ((weakenW w m).tc []) ∧ o = [] := by
  conv => whnf
  repeat' (first | (refine sel_i (fun h => ?_) (fun h => ?_) <;> conv => whnf) | (refine chk_c ?_ ?_ <;> conv => whnf) | (refine And.intro ?_ rfl) | (refine And.intro ?_ ?_ <;> conv => whnf))
  all_goals (try simp only [etaKey, etaWord, andI_eq, Bool.not_eq_true', Bool.not_eq_false', decide_eq_true_eq, decide_eq_false_iff_not, bne_iff_ne, ne_eq, bne_eq_false_iff_eq, beq_iff_eq, beq_eq_false_iff_ne] at *)
  all_goals
    first
      | (rw [show weakenW w m = plainW w.n by simp_all [weakenW]]; rfl)
      | (rw [show weakenW w m = { w with key := { w.key with perms := andI w.key.perms (andI m 63) } } by simp_all [weakenW]]; rfl)
      | trace_state
theorem ok_impl_Weaken : FunOk Try.prog c_impl_Weaken := funOk (E := [c_impl_Bare, c_impl_open]) (envOk_cons ok_impl_Bare (envOk_cons ok_impl_open (envOk_nil))) mixd Try.func257 (pf := pf_impl_Weaken) (by kernel_rfl) fun ts K h => by
  obtain ⟨t0, t1, e0, h⟩ := as2_out h
  subst e0
  obtain ⟨w, e1, hq⟩ := arG_out rd_word h
  clear h
  subst e1
  have h := hq
  clear hq
  obtain ⟨m, e1, hq⟩ := arC_out (rd_int .i64) h
  clear h
  subst e1
  have h := hq
  clear hq
  exact ⟨_, _, h, Nat.le_of_ble_eq_true (show Nat.ble 2 Try.f257.ntmps = true by kernel_rfl), _, run_impl_Weaken w m⟩

def pf_impl_Point : PF := ⟨[.c 4 true 6], .seq (.reg [.s (.box 2 (.t 0)), .s (.alloc 4 [.int .i64 0, .ff, .int .i64 0, .int .i64 0, .int .i64 0, .int .i64 0])]) (.seq (.reg [.s (.mv 6 (.t 1)), .s (.call (some 7) 60 [(.t 6)]), .s (.alloc 5 [.int .i64 0, .ff, .int .i64 0, .int .i64 0, .int .i64 0, .int .i64 0]), .s (.store 6 (.t 5) (.t 7))]) (.seq (.seq (.reg [.s (.load 8 true 6 (.t 2)), .s (.call (some 9) 256 [(.t 8)])]) (.cond (.t 9) (.rgd [] [.s (.fa 10 (.t 2) 2), .s (.load 11 true 4 (.t 10)), .s (.fa 12 (.t 5) 1), .s (.store 1 (.t 12) (.k (.v (.c .tt)))), .s (.fa 13 (.t 5) 2), .s (.store 4 (.t 13) (.t 11))] (.tk 0 (.tk 2 (.alt 1 false (.one 3 true (.tk 4 (.one 5 true (.done (some [4, 5]))))) (.alt 3 true (.one 1 true (.tk 4 (.one 5 true (.done (some [4, 5]))))) (.nil)))))) (.skip))) (.seq (.reg [.s (.load 14 true 6 (.t 5)), .s (.store 6 (.t 4) (.t 14))]) (.ret))))⟩
def c_impl_Point : Fun := ⟨243, [], fun ts K => as2 ts fun t0 t1 => arG pWordT t0 fun w => arC (pI .i64) t1 fun n => K (tG ((pointW w n).tc [])) []⟩
theorem run_impl_Point (w : Word) (n : Int) : runK [c_impl_Plain, c_impl_open] (0) [] pf_impl_Point [tG (w.tc []), tI .i64 n] fun r o => r = tG ((pointW w n).tc []) ∧ o = [] := by
  conv => whnf
  repeat' (first | (refine sel_i (fun h => ?_) (fun h => ?_) <;> conv => whnf) | (refine chk_c ?_ ?_ <;> conv => whnf) | (refine And.intro ?_ rfl) | (refine And.intro ?_ ?_ <;> conv => whnf))
  all_goals (try simp only [etaKey, etaWord, andI_eq, Bool.not_eq_true', Bool.not_eq_false', decide_eq_true_eq, decide_eq_false_iff_not, bne_iff_ne, ne_eq, bne_eq_false_iff_eq, beq_iff_eq, beq_eq_false_iff_ne] at *)
  all_goals
    first
      | (rw [show pointW w n = plainW n by simp_all [pointW]]; rfl)
      | (rw [show pointW w n = ⟨andI n 65535, true, w.key⟩ by simp_all [pointW]]; rfl)
      | (rw [show pointW w n = ⟨andI n 65535, w.is, w.key⟩ by (have hi := openW_is h; simp_all [pointW])]; rfl)
      | trace_state
theorem ok_impl_Point : FunOk Try.prog c_impl_Point := funOk (E := [c_impl_Plain, c_impl_open]) (envOk_cons ok_impl_Plain (envOk_cons ok_impl_open (envOk_nil))) mixd Try.func243 (pf := pf_impl_Point) (by kernel_rfl) fun ts K h => by
  obtain ⟨t0, t1, e0, h⟩ := as2_out h
  subst e0
  obtain ⟨w, e1, hq⟩ := arG_out rd_word h
  clear h
  subst e1
  have h := hq
  clear hq
  obtain ⟨n, e1, hq⟩ := arC_out (rd_int .i64) h
  clear h
  subst e1
  have h := hq
  clear hq
  exact ⟨_, _, h, Nat.le_of_ble_eq_true (show Nat.ble 2 Try.f243.ntmps = true by kernel_rfl), _, run_impl_Point w n⟩

def pf_impl_seals : PF := ⟨[.t 2], .seq (.reg [.s (.box 1 (.t 0)), .s (.mv 2 (.k (.v (.c .ff))))]) (.seq (.reg [.s (.load 3 true 6 (.t 1)), .s (.call (some 4) 256 [(.t 3)]), .s (.mv 5 (.t 4)), .g 5 true (some 6) (.fa 6 (.t 1) 2), .g 5 true (some 7) (.fa 7 (.t 6) 2), .g 5 true (some 8) (.load 8 false 1 (.t 7)), .g 5 true (some 9) (.bin 9 .and (.t 8) (.k (.v (.c (.int .i64 32))))), .g 5 true (some 10) (.bin 10 .neq (.t 9) (.k (.v (.c (.int .i64 0))))), .s (.pick 11 (.t 5) (.t 10) (.k (.v (.c .ff)))), .s (.mv 12 (.t 11)), .g 12 true (some 13) (.fa 13 (.t 1) 0), .g 12 true (some 14) (.load 14 false 1 (.t 13)), .g 12 true (some 15) (.fa 15 (.t 1) 2), .g 12 true (some 16) (.fa 16 (.t 15) 0), .g 12 true (some 17) (.load 17 false 1 (.t 16)), .g 12 true (some 18) (.bin 18 .geq (.t 14) (.t 17)), .s (.pick 19 (.t 12) (.t 18) (.k (.v (.c .ff)))), .s (.mv 20 (.t 19)), .g 20 true (some 21) (.fa 21 (.t 1) 0), .g 20 true (some 22) (.load 22 false 1 (.t 21)), .g 20 true (some 23) (.fa 23 (.t 1) 2), .g 20 true (some 24) (.fa 24 (.t 23) 1), .g 20 true (some 25) (.load 25 false 1 (.t 24)), .g 20 true (some 26) (.bin 26 .lss (.t 22) (.t 25)), .s (.pick 27 (.t 20) (.t 26) (.k (.v (.c .ff)))), .s (.mv 28 (.t 27)), .g 28 true (some 29) (.fa 29 (.t 1) 0), .g 28 true (some 30) (.load 30 false 1 (.t 29)), .g 28 true (some 31) (.call (some 31) 98 [(.t 30), (.k (.v (.c (.int .i64 1)))), (.k (.v (.c (.int .i64 7))))]), .s (.pick 32 (.t 28) (.t 31) (.k (.v (.c .ff)))), .s (.mv 2 (.t 32))]) (.ret))⟩
def c_impl_seals : Fun := ⟨263, [], fun ts K => as1 ts fun t0 => arG pWordT t0 fun y => K (tB (sealsB y)) []⟩
theorem run_impl_seals (y : Word) : runK [c_impl_in, c_impl_open] (0) [] pf_impl_seals [tG (y.tc [])] fun r o => r = tB (sealsB y) ∧ o = [] := by
  conv => whnf
  repeat' (first | (refine sel_i (fun h => ?_) (fun h => ?_) <;> conv => whnf) | (refine chk_c ?_ ?_ <;> conv => whnf) | (refine And.intro ?_ rfl) | (refine And.intro ?_ ?_ <;> conv => whnf))
  all_goals (try simp only [etaKey, etaWord, andI_eq, Bool.not_eq_true', Bool.not_eq_false', decide_eq_true_eq, decide_eq_false_iff_not, bne_iff_ne, ne_eq, bne_eq_false_iff_eq, beq_iff_eq, beq_eq_false_iff_ne] at *)
  all_goals first | (simp_all [sealsB]; done) | (simp_all [sealsB]; omega) | trace_state
theorem ok_impl_seals : FunOk Try.prog c_impl_seals := funOk (E := [c_impl_in, c_impl_open]) (envOk_cons ok_impl_in (envOk_cons ok_impl_open (envOk_nil))) mixd Try.func263 (pf := pf_impl_seals) (by kernel_rfl) fun ts K h => by
  obtain ⟨t0, e0, h⟩ := as1_out h
  subst e0
  obtain ⟨y, e1, hq⟩ := arG_out rd_word h
  clear h
  subst e1
  have h := hq
  clear hq
  exact ⟨_, _, h, Nat.le_of_ble_eq_true (show Nat.ble 1 Try.f263.ntmps = true by kernel_rfl), _, run_impl_seals y⟩

def pf_impl_SealBy : PF := ⟨[.c 4 true 6], .seq (.reg [.s (.box 2 (.t 0)), .s (.box 3 (.t 1)), .s (.alloc 4 [.int .i64 0, .ff, .int .i64 0, .int .i64 0, .int .i64 0, .int .i64 0])]) (.seq (.seq (.reg [.s (.load 5 true 6 (.t 2)), .s (.call (some 6) 256 [(.t 5)]), .s (.bnot 7 (.t 6)), .s (.mv 8 (.t 7)), .g 8 false (some 9) (.load 9 true 6 (.t 3)), .g 8 false (some 10) (.call (some 10) 263 [(.t 9)]), .g 8 false (some 11) (.bnot 11 (.t 10)), .s (.pick 12 (.t 8) (.k (.v (.c .tt))) (.t 11))]) (.cond (.t 12) (.seq (.reg [.s (.load 13 true 6 (.t 2)), .s (.call (some 14) 128 [(.t 13)]), .s (.store 6 (.t 4) (.t 14))]) (.ret)) (.skip))) (.seq (.reg [.s (.fa 15 (.t 3) 0), .s (.load 16 false 1 (.t 15)), .s (.fa 17 (.t 2) 2), .s (.fa 18 (.t 17) 3), .s (.store 1 (.t 18) (.t 16))]) (.seq (.reg [.s (.load 19 true 6 (.t 2)), .s (.store 6 (.t 4) (.t 19))]) (.ret))))⟩
def c_impl_SealBy : Fun := ⟨259, [], fun ts K => as2 ts fun t0 t1 => arG pWordT t0 fun w => arG pWordT t1 fun y => K (tG ((sealBy w y).tc [])) []⟩
theorem run_impl_SealBy (w : Word) (y : Word) : runK [c_impl_Bare, c_impl_open, c_impl_seals] (0) [] pf_impl_SealBy [tG (w.tc []), tG (y.tc [])] fun r o => r = tG ((sealBy w y).tc []) ∧ o = [] := by
  conv => whnf
  repeat' (first | (refine sel_i (fun h => ?_) (fun h => ?_) <;> conv => whnf) | (refine chk_c ?_ ?_ <;> conv => whnf) | (refine And.intro ?_ rfl) | (refine And.intro ?_ ?_ <;> conv => whnf))
  all_goals (try simp only [etaKey, etaWord, andI_eq, Bool.not_eq_true', Bool.not_eq_false', decide_eq_true_eq, decide_eq_false_iff_not, bne_iff_ne, ne_eq, bne_eq_false_iff_eq, beq_iff_eq, beq_eq_false_iff_ne] at *)
  all_goals
    first
      | (rw [show sealBy w y = plainW w.n by simp_all [sealBy]]; rfl)
      | (rw [show sealBy w y = { w with key := { w.key with sealed := y.n } } by simp_all [sealBy]]; rfl)
      | trace_state
theorem ok_impl_SealBy : FunOk Try.prog c_impl_SealBy := funOk (E := [c_impl_Bare, c_impl_open, c_impl_seals]) (envOk_cons ok_impl_Bare (envOk_cons ok_impl_open (envOk_cons ok_impl_seals (envOk_nil)))) mixd Try.func259 (pf := pf_impl_SealBy) (by kernel_rfl) fun ts K h => by
  obtain ⟨t0, t1, e0, h⟩ := as2_out h
  subst e0
  obtain ⟨w, e1, hq⟩ := arG_out rd_word h
  clear h
  subst e1
  have h := hq
  clear hq
  obtain ⟨y, e1, hq⟩ := arG_out rd_word h
  clear h
  subst e1
  have h := hq
  clear hq
  exact ⟨_, _, h, Nat.le_of_ble_eq_true (show Nat.ble 2 Try.f259.ntmps = true by kernel_rfl), _, run_impl_SealBy w y⟩

def pf_impl_OpenBy : PF := ⟨[.c 4 true 6], .seq (.reg [.s (.box 2 (.t 0)), .s (.box 3 (.t 1)), .s (.alloc 4 [.int .i64 0, .ff, .int .i64 0, .int .i64 0, .int .i64 0, .int .i64 0])]) (.seq (.seq (.reg [.s (.load 5 true 6 (.t 2)), .s (.call (some 6) 28 [(.t 5)]), .s (.bnot 7 (.t 6)), .s (.mv 8 (.t 7)), .g 8 false (some 9) (.fa 9 (.t 2) 1), .g 8 false (some 10) (.load 10 false 1 (.t 9)), .g 8 false (some 11) (.bnot 11 (.t 10)), .s (.pick 12 (.t 8) (.k (.v (.c .tt))) (.t 11)), .s (.mv 13 (.t 12)), .g 13 false (some 14) (.load 14 true 6 (.t 3)), .g 13 false (some 15) (.call (some 15) 263 [(.t 14)]), .g 13 false (some 16) (.bnot 16 (.t 15)), .s (.pick 17 (.t 13) (.k (.v (.c .tt))) (.t 16)), .s (.mv 18 (.t 17)), .g 18 false (some 19) (.fa 19 (.t 2) 2), .g 18 false (some 20) (.fa 20 (.t 19) 3), .g 18 false (some 21) (.load 21 false 1 (.t 20)), .g 18 false (some 22) (.fa 22 (.t 3) 0), .g 18 false (some 23) (.load 23 false 1 (.t 22)), .g 18 false (some 24) (.bin 24 .neq (.t 21) (.t 23)), .s (.pick 25 (.t 18) (.k (.v (.c .tt))) (.t 24))]) (.cond (.t 25) (.seq (.reg [.s (.load 26 true 6 (.t 2)), .s (.call (some 27) 128 [(.t 26)]), .s (.store 6 (.t 4) (.t 27))]) (.ret)) (.skip))) (.seq (.reg [.s (.fa 28 (.t 2) 2), .s (.fa 29 (.t 28) 3), .s (.store 1 (.t 29) (.k (.v (.c (.int .i64 0)))))]) (.seq (.reg [.s (.load 30 true 6 (.t 2)), .s (.store 6 (.t 4) (.t 30))]) (.ret))))⟩
def c_impl_OpenBy : Fun := ⟨260, [], fun ts K => as2 ts fun t0 t1 => arG pWordT t0 fun w => arG pWordT t1 fun y => K (tG ((openBy w y).tc [])) []⟩
theorem run_impl_OpenBy (w : Word) (y : Word) : runK [c_impl_WordOk, c_impl_Bare, c_impl_seals] (0) [] pf_impl_OpenBy [tG (w.tc []), tG (y.tc [])] fun r o => r = tG ((openBy w y).tc []) ∧ o = [] := by
  conv => whnf
  repeat' (first | (refine sel_i (fun h => ?_) (fun h => ?_) <;> conv => whnf) | (refine chk_c ?_ ?_ <;> conv => whnf) | (refine And.intro ?_ rfl) | (refine And.intro ?_ ?_ <;> conv => whnf))
  all_goals (try simp only [etaKey, etaWord, andI_eq, Bool.not_eq_true', Bool.not_eq_false', decide_eq_true_eq, decide_eq_false_iff_not, bne_iff_ne, ne_eq, bne_eq_false_iff_eq, beq_iff_eq, beq_eq_false_iff_ne] at *)
  all_goals
    first
      | (rw [show openBy w y = plainW w.n by simp_all [openBy]]; rfl)
      | (rw [show openBy w y = { w with key := { w.key with sealed := 0 } } by simp_all [openBy]]; rfl)
      | trace_state
theorem ok_impl_OpenBy : FunOk Try.prog c_impl_OpenBy := funOk (E := [c_impl_WordOk, c_impl_Bare, c_impl_seals]) (envOk_cons ok_impl_WordOk (envOk_cons ok_impl_Bare (envOk_cons ok_impl_seals (envOk_nil)))) mixd Try.func260 (pf := pf_impl_OpenBy) (by kernel_rfl) fun ts K h => by
  obtain ⟨t0, t1, e0, h⟩ := as2_out h
  subst e0
  obtain ⟨w, e1, hq⟩ := arG_out rd_word h
  clear h
  subst e1
  have h := hq
  clear hq
  obtain ⟨y, e1, hq⟩ := arG_out rd_word h
  clear h
  subst e1
  have h := hq
  clear hq
  exact ⟨_, _, h, Nat.le_of_ble_eq_true (show Nat.ble 2 Try.f260.ntmps = true by kernel_rfl), _, run_impl_OpenBy w y⟩

theorem narrow_no {w : Word} {n : Int} (h : ¬ (openW w = true ∧ (0 ≤ n ∧ n ≤ 4096) ∧ boundsOk w.n (IntKind.i64.wrap (w.n + n)) = true)) : narrowW w n = plainW w.n := by
  unfold narrowW
  rw [if_neg]
  intro hh
  simp only [Bool.and_eq_true, inR_t] at hh
  exact h ⟨hh.1.1, hh.1.2, hh.2⟩
theorem narrow_yes {w : Word} {n : Int} (h : openW w = true ∧ (0 ≤ n ∧ n ≤ 4096) ∧ boundsOk w.n (IntKind.i64.wrap (w.n + n)) = true) : narrowW w n = if (wide w.n (IntKind.i64.wrap (w.n + n))).1 < w.key.base ∨ w.key.top < (wide w.n (IntKind.i64.wrap (w.n + n))).2 then plainW w.n else { w with key := { w.key with base := (wide w.n (IntKind.i64.wrap (w.n + n))).1, top := (wide w.n (IntKind.i64.wrap (w.n + n))).2 } } := by
  unfold narrowW
  rw [if_pos]
  simp only [Bool.and_eq_true, inR_t]
  exact ⟨⟨h.1, h.2.1⟩, h.2.2⟩

def pf_impl_Narrow : PF := ⟨[.c 4 true 6], .seq (.reg [.s (.box 2 (.t 0)), .s (.alloc 4 [.int .i64 0, .ff, .int .i64 0, .int .i64 0, .int .i64 0, .int .i64 0])]) (.seq (.seq (.reg [.s (.load 7 true 6 (.t 2)), .s (.call (some 8) 256 [(.t 7)]), .s (.bnot 9 (.t 8)), .s (.mv 10 (.t 9)), .g 10 false (some 11) (.mv 11 (.t 1)), .g 10 false (some 12) (.bin 12 .lss (.t 11) (.k (.v (.c (.int .i64 0))))), .s (.pick 13 (.t 10) (.k (.v (.c .tt))) (.t 12)), .s (.mv 14 (.t 13)), .g 14 false (some 15) (.mv 15 (.t 1)), .g 14 false (some 16) (.bin 16 .gtr (.t 15) (.k (.v (.c (.int .i64 4096))))), .s (.pick 17 (.t 14) (.k (.v (.c .tt))) (.t 16)), .s (.mv 18 (.t 17)), .g 18 false (some 19) (.fa 19 (.t 2) 0), .g 18 false (some 20) (.load 20 false 1 (.t 19)), .g 18 false (some 21) (.fa 21 (.t 2) 0), .g 18 false (some 22) (.load 22 false 1 (.t 21)), .g 18 false (some 23) (.mv 23 (.t 1)), .g 18 false (some 24) (.bin 24 .add (.t 22) (.t 23)), .g 18 false (some 25) (.call (some 25) 205 [(.t 20), (.t 24)]), .g 18 false (some 26) (.bnot 26 (.t 25)), .s (.pick 27 (.t 18) (.k (.v (.c .tt))) (.t 26))]) (.cond (.t 27) (.seq (.reg [.s (.load 28 true 6 (.t 2)), .s (.call (some 29) 128 [(.t 28)]), .s (.store 6 (.t 4) (.t 29))]) (.ret)) (.skip))) (.seq (.reg [.s (.fa 31 (.t 2) 0), .s (.load 32 false 1 (.t 31)), .s (.fa 33 (.t 2) 0), .s (.load 34 false 1 (.t 33)), .s (.mv 35 (.t 1)), .s (.bin 36 .add (.t 34) (.t 35)), .s (.call (some 37) 204 [(.t 32), (.t 36)]), .s (.mv 30 (.t 37)), .s (.ext 38 (.t 30) 0), .s (.ext 39 (.t 30) 1), .s (.mv 5 (.t 38)), .s (.mv 6 (.t 39))]) (.seq (.seq (.reg [.s (.mv 40 (.t 5)), .s (.fa 41 (.t 2) 2), .s (.fa 42 (.t 41) 0), .s (.load 43 false 1 (.t 42)), .s (.bin 44 .lss (.t 40) (.t 43)), .s (.mv 45 (.t 44)), .g 45 false (some 46) (.mv 46 (.t 6)), .g 45 false (some 47) (.fa 47 (.t 2) 2), .g 45 false (some 48) (.fa 48 (.t 47) 1), .g 45 false (some 49) (.load 49 false 1 (.t 48)), .g 45 false (some 50) (.bin 50 .gtr (.t 46) (.t 49)), .s (.pick 51 (.t 45) (.k (.v (.c .tt))) (.t 50))]) (.cond (.t 51) (.seq (.reg [.s (.load 52 true 6 (.t 2)), .s (.call (some 53) 128 [(.t 52)]), .s (.store 6 (.t 4) (.t 53))]) (.ret)) (.skip))) (.seq (.reg [.s (.mv 54 (.t 5)), .s (.mv 55 (.t 6)), .s (.fa 56 (.t 2) 2), .s (.fa 57 (.t 56) 0), .s (.store 1 (.t 57) (.t 54)), .s (.fa 58 (.t 2) 2), .s (.fa 59 (.t 58) 1), .s (.store 1 (.t 59) (.t 55))]) (.seq (.reg [.s (.load 60 true 6 (.t 2)), .s (.store 6 (.t 4) (.t 60))]) (.ret))))))⟩
def c_impl_Narrow : Fun := ⟨258, [], fun ts K => as2 ts fun t0 t1 => arG pWordT t0 fun w => arC (pI .i64) t1 fun n => K (tG ((narrowW w n).tc [])) []⟩
theorem run_impl_Narrow (w : Word) (n : Int) : runK [c_impl_Bare, c_impl_Wide, c_impl_BoundsOk, c_impl_open] (0) [] pf_impl_Narrow [tG (w.tc []), tI .i64 n] fun r o => r = tG ((narrowW w n).tc []) ∧ o = [] := by
  by_cases hc : openW w = true ∧ (0 ≤ n ∧ n ≤ 4096) ∧ boundsOk w.n (IntKind.i64.wrap (w.n + n)) = true
  · rw [narrow_yes hc]
    obtain ⟨g1, g2, g3⟩ := hc
    conv => whnf
    repeat' (first | (refine sel_i (fun h => ?_) (fun h => ?_) <;> conv => whnf) | (refine chk_c ?_ ?_ <;> conv => whnf) | (refine And.intro ?_ rfl) | (refine And.intro ?_ ?_ <;> conv => whnf))
    all_goals (try simp only [etaKey, etaWord, inR_t, inR_f, g1, g3, Bool.not_eq_true', Bool.not_eq_false', Bool.true_eq_false, Bool.not_true, Bool.false_eq_true, decide_eq_true_eq, decide_eq_false_iff_not] at *)
    all_goals first
      | contradiction
      | (exfalso; omega)
      | (rw [if_pos (by omega)]; rfl)
      | (rw [if_neg (by omega)]; rfl)
      | trace_state
  · rw [narrow_no hc]
    conv => whnf
    repeat' (first | (refine sel_i (fun h => ?_) (fun h => ?_) <;> conv => whnf) | (refine chk_c ?_ ?_ <;> conv => whnf) | (refine And.intro ?_ rfl) | (refine And.intro ?_ ?_ <;> conv => whnf))
    all_goals (try simp only [etaKey, etaWord, inR_t, inR_f, Bool.not_eq_true', Bool.not_eq_false', decide_eq_true_eq, decide_eq_false_iff_not] at *)
    all_goals first
      | rfl
      | exact absurd ⟨by assumption, by omega, by assumption⟩ hc
      | trace_state
theorem ok_impl_Narrow : FunOk Try.prog c_impl_Narrow := funOk (E := [c_impl_Bare, c_impl_Wide, c_impl_BoundsOk, c_impl_open]) (envOk_cons ok_impl_Bare (envOk_cons ok_impl_Wide (envOk_cons ok_impl_BoundsOk (envOk_cons ok_impl_open (envOk_nil))))) mixd Try.func258 (pf := pf_impl_Narrow) (by kernel_rfl) fun ts K h => by
  obtain ⟨t0, t1, e0, h⟩ := as2_out h
  subst e0
  obtain ⟨w, e1, hq⟩ := arG_out rd_word h
  clear h
  subst e1
  have h := hq
  clear hq
  obtain ⟨n, e1, hq⟩ := arC_out (rd_int .i64) h
  clear h
  subst e1
  have h := hq
  clear hq
  exact ⟨_, _, h, Nat.le_of_ble_eq_true (show Nat.ble 2 Try.f258.ntmps = true by kernel_rfl), _, run_impl_Narrow w n⟩

def lb_slices_Index_byte_0 : PC := .seq (.reg [.s (.bin 9 .lss (.t 8) (.t 7))]) (.seq (.cond (.t 9) (.skip) (.exit 0)) (.seq (.blk 1 (.seq (.reg [.s (.mv 10 (.t 8)), .s (.mv 5 (.t 10))]) (.seq (.reg [.s (.mv 11 (.t 1)), .s (.mv 12 (.t 0)), .s (.mv 13 (.t 5)), .s (.ia 14 (.int .u8) (.t 12) (.t 13)), .s (.load 15 false 1 (.t 14)), .s (.bin 16 .eql (.t 11) (.t 15))]) (.cond (.t 16) (.seq (.reg [.s (.mv 17 (.t 5)), .s (.mv 4 (.t 17))]) (.ret)) (.skip))))) (.reg [.s (.bin 18 .add (.t 8) (.k (.v (.c (.int .i64 1))))), .s (.mv 8 (.t 18))])))
def pf_slices_Index_byte : PF := ⟨[.t 4], .seq (.reg [.s (.mv 4 (.k (.v (.c (.int .i64 0)))))]) (.seq (.seq (.reg [.s (.mv 6 (.t 0)), .s (.len 7 false (.t 6)), .s (.mv 8 (.k (.v (.c (.int .i64 0)))))]) (.blk 0 (.loop [0, 1, 7, 8] lb_slices_Index_byte_0))) (.seq (.reg [.s (.mv 4 (.k (.v (.c (.int .i64 (-1))))))]) (.ret)))⟩
def c_slices_Index_byte : Fun := ⟨240, [], fun ts K => as2 ts fun t0 t1 => arC (pL (.int .u8)) t0 fun xs => arC (pI .u8) t1 fun v => chk (xs.length ≤ 2147483647) (K (tN (idxOf (fun x => v == x) xs)) [])⟩
theorem run_slices_Index_byte (xs : List (FT.Ty (.int .u8))) (v : Int) (hpre : xs.length ≤ 2147483647) : runK [] (xs.length + 1) [] pf_slices_Index_byte [tL false (.int .u8) xs, tI .u8 v] fun r o => r = tN (idxOf (fun x => v == x) xs) ∧ o = [] := by
  conv => whnf
  refine loop (α := Nat) (fun i => ⟨[(0, .v (.c (.sl false (.int .u8) 0))), (1, .v (.c (.int .u8 v))), (7, .v (.c (.int .i64 (xs.length : Int)))), (8, .v (.c (.int .i64 (i : Int))))], [(0, some (.flat false (.int .u8) none xs))], nums.tail, [], false, []⟩)
      (fun i => i ≤ xs.length ∧ idxOf (fun x => v == x) xs = idxGo (fun x => v == x) (xs.drop i) i) (fun i => xs.length - i) (fun i R hI hR => ?_) 0 _ ⟨by simp, rfl⟩ (by simp)
  obtain ⟨hi, hx⟩ := hI
  conv => whnf
  refine sel_i (fun h2 => ?_) (fun h2 => ?_)
  · have hlt : i < xs.length := by simp at h2; omega
    conv => whnf
    repeat (refine chk_i (by first | omega | (simp; omega)) ?_; conv => whnf)
    refine sel_i (fun h3 => ?_) (fun h3 => ?_)
    · conv => whnf
      rw [hx, idxGo_yes (z := FT.zero (.int .u8)) hlt h3]
      exact ⟨rfl, rfl⟩
    · conv => whnf
      rw [wrap_id (n := (i : Int) + 1) (by omega) (by omega)]
      exact hR (i + 1) ⟨by omega, by rw [hx, idxGo_no (z := FT.zero (.int .u8)) hlt h3]⟩ (by omega)
  · conv => whnf
    rw [hx, idxGo_end (by simp at h2; omega)]
    exact ⟨rfl, rfl⟩
theorem ok_slices_Index_byte : FunOk Try.prog c_slices_Index_byte := funOk (E := []) (envOk_nil) mixd Try.func240 (pf := pf_slices_Index_byte) (by kernel_rfl) fun ts K h => by
  obtain ⟨t0, t1, e0, h⟩ := as2_out h
  subst e0
  obtain ⟨xs, e1, hq⟩ := arC_out (rd_l (.int .u8)) h
  clear h
  subst e1
  have h := hq
  clear hq
  obtain ⟨v, e1, hq⟩ := arC_out (rd_int .u8) h
  clear h
  subst e1
  have h := hq
  clear hq
  obtain ⟨hpre, h⟩ := chk_o h
  exact ⟨_, _, h, Nat.le_of_ble_eq_true (show Nat.ble 2 Try.f240.ntmps = true by kernel_rfl), _, run_slices_Index_byte xs v hpre⟩

def pf_slices_Contains_byte : PF := ⟨[.t 4], .seq (.reg [.s (.mv 4 (.k (.v (.c .ff))))]) (.seq (.reg [.s (.mv 5 (.t 0)), .s (.mv 6 (.t 1)), .s (.call (some 7) 240 [(.t 5), (.t 6)]), .s (.bin 8 .geq (.t 7) (.k (.v (.c (.int .i64 0))))), .s (.mv 4 (.t 8))]) (.ret))⟩
def c_slices_Contains_byte : Fun := ⟨213, [], fun ts K => as2 ts fun t0 t1 => arC (pL (.int .u8)) t0 fun xs => arC (pI .u8) t1 fun v => chk (xs.length ≤ 2147483647) (K (tB (xs.any (fun x => v == x))) [])⟩
theorem run_slices_Contains_byte (xs : List (FT.Ty (.int .u8))) (v : Int) (hpre : xs.length ≤ 2147483647) : runK [c_slices_Index_byte] (0) [] pf_slices_Contains_byte [tL false (.int .u8) xs, tI .u8 v] fun r o => r = tB (xs.any (fun x => v == x)) ∧ o = [] := by
  conv => whnf
  repeat' (first | (refine sel_i (fun h => ?_) (fun h => ?_) <;> conv => whnf) | (refine chk_c ?_ ?_ <;> conv => whnf) | (refine And.intro ?_ rfl) | (refine And.intro ?_ ?_ <;> conv => whnf))
  all_goals first | (refine ⟨?_⟩; exact hpre) | exact hpre | (rw [← idxOf_any]; rfl) | (rw [← idxOf_any])
theorem ok_slices_Contains_byte : FunOk Try.prog c_slices_Contains_byte := funOk (E := [c_slices_Index_byte]) (envOk_cons ok_slices_Index_byte (envOk_nil)) mixd Try.func213 (pf := pf_slices_Contains_byte) (by kernel_rfl) fun ts K h => by
  obtain ⟨t0, t1, e0, h⟩ := as2_out h
  subst e0
  obtain ⟨xs, e1, hq⟩ := arC_out (rd_l (.int .u8)) h
  clear h
  subst e1
  have h := hq
  clear hq
  obtain ⟨v, e1, hq⟩ := arC_out (rd_int .u8) h
  clear h
  subst e1
  have h := hq
  clear hq
  obtain ⟨hpre, h⟩ := chk_o h
  exact ⟨_, _, h, Nat.le_of_ble_eq_true (show Nat.ble 2 Try.f213.ntmps = true by kernel_rfl), _, run_slices_Contains_byte xs v hpre⟩

def formS (op : Int) : ByteArray :=
  if op = 1 then ⟨#[82, 78]⟩ else if op = 2 ∨ op = 4 ∨ op = 5 ∨ op = 7 ∨ op = 8 then ⟨#[82, 65, 66]⟩ else if op = 3 ∨ op = 9 ∨ op = 12 then ⟨#[82, 65]⟩ else if op = 6 then ⟨#[82, 65, 66, 78]⟩ else
  if op = 10 then ⟨#[82, 65, 78]⟩ else if op = 11 then ⟨#[65, 66, 78]⟩ else if op = 13 then ⟨#[65, 78]⟩ else if op = 14 then ⟨#[65]⟩ else ⟨#[]⟩
def maskI (op : Int) : Int := if inR op 1 15 then ([0, 9, 7, 3, 7, 7, 15, 7, 7, 3, 11, 14, 3, 10, 2, 0] : List Int).getD op.toNat 0 else 0
def hasC (op c : Int) : Bool := (bytesI (formS op)).any (fun b => c == b)
def partI (x : Inst) (c : Int) : Int := if c = 82 then x.r else if c = 65 then x.a else if c = 66 then x.b else x.n
def fld (v : Int) (b : Bool) : Bool := inR v 0 7 && (b || v == 0)
def insOk (x : Inst) : Bool := inR x.op 1 15 && fld x.r (andI (maskI x.op) 1 != 0) && fld x.a (andI (maskI x.op) 2 != 0) && fld x.b (andI (maskI x.op) 4 != 0) && inR x.n (-128) 127 && (andI (maskI x.op) 8 != 0 || x.n == 0)
theorem formS_len (op : Int) : (bytesI (formS op)).length ≤ 4 := by
  rw [bytesI_len]
  unfold formS
  repeat' split
  all_goals decide
def lettI (i : Nat) : Int := ([82, 65, 66, 78] : List Int).getD i 0
def partOkI (x : Inst) (c : Int) : Bool := if hasC x.op c then (if c == 78 then inR (partI x c) (-128) 127 else inR (partI x c) 0 7) else partI x c == 0
def okC : Option Bool → Cell | none => .ff | some b => .bool b
def okV : Option Bool → Bool | none => false | some b => b
theorem allR_succ (f : Nat → Bool) (n : Nat) : allR f (n + 1) = (allR f n && f n) := by simp [allR, List.range_succ]
theorem insOk_eq (x : Inst) : (inR x.op 1 15 && allR (fun j => partOkI x (lettI j)) 4) = insOk x := by
  have hall : allR (fun j => partOkI x (lettI j)) 4 = (partOkI x 82 && partOkI x 65 && partOkI x 66 && partOkI x 78) := by
    simp [allR, List.range_succ, lettI, Bool.and_assoc]
  rw [hall]
  unfold insOk
  by_cases h : inR x.op 1 15 = true
  · rw [h]
    simp only [Bool.true_and]
    obtain ⟨op, r, a, b, n⟩ := x
    have h := inR_t.1 h
    dsimp only at h ⊢
    have e0 : ∀ v : Int, (inR v 0 7 && (v == 0)) = (v == 0) := fun v => by
      by_cases e : v = 0
      · subst e; decide
      · simp [e]
    have e1 : ∀ v : Int, (inR v (-128) 127 && (v == 0)) = (v == 0) := fun v => by
      by_cases e : v = 0
      · subst e; decide
      · simp [e]
    have hop : op = 1 ∨ op = 2 ∨ op = 3 ∨ op = 4 ∨ op = 5 ∨ op = 6 ∨ op = 7 ∨ op = 8 ∨ op = 9 ∨ op = 10 ∨ op = 11 ∨ op = 12 ∨ op = 13 ∨ op = 14 ∨ op = 15 := by omega
    have key : ∀ (k1 k2 k3 k4 : Bool), hasC op 82 = k1 → hasC op 65 = k2 → hasC op 66 = k3 → hasC op 78 = k4 → (andI (maskI op) 1 != 0) = k1 → (andI (maskI op) 2 != 0) = k2 → (andI (maskI op) 4 != 0) = k3 → (andI (maskI op) 8 != 0) = k4 →
        (partOkI ⟨op, r, a, b, n⟩ 82 && partOkI ⟨op, r, a, b, n⟩ 65 && partOkI ⟨op, r, a, b, n⟩ 66 && partOkI ⟨op, r, a, b, n⟩ 78) = (fld r (andI (maskI op) 1 != 0) && fld a (andI (maskI op) 2 != 0) && fld b (andI (maskI op) 4 != 0) && inR n (-128) 127 && (andI (maskI op) 8 != 0 || n == 0)) := by
      intro k1 k2 k3 k4 a1 a2 a3 a4 b1 b2 b3 b4
      rw [b1, b2, b3, b4]
      simp only [partOkI, a1, a2, a3, a4, fld, partI]
      cases k1 <;> cases k2 <;> cases k3 <;> cases k4 <;> simp [e0, e1, Bool.and_assoc]
    rcases hop with rfl | rfl | rfl | rfl | rfl | rfl | rfl | rfl | rfl | rfl | rfl | rfl | rfl | rfl | rfl <;> exact key _ _ _ _ rfl rfl rfl rfl (by decide) (by decide) (by decide) (by decide)
  · simp only [Bool.not_eq_true] at h
    rw [h]; rfl

def pf_impl_formOf : PF := ⟨[.t 2, .t 3], .seq (.reg [.s (.mv 2 (.k (.v (.c (.str ⟨#[]⟩))))), .s (.mv 3 (.k (.v (.c .ff))))]) (.seq (.seq (.reg [.s (.mv 4 (.t 0))]) (.blk 0 (.seq (.reg [.s (.bin 6 .eql (.t 4) (.k (.v (.c (.int .i64 1))))), .s (.mv 5 (.t 6))]) (.cond (.t 5) (.seq (.reg [.s (.mv 2 (.k (.v (.c (.str ⟨#[82, 78]⟩))))), .s (.mv 3 (.k (.v (.c .tt))))]) (.ret)) (.seq (.seq (.reg [.s (.bin 8 .eql (.t 4) (.k (.v (.c (.int .i64 2))))), .s (.mv 7 (.t 8))]) (.cond (.t 7) (.skip) (.seq (.reg [.s (.bin 9 .eql (.t 4) (.k (.v (.c (.int .i64 4))))), .s (.mv 7 (.t 9))]) (.cond (.t 7) (.skip) (.seq (.reg [.s (.bin 10 .eql (.t 4) (.k (.v (.c (.int .i64 5))))), .s (.mv 7 (.t 10))]) (.cond (.t 7) (.skip) (.seq (.reg [.s (.bin 11 .eql (.t 4) (.k (.v (.c (.int .i64 7))))), .s (.mv 7 (.t 11))]) (.cond (.t 7) (.skip) (.reg [.s (.bin 12 .eql (.t 4) (.k (.v (.c (.int .i64 8))))), .s (.mv 7 (.t 12))]))))))))) (.cond (.t 7) (.seq (.reg [.s (.mv 2 (.k (.v (.c (.str ⟨#[82, 65, 66]⟩))))), .s (.mv 3 (.k (.v (.c .tt))))]) (.ret)) (.seq (.seq (.reg [.s (.bin 14 .eql (.t 4) (.k (.v (.c (.int .i64 3))))), .s (.mv 13 (.t 14))]) (.cond (.t 13) (.skip) (.seq (.reg [.s (.bin 15 .eql (.t 4) (.k (.v (.c (.int .i64 9))))), .s (.mv 13 (.t 15))]) (.cond (.t 13) (.skip) (.reg [.s (.bin 16 .eql (.t 4) (.k (.v (.c (.int .i64 12))))), .s (.mv 13 (.t 16))]))))) (.cond (.t 13) (.seq (.reg [.s (.mv 2 (.k (.v (.c (.str ⟨#[82, 65]⟩))))), .s (.mv 3 (.k (.v (.c .tt))))]) (.ret)) (.seq (.reg [.s (.bin 18 .eql (.t 4) (.k (.v (.c (.int .i64 6))))), .s (.mv 17 (.t 18))]) (.cond (.t 17) (.seq (.reg [.s (.mv 2 (.k (.v (.c (.str ⟨#[82, 65, 66, 78]⟩))))), .s (.mv 3 (.k (.v (.c .tt))))]) (.ret)) (.seq (.reg [.s (.bin 20 .eql (.t 4) (.k (.v (.c (.int .i64 10))))), .s (.mv 19 (.t 20))]) (.cond (.t 19) (.seq (.reg [.s (.mv 2 (.k (.v (.c (.str ⟨#[82, 65, 78]⟩))))), .s (.mv 3 (.k (.v (.c .tt))))]) (.ret)) (.seq (.reg [.s (.bin 22 .eql (.t 4) (.k (.v (.c (.int .i64 11))))), .s (.mv 21 (.t 22))]) (.cond (.t 21) (.seq (.reg [.s (.mv 2 (.k (.v (.c (.str ⟨#[65, 66, 78]⟩))))), .s (.mv 3 (.k (.v (.c .tt))))]) (.ret)) (.seq (.reg [.s (.bin 24 .eql (.t 4) (.k (.v (.c (.int .i64 13))))), .s (.mv 23 (.t 24))]) (.cond (.t 23) (.seq (.reg [.s (.mv 2 (.k (.v (.c (.str ⟨#[65, 78]⟩))))), .s (.mv 3 (.k (.v (.c .tt))))]) (.ret)) (.seq (.reg [.s (.bin 26 .eql (.t 4) (.k (.v (.c (.int .i64 14))))), .s (.mv 25 (.t 26))]) (.cond (.t 25) (.seq (.reg [.s (.mv 2 (.k (.v (.c (.str ⟨#[65]⟩))))), .s (.mv 3 (.k (.v (.c .tt))))]) (.ret)) (.seq (.reg [.s (.bin 28 .eql (.t 4) (.k (.v (.c (.int .i64 15))))), .s (.mv 27 (.t 28))]) (.cond (.t 27) (.seq (.reg [.s (.mv 2 (.k (.v (.c (.str ⟨#[]⟩))))), .s (.mv 3 (.k (.v (.c .tt))))]) (.ret)) (.skip))))))))))))))))))))) (.seq (.reg [.s (.mv 2 (.k (.v (.c (.str ⟨#[]⟩))))), .s (.mv 3 (.k (.v (.c .ff))))]) (.ret)))⟩
def c_impl_formOf : Fun := ⟨172, [], fun ts K => as1 ts fun t0 => arC (pI .i64) t0 fun op => K (.tup [.c (.str (formS op)), .c (.bool (inR op 1 15))]) []⟩
theorem run_impl_formOf (op : Int) : runK [] (0) [] pf_impl_formOf [tI .i64 op] fun r o => r = .tup [.c (.str (formS op)), .c (.bool (inR op 1 15))] ∧ o = [] := by
  conv => whnf
  repeat' (first | (refine sel_i (fun h => ?_) (fun h => ?_) <;> conv => whnf) | (refine chk_c ?_ ?_ <;> conv => whnf) | (refine And.intro ?_ rfl) | (refine And.intro ?_ ?_ <;> conv => whnf))
  all_goals (simp only [beq_iff_eq, beq_eq_false_iff_ne, ne_eq] at *)
  all_goals first
    | (subst h; rfl)
    | (exfalso; omega)
    | (have e1 : inR op 1 15 = false := inR_f.2 (by omega)
       have e2 : formS op = ⟨#[]⟩ := by simp only [formS, *, if_false, or_self]
       rw [e1, e2])
    | trace_state
theorem ok_impl_formOf : FunOk Try.prog c_impl_formOf := funOk (E := []) (envOk_nil) mixd Try.func172 (pf := pf_impl_formOf) (by kernel_rfl) fun ts K h => by
  obtain ⟨t0, e0, h⟩ := as1_out h
  subst e0
  obtain ⟨op, e1, hq⟩ := arC_out (rd_int .i64) h
  clear h
  subst e1
  have h := hq
  clear hq
  exact ⟨_, _, h, Nat.le_of_ble_eq_true (show Nat.ble 1 Try.f172.ntmps = true by kernel_rfl), _, run_impl_formOf op⟩

def pf_impl_partOf : PF := ⟨[.t 4], .seq (.reg [.s (.box 2 (.t 0)), .s (.mv 4 (.k (.v (.c (.int .i64 0)))))]) (.seq (.seq (.reg [.s (.mv 5 (.t 1))]) (.blk 0 (.seq (.reg [.s (.bin 7 .eql (.t 5) (.k (.v (.c (.int .u8 82))))), .s (.mv 6 (.t 7))]) (.cond (.t 6) (.seq (.reg [.s (.fa 8 (.t 2) 1), .s (.load 9 false 1 (.t 8)), .s (.mv 4 (.t 9))]) (.ret)) (.seq (.reg [.s (.bin 11 .eql (.t 5) (.k (.v (.c (.int .u8 65))))), .s (.mv 10 (.t 11))]) (.cond (.t 10) (.seq (.reg [.s (.fa 12 (.t 2) 2), .s (.load 13 false 1 (.t 12)), .s (.mv 4 (.t 13))]) (.ret)) (.seq (.reg [.s (.bin 15 .eql (.t 5) (.k (.v (.c (.int .u8 66))))), .s (.mv 14 (.t 15))]) (.cond (.t 14) (.seq (.reg [.s (.fa 16 (.t 2) 3), .s (.load 17 false 1 (.t 16)), .s (.mv 4 (.t 17))]) (.ret)) (.skip))))))))) (.seq (.reg [.s (.fa 18 (.t 2) 4), .s (.load 19 false 1 (.t 18)), .s (.mv 4 (.t 19))]) (.ret)))⟩
def c_impl_partOf : Fun := ⟨173, [], fun ts K => as2 ts fun t0 t1 => arG pInstT t0 fun x => arC (pI .u8) t1 fun c => K (tN (partI x c)) []⟩
theorem run_impl_partOf (x : Inst) (c : Int) : runK [] (0) [] pf_impl_partOf [tG (x.tc []), tI .u8 c] fun r o => r = tN (partI x c) ∧ o = [] := by
  conv => whnf
  repeat' (first | (refine sel_i (fun h => ?_) (fun h => ?_) <;> conv => whnf) | (refine chk_c ?_ ?_ <;> conv => whnf) | (refine And.intro ?_ rfl) | (refine And.intro ?_ ?_ <;> conv => whnf))
  all_goals (simp_all [partI]; done)
theorem ok_impl_partOf : FunOk Try.prog c_impl_partOf := funOk (E := []) (envOk_nil) mixd Try.func173 (pf := pf_impl_partOf) (by kernel_rfl) fun ts K h => by
  obtain ⟨t0, t1, e0, h⟩ := as2_out h
  subst e0
  obtain ⟨x, e1, hq⟩ := arG_out rd_inst h
  clear h
  subst e1
  have h := hq
  clear hq
  obtain ⟨c, e1, hq⟩ := arC_out (rd_int .u8) h
  clear h
  subst e1
  have h := hq
  clear hq
  exact ⟨_, _, h, Nat.le_of_ble_eq_true (show Nat.ble 2 Try.f173.ntmps = true by kernel_rfl), _, run_impl_partOf x c⟩

def pf_impl_hasPart : PF := ⟨[.t 4], .seq (.reg [.s (.box 2 (.t 0)), .s (.mv 4 (.k (.v (.c .ff))))]) (.seq (.reg [.s (.fa 8 (.t 2) 0), .s (.load 9 false 1 (.t 8)), .s (.call (some 10) 172 [(.t 9)]), .s (.mv 7 (.t 10)), .s (.ext 11 (.t 7) 0), .s (.ext 12 (.t 7) 1), .s (.mv 5 (.t 11)), .s (.mv 6 (.t 12))]) (.seq (.reg [.s (.mv 13 (.t 5)), .s (.s2b 14 (.t 13)), .s (.mv 15 (.t 1)), .s (.call (some 16) 213 [(.t 14), (.t 15)]), .s (.mv 4 (.t 16))]) (.ret)))⟩
def c_impl_hasPart : Fun := ⟨174, [], fun ts K => as2 ts fun t0 t1 => arG pInstT t0 fun x => arC (pI .u8) t1 fun c => K (tB (hasC x.op c)) []⟩
theorem run_impl_hasPart (x : Inst) (c : Int) : runK [c_impl_formOf, c_slices_Contains_byte] (0) [] pf_impl_hasPart [tG (x.tc []), tI .u8 c] fun r o => r = tB (hasC x.op c) ∧ o = [] := by
  have hl := formS_len x.op
  conv => whnf
  repeat' (first | (refine sel_i (fun h => ?_) (fun h => ?_) <;> conv => whnf) | (refine chk_c ?_ ?_ <;> conv => whnf) | (refine And.intro ?_ rfl) | (refine And.intro ?_ ?_ <;> conv => whnf))
  all_goals first | rfl | (refine ⟨?_⟩; omega) | trace_state
theorem ok_impl_hasPart : FunOk Try.prog c_impl_hasPart := funOk (E := [c_impl_formOf, c_slices_Contains_byte]) (envOk_cons ok_impl_formOf (envOk_cons ok_slices_Contains_byte (envOk_nil))) mixd Try.func174 (pf := pf_impl_hasPart) (by kernel_rfl) fun ts K h => by
  obtain ⟨t0, t1, e0, h⟩ := as2_out h
  subst e0
  obtain ⟨x, e1, hq⟩ := arG_out rd_inst h
  clear h
  subst e1
  have h := hq
  clear hq
  obtain ⟨c, e1, hq⟩ := arC_out (rd_int .u8) h
  clear h
  subst e1
  have h := hq
  clear hq
  exact ⟨_, _, h, Nat.le_of_ble_eq_true (show Nat.ble 2 Try.f174.ntmps = true by kernel_rfl), _, run_impl_hasPart x c⟩

def lb_impl_InsOk_0 : PC := .seq (.reg [.s (.bin 18 .lss (.t 17) (.t 16))]) (.seq (.cond (.t 18) (.skip) (.exit 0)) (.seq (.blk 1 (.seq (.reg [.s (.ia 19 (.int .u8) (.t 15) (.t 17)), .s (.load 20 false 1 (.t 19)), .s (.mv 6 (.t 20))]) (.seq (.reg [.s (.load 21 true 5 (.t 1)), .s (.mv 22 (.t 6)), .s (.call (some 23) 173 [(.t 21), (.t 22)]), .s (.mv 7 (.t 23))]) (.blk 2 (.seq (.reg [.s (.load 30 true 5 (.t 1)), .s (.mv 31 (.t 6)), .s (.call (some 32) 174 [(.t 30), (.t 31)]), .s (.bnot 33 (.t 32)), .s (.mv 29 (.t 33))]) (.cond (.t 29) (.reg [.s (.mv 34 (.t 4)), .s (.mv 35 (.t 34)), .g 35 true (some 36) (.mv 36 (.t 7)), .g 35 true (some 37) (.bin 37 .eql (.t 36) (.k (.v (.c (.int .i64 0))))), .s (.pick 38 (.t 35) (.t 37) (.k (.v (.c .ff)))), .s (.mv 4 (.t 38))]) (.seq (.reg [.s (.mv 40 (.t 6)), .s (.bin 41 .eql (.t 40) (.k (.v (.c (.int .u8 78))))), .s (.mv 39 (.t 41))]) (.cond (.t 39) (.reg [.s (.mv 42 (.t 4)), .s (.mv 43 (.t 42)), .g 43 true (some 44) (.mv 44 (.t 7)), .g 43 true (some 45) (.call (some 45) 98 [(.t 44), (.k (.v (.c (.int .i64 (-128))))), (.k (.v (.c (.int .i64 127))))]), .s (.pick 46 (.t 43) (.t 45) (.k (.v (.c .ff)))), .s (.mv 4 (.t 46))]) (.reg [.s (.mv 24 (.t 4)), .s (.mv 25 (.t 24)), .g 25 true (some 26) (.mv 26 (.t 7)), .g 25 true (some 27) (.call (some 27) 98 [(.t 26), (.k (.v (.c (.int .i64 0)))), (.k (.v (.c (.int .i64 7))))]), .s (.pick 28 (.t 25) (.t 27) (.k (.v (.c .ff)))), .s (.mv 4 (.t 28))]))))))))) (.reg [.s (.bin 47 .add (.t 17) (.k (.v (.c (.int .i64 1))))), .s (.mv 17 (.t 47))])))
def pf_impl_InsOk : PF := ⟨[.t 2], .seq (.reg [.s (.box 1 (.t 0)), .s (.mv 2 (.k (.v (.c .ff))))]) (.seq (.reg [.s (.fa 9 (.t 1) 0), .s (.load 10 false 1 (.t 9)), .s (.call (some 11) 172 [(.t 10)]), .s (.mv 8 (.t 11)), .s (.ext 12 (.t 8) 0), .s (.ext 13 (.t 8) 1), .s (.mv 3 (.t 12)), .s (.mv 4 (.t 13))]) (.seq (.seq (.reg [.s (.bs 14 (.int .u8) [(.k (.v (.c (.int .u8 82)))), (.k (.v (.c (.int .u8 65)))), (.k (.v (.c (.int .u8 66)))), (.k (.v (.c (.int .u8 78))))]), .s (.stri 15 (.t 14)), .s (.len 16 false (.t 15)), .s (.mv 17 (.k (.v (.c (.int .i64 0)))))]) (.blk 0 (.loop [1, 4, 15, 16, 17] lb_impl_InsOk_0))) (.seq (.reg [.s (.mv 48 (.t 4)), .s (.mv 2 (.t 48))]) (.ret))))⟩
def c_impl_InsOk : Fun := ⟨122, [], fun ts K => as1 ts fun t0 => arG pInstT t0 fun x => K (tB (insOk x)) []⟩
theorem run_impl_InsOk (x : Inst) : runK [c_impl_in, c_impl_formOf, c_impl_partOf, c_impl_hasPart] (6) [] pf_impl_InsOk [tG (x.tc [])] fun r o => r = tB (insOk x) ∧ o = [] := by
  rw [← insOk_eq]
  conv => whnf
  refine chk_i (by decide) ?_
  conv => whnf
  refine loop (α := Nat × Option Bool) (fun q => ⟨[(1, .v (.c (.ptr 0 0))), (4, .v (.c (okC q.2))), (15, .v (.c (.sl true (.int .u8) 1))), (16, .v (.c (.int .i64 (([82, 65, 66, 78] : List Int).length : Int)))), (17, .v (.c (.int .i64 (q.1 : Int))))],
        [(1, some (.flat true (.int .u8) none [82, 65, 66, 78])), (0, some (.box true [.int .i64 x.op, .int .i64 x.r, .int .i64 x.a, .int .i64 x.b, .int .i64 x.n]))], nums.tail.tail, [], false, []⟩)
      (fun q => q.1 ≤ 4 ∧ okV q.2 = (inR x.op 1 15 && allR (fun j => partOkI x (lettI j)) q.1)) (fun q => 4 - q.1) (fun q R hI hR => ?_) (0, some (inR x.op 1 15)) _ ⟨by simp, by simp [okV, allR]⟩ (by dsimp only; omega)
  obtain ⟨i, o⟩ := q
  obtain ⟨hi, hx⟩ := hI
  dsimp only at hi hx
  dsimp only
  have hl4 : (([82, 65, 66, 78] : List Int).length : Int) = 4 := rfl
  have hg : ([82, 65, 66, 78] : List Int).getD ((i : Int)).toNat (FT.zero (.int .u8)) = lettI i := rfl
  conv => whnf
  refine sel_i (fun h => ?_) (fun h => ?_)
  · have hlt : i < 4 := by rw [hl4] at h; simp at h; omega
    clear h
    have hs := allR_succ (fun j => partOkI x (lettI j)) i
    cases o
    all_goals (dsimp only [okC, okV] at *)
    all_goals conv => whnf
    all_goals repeat' (first | (refine sel_i (fun h => ?_) (fun h => ?_) <;> conv => whnf) | (refine chk_c ?_ ?_ <;> conv => whnf) | (refine And.intro ?_ rfl) | (refine And.intro ?_ ?_ <;> conv => whnf))
    all_goals (try simp only [hg, hl4, etaInst, Bool.not_eq_true', Bool.not_eq_false'] at *)
    all_goals first
      | (refine ⟨?_⟩; omega)
      | (refine ⟨?_⟩; exact hlt)
      | (rw [wrap_id (n := (i : Int) + 1) (by omega) (by omega)]
         exact hR (i + 1, none) ⟨by dsimp only; omega, by dsimp only [okV]; rw [hs, ← Bool.and_assoc, ← hx]; clear hx hs hR; simp [partOkI, *]⟩ (by dsimp only; omega))
      | (rw [wrap_id (n := (i : Int) + 1) (by omega) (by omega)]
         exact hR (i + 1, some _) ⟨by dsimp only; omega, by dsimp only [okV]; rw [hs, ← Bool.and_assoc, ← hx]; clear hx hs hR; simp [partOkI, *]⟩ (by dsimp only; omega))
      | trace_state
  · have e : i = 4 := by rw [hl4] at h; simp at h; omega
    subst e
    rw [← hx]
    cases o <;> (conv => whnf) <;> exact ⟨rfl, rfl⟩
theorem ok_impl_InsOk : FunOk Try.prog c_impl_InsOk := funOk (E := [c_impl_in, c_impl_formOf, c_impl_partOf, c_impl_hasPart]) (envOk_cons ok_impl_in (envOk_cons ok_impl_formOf (envOk_cons ok_impl_partOf (envOk_cons ok_impl_hasPart (envOk_nil))))) mixd Try.func122 (pf := pf_impl_InsOk) (by kernel_rfl) fun ts K h => by
  obtain ⟨t0, e0, h⟩ := as1_out h
  subst e0
  obtain ⟨x, e1, hq⟩ := arG_out rd_inst h
  clear h
  subst e1
  have h := hq
  clear hq
  exact ⟨_, _, h, Nat.le_of_ble_eq_true (show Nat.ble 1 Try.f122.ntmps = true by kernel_rfl), _, run_impl_InsOk x⟩

abbrev zW : Word := ⟨0, false, ⟨0, 0, 0, 0⟩⟩
abbrev zI : Inst := ⟨0, 0, 0, 0, 0⟩
def readC (m : Mem) (y : Word) (n : Int) : Int := if tryW y n 1 ≠ 0 then tryW y n 1 else if inR n 0 (m.words.length - 1) then 0 else 4
def readM (m : Mem) (y : Word) (n : Int) : Word × Int := if readC m y n ≠ 0 then (zW, readC m y n) else (filterW m.gone (takenW y (m.words.getD n.toNat (FT.zero .word))), 0)
def writeC (m : Mem) (y : Word) (n : Int) (w : Word) : Int := if tryW y n 2 ≠ 0 then tryW y n 2 else if inR n 0 (m.words.length - 1) = false then 4 else if mayPut y w = false then 3 else 0
def fetchI (l : List Inst) (pc : Word) : Inst × Int := if tryW pc pc.n 4 ≠ 0 then (zI, tryW pc pc.n 4) else if inR pc.n 0 (l.length - 1) = false ∨ insOk (l.getD pc.n.toNat (FT.zero .inst)) = false then (zI, 4) else (l.getD pc.n.toNat (FT.zero .inst), 0)
def trapE (c : Int) (pc : Word) : Eff := ⟨c, -1, zW, pc, -1, zW, -1⟩
def madeW (x : Inst) (a b got : Word) : Word :=
  if x.op = 1 then plainW x.n else if x.op = 2 then plainW (IntKind.i64.wrap (a.n + b.n)) else if x.op = 3 then a else if x.op = 4 then weakenW a b.n else if x.op = 5 then narrowW a b.n else
  if x.op = 6 then pointW a (IntKind.i64.wrap (IntKind.i64.wrap (a.n + b.n) + x.n)) else if x.op = 7 then sealBy a b else if x.op = 8 then openBy a b else if x.op = 9 then (if a.is then plainW 1 else plainW 0) else got
def nextW (pc : Word) : Word := pointW pc (IntKind.i64.wrap (pc.n + 1))
def workE (x : Inst) (pc a b got : Word) : Eff :=
  if x.op = 11 then ⟨0, -1, zW, nextW pc, IntKind.i64.wrap (a.n + x.n), b, -1⟩ else
  if x.op = 12 then (if tryW a a.n 4 ≠ 0 then trapE (tryW a a.n 4) pc else ⟨0, x.r, nextW pc, a, -1, zW, -1⟩) else
  if x.op = 13 then ⟨0, -1, zW, if a.n = 0 then pointW pc (IntKind.i64.wrap (pc.n + x.n)) else nextW pc, -1, zW, -1⟩ else
  if x.op = 14 then (if tryW a a.n 32 ≠ 0 then trapE (tryW a a.n 32) pc else ⟨0, -1, zW, nextW pc, -1, zW, a.key.base⟩) else
  if x.op = 15 then trapE 5 pc else
  if hasC x.op 82 then ⟨0, x.r, if 0 ≤ x.r then madeW x a b got else zW, nextW pc, -1, zW, -1⟩ else ⟨0, -1, zW, nextW pc, -1, zW, -1⟩

theorem readC_t {m : Mem} {y : Word} {n : Int} (h : ¬ tryW y n 1 = 0) : readC m y n = tryW y n 1 := if_pos h
theorem readC_b {m : Mem} {y : Word} {n : Int} (h : tryW y n 1 = 0) (hb : n < 0 ∨ m.words.length - 1 < n) : readC m y n = 4 := by
  unfold readC; rw [if_neg (fun q => q h), if_neg (by rw [inR_t]; omega)]
theorem readC_0 {m : Mem} {y : Word} {n : Int} (h : tryW y n 1 = 0) (hb : 0 ≤ n ∧ n ≤ m.words.length - 1) : readC m y n = 0 := by
  unfold readC; rw [if_neg (fun q => q h), if_pos (by rw [inR_t]; omega)]
theorem readM_t {m : Mem} {y : Word} {n : Int} (h : ¬ tryW y n 1 = 0) : readM m y n = (zW, tryW y n 1) := by
  unfold readM; rw [readC_t h, if_pos h]
theorem readM_b {m : Mem} {y : Word} {n : Int} (h : tryW y n 1 = 0) (hb : n < 0 ∨ m.words.length - 1 < n) : readM m y n = (zW, 4) := by
  unfold readM; rw [readC_b h hb, if_pos (by decide)]
theorem readM_0 {m : Mem} {y : Word} {n : Int} (h : tryW y n 1 = 0) (hb : 0 ≤ n ∧ n ≤ m.words.length - 1) : readM m y n = (filterW m.gone (takenW y (m.words.getD n.toNat (FT.zero .word))), 0) := by
  unfold readM; rw [readC_0 h hb, if_neg (fun q => q rfl)]
theorem writeC_t {m : Mem} {y w : Word} {n : Int} (h : ¬ tryW y n 2 = 0) : writeC m y n w = tryW y n 2 := if_pos h
theorem writeC_b {m : Mem} {y w : Word} {n : Int} (h : tryW y n 2 = 0) (hb : n < 0 ∨ m.words.length - 1 < n) : writeC m y n w = 4 := by
  unfold writeC; rw [if_neg (fun q => q h), if_pos (by rw [inR_f]; omega)]
theorem writeC_p {m : Mem} {y w : Word} {n : Int} (h : tryW y n 2 = 0) (hb : 0 ≤ n ∧ n ≤ m.words.length - 1) (hp : mayPut y w = false) : writeC m y n w = 3 := by
  unfold writeC; rw [if_neg (fun q => q h), if_neg (by rw [inR_f]; omega), if_pos hp]
theorem writeC_0 {m : Mem} {y w : Word} {n : Int} (h : tryW y n 2 = 0) (hb : 0 ≤ n ∧ n ≤ m.words.length - 1) (hp : mayPut y w = true) : writeC m y n w = 0 := by
  unfold writeC; rw [if_neg (fun q => q h), if_neg (by rw [inR_f]; omega), if_neg (by rw [hp]; decide)]
theorem fetchI_t {l : List Inst} {pc : Word} (h : ¬ tryW pc pc.n 4 = 0) : fetchI l pc = (zI, tryW pc pc.n 4) := if_pos h
theorem fetchI_b {l : List Inst} {pc : Word} (h : tryW pc pc.n 4 = 0) (hb : pc.n < 0 ∨ l.length - 1 < pc.n) : fetchI l pc = (zI, 4) := by
  unfold fetchI; rw [if_neg (fun q => q h), if_pos (.inl (by rw [inR_f]; omega))]
theorem fetchI_i {l : List Inst} {pc : Word} (h : tryW pc pc.n 4 = 0) (hi : insOk (l.getD pc.n.toNat (FT.zero .inst)) = false) : fetchI l pc = (zI, 4) := by
  unfold fetchI; rw [if_neg (fun q => q h), if_pos (.inr hi)]
theorem fetchI_0 {l : List Inst} {pc : Word} (h : tryW pc pc.n 4 = 0) (hb : 0 ≤ pc.n ∧ pc.n ≤ l.length - 1) (hi : insOk (l.getD pc.n.toNat (FT.zero .inst)) = true) : fetchI l pc = (l.getD pc.n.toNat (FT.zero .inst), 0) := by
  unfold fetchI; rw [if_neg (fun q => q h), if_neg (by rw [inR_f, hi]; rintro (h | h) <;> first | omega | cases h)]
def pf_impl_Read : PF := ⟨[.c 6 true 6, .t 7], .seq (.reg [.s (.box 3 (.t 0)), .s (.box 4 (.t 1)), .s (.alloc 6 [.int .i64 0, .ff, .int .i64 0, .int .i64 0, .int .i64 0, .int .i64 0]), .s (.mv 7 (.k (.v (.c (.int .i64 0)))))]) (.seq (.reg [.s (.load 9 true 6 (.t 4)), .s (.mv 10 (.t 2)), .s (.call (some 11) 80 [(.t 9), (.t 10), (.k (.v (.c (.int .i64 1))))]), .s (.mv 8 (.t 11))]) (.seq (.seq (.reg [.s (.mv 12 (.t 8)), .s (.bin 13 .eql (.t 12) (.k (.v (.c (.int .i64 0))))), .s (.mv 14 (.t 13)), .g 14 true (some 15) (.mv 15 (.t 2)), .g 14 true (some 16) (.fa 16 (.t 3) 0), .g 14 true (some 17) (.load 17 false 1 (.t 16)), .g 14 true (some 18) (.len 18 false (.t 17)), .g 14 true (some 19) (.bin 19 .sub (.t 18) (.k (.v (.c (.int .i64 1))))), .g 14 true (some 20) (.call (some 20) 98 [(.t 15), (.k (.v (.c (.int .i64 0)))), (.t 19)]), .g 14 true (some 21) (.bnot 21 (.t 20)), .s (.pick 22 (.t 14) (.t 21) (.k (.v (.c .ff))))]) (.cond (.t 22) (.reg [.s (.mv 8 (.k (.v (.c (.int .i64 4)))))]) (.skip))) (.seq (.seq (.reg [.s (.mv 23 (.t 8)), .s (.bin 24 .neq (.t 23) (.k (.v (.c (.int .i64 0)))))]) (.cond (.t 24) (.seq (.reg [.s (.build 25 [.int .i64 0, .ff, .int .i64 0, .int .i64 0, .int .i64 0, .int .i64 0] []), .s (.mv 26 (.t 8)), .s (.store 6 (.t 6) (.t 25)), .s (.mv 7 (.t 26))]) (.ret)) (.skip))) (.seq (.rgd [] [.s (.load 27 true 2 (.t 3)), .s (.load 28 true 6 (.t 4)), .s (.fa 29 (.t 3) 0), .s (.load 30 false 1 (.t 29)), .s (.mv 31 (.t 2)), .s (.ia 32 .word (.t 30) (.t 31)), .s (.load 33 true 6 (.t 32)), .s (.call (some 34) 241 [(.t 28), (.t 33)]), .s (.call (some 35) 53 [(.t 27), (.t 34)]), .s (.store 6 (.t 6) (.t 35)), .s (.mv 7 (.k (.v (.c (.int .i64 0)))))] (.tk 0 (.tk 1 (.tk 2 (.tk 3 (.tk 4 (.tk 5 (.tk 6 (.one 7 false (.one 8 true (.one 9 true (.tk 10 (.done none))))))))))))) (.ret)))))⟩
def c_impl_Read : Fun := ⟨217, [], fun ts K => as3 ts fun t0 t1 t2 => arG pMemT t0 fun m => arG pWordT t1 fun y => arC (pI .i64) t2 fun n => chk (LMem m 2147483647) (K (.tup [.g ((readM m y n).1.tc []), .c (.int .i64 (readM m y n).2)]) [])⟩
theorem run_impl_Read (m : Mem) (y : Word) (n : Int) (hpre : LMem m 2147483647) : runK [c_impl_Filter, c_impl_Try, c_impl_in, c_impl_Taken] (0) [] pf_impl_Read [tG (m.tc false []), tG (y.tc []), tI .i64 n] fun r o => r = .tup [.g ((readM m y n).1.tc []), .c (.int .i64 (readM m y n).2)] ∧ o = [] := by
  have l2 := hpre.1
  have w1 : IntKind.i64.wrap ((m.words.length : Int) - 1) = (m.words.length : Int) - 1 := wrap_id (by omega) (by omega)
  conv => whnf
  repeat' (first | (refine sel_i (fun h => ?_) (fun h => ?_) <;> conv => whnf) | (refine chk_c ?_ ?_ <;> conv => whnf) | (refine And.intro ?_ rfl) | (refine And.intro ?_ ?_ <;> conv => whnf))
  all_goals (try simp only [etaKey, etaWord, etaInst, etaMemory, w1, bne_iff_ne, ne_eq, bne_eq_false_iff_eq, beq_iff_eq, beq_eq_false_iff_ne, Bool.not_eq_true', Bool.not_eq_false', inR_t, inR_f, decide_eq_true_eq, decide_eq_false_iff_not] at *)
  all_goals first
    | (exfalso; omega)
    | (refine ⟨?_⟩; first | assumption | omega | decide)
    | (rw [readM_t (by assumption)]; rfl)
    | (rw [readM_b (by assumption) (by omega)]; rfl)
    | (rw [readM_0 (by assumption) (by omega)]; rfl)
    | trace_state
theorem ok_impl_Read : FunOk Try.prog c_impl_Read := funOk (E := [c_impl_Filter, c_impl_Try, c_impl_in, c_impl_Taken]) (envOk_cons ok_impl_Filter (envOk_cons ok_impl_Try (envOk_cons ok_impl_in (envOk_cons ok_impl_Taken (envOk_nil))))) mixd Try.func217 (pf := pf_impl_Read) (by kernel_rfl) fun ts K h => by
  obtain ⟨t0, t1, t2, e0, h⟩ := as3_out h
  subst e0
  obtain ⟨m, e1, hq⟩ := arG_out rd_mem h
  clear h
  subst e1
  have h := hq
  clear hq
  obtain ⟨y, e1, hq⟩ := arG_out rd_word h
  clear h
  subst e1
  have h := hq
  clear hq
  obtain ⟨n, e1, hq⟩ := arC_out (rd_int .i64) h
  clear h
  subst e1
  have h := hq
  clear hq
  obtain ⟨hpre, h⟩ := chk_o h
  exact ⟨_, _, h, Nat.le_of_ble_eq_true (show Nat.ble 3 Try.f217.ntmps = true by kernel_rfl), _, run_impl_Read m y n hpre⟩

def pf_impl_writeCode : PF := ⟨[.t 8], .seq (.reg [.s (.box 4 (.t 0)), .s (.box 5 (.t 1)), .s (.box 7 (.t 3)), .s (.mv 8 (.k (.v (.c (.int .i64 0)))))]) (.seq (.reg [.s (.load 10 true 6 (.t 5)), .s (.mv 11 (.t 2)), .s (.call (some 12) 80 [(.t 10), (.t 11), (.k (.v (.c (.int .i64 2))))]), .s (.mv 9 (.t 12))]) (.seq (.blk 0 (.seq (.reg [.s (.mv 14 (.t 9)), .s (.bin 15 .neq (.t 14) (.k (.v (.c (.int .i64 0))))), .s (.mv 13 (.t 15))]) (.cond (.t 13) (.seq (.reg [.s (.mv 16 (.t 9)), .s (.mv 8 (.t 16))]) (.ret)) (.seq (.reg [.s (.mv 18 (.t 2)), .s (.fa 19 (.t 4) 0), .s (.load 20 false 1 (.t 19)), .s (.len 21 false (.t 20)), .s (.bin 22 .sub (.t 21) (.k (.v (.c (.int .i64 1))))), .s (.call (some 23) 98 [(.t 18), (.k (.v (.c (.int .i64 0)))), (.t 22)]), .s (.bnot 24 (.t 23)), .s (.mv 17 (.t 24))]) (.cond (.t 17) (.seq (.reg [.s (.mv 8 (.k (.v (.c (.int .i64 4)))))]) (.ret)) (.seq (.reg [.s (.load 26 true 6 (.t 5)), .s (.load 27 true 6 (.t 7)), .s (.call (some 28) 242 [(.t 26), (.t 27)]), .s (.bnot 29 (.t 28)), .s (.mv 25 (.t 29))]) (.cond (.t 25) (.seq (.reg [.s (.mv 8 (.k (.v (.c (.int .i64 3)))))]) (.ret)) (.skip)))))))) (.seq (.reg [.s (.mv 8 (.k (.v (.c (.int .i64 0)))))]) (.ret))))⟩
def c_impl_writeCode : Fun := ⟨218, [], fun ts K => as4 ts fun t0 t1 t2 t3 => arG pMemT t0 fun m => arG pWordT t1 fun y => arC (pI .i64) t2 fun n => arG pWordT t3 fun w => chk (LMem m 2147483647) (K (tN (writeC m y n w)) [])⟩
theorem run_impl_writeCode (m : Mem) (y : Word) (n : Int) (w : Word) (hpre : LMem m 2147483647) : runK [c_impl_Try, c_impl_in, c_impl_MayPut] (0) [] pf_impl_writeCode [tG (m.tc false []), tG (y.tc []), tI .i64 n, tG (w.tc [])] fun r o => r = tN (writeC m y n w) ∧ o = [] := by
  have l2 := hpre.1
  have w1 : IntKind.i64.wrap ((m.words.length : Int) - 1) = (m.words.length : Int) - 1 := wrap_id (by omega) (by omega)
  conv => whnf
  repeat' (first | (refine sel_i (fun h => ?_) (fun h => ?_) <;> conv => whnf) | (refine chk_c ?_ ?_ <;> conv => whnf) | (refine And.intro ?_ rfl) | (refine And.intro ?_ ?_ <;> conv => whnf))
  all_goals (try simp only [etaKey, etaWord, etaInst, etaMemory, w1, bne_iff_ne, ne_eq, bne_eq_false_iff_eq, beq_iff_eq, beq_eq_false_iff_ne, Bool.not_eq_true', Bool.not_eq_false', inR_t, inR_f, decide_eq_true_eq, decide_eq_false_iff_not] at *)
  all_goals first
    | (exfalso; omega)
    | (refine ⟨?_⟩; first | assumption | omega | decide)
    | (rw [writeC_t (by assumption)]; done)
    | (rw [writeC_b (by assumption) (by omega)]; done)
    | (rw [writeC_p (by assumption) (by omega) (by assumption)]; done)
    | (rw [writeC_0 (by assumption) (by omega) (by assumption)]; done)
    | trace_state
theorem ok_impl_writeCode : FunOk Try.prog c_impl_writeCode := funOk (E := [c_impl_Try, c_impl_in, c_impl_MayPut]) (envOk_cons ok_impl_Try (envOk_cons ok_impl_in (envOk_cons ok_impl_MayPut (envOk_nil)))) mixd Try.func218 (pf := pf_impl_writeCode) (by kernel_rfl) fun ts K h => by
  obtain ⟨t0, t1, t2, t3, e0, h⟩ := as4_out h
  subst e0
  obtain ⟨m, e1, hq⟩ := arG_out rd_mem h
  clear h
  subst e1
  have h := hq
  clear hq
  obtain ⟨y, e1, hq⟩ := arG_out rd_word h
  clear h
  subst e1
  have h := hq
  clear hq
  obtain ⟨n, e1, hq⟩ := arC_out (rd_int .i64) h
  clear h
  subst e1
  have h := hq
  clear hq
  obtain ⟨w, e1, hq⟩ := arG_out rd_word h
  clear h
  subst e1
  have h := hq
  clear hq
  obtain ⟨hpre, h⟩ := chk_o h
  exact ⟨_, _, h, Nat.le_of_ble_eq_true (show Nat.ble 4 Try.f218.ntmps = true by kernel_rfl), _, run_impl_writeCode m y n w hpre⟩

def pf_impl_Fetch : PF := ⟨[.c 4 true 5, .t 5], .seq (.reg [.s (.box 3 (.t 1)), .s (.alloc 4 [.int .i64 0, .int .i64 0, .int .i64 0, .int .i64 0, .int .i64 0]), .s (.mv 5 (.k (.v (.c (.int .i64 0)))))]) (.seq (.reg [.s (.load 7 true 6 (.t 3)), .s (.fa 8 (.t 3) 0), .s (.load 9 false 1 (.t 8)), .s (.call (some 10) 80 [(.t 7), (.t 9), (.k (.v (.c (.int .i64 4))))]), .s (.mv 6 (.t 10))]) (.seq (.blk 0 (.seq (.reg [.s (.mv 12 (.t 6)), .s (.bin 13 .neq (.t 12) (.k (.v (.c (.int .i64 0))))), .s (.mv 11 (.t 13))]) (.cond (.t 11) (.seq (.reg [.s (.build 14 [.int .i64 0, .int .i64 0, .int .i64 0, .int .i64 0, .int .i64 0] []), .s (.mv 15 (.t 6)), .s (.store 5 (.t 4) (.t 14)), .s (.mv 5 (.t 15))]) (.ret)) (.seq (.reg [.s (.fa 17 (.t 3) 0), .s (.load 18 false 1 (.t 17)), .s (.mv 19 (.t 0)), .s (.len 20 false (.t 19)), .s (.bin 21 .sub (.t 20) (.k (.v (.c (.int .i64 1))))), .s (.call (some 22) 98 [(.t 18), (.k (.v (.c (.int .i64 0)))), (.t 21)]), .s (.bnot 23 (.t 22)), .s (.mv 24 (.t 23)), .g 24 false (some 25) (.mv 25 (.t 0)), .g 24 false (some 26) (.fa 26 (.t 3) 0), .g 24 false (some 27) (.load 27 false 1 (.t 26)), .g 24 false (some 28) (.ia 28 .inst (.t 25) (.t 27)), .g 24 false (some 29) (.load 29 true 5 (.t 28)), .g 24 false (some 30) (.call (some 30) 122 [(.t 29)]), .g 24 false (some 31) (.bnot 31 (.t 30)), .s (.pick 32 (.t 24) (.k (.v (.c .tt))) (.t 31)), .s (.mv 16 (.t 32))]) (.cond (.t 16) (.seq (.reg [.s (.build 33 [.int .i64 0, .int .i64 0, .int .i64 0, .int .i64 0, .int .i64 0] []), .s (.store 5 (.t 4) (.t 33)), .s (.mv 5 (.k (.v (.c (.int .i64 4)))))]) (.ret)) (.skip)))))) (.seq (.reg [.s (.mv 34 (.t 0)), .s (.fa 35 (.t 3) 0), .s (.load 36 false 1 (.t 35)), .s (.ia 37 .inst (.t 34) (.t 36)), .s (.load 38 true 5 (.t 37)), .s (.store 5 (.t 4) (.t 38)), .s (.mv 5 (.k (.v (.c (.int .i64 0)))))]) (.ret))))⟩
def c_impl_Fetch : Fun := ⟨215, [], fun ts K => as2 ts fun t0 t1 => arC (pL .inst) t0 fun l => arG pWordT t1 fun pc => chk (l.length ≤ 2147483647) (K (.tup [.g ((fetchI l pc).1.tc []), .c (.int .i64 (fetchI l pc).2)]) [])⟩
theorem run_impl_Fetch (l : List (FT.Ty .inst)) (pc : Word) (hpre : l.length ≤ 2147483647) : runK [c_impl_Try, c_impl_in, c_impl_InsOk] (0) [] pf_impl_Fetch [tL false .inst l, tG (pc.tc [])] fun r o => r = .tup [.g ((fetchI l pc).1.tc []), .c (.int .i64 (fetchI l pc).2)] ∧ o = [] := by
  have w1 : IntKind.i64.wrap ((l.length : Int) - 1) = (l.length : Int) - 1 := wrap_id (by omega) (by omega)
  conv => whnf
  repeat' (first | (refine sel_i (fun h => ?_) (fun h => ?_) <;> conv => whnf) | (refine chk_c ?_ ?_ <;> conv => whnf) | (refine And.intro ?_ rfl) | (refine And.intro ?_ ?_ <;> conv => whnf))
  all_goals (try simp only [etaKey, etaWord, etaInst, etaMemory, w1, bne_iff_ne, ne_eq, bne_eq_false_iff_eq, beq_iff_eq, beq_eq_false_iff_ne, Bool.not_eq_true', Bool.not_eq_false', inR_t, inR_f, decide_eq_true_eq, decide_eq_false_iff_not] at *)
  all_goals first
    | (exfalso; omega)
    | (refine ⟨?_⟩; first | assumption | omega | decide)
    | (rw [fetchI_t (by assumption)]; rfl)
    | (rw [fetchI_b (by assumption) (by omega)]; rfl)
    | (rw [fetchI_i (by assumption) (by assumption)]; rfl)
    | (rw [fetchI_0 (by assumption) (by omega) (by assumption)]; rfl)
    | trace_state
theorem ok_impl_Fetch : FunOk Try.prog c_impl_Fetch := funOk (E := [c_impl_Try, c_impl_in, c_impl_InsOk]) (envOk_cons ok_impl_Try (envOk_cons ok_impl_in (envOk_cons ok_impl_InsOk (envOk_nil)))) mixd Try.func215 (pf := pf_impl_Fetch) (by kernel_rfl) fun ts K h => by
  obtain ⟨t0, t1, e0, h⟩ := as2_out h
  subst e0
  obtain ⟨l, e1, hq⟩ := arC_out (rd_l .inst) h
  clear h
  subst e1
  have h := hq
  clear hq
  obtain ⟨pc, e1, hq⟩ := arG_out rd_word h
  clear h
  subst e1
  have h := hq
  clear hq
  obtain ⟨hpre, h⟩ := chk_o h
  exact ⟨_, _, h, Nat.le_of_ble_eq_true (show Nat.ble 2 Try.f215.ntmps = true by kernel_rfl), _, run_impl_Fetch l pc hpre⟩

def pf_impl_trapped : PF := ⟨[.c 4 true 22], .seq (.reg [.s (.box 3 (.t 1)), .s (.alloc 4 [.int .i64 0, .int .i64 0, .int .i64 0, .ff, .int .i64 0, .int .i64 0, .int .i64 0, .int .i64 0, .int .i64 0, .ff, .int .i64 0, .int .i64 0, .int .i64 0, .int .i64 0, .int .i64 0, .int .i64 0, .ff, .int .i64 0, .int .i64 0, .int .i64 0, .int .i64 0, .int .i64 0])]) (.seq (.reg [.s (.mv 5 (.t 0)), .s (.load 6 true 6 (.t 3)), .s (.build 7 [.int .i64 0, .int .i64 0, .int .i64 0, .ff, .int .i64 0, .int .i64 0, .int .i64 0, .int .i64 0, .int .i64 0, .ff, .int .i64 0, .int .i64 0, .int .i64 0, .int .i64 0, .int .i64 0, .int .i64 0, .ff, .int .i64 0, .int .i64 0, .int .i64 0, .int .i64 0, .int .i64 0] [(0, 1, (.t 5)), (1, 1, (.k (.v (.c (.int .i64 (-1)))))), (8, 6, (.t 6)), (14, 1, (.k (.v (.c (.int .i64 (-1)))))), (21, 1, (.k (.v (.c (.int .i64 (-1))))))]), .s (.store 22 (.t 4) (.t 7))]) (.ret))⟩
def c_impl_trapped : Fun := ⟨216, [], fun ts K => as2 ts fun t0 t1 => arC (pI .i64) t0 fun c => arG pWordT t1 fun pc => K (tG ((trapE c pc).tc [])) []⟩
theorem run_impl_trapped (c : Int) (pc : Word) : runK [] (0) [] pf_impl_trapped [tI .i64 c, tG (pc.tc [])] fun r o => r = tG ((trapE c pc).tc []) ∧ o = [] := by
  conv => whnf
  repeat' (first
    | exact rfl
    | exact trivial
    | (refine sel_i (fun h => ?_) (fun h => ?_) <;> conv => whnf)
    | (refine chk_c ?_ ?_ <;> conv => whnf)
    | (refine And.intro ?_ ?_ <;> conv => whnf))
theorem ok_impl_trapped : FunOk Try.prog c_impl_trapped := funOk (E := []) (envOk_nil) mixd Try.func216 (pf := pf_impl_trapped) (by kernel_rfl) fun ts K h => by
  obtain ⟨t0, t1, e0, h⟩ := as2_out h
  subst e0
  obtain ⟨c, e1, hq⟩ := arC_out (rd_int .i64) h
  clear h
  subst e1
  have h := hq
  clear hq
  obtain ⟨pc, e1, hq⟩ := arG_out rd_word h
  clear h
  subst e1
  have h := hq
  clear hq
  exact ⟨_, _, h, Nat.le_of_ble_eq_true (show Nat.ble 2 Try.f216.ntmps = true by kernel_rfl), _, run_impl_trapped c pc⟩

def pf_impl_made : PF := ⟨[.c 8 true 6], .seq (.reg [.s (.box 4 (.t 0)), .s (.box 5 (.t 1)), .s (.box 6 (.t 2)), .s (.box 7 (.t 3)), .s (.alloc 8 [.int .i64 0, .ff, .int .i64 0, .int .i64 0, .int .i64 0, .int .i64 0])]) (.seq (.seq (.reg [.s (.fa 9 (.t 4) 0), .s (.load 10 false 1 (.t 9))]) (.blk 0 (.seq (.reg [.s (.bin 12 .eql (.t 10) (.k (.v (.c (.int .i64 1))))), .s (.mv 11 (.t 12))]) (.cond (.t 11) (.seq (.reg [.s (.fa 13 (.t 4) 4), .s (.load 14 false 1 (.t 13)), .s (.call (some 15) 60 [(.t 14)]), .s (.store 6 (.t 8) (.t 15))]) (.ret)) (.seq (.reg [.s (.bin 17 .eql (.t 10) (.k (.v (.c (.int .i64 2))))), .s (.mv 16 (.t 17))]) (.cond (.t 16) (.seq (.reg [.s (.fa 18 (.t 5) 0), .s (.load 19 false 1 (.t 18)), .s (.fa 20 (.t 6) 0), .s (.load 21 false 1 (.t 20)), .s (.bin 22 .add (.t 19) (.t 21)), .s (.call (some 23) 60 [(.t 22)]), .s (.store 6 (.t 8) (.t 23))]) (.ret)) (.seq (.reg [.s (.bin 25 .eql (.t 10) (.k (.v (.c (.int .i64 3))))), .s (.mv 24 (.t 25))]) (.cond (.t 24) (.seq (.reg [.s (.load 26 true 6 (.t 5)), .s (.store 6 (.t 8) (.t 26))]) (.ret)) (.seq (.reg [.s (.bin 28 .eql (.t 10) (.k (.v (.c (.int .i64 4))))), .s (.mv 27 (.t 28))]) (.cond (.t 27) (.seq (.reg [.s (.load 29 true 6 (.t 5)), .s (.fa 30 (.t 6) 0), .s (.load 31 false 1 (.t 30)), .s (.call (some 32) 257 [(.t 29), (.t 31)]), .s (.store 6 (.t 8) (.t 32))]) (.ret)) (.seq (.reg [.s (.bin 34 .eql (.t 10) (.k (.v (.c (.int .i64 5))))), .s (.mv 33 (.t 34))]) (.cond (.t 33) (.seq (.reg [.s (.load 35 true 6 (.t 5)), .s (.fa 36 (.t 6) 0), .s (.load 37 false 1 (.t 36)), .s (.call (some 38) 258 [(.t 35), (.t 37)]), .s (.store 6 (.t 8) (.t 38))]) (.ret)) (.seq (.reg [.s (.bin 40 .eql (.t 10) (.k (.v (.c (.int .i64 6))))), .s (.mv 39 (.t 40))]) (.cond (.t 39) (.seq (.reg [.s (.load 41 true 6 (.t 5)), .s (.fa 42 (.t 5) 0), .s (.load 43 false 1 (.t 42)), .s (.fa 44 (.t 6) 0), .s (.load 45 false 1 (.t 44)), .s (.bin 46 .add (.t 43) (.t 45)), .s (.fa 47 (.t 4) 4), .s (.load 48 false 1 (.t 47)), .s (.bin 49 .add (.t 46) (.t 48)), .s (.call (some 50) 243 [(.t 41), (.t 49)]), .s (.store 6 (.t 8) (.t 50))]) (.ret)) (.seq (.reg [.s (.bin 52 .eql (.t 10) (.k (.v (.c (.int .i64 7))))), .s (.mv 51 (.t 52))]) (.cond (.t 51) (.seq (.reg [.s (.load 53 true 6 (.t 5)), .s (.load 54 true 6 (.t 6)), .s (.call (some 55) 259 [(.t 53), (.t 54)]), .s (.store 6 (.t 8) (.t 55))]) (.ret)) (.seq (.reg [.s (.bin 57 .eql (.t 10) (.k (.v (.c (.int .i64 8))))), .s (.mv 56 (.t 57))]) (.cond (.t 56) (.seq (.reg [.s (.load 58 true 6 (.t 5)), .s (.load 59 true 6 (.t 6)), .s (.call (some 60) 260 [(.t 58), (.t 59)]), .s (.store 6 (.t 8) (.t 60))]) (.ret)) (.seq (.reg [.s (.bin 62 .eql (.t 10) (.k (.v (.c (.int .i64 9))))), .s (.mv 61 (.t 62))]) (.cond (.t 61) (.seq (.seq (.reg [.s (.fa 63 (.t 5) 1), .s (.load 64 false 1 (.t 63))]) (.cond (.t 64) (.seq (.reg [.s (.call (some 65) 60 [(.k (.v (.c (.int .i64 1))))]), .s (.store 6 (.t 8) (.t 65))]) (.ret)) (.skip))) (.seq (.reg [.s (.call (some 66) 60 [(.k (.v (.c (.int .i64 0))))]), .s (.store 6 (.t 8) (.t 66))]) (.ret))) (.skip))))))))))))))))))))) (.seq (.reg [.s (.load 67 true 6 (.t 7)), .s (.store 6 (.t 8) (.t 67))]) (.ret)))⟩
def c_impl_made : Fun := ⟨244, [], fun ts K => as4 ts fun t0 t1 t2 t3 => arG pInstT t0 fun x => arG pWordT t1 fun a => arG pWordT t2 fun b => arG pWordT t3 fun got => K (tG ((madeW x a b got).tc [])) []⟩
theorem run_impl_made (x : Inst) (a : Word) (b : Word) (got : Word) : runK [c_impl_Plain, c_impl_Point, c_impl_Weaken, c_impl_Narrow, c_impl_SealBy, c_impl_OpenBy] (0) [] pf_impl_made [tG (x.tc []), tG (a.tc []), tG (b.tc []), tG (got.tc [])] fun r o => r = tG ((madeW x a b got).tc []) ∧ o = [] := by
  have w1 := True.intro
  conv => whnf
  repeat' (first | (refine sel_i (fun h => ?_) (fun h => ?_) <;> conv => whnf) | (refine chk_c ?_ ?_ <;> conv => whnf) | (refine And.intro ?_ rfl) | (refine And.intro ?_ ?_ <;> conv => whnf))
  all_goals (try simp only [etaKey, etaWord, etaInst, etaMemory, w1, bne_iff_ne, ne_eq, bne_eq_false_iff_eq, beq_iff_eq, beq_eq_false_iff_ne, Bool.not_eq_true', Bool.not_eq_false', inR_t, inR_f, decide_eq_true_eq, decide_eq_false_iff_not] at *)
  all_goals first
    | (exfalso; omega)
    | (unfold madeW; simp only [*, if_true, if_false, Int.reduceEq, Bool.false_eq_true]; rfl)
    | trace_state
theorem ok_impl_made : FunOk Try.prog c_impl_made := funOk (E := [c_impl_Plain, c_impl_Point, c_impl_Weaken, c_impl_Narrow, c_impl_SealBy, c_impl_OpenBy]) (envOk_cons ok_impl_Plain (envOk_cons ok_impl_Point (envOk_cons ok_impl_Weaken (envOk_cons ok_impl_Narrow (envOk_cons ok_impl_SealBy (envOk_cons ok_impl_OpenBy (envOk_nil))))))) mixd Try.func244 (pf := pf_impl_made) (by kernel_rfl) fun ts K h => by
  obtain ⟨t0, t1, t2, t3, e0, h⟩ := as4_out h
  subst e0
  obtain ⟨x, e1, hq⟩ := arG_out rd_inst h
  clear h
  subst e1
  have h := hq
  clear hq
  obtain ⟨a, e1, hq⟩ := arG_out rd_word h
  clear h
  subst e1
  have h := hq
  clear hq
  obtain ⟨b, e1, hq⟩ := arG_out rd_word h
  clear h
  subst e1
  have h := hq
  clear hq
  obtain ⟨got, e1, hq⟩ := arG_out rd_word h
  clear h
  subst e1
  have h := hq
  clear hq
  exact ⟨_, _, h, Nat.le_of_ble_eq_true (show Nat.ble 4 Try.f244.ntmps = true by kernel_rfl), _, run_impl_made x a b got⟩

def pf_impl_Work : PF := ⟨[.c 10 true 22], .seq (.reg [.s (.box 5 (.t 0)), .s (.box 6 (.t 1)), .s (.box 7 (.t 2)), .s (.box 8 (.t 3)), .s (.box 9 (.t 4)), .s (.alloc 10 [.int .i64 0, .int .i64 0, .int .i64 0, .ff, .int .i64 0, .int .i64 0, .int .i64 0, .int .i64 0, .int .i64 0, .ff, .int .i64 0, .int .i64 0, .int .i64 0, .int .i64 0, .int .i64 0, .int .i64 0, .ff, .int .i64 0, .int .i64 0, .int .i64 0, .int .i64 0, .int .i64 0])]) (.seq (.reg [.s (.load 12 true 6 (.t 6)), .s (.fa 13 (.t 6) 0), .s (.load 14 false 1 (.t 13)), .s (.bin 15 .add (.t 14) (.k (.v (.c (.int .i64 1))))), .s (.call (some 16) 243 [(.t 12), (.t 15)]), .s (.build 17 [.int .i64 0, .int .i64 0, .int .i64 0, .ff, .int .i64 0, .int .i64 0, .int .i64 0, .int .i64 0, .int .i64 0, .ff, .int .i64 0, .int .i64 0, .int .i64 0, .int .i64 0, .int .i64 0, .int .i64 0, .ff, .int .i64 0, .int .i64 0, .int .i64 0, .int .i64 0, .int .i64 0] [(1, 1, (.k (.v (.c (.int .i64 (-1)))))), (8, 6, (.t 16)), (14, 1, (.k (.v (.c (.int .i64 (-1)))))), (21, 1, (.k (.v (.c (.int .i64 (-1))))))]), .s (.alloc 11 [.int .i64 0, .int .i64 0, .int .i64 0, .ff, .int .i64 0, .int .i64 0, .int .i64 0, .int .i64 0, .int .i64 0, .ff, .int .i64 0, .int .i64 0, .int .i64 0, .int .i64 0, .int .i64 0, .int .i64 0, .ff, .int .i64 0, .int .i64 0, .int .i64 0, .int .i64 0, .int .i64 0]), .s (.store 22 (.t 11) (.t 17))]) (.seq (.seq (.reg [.s (.fa 18 (.t 5) 0), .s (.load 19 false 1 (.t 18))]) (.blk 0 (.seq (.reg [.s (.bin 35 .eql (.t 19) (.k (.v (.c (.int .i64 11))))), .s (.mv 34 (.t 35))]) (.cond (.t 34) (.rgd [] [.s (.fa 36 (.t 7) 0), .s (.load 37 false 1 (.t 36)), .s (.fa 38 (.t 5) 4), .s (.load 39 false 1 (.t 38)), .s (.bin 40 .add (.t 37) (.t 39)), .s (.load 41 true 6 (.t 8)), .s (.fa 42 (.t 11) 14), .s (.store 1 (.t 42) (.t 40)), .s (.fa 43 (.t 11) 15), .s (.store 6 (.t 43) (.t 41))] (.tk 0 (.tk 1 (.tk 2 (.tk 3 (.tk 4 (.tk 6 (.alt 5 false (.one 7 true (.tk 8 (.one 9 true (.done (some [6, 10, 11]))))) (.alt 7 true (.one 5 false (.tk 8 (.one 9 true (.done (some [6, 10, 11]))))) (.nil)))))))))) (.seq (.reg [.s (.bin 45 .eql (.t 19) (.k (.v (.c (.int .i64 12))))), .s (.mv 44 (.t 45))]) (.cond (.t 44) (.seq (.reg [.s (.load 46 true 6 (.t 7)), .s (.fa 47 (.t 7) 0), .s (.load 48 false 1 (.t 47)), .s (.call (some 49) 80 [(.t 46), (.t 48), (.k (.v (.c (.int .i64 4))))]), .s (.fa 50 (.t 11) 0), .s (.store 1 (.t 50) (.t 49))]) (.rgd [] [.s (.fa 51 (.t 5) 1), .s (.load 52 false 1 (.t 51)), .s (.fa 53 (.t 11) 8), .s (.load 54 true 6 (.t 53)), .s (.load 55 true 6 (.t 7)), .s (.fa 56 (.t 11) 1), .s (.store 1 (.t 56) (.t 52)), .s (.fa 57 (.t 11) 2), .s (.store 6 (.t 57) (.t 54)), .s (.fa 58 (.t 11) 8), .s (.store 6 (.t 58) (.t 55))] (.tk 0 (.tk 1 (.tk 2 (.tk 3 (.tk 5 (.alt 4 false (.one 6 true (.tk 7 (.one 8 true (.tk 9 (.one 10 true (.done (some [6, 10, 11]))))))) (.alt 6 true (.tk 7 (.alt 4 false (.one 8 true (.tk 9 (.one 10 true (.done (some [6, 10, 11]))))) (.alt 8 true (.one 4 false (.tk 9 (.one 10 true (.done (some [6, 10, 11]))))) (.nil)))) (.nil)))))))))) (.seq (.reg [.s (.bin 60 .eql (.t 19) (.k (.v (.c (.int .i64 13))))), .s (.mv 59 (.t 60))]) (.cond (.t 59) (.seq (.reg [.s (.fa 61 (.t 7) 0), .s (.load 62 false 1 (.t 61)), .s (.bin 63 .eql (.t 62) (.k (.v (.c (.int .i64 0)))))]) (.cond (.t 63) (.reg [.s (.load 64 true 6 (.t 6)), .s (.fa 65 (.t 6) 0), .s (.load 66 false 1 (.t 65)), .s (.fa 67 (.t 5) 4), .s (.load 68 false 1 (.t 67)), .s (.bin 69 .add (.t 66) (.t 68)), .s (.call (some 70) 243 [(.t 64), (.t 69)]), .s (.fa 71 (.t 11) 8), .s (.store 6 (.t 71) (.t 70))]) (.skip))) (.seq (.reg [.s (.bin 73 .eql (.t 19) (.k (.v (.c (.int .i64 14))))), .s (.mv 72 (.t 73))]) (.cond (.t 72) (.seq (.reg [.s (.load 74 true 6 (.t 7)), .s (.fa 75 (.t 7) 0), .s (.load 76 false 1 (.t 75)), .s (.call (some 77) 80 [(.t 74), (.t 76), (.k (.v (.c (.int .i64 32))))]), .s (.fa 78 (.t 11) 0), .s (.store 1 (.t 78) (.t 77))]) (.reg [.s (.fa 79 (.t 7) 2), .s (.fa 80 (.t 79) 0), .s (.load 81 false 1 (.t 80)), .s (.fa 82 (.t 11) 21), .s (.store 1 (.t 82) (.t 81))])) (.seq (.reg [.s (.bin 84 .eql (.t 19) (.k (.v (.c (.int .i64 15))))), .s (.mv 83 (.t 84))]) (.cond (.t 83) (.reg [.s (.fa 85 (.t 11) 0), .s (.store 1 (.t 85) (.k (.v (.c (.int .i64 5)))))]) (.seq (.reg [.s (.load 20 true 5 (.t 5)), .s (.call (some 21) 174 [(.t 20), (.k (.v (.c (.int .u8 82))))])]) (.cond (.t 21) (.seq (.reg [.s (.fa 22 (.t 5) 1), .s (.load 23 false 1 (.t 22)), .s (.fa 24 (.t 11) 1), .s (.store 1 (.t 24) (.t 23))]) (.seq (.reg [.s (.fa 25 (.t 5) 1), .s (.load 26 false 1 (.t 25)), .s (.bin 27 .geq (.t 26) (.k (.v (.c (.int .i64 0)))))]) (.cond (.t 27) (.reg [.s (.load 28 true 5 (.t 5)), .s (.load 29 true 6 (.t 7)), .s (.load 30 true 6 (.t 8)), .s (.load 31 true 6 (.t 9)), .s (.call (some 32) 244 [(.t 28), (.t 29), (.t 30), (.t 31)]), .s (.fa 33 (.t 11) 2), .s (.store 6 (.t 33) (.t 32))]) (.skip)))) (.skip))))))))))))))) (.seq (.seq (.reg [.s (.fa 86 (.t 11) 0), .s (.load 87 false 1 (.t 86)), .s (.bin 88 .neq (.t 87) (.k (.v (.c (.int .i64 0)))))]) (.cond (.t 88) (.seq (.reg [.s (.fa 89 (.t 11) 0), .s (.load 90 false 1 (.t 89)), .s (.load 91 true 6 (.t 6)), .s (.call (some 92) 216 [(.t 90), (.t 91)]), .s (.store 22 (.t 10) (.t 92))]) (.ret)) (.skip))) (.seq (.reg [.s (.load 93 true 22 (.t 11)), .s (.store 22 (.t 10) (.t 93))]) (.ret)))))⟩
def c_impl_Work : Fun := ⟨219, [], fun ts K => as5 ts fun t0 t1 t2 t3 t4 => arG pInstT t0 fun x => arG pWordT t1 fun pc => arG pWordT t2 fun a => arG pWordT t3 fun b => arG pWordT t4 fun got => K (tG ((workE x pc a b got).tc [])) []⟩
theorem run_impl_Work (x : Inst) (pc : Word) (a : Word) (b : Word) (got : Word) : runK [c_impl_Try, c_impl_hasPart, c_impl_trapped, c_impl_Point, c_impl_made] (0) [] pf_impl_Work [tG (x.tc []), tG (pc.tc []), tG (a.tc []), tG (b.tc []), tG (got.tc [])] fun r o => r = tG ((workE x pc a b got).tc []) ∧ o = [] := by
  have w1 := True.intro
  conv => whnf
  repeat' (first | (refine sel_i (fun h => ?_) (fun h => ?_) <;> conv => whnf) | (refine chk_c ?_ ?_ <;> conv => whnf) | (refine And.intro ?_ rfl) | (refine And.intro ?_ ?_ <;> conv => whnf))
  all_goals (try simp only [etaKey, etaWord, etaInst, etaEff, bne_iff_ne, ne_eq, bne_eq_false_iff_eq, beq_iff_eq, beq_eq_false_iff_ne, Bool.not_eq_true', Bool.not_eq_false', decide_eq_true_eq, decide_eq_false_iff_not, ge_iff_le] at *)
  all_goals first
    | (exact absurd trivial h)
    | (exfalso; omega)
    | (refine ⟨?_⟩; first | assumption | omega | decide)
    | (unfold workE nextW; simp only [*, ge_iff_le, ne_eq, not_true_eq_false, not_false_eq_true, if_true, if_false, Int.reduceEq, Bool.false_eq_true]; rfl)
    | trace_state
theorem ok_impl_Work : FunOk Try.prog c_impl_Work := funOk (E := [c_impl_Try, c_impl_hasPart, c_impl_trapped, c_impl_Point, c_impl_made]) (envOk_cons ok_impl_Try (envOk_cons ok_impl_hasPart (envOk_cons ok_impl_trapped (envOk_cons ok_impl_Point (envOk_cons ok_impl_made (envOk_nil)))))) mixd Try.func219 (pf := pf_impl_Work) (by kernel_rfl) fun ts K h => by
  obtain ⟨t0, t1, t2, t3, t4, e0, h⟩ := as5_out h
  subst e0
  obtain ⟨x, e1, hq⟩ := arG_out rd_inst h
  clear h
  subst e1
  have h := hq
  clear hq
  obtain ⟨pc, e1, hq⟩ := arG_out rd_word h
  clear h
  subst e1
  have h := hq
  clear hq
  obtain ⟨a, e1, hq⟩ := arG_out rd_word h
  clear h
  subst e1
  have h := hq
  clear hq
  obtain ⟨b, e1, hq⟩ := arG_out rd_word h
  clear h
  subst e1
  have h := hq
  clear hq
  obtain ⟨got, e1, hq⟩ := arG_out rd_word h
  clear h
  subst e1
  have h := hq
  clear hq
  exact ⟨_, _, h, Nat.le_of_ble_eq_true (show Nat.ble 5 Try.f219.ntmps = true by kernel_rfl), _, run_impl_Work x pc a b got⟩

def memE (m : Mem) (x : Inst) (a b : Word) : Word × Int :=
  if x.op = 10 then readM m a (IntKind.i64.wrap (a.n + x.n)) else if x.op = 11 then (zW, writeC m a (IntKind.i64.wrap (a.n + x.n)) b) else (zW, 0)
def effE (l : List Inst) (s : State) : Eff :=
  let x := (fetchI l s.pc).1
  let a := s.regs.getD x.a.toNat (FT.zero .word)
  let b := s.regs.getD x.b.toNat (FT.zero .word)
  if (fetchI l s.pc).2 ≠ 0 then trapE (fetchI l s.pc).2 s.pc else
  if (memE s.mem x a b).2 ≠ 0 then trapE (memE s.mem x a b).2 s.pc else workE x s.pc a b (memE s.mem x a b).1
def putE (s : State) (e : Eff) : State :=
  ⟨if inR e.r 0 7 then s.regs.set e.r.toNat e.val else s.regs, e.next,
   ⟨if inR e.addr 0 23 then s.mem.words.set e.addr.toNat e.put else s.mem.words, if inR e.drop 0 23 then s.mem.gone.set e.drop.toNat true else s.mem.gone⟩, s.trap⟩
abbrev zState : State := ⟨[], zW, ⟨[], []⟩, 0⟩
def stepS (l : List Inst) (s : State) : State :=
  if stateOk s = false then zState else if s.trap ≠ 0 then s else if (effE l s).trap ≠ 0 then ⟨s.regs, s.pc, s.mem, (effE l s).trap⟩ else putE s (effE l s)
def LenOk (s : State) : Prop := s.regs.length = 8 ∧ s.mem.words.length = 24 ∧ s.mem.gone.length = 24
theorem stateOk_len {s : State} (h : stateOk s = true) : LenOk s := by
  simp only [stateOk, memoryOk, Bool.and_eq_true, decide_eq_true_eq] at h
  exact ⟨h.1.1.1.1, h.1.2.1.1, h.1.2.1.2⟩
theorem LenOk.l {s : State} (h : LenOk s) : LState s 2147483647 := by
  obtain ⟨h1, h2, h3⟩ := h; exact ⟨by omega, by omega, by omega⟩
theorem fld_in {v : Int} {b : Bool} (h : fld v b = true) : 0 ≤ v ∧ v ≤ 7 := by
  simp only [fld, Bool.and_eq_true, inR_t] at h; exact h.1
theorem fetchI_ok {l : List Inst} {pc : Word} (h : (fetchI l pc).2 = 0) : insOk (fetchI l pc).1 = true := by
  unfold fetchI at h ⊢
  split at h
  · contradiction
  · rename_i h1
    rw [if_neg h1]
    split at h
    · cases h
    · rename_i h2
      rw [if_neg h2]
      cases e : insOk (l.getD pc.n.toNat (FT.zero .inst)) with
      | true => rfl
      | false => exact absurd (.inr e) h2
theorem insOk_in {x : Inst} (h : insOk x = true) : (0 ≤ x.a ∧ x.a ≤ 7) ∧ (0 ≤ x.b ∧ x.b ≤ 7) := by
  simp only [insOk, Bool.and_eq_true] at h
  exact ⟨fld_in h.1.1.1.2, fld_in h.1.1.2⟩
theorem fetchI_in {l : List Inst} {pc : Word} (h : (fetchI l pc).2 = 0) : (0 ≤ (fetchI l pc).1.a ∧ (fetchI l pc).1.a ≤ 7) ∧ (0 ≤ (fetchI l pc).1.b ∧ (fetchI l pc).1.b ≤ 7) := insOk_in (fetchI_ok h)
theorem memE_10 {m : Mem} {x : Inst} {a b : Word} (h : x.op = 10) : memE m x a b = readM m a (IntKind.i64.wrap (a.n + x.n)) := if_pos h
theorem memE_11 {m : Mem} {x : Inst} {a b : Word} (h0 : ¬ x.op = 10) (h : x.op = 11) : memE m x a b = (zW, writeC m a (IntKind.i64.wrap (a.n + x.n)) b) := by unfold memE; rw [if_neg h0, if_pos h]
theorem memE_x {m : Mem} {x : Inst} {a b : Word} (h0 : ¬ x.op = 10) (h : ¬ x.op = 11) : memE m x a b = (zW, 0) := by unfold memE; rw [if_neg h0, if_neg h]

def pf_impl_cloneState : PF := ⟨[.c 2 true 10], .seq (.reg [.s (.box 1 (.t 0)), .s (.alloc 2 [.nils .word, .int .i64 0, .ff, .int .i64 0, .int .i64 0, .int .i64 0, .int .i64 0, .nils .word, .nils .bool, .int .i64 0])]) (.seq (.rgd [] [.s (.fa 3 (.t 1) 0), .s (.load 4 false 1 (.t 3)), .s (.call (some 5) 155 [(.t 4)]), .s (.fa 6 (.t 1) 7), .s (.load 7 true 2 (.t 6)), .s (.call (some 8) 175 [(.t 7)]), .s (.fa 9 (.t 1) 0), .s (.store 1 (.t 9) (.t 5)), .s (.fa 10 (.t 1) 7), .s (.store 2 (.t 10) (.t 8))] (.tk 0 (.tk 1 (.tk 3 (.tk 4 (.one 2 false (.tk 6 (.one 5 true (.one 7 true (.tk 8 (.one 9 true (.done none)))))))))))) (.seq (.reg [.s (.load 11 true 10 (.t 1)), .s (.store 10 (.t 2) (.t 11))]) (.ret)))⟩
def c_impl_cloneState : Fun := ⟨126, [], fun ts K => as1 ts fun t0 => arG pStateT t0 fun s => chk (LState s 2147483647) (K (tG (s.tc true [])) [])⟩
theorem run_impl_cloneState (s : State) (hpre : LState s 2147483647) : runK [c_slices_Clone_Word, c_impl_cloneMemory] (0) [] pf_impl_cloneState [tG (s.tc false [])] fun r o => r = tG (s.tc true []) ∧ o = [] := by
  obtain ⟨l1, l2, l3⟩ := hpre
  conv => whnf
  repeat' (first | (refine chk_c ?_ ?_ <;> conv => whnf) | (refine And.intro ?_ ?_ <;> conv => whnf))
  all_goals first
    | (refine ⟨?_⟩; omega)
    | (refine ⟨?_⟩; simp; done)
    | (refine ⟨?_⟩; simp [LMem, LTwo] at *; omega)
    | rfl
    | exact True.intro
    | exact ⟨rfl, rfl⟩
theorem ok_impl_cloneState : FunOk Try.prog c_impl_cloneState := funOk (E := [c_slices_Clone_Word, c_impl_cloneMemory]) (envOk_cons ok_slices_Clone_Word (envOk_cons ok_impl_cloneMemory (envOk_nil))) mixd Try.func126 (pf := pf_impl_cloneState) (by kernel_rfl) fun ts K h => by
  obtain ⟨t0, e0, h⟩ := as1_out h
  subst e0
  obtain ⟨s, e1, hq⟩ := arG_out rd_state h
  clear h
  subst e1
  have h := hq
  clear hq
  obtain ⟨hpre, h⟩ := chk_o h
  exact ⟨_, _, h, Nat.le_of_ble_eq_true (show Nat.ble 1 Try.f126.ntmps = true by kernel_rfl), _, run_impl_cloneState s hpre⟩

def pf_impl_effectOf : PF := ⟨[.c 4 true 22], .seq (.reg [.s (.box 3 (.t 1)), .s (.alloc 4 [.int .i64 0, .int .i64 0, .int .i64 0, .ff, .int .i64 0, .int .i64 0, .int .i64 0, .int .i64 0, .int .i64 0, .ff, .int .i64 0, .int .i64 0, .int .i64 0, .int .i64 0, .int .i64 0, .int .i64 0, .ff, .int .i64 0, .int .i64 0, .int .i64 0, .int .i64 0, .int .i64 0])]) (.seq (.reg [.s (.mv 11 (.t 0)), .s (.fa 12 (.t 3) 1), .s (.load 13 true 6 (.t 12)), .s (.call (some 14) 215 [(.t 11), (.t 13)]), .s (.mv 10 (.t 14)), .s (.ext 15 (.t 10) 0), .s (.ext 16 (.t 10) 1), .s (.alloc 5 [.int .i64 0, .int .i64 0, .int .i64 0, .int .i64 0, .int .i64 0]), .s (.store 5 (.t 5) (.t 15)), .s (.mv 6 (.t 16))]) (.seq (.seq (.reg [.s (.mv 17 (.t 6)), .s (.bin 18 .neq (.t 17) (.k (.v (.c (.int .i64 0)))))]) (.cond (.t 18) (.seq (.reg [.s (.mv 19 (.t 6)), .s (.fa 20 (.t 3) 1), .s (.load 21 true 6 (.t 20)), .s (.call (some 22) 216 [(.t 19), (.t 21)]), .s (.store 22 (.t 4) (.t 22))]) (.ret)) (.skip))) (.seq (.rgd [] [.s (.fa 23 (.t 3) 0), .s (.load 24 false 1 (.t 23)), .s (.fa 25 (.t 5) 2), .s (.load 26 false 1 (.t 25)), .s (.ia 27 .word (.t 24) (.t 26)), .s (.load 28 true 6 (.t 27)), .s (.fa 29 (.t 3) 0), .s (.load 30 false 1 (.t 29)), .s (.fa 31 (.t 5) 3), .s (.load 32 false 1 (.t 31)), .s (.ia 33 .word (.t 30) (.t 32)), .s (.load 34 true 6 (.t 33)), .s (.alloc 7 [.int .i64 0, .ff, .int .i64 0, .int .i64 0, .int .i64 0, .int .i64 0]), .s (.alloc 8 [.int .i64 0, .ff, .int .i64 0, .int .i64 0, .int .i64 0, .int .i64 0]), .s (.store 6 (.t 7) (.t 28)), .s (.store 6 (.t 8) (.t 34))] (.tk 0 (.tk 1 (.tk 2 (.tk 3 (.tk 4 (.tk 5 (.tk 6 (.tk 7 (.tk 8 (.tk 9 (.tk 10 (.tk 11 (.alt 12 false (.one 13 false (.one 14 false (.one 15 true (.done (some [3, 4, 5, 6, 7, 8]))))) (.alt 13 false (.one 12 false (.one 14 false (.one 15 true (.done (some [3, 4, 5, 6, 7, 8]))))) (.nil)))))))))))))))) (.seq (.reg [.s (.build 35 [.int .i64 0, .ff, .int .i64 0, .int .i64 0, .int .i64 0, .int .i64 0] []), .s (.alloc 9 [.int .i64 0, .ff, .int .i64 0, .int .i64 0, .int .i64 0, .int .i64 0]), .s (.store 6 (.t 9) (.t 35))]) (.seq (.seq (.reg [.s (.fa 36 (.t 5) 0), .s (.load 37 false 1 (.t 36))]) (.blk 0 (.seq (.reg [.s (.bin 39 .eql (.t 37) (.k (.v (.c (.int .i64 10))))), .s (.mv 38 (.t 39))]) (.cond (.t 38) (.reg [.s (.fa 41 (.t 3) 7), .s (.load 42 true 2 (.t 41)), .s (.load 43 true 6 (.t 7)), .s (.fa 44 (.t 7) 0), .s (.load 45 false 1 (.t 44)), .s (.fa 46 (.t 5) 4), .s (.load 47 false 1 (.t 46)), .s (.bin 48 .add (.t 45) (.t 47)), .s (.call (some 49) 217 [(.t 42), (.t 43), (.t 48)]), .s (.mv 40 (.t 49)), .s (.ext 50 (.t 40) 0), .s (.ext 51 (.t 40) 1), .s (.store 6 (.t 9) (.t 50)), .s (.mv 6 (.t 51))]) (.seq (.reg [.s (.bin 53 .eql (.t 37) (.k (.v (.c (.int .i64 11))))), .s (.mv 52 (.t 53))]) (.cond (.t 52) (.reg [.s (.fa 54 (.t 3) 7), .s (.load 55 true 2 (.t 54)), .s (.load 56 true 6 (.t 7)), .s (.fa 57 (.t 7) 0), .s (.load 58 false 1 (.t 57)), .s (.fa 59 (.t 5) 4), .s (.load 60 false 1 (.t 59)), .s (.bin 61 .add (.t 58) (.t 60)), .s (.load 62 true 6 (.t 8)), .s (.call (some 63) 218 [(.t 55), (.t 56), (.t 61), (.t 62)]), .s (.mv 6 (.t 63))]) (.skip))))))) (.seq (.seq (.reg [.s (.mv 64 (.t 6)), .s (.bin 65 .neq (.t 64) (.k (.v (.c (.int .i64 0)))))]) (.cond (.t 65) (.seq (.reg [.s (.mv 66 (.t 6)), .s (.fa 67 (.t 3) 1), .s (.load 68 true 6 (.t 67)), .s (.call (some 69) 216 [(.t 66), (.t 68)]), .s (.store 22 (.t 4) (.t 69))]) (.ret)) (.skip))) (.seq (.reg [.s (.load 70 true 5 (.t 5)), .s (.fa 71 (.t 3) 1), .s (.load 72 true 6 (.t 71)), .s (.load 73 true 6 (.t 7)), .s (.load 74 true 6 (.t 8)), .s (.load 75 true 6 (.t 9)), .s (.call (some 76) 219 [(.t 70), (.t 72), (.t 73), (.t 74), (.t 75)]), .s (.store 22 (.t 4) (.t 76))]) (.ret))))))))⟩
def c_impl_effectOf : Fun := ⟨176, [], fun ts K => as2 ts fun t0 t1 => arC (pL .inst) t0 fun l => arG pStateT t1 fun s => chk (l.length ≤ 2147483647 ∧ LenOk s) (K (tG ((effE l s).tc [])) [])⟩
theorem run_impl_effectOf (l : List (FT.Ty .inst)) (s : State) (hpre : l.length ≤ 2147483647 ∧ LenOk s) : runK [c_impl_Fetch, c_impl_trapped, c_impl_Read, c_impl_writeCode, c_impl_Work] (0) [] pf_impl_effectOf [tL false .inst l, tG (s.tc false [])] fun r o => r = tG ((effE l s).tc []) ∧ o = [] := by
  obtain ⟨l1, l2, l3, l4⟩ := hpre
  have l5 : LMem s.mem 2147483647 := ⟨by omega, by omega⟩
  conv => whnf
  repeat' (first | (refine sel_i (fun h => ?_) (fun h => ?_) <;> conv => whnf) | (refine chk_c ?_ ?_ <;> conv => whnf) | (refine And.intro ?_ rfl) | (refine And.intro ?_ ?_ <;> conv => whnf))
  all_goals (try simp only [etaKey, etaWord, etaInst, etaEff, etaMemory, bne_iff_ne, ne_eq, bne_eq_false_iff_eq, beq_iff_eq, beq_eq_false_iff_ne, Bool.not_eq_true', Bool.not_eq_false', decide_eq_true_eq, decide_eq_false_iff_not] at *)
  all_goals first
    | (refine ⟨?_⟩; first | assumption | omega | decide)
    | contradiction
    | (refine ⟨?_⟩; have := fetchI_in (by assumption); omega)
    | (unfold effE memE; simp only [*, ne_eq, not_true_eq_false, not_false_eq_true, if_true, if_false, Int.reduceEq]; rfl)
    | trace_state
theorem ok_impl_effectOf : FunOk Try.prog c_impl_effectOf := funOk (E := [c_impl_Fetch, c_impl_trapped, c_impl_Read, c_impl_writeCode, c_impl_Work]) (envOk_cons ok_impl_Fetch (envOk_cons ok_impl_trapped (envOk_cons ok_impl_Read (envOk_cons ok_impl_writeCode (envOk_cons ok_impl_Work (envOk_nil)))))) mixd Try.func176 (pf := pf_impl_effectOf) (by kernel_rfl) fun ts K h => by
  obtain ⟨t0, t1, e0, h⟩ := as2_out h
  subst e0
  obtain ⟨l, e1, hq⟩ := arC_out (rd_l .inst) h
  clear h
  subst e1
  have h := hq
  clear hq
  obtain ⟨s, e1, hq⟩ := arG_out rd_state h
  clear h
  subst e1
  have h := hq
  clear hq
  obtain ⟨hpre, h⟩ := chk_o h
  exact ⟨_, _, h, Nat.le_of_ble_eq_true (show Nat.ble 2 Try.f176.ntmps = true by kernel_rfl), _, run_impl_effectOf l s hpre⟩

def pf_impl_State_put : PF := ⟨[], .seq (.reg [.s (.box 3 (.t 1))]) (.seq (.seq (.reg [.s (.fa 4 (.t 3) 1), .s (.load 5 false 1 (.t 4)), .s (.call (some 6) 98 [(.t 5), (.k (.v (.c (.int .i64 0)))), (.k (.v (.c (.int .i64 7))))])]) (.cond (.t 6) (.rgd [] [.s (.mv 7 (.t 0)), .s (.nchk 8 (.t 7)), .s (.fa 9 (.t 8) 0), .s (.load 10 false 1 (.t 9)), .s (.fa 11 (.t 3) 1), .s (.load 12 false 1 (.t 11)), .s (.fa 13 (.t 3) 2), .s (.load 14 true 6 (.t 13)), .s (.ia 15 .word (.t 10) (.t 12)), .s (.store 6 (.t 15) (.t 14))] (.tk 0 (.tk 1 (.tk 2 (.tk 3 (.tk 4 (.tk 5 (.tk 6 (.tk 7 (.tk 8 (.one 9 true (.done none)))))))))))) (.skip))) (.seq (.seq (.reg [.s (.fa 16 (.t 3) 14), .s (.load 17 false 1 (.t 16)), .s (.call (some 18) 98 [(.t 17), (.k (.v (.c (.int .i64 0)))), (.k (.v (.c (.int .i64 23))))])]) (.cond (.t 18) (.rgd [] [.s (.mv 19 (.t 0)), .s (.nchk 20 (.t 19)), .s (.fa 21 (.t 20) 7), .s (.fa 22 (.t 21) 0), .s (.load 23 false 1 (.t 22)), .s (.fa 24 (.t 3) 14), .s (.load 25 false 1 (.t 24)), .s (.fa 26 (.t 3) 15), .s (.load 27 true 6 (.t 26)), .s (.ia 28 .word (.t 23) (.t 25)), .s (.store 6 (.t 28) (.t 27))] (.tk 0 (.tk 1 (.tk 2 (.tk 3 (.tk 4 (.tk 5 (.tk 6 (.tk 7 (.tk 8 (.tk 9 (.one 10 true (.done none))))))))))))) (.skip))) (.seq (.seq (.reg [.s (.fa 29 (.t 3) 21), .s (.load 30 false 1 (.t 29)), .s (.call (some 31) 98 [(.t 30), (.k (.v (.c (.int .i64 0)))), (.k (.v (.c (.int .i64 23))))])]) (.cond (.t 31) (.rgd [] [.s (.mv 32 (.t 0)), .s (.nchk 33 (.t 32)), .s (.fa 34 (.t 33) 7), .s (.fa 35 (.t 34) 1), .s (.load 36 false 1 (.t 35)), .s (.fa 37 (.t 3) 21), .s (.load 38 false 1 (.t 37)), .s (.ia 39 .bool (.t 36) (.t 38)), .s (.store 1 (.t 39) (.k (.v (.c .tt))))] (.tk 0 (.tk 1 (.tk 2 (.tk 3 (.tk 4 (.tk 5 (.tk 6 (.tk 7 (.one 8 true (.done none))))))))))) (.skip))) (.reg [.s (.mv 40 (.t 0)), .s (.fa 41 (.t 3) 8), .s (.load 42 true 6 (.t 41)), .s (.nchk 43 (.t 40)), .s (.fa 44 (.t 43) 1), .s (.store 6 (.t 44) (.t 42))]))))⟩
def c_impl_State_put : Fun := ⟨177, [true, false], fun ts K => as2 ts fun t0 t1 => arQ pStateO t0 fun s => arG pEffT t1 fun e => chk (LenOk s) (K (.tup []) ([.v (.ptr true 0 ((putE s e).tc true []))]))⟩
theorem run_impl_State_put (s : State) (e : Eff) (hpre : LenOk s) : runK [c_impl_in] (0) [true, false] pf_impl_State_put [.v (.ptr true 0 (s.tc true [])), tG (e.tc [])] fun r o => r = .tup [] ∧ o = [.v (.ptr true 0 ((putE s e).tc true []))] := by
  obtain ⟨l2, l3, l4⟩ := hpre
  conv => whnf
  repeat' (first | (refine sel_i (fun h => ?_) (fun h => ?_) <;> conv => whnf) | (refine chk_c ?_ ?_ <;> conv => whnf) | (refine And.intro ?_ rfl) | (refine And.intro ?_ ?_ <;> conv => whnf))
  all_goals (try simp only [etaKey, etaWord, etaInst, etaEff, etaMemory, bne_iff_ne, ne_eq, bne_eq_false_iff_eq, beq_iff_eq, beq_eq_false_iff_ne, Bool.not_eq_true', Bool.not_eq_false', decide_eq_true_eq, decide_eq_false_iff_not] at *)
  all_goals first
    | (refine ⟨?_⟩; simp only [inR_t, inR_f] at *; omega)
    | (unfold putE; simp only [*, if_true, if_false, Bool.false_eq_true]; first | done | rfl)
    | trace_state
theorem ok_impl_State_put : FunOk Try.prog c_impl_State_put := funOk (E := [c_impl_in]) (envOk_cons ok_impl_in (envOk_nil)) mixd Try.func177 (pf := pf_impl_State_put) (by kernel_rfl) fun ts K h => by
  obtain ⟨t0, t1, e0, h⟩ := as2_out h
  subst e0
  obtain ⟨s, e1, hq⟩ := arQ_out rd_stateO h
  clear h
  subst e1
  have h := hq
  clear hq
  obtain ⟨e, e1, hq⟩ := arG_out rd_eff h
  clear h
  subst e1
  have h := hq
  clear hq
  obtain ⟨hpre, h⟩ := chk_o h
  exact ⟨_, _, h, Nat.le_of_ble_eq_true (show Nat.ble 2 Try.f177.ntmps = true by kernel_rfl), _, run_impl_State_put s e hpre⟩

theorem stepS_no {l : List Inst} {s : State} (h : stateOk s = false) : stepS l s = zState := if_pos h
theorem stepS_trap {l : List Inst} {s : State} (h : stateOk s = true) (h2 : ¬ s.trap = 0) : stepS l s = s := by
  unfold stepS; rw [if_neg (by rw [h]; decide), if_pos h2]
theorem stepS_e {l : List Inst} {s : State} (h : stateOk s = true) (h2 : s.trap = 0) (h3 : ¬ (effE l s).trap = 0) : stepS l s = ⟨s.regs, s.pc, s.mem, (effE l s).trap⟩ := by
  unfold stepS; rw [if_neg (by rw [h]; decide), if_neg (by simpa using h2), if_pos h3]
theorem stepS_0 {l : List Inst} {s : State} (h : stateOk s = true) (h2 : s.trap = 0) (h3 : (effE l s).trap = 0) : stepS l s = putE s (effE l s) := by
  unfold stepS; rw [if_neg (by rw [h]; decide), if_neg (by simpa using h2), if_neg (by simpa using h3)]
def pf_impl_Step : PF := ⟨[.c 4 true 10], .seq (.reg [.s (.box 3 (.t 1)), .s (.alloc 4 [.nils .word, .int .i64 0, .ff, .int .i64 0, .int .i64 0, .int .i64 0, .int .i64 0, .nils .word, .nils .bool, .int .i64 0])]) (.seq (.seq (.reg [.s (.load 7 true 10 (.t 3)), .s (.call (some 8) 43 [(.t 7)]), .s (.bnot 9 (.t 8))]) (.cond (.t 9) (.seq (.reg [.s (.build 10 [.nils .word, .int .i64 0, .ff, .int .i64 0, .int .i64 0, .int .i64 0, .int .i64 0, .nils .word, .nils .bool, .int .i64 0] []), .s (.store 10 (.t 4) (.t 10))]) (.ret)) (.skip))) (.seq (.reg [.s (.load 11 true 10 (.t 3)), .s (.call (some 12) 126 [(.t 11)]), .s (.alloc 5 [.nils .word, .int .i64 0, .ff, .int .i64 0, .int .i64 0, .int .i64 0, .int .i64 0, .nils .word, .nils .bool, .int .i64 0]), .s (.store 10 (.t 5) (.t 12))]) (.seq (.seq (.reg [.s (.fa 13 (.t 3) 9), .s (.load 14 false 1 (.t 13)), .s (.bin 15 .neq (.t 14) (.k (.v (.c (.int .i64 0)))))]) (.cond (.t 15) (.seq (.reg [.s (.load 16 true 10 (.t 5)), .s (.store 10 (.t 4) (.t 16))]) (.ret)) (.skip))) (.seq (.reg [.s (.mv 17 (.t 0)), .s (.load 18 true 10 (.t 3)), .s (.call (some 19) 176 [(.t 17), (.t 18)]), .s (.alloc 6 [.int .i64 0, .int .i64 0, .int .i64 0, .ff, .int .i64 0, .int .i64 0, .int .i64 0, .int .i64 0, .int .i64 0, .ff, .int .i64 0, .int .i64 0, .int .i64 0, .int .i64 0, .int .i64 0, .int .i64 0, .ff, .int .i64 0, .int .i64 0, .int .i64 0, .int .i64 0, .int .i64 0]), .s (.store 22 (.t 6) (.t 19))]) (.seq (.seq (.reg [.s (.fa 20 (.t 6) 0), .s (.load 21 false 1 (.t 20)), .s (.bin 22 .neq (.t 21) (.k (.v (.c (.int .i64 0)))))]) (.cond (.t 22) (.seq (.reg [.s (.fa 23 (.t 6) 0), .s (.load 24 false 1 (.t 23)), .s (.fa 25 (.t 5) 9), .s (.store 1 (.t 25) (.t 24))]) (.seq (.reg [.s (.load 26 true 10 (.t 5)), .s (.store 10 (.t 4) (.t 26))]) (.ret))) (.skip))) (.seq (.reg [.s (.load 27 true 22 (.t 6)), .s (.call (some 28) 177 [(.t 5), (.t 27)])]) (.seq (.reg [.s (.load 29 true 10 (.t 5)), .s (.store 10 (.t 4) (.t 29))]) (.ret))))))))⟩
def c_impl_Step : Fun := ⟨127, [], fun ts K => as2 ts fun t0 t1 => arC (pL .inst) t0 fun l => arG pStateT t1 fun s => chk (l.length ≤ 2147483647 ∧ LState s 2147483647) (K (tG ((stepS l s).tc true [])) [])⟩
theorem run_impl_Step (l : List (FT.Ty .inst)) (s : State) (hpre : l.length ≤ 2147483647 ∧ LState s 2147483647) : runK [c_impl_StateOk, c_impl_cloneState, c_impl_effectOf, c_impl_State_put] (0) [] pf_impl_Step [tL false .inst l, tG (s.tc false [])] fun r o => r = tG ((stepS l s).tc true []) ∧ o = [] := by
  obtain ⟨l1, l2⟩ := hpre
  conv => whnf
  repeat' (first | (refine sel_i (fun h => ?_) (fun h => ?_) <;> conv => whnf) | (refine chk_c ?_ ?_ <;> conv => whnf) | (refine And.intro ?_ rfl) | (refine And.intro ?_ ?_ <;> conv => whnf))
  all_goals (try simp only [etaKey, etaWord, etaInst, etaEff, etaMemory, etaState, bne_iff_ne, ne_eq, bne_eq_false_iff_eq, beq_iff_eq, beq_eq_false_iff_ne, Bool.not_eq_true', Bool.not_eq_false', decide_eq_true_eq, decide_eq_false_iff_not] at *)
  all_goals first
    | (refine ⟨?_⟩; assumption)
    | (refine ⟨?_⟩; exact stateOk_len (by assumption))
    | (refine ⟨?_⟩; exact ⟨l1, stateOk_len (by assumption)⟩)
    | (rw [stepS_no (by assumption)]; rfl)
    | (rw [stepS_trap (by assumption) (by assumption)]; rfl)
    | (rw [stepS_e (by assumption) (by assumption) (by assumption)]; rfl)
    | (rw [stepS_0 (by assumption) (by assumption) (by assumption)]; rfl)
    | trace_state
theorem ok_impl_Step : FunOk Try.prog c_impl_Step := funOk (E := [c_impl_StateOk, c_impl_cloneState, c_impl_effectOf, c_impl_State_put]) (envOk_cons ok_impl_StateOk (envOk_cons ok_impl_cloneState (envOk_cons ok_impl_effectOf (envOk_cons ok_impl_State_put (envOk_nil))))) mixd Try.func127 (pf := pf_impl_Step) (by kernel_rfl) fun ts K h => by
  obtain ⟨t0, t1, e0, h⟩ := as2_out h
  subst e0
  obtain ⟨l, e1, hq⟩ := arC_out (rd_l .inst) h
  clear h
  subst e1
  have h := hq
  clear hq
  obtain ⟨s, e1, hq⟩ := arG_out rd_state h
  clear h
  subst e1
  have h := hq
  clear hq
  obtain ⟨hpre, h⟩ := chk_o h
  exact ⟨_, _, h, Nat.le_of_ble_eq_true (show Nat.ble 2 Try.f127.ntmps = true by kernel_rfl), _, run_impl_Step l s hpre⟩


theorem putE_len {s : State} {e : Eff} {n : Nat} (h : LState s n) : LState (putE s e) n := by
  obtain ⟨h1, h2, h3⟩ := h
  unfold putE
  refine ⟨?_, ?_, ?_⟩
  · dsimp only; split
    · rw [List.length_set]; exact h1
    · exact h1
  · dsimp only; split
    · rw [List.length_set]; exact h2
    · exact h2
  · dsimp only; split
    · rw [List.length_set]; exact h3
    · exact h3
theorem stepS_len {l : List Inst} {s : State} {n : Nat} (h : LState s n) : LState (stepS l s) n := by
  unfold stepS
  split
  · exact ⟨Nat.zero_le _, Nat.zero_le _, Nat.zero_le _⟩
  · split
    · exact h
    · split
      · exact h
      · exact putE_len h








def inGo (l : List Inst) : Nat → State → State × Nat
  | 0, s => (s, 0)
  | k + 1, s => if s.trap = 0 then ((inGo l k (stepS l s)).1, (inGo l k (stepS l s)).2 + 1) else (s, 0)
def inOrder (l : List Inst) (s : State) (n : Int) : State × Int :=
  if stateOk s = false then (zState, 0) else ((inGo l (min n 600).toNat s).1, ((inGo l (min n 600).toNat s).2 : Int))
theorem inOrder_no {l : List Inst} {s : State} {n : Int} (h : stateOk s = false) : inOrder l s n = (zState, 0) := if_pos h
theorem inGo_step {l : List Inst} {s v : State} {N k : Nat} (h : inGo l N s = ((inGo l (N - k) v).1, (inGo l (N - k) v).2 + k)) (hk : k < N) (ht : v.trap = 0) :
    inGo l N s = ((inGo l (N - (k + 1)) (stepS l v)).1, (inGo l (N - (k + 1)) (stepS l v)).2 + (k + 1)) := by
  rw [h, show N - k = (N - (k + 1)) + 1 by omega]
  rw [show inGo l ((N - (k + 1)) + 1) v = ((inGo l (N - (k + 1)) (stepS l v)).1, (inGo l (N - (k + 1)) (stepS l v)).2 + 1) from if_pos ht]
  simp only [Prod.mk.injEq, true_and]; omega
theorem inGo_end {l : List Inst} {s v : State} {N k : Nat} (h : inGo l N s = ((inGo l (N - k) v).1, (inGo l (N - k) v).2 + k)) (hk : ¬ k < N) : inGo l N s = (v, k) := by
  rw [h, show N - k = 0 by omega]; simp [inGo]
theorem inGo_trap {l : List Inst} {s v : State} {N k : Nat} (h : inGo l N s = ((inGo l (N - k) v).1, (inGo l (N - k) v).2 + k)) (ht : ¬ v.trap = 0) : inGo l N s = (v, k) := by
  rw [h]
  cases e : N - k with
  | zero => simp [inGo]
  | succ m => rw [show inGo l (m + 1) v = (v, 0) from if_neg ht]; simp
theorem inOrder_of {l : List Inst} {s v : State} {n : Int} {k : Nat} (h : stateOk s = true) (hg : inGo l (min n 600).toNat s = (v, k)) : inOrder l s n = (v, (k : Int)) := by
  unfold inOrder; rw [if_neg (by rw [h]; decide), hg]

def stC (v : State) (i j k : Nat) (r : List Cell) : List Cell := .sl false .word i :: v.pc.flat (.sl false .word j :: .sl false .bool k :: .int .i64 v.trap :: r)
def zSC : List Cell := [.nils .word, .int .i64 0, .ff, .int .i64 0, .int .i64 0, .int .i64 0, .int .i64 0, .nils .word, .nils .bool, .int .i64 0]

def lb_impl_InOrder_0 : PC := .seq (.seq (.reg [.s (.mv 16 (.t 9)), .s (.mv 17 (.t 2)), .s (.mm 18 false (.t 17) (.k (.v (.c (.int .i64 600))))), .s (.bin 19 .lss (.t 16) (.t 18)), .s (.mv 20 (.t 19)), .g 20 true (some 21) (.fa 21 (.t 8) 9), .g 20 true (some 22) (.load 22 false 1 (.t 21)), .g 20 true (some 23) (.bin 23 .eql (.t 22) (.k (.v (.c (.int .i64 0))))), .s (.pick 24 (.t 20) (.t 23) (.k (.v (.c .ff))))]) (.cond (.t 24) (.skip) (.exit 0))) (.blk 1 (.seq (.reg [.s (.mv 25 (.t 0)), .s (.load 26 true 10 (.t 8)), .s (.call (some 27) 127 [(.t 25), (.t 26)]), .s (.store 10 (.t 8) (.t 27))]) (.reg [.s (.mv 28 (.t 9)), .s (.bin 29 .add (.t 28) (.k (.v (.c (.int .i64 1))))), .s (.mv 9 (.t 29))])))
def pf_impl_InOrder : PF := ⟨[.c 6 true 10, .t 7], .seq (.reg [.s (.box 4 (.t 1)), .s (.alloc 6 [.nils .word, .int .i64 0, .ff, .int .i64 0, .int .i64 0, .int .i64 0, .int .i64 0, .nils .word, .nils .bool, .int .i64 0]), .s (.mv 7 (.k (.v (.c (.int .i64 0)))))]) (.seq (.seq (.reg [.s (.load 10 true 10 (.t 4)), .s (.call (some 11) 43 [(.t 10)]), .s (.bnot 12 (.t 11))]) (.cond (.t 12) (.seq (.reg [.s (.build 13 [.nils .word, .int .i64 0, .ff, .int .i64 0, .int .i64 0, .int .i64 0, .int .i64 0, .nils .word, .nils .bool, .int .i64 0] []), .s (.store 10 (.t 6) (.t 13)), .s (.mv 7 (.k (.v (.c (.int .i64 0)))))]) (.ret)) (.skip))) (.seq (.reg [.s (.load 14 true 10 (.t 4)), .s (.call (some 15) 126 [(.t 14)]), .s (.alloc 8 [.nils .word, .int .i64 0, .ff, .int .i64 0, .int .i64 0, .int .i64 0, .int .i64 0, .nils .word, .nils .bool, .int .i64 0]), .s (.store 10 (.t 8) (.t 15))]) (.seq (.reg [.s (.mv 9 (.k (.v (.c (.int .i64 0)))))]) (.seq (.blk 0 (.loop [0, 2, 6, 8, 9] lb_impl_InOrder_0)) (.seq (.reg [.s (.load 30 true 10 (.t 8)), .s (.mv 31 (.t 9)), .s (.store 10 (.t 6) (.t 30)), .s (.mv 7 (.t 31))]) (.ret))))))⟩
def c_impl_InOrder : Fun := ⟨52, [], fun ts K => as3 ts fun t0 t1 t2 => arC (pL .inst) t0 fun l => arG pStateT t1 fun s => arC (pI .i64) t2 fun n => chk (l.length ≤ 2147483647 ∧ LState s 2147483647) (K (.tup [.g ((inOrder l s n).1.tc true []), .c (.int .i64 (inOrder l s n).2)]) [])⟩
theorem run_impl_InOrder (l : List (FT.Ty .inst)) (s : State) (n : Int) (hpre : l.length ≤ 2147483647 ∧ LState s 2147483647) : runK [c_impl_StateOk, c_impl_cloneState, c_impl_Step] (602) [] pf_impl_InOrder [tL false .inst l, tG (s.tc false []), tI .i64 n] fun r o => r = .tup [.g ((inOrder l s n).1.tc true []), .c (.int .i64 (inOrder l s n).2)] ∧ o = [] := by
  obtain ⟨l1, l2⟩ := hpre
  conv => whnf
  refine chk_i l2 ?_
  conv => whnf
  refine sel_i (fun h => ?_) (fun h => ?_)
  · conv => whnf
    rw [inOrder_no (by simpa using h)]
    exact ⟨rfl, rfl⟩
  have hok : stateOk s = true := by simpa [etaKey, etaWord, etaMemory, etaState] using h
  clear h
  conv => whnf
  refine chk_i l2 ?_
  conv => whnf
  refine loop (α := Nat × State) (fun q => ⟨[(0, .v (.c (.sl false .inst 0))), (2, .v (.c (.int .i64 n))), (6, .v (.c (.ptr 1 0))), (8, .v (.c (.ptr 2 0))), (9, .v (.c (.int .i64 (q.1 : Int))))],
        [(5, some (.flat true .bool none q.2.mem.gone)), (4, some (.flat true .word none q.2.mem.words)), (3, some (.flat true .word none q.2.regs)), (2, some (.box true (stC q.2 3 4 5 []))), (1, some (.box true zSC)), (0, some (.flat false .inst none l))], nums.tail.tail.tail.tail.tail.tail, [], false, []⟩)
    (fun q => q.1 ≤ (min n 600).toNat ∧ LState q.2 2147483647 ∧ inGo l (min n 600).toNat s = ((inGo l ((min n 600).toNat - q.1) q.2).1, (inGo l ((min n 600).toNat - q.1) q.2).2 + q.1)) (fun q => 601 - q.1) (fun q R hI hR => ?_) (0, s) _ ⟨by simp, l2, rfl⟩ (by simp)
  obtain ⟨k, v⟩ := q
  obtain ⟨hk, hl, hg⟩ := hI
  dsimp only at hk hl hg
  dsimp only
  conv => whnf
  repeat' (first | (refine sel_i (fun h => ?_) (fun h => ?_) <;> conv => whnf) | (refine chk_c ?_ ?_ <;> conv => whnf) | (refine And.intro ?_ rfl) | (refine And.intro ?_ ?_ <;> conv => whnf))
  all_goals (try simp only [etaKey, etaWord, etaMemory, etaState, decide_eq_true_eq, decide_eq_false_iff_not, beq_iff_eq, beq_eq_false_iff_ne, ne_eq, Bool.false_eq_true] at *)
  all_goals first
    | (refine ⟨?_⟩; exact ⟨by assumption, by assumption⟩)
    | (rw [wrap_id (n := (k : Int) + 1) (by omega) (by omega)]; exact hR (k + 1, stepS l v) ⟨by dsimp only; omega, stepS_len hl, inGo_step hg (by omega) (by assumption)⟩ (by dsimp only; omega))
    | (rw [inOrder_of hok (inGo_end hg (by omega))]; rfl)
    | (rw [inOrder_of hok (inGo_trap hg (by assumption))]; rfl)
    | trace_state
theorem ok_impl_InOrder : FunOk Try.prog c_impl_InOrder := funOk (E := [c_impl_StateOk, c_impl_cloneState, c_impl_Step]) (envOk_cons ok_impl_StateOk (envOk_cons ok_impl_cloneState (envOk_cons ok_impl_Step (envOk_nil)))) mixd Try.func52 (pf := pf_impl_InOrder) (by kernel_rfl) fun ts K h => by
  obtain ⟨t0, t1, t2, e0, h⟩ := as3_out h
  subst e0
  obtain ⟨l, e1, hq⟩ := arC_out (rd_l .inst) h
  clear h
  subst e1
  have h := hq
  clear hq
  obtain ⟨s, e1, hq⟩ := arG_out rd_state h
  clear h
  subst e1
  have h := hq
  clear hq
  obtain ⟨n, e1, hq⟩ := arC_out (rd_int .i64) h
  clear h
  subst e1
  have h := hq
  clear hq
  obtain ⟨hpre, h⟩ := chk_o h
  exact ⟨_, _, h, Nat.le_of_ble_eq_true (show Nat.ble 3 Try.f52.ntmps = true by kernel_rfl), _, run_impl_InOrder l s n hpre⟩

end Go.Pi
