/- Contracts of functions, each out of its run by PI. No conditions. -/
import Derived.Test.YtbenlebnogedlaaGreatC1
namespace Go.Pi
open Go.Proofs
set_option linter.unusedVariables false
set_option linter.unusedSimpArgs false
set_option maxRecDepth 100000
attribute [local irreducible] iterN
theorem andI_mask {q p : Int} (h : 0 ≤ p ∧ p ≤ 63) : (andI q p = p) ↔ (IntKind.i64.wrap (BitVec.ofInt IntKind.i64.bits p &&& ~~~ BitVec.ofInt IntKind.i64.bits q).toNat = 0) := by
  obtain ⟨m, rfl⟩ := Int.eq_ofNat_of_zero_le h.1
  have hy : (BitVec.ofInt IntKind.i64.bits (m : Int)).toNat = m := by
    rw [BitVec.ofInt_natCast, BitVec.toNat_ofNat]; exact Nat.mod_eq_of_lt (by show m < 2 ^ 64; omega)
  unfold andI
  generalize BitVec.ofInt IntKind.i64.bits (m : Int) = y at *
  generalize BitVec.ofInt IntKind.i64.bits q = x at *
  have h1 : (x &&& y).toNat ≤ y.toNat := by rw [BitVec.toNat_and]; exact Nat.and_le_right
  have h2 : (y &&& ~~~ x).toNat ≤ y.toNat := by rw [BitVec.toNat_and]; exact Nat.and_le_left
  have h3 : y.toNat ≤ 63 := by omega
  rw [wrap_id (by omega) (by omega), wrap_id (by omega) (by omega)]
  have e1 : (((x &&& y).toNat : Nat) : Int) = (m : Int) ↔ x &&& y = y := by
    rw [← hy, ← BitVec.toNat_inj]; omega
  have e2 : (((y &&& ~~~ x).toNat : Nat) : Int) = 0 ↔ y &&& ~~~ x = 0#_ := by
    rw [← BitVec.toNat_inj]; simp
  rw [e1, e2]
  constructor
  · intro h
    rw [← h]
    apply BitVec.eq_of_getLsbD_eq
    intro i hi
    simp only [BitVec.getLsbD_and, BitVec.getLsbD_not, BitVec.getLsbD_zero]
    cases x.getLsbD i <;> cases y.getLsbD i <;> simp
  · intro h
    apply BitVec.eq_of_getLsbD_eq
    intro i hi
    have := congrArg (fun v => v.getLsbD i) h
    simp only [BitVec.getLsbD_and, BitVec.getLsbD_not, BitVec.getLsbD_zero, hi, decide_true, Bool.true_and] at this ⊢
    cases hx : x.getLsbD i <;> cases hyy : y.getLsbD i <;> simp_all
def tryW (w : Word) (n p : Int) : Int := if w.is = false ∨ wordOk w = false then 1 else if w.key.sealed ≠ 0 then 2 else if andI w.key.perms p ≠ p then 3 else if n < w.key.base ∨ w.key.top ≤ n then 4 else 0
def takenW (y w : Word) : Word := if andI y.key.perms 8 = 0 then plainW w.n else w
def mayPut (y w : Word) : Bool := !w.is || andI y.key.perms 16 != 0
def openW (w : Word) : Bool := wordOk w && w.is && w.key.sealed == 0
theorem openW_is {w : Word} (h : openW w = true) : w.is = true := by simp only [openW, Bool.and_eq_true] at h; exact h.1.2
def weakenW (w : Word) (m : Int) : Word := if openW w then { w with key := { w.key with perms := andI w.key.perms (andI m 63) } } else plainW w.n
def narrowW (w : Word) (n : Int) : Word :=
  if openW w && inR n 0 4096 && boundsOk w.n (IntKind.i64.wrap (w.n + n)) then
    (if (wide w.n (IntKind.i64.wrap (w.n + n))).1 < w.key.base ∨ w.key.top < (wide w.n (IntKind.i64.wrap (w.n + n))).2 then plainW w.n else { w with key := { w.key with base := (wide w.n (IntKind.i64.wrap (w.n + n))).1, top := (wide w.n (IntKind.i64.wrap (w.n + n))).2 } })
  else plainW w.n
def pointW (w : Word) (n : Int) : Word := if openW w then ⟨andI n 65535, true, w.key⟩ else plainW n
def sealsB (y : Word) : Bool := openW y && (andI y.key.perms 32 != 0) && decide (y.key.base ≤ y.n) && decide (y.n < y.key.top) && inR y.n 1 7
def sealBy (w y : Word) : Word := if openW w && sealsB y then { w with key := { w.key with sealed := y.n } } else plainW w.n
def openBy (w y : Word) : Word := if wordOk w && w.is && sealsB y && w.key.sealed == y.n then { w with key := { w.key with sealed := 0 } } else plainW w.n

def pf_spec_Try : PF := ⟨[.t 6], .seq (.reg [.s (.box 3 (.t 0)), .s (.mv 6 (.k (.v (.c (.int .i64 0)))))]) (.seq (.blk 0 (.seq (.reg [.s (.load 8 true 6 (.t 3)), .s (.call (some 9) 79 [(.t 8)]), .s (.bnot 10 (.t 9)), .s (.mv 11 (.t 10)), .g 11 false (some 12) (.fa 12 (.t 3) 1), .g 11 false (some 13) (.load 13 false 1 (.t 12)), .g 11 false (some 14) (.bnot 14 (.t 13)), .s (.pick 15 (.t 11) (.k (.v (.c .tt))) (.t 14)), .s (.mv 7 (.t 15))]) (.cond (.t 7) (.seq (.reg [.s (.mv 6 (.k (.v (.c (.int .i64 1)))))]) (.ret)) (.seq (.reg [.s (.fa 17 (.t 3) 2), .s (.fa 18 (.t 17) 3), .s (.load 19 false 1 (.t 18)), .s (.bin 20 .neq (.t 19) (.k (.v (.c (.int .i64 0))))), .s (.mv 16 (.t 20))]) (.cond (.t 16) (.seq (.reg [.s (.mv 6 (.k (.v (.c (.int .i64 2)))))]) (.ret)) (.seq (.reg [.s (.fa 22 (.t 3) 2), .s (.fa 23 (.t 22) 2), .s (.load 24 false 1 (.t 23)), .s (.mv 25 (.t 2)), .s (.bin 26 .and (.t 24) (.t 25)), .s (.mv 27 (.t 2)), .s (.bin 28 .neq (.t 26) (.t 27)), .s (.mv 21 (.t 28))]) (.cond (.t 21) (.seq (.reg [.s (.mv 6 (.k (.v (.c (.int .i64 3)))))]) (.ret)) (.seq (.reg [.s (.mv 30 (.t 1)), .s (.fa 31 (.t 3) 2), .s (.fa 32 (.t 31) 0), .s (.load 33 false 1 (.t 32)), .s (.bin 34 .lss (.t 30) (.t 33)), .s (.mv 35 (.t 34)), .g 35 false (some 36) (.mv 36 (.t 1)), .g 35 false (some 37) (.fa 37 (.t 3) 2), .g 35 false (some 38) (.fa 38 (.t 37) 1), .g 35 false (some 39) (.load 39 false 1 (.t 38)), .g 35 false (some 40) (.bin 40 .geq (.t 36) (.t 39)), .s (.pick 41 (.t 35) (.k (.v (.c .tt))) (.t 40)), .s (.mv 29 (.t 41))]) (.cond (.t 29) (.seq (.reg [.s (.mv 6 (.k (.v (.c (.int .i64 4)))))]) (.ret)) (.skip)))))))))) (.seq (.reg [.s (.mv 6 (.k (.v (.c (.int .i64 0)))))]) (.ret)))⟩
def c_spec_Try : Fun := ⟨136, [], fun ts K => as3 ts fun t0 t1 t2 => arG pWordT t0 fun w => arC (pI .i64) t1 fun n => arC (pI .i64) t2 fun p => K (tN (tryW w n p)) []⟩
theorem run_spec_Try (w : Word) (n : Int) (p : Int) : runK [c_spec_WordOk] (0) [] pf_spec_Try [tG (w.tc []), tI .i64 n, tI .i64 p] fun r o => r = tN (tryW w n p) ∧ o = [] := by
  conv => whnf
  repeat' (first | (refine sel_i (fun h => ?_) (fun h => ?_) <;> conv => whnf) | (refine chk_c ?_ ?_ <;> conv => whnf) | (refine And.intro ?_ rfl) | (refine And.intro ?_ ?_ <;> conv => whnf))
  all_goals (try simp only [etaKey, etaWord, andI_eq, Bool.not_eq_true', Bool.not_eq_false', decide_eq_true_eq, decide_eq_false_iff_not, bne_iff_ne, ne_eq, bne_eq_false_iff_eq, beq_iff_eq, beq_eq_false_iff_ne] at *)
  all_goals first | (simp_all [tryW]; done) | (simp_all [tryW]; omega) | trace_state
theorem ok_spec_Try : FunOk Tryz.prog c_spec_Try := funOk (E := [c_spec_WordOk]) (envOk_cons ok_spec_WordOk (envOk_nil)) mixd Tryz.func136 (pf := pf_spec_Try) (by kernel_rfl) fun ts K h => by
  obtain ⟨t0, t1, t2, e0, h⟩ := as3_out h
  subst e0
  obtain ⟨w, e1, hq⟩ := arG_out rd_word h
  clear h
  subst e1
  have h := hq
  clear hq
  obtain ⟨n, e1, hq⟩ := arC_out (rd_int .i64) h
  clear h
  subst e1
  have h := hq
  clear hq
  obtain ⟨p, e1, hq⟩ := arC_out (rd_int .i64) h
  clear h
  subst e1
  have h := hq
  clear hq
  exact ⟨_, _, h, Nat.le_of_ble_eq_true (show Nat.ble 3 Tryz.f136.ntmps = true by kernel_rfl), _, run_spec_Try w n p⟩

def pf_impl_Try : PF := ⟨[.t 6], .seq (.reg [.s (.box 3 (.t 0)), .s (.mv 6 (.k (.v (.c (.int .i64 0)))))]) (.seq (.blk 0 (.seq (.reg [.s (.fa 8 (.t 3) 1), .s (.load 9 false 1 (.t 8)), .s (.bnot 10 (.t 9)), .s (.mv 11 (.t 10)), .g 11 false (some 12) (.load 12 true 6 (.t 3)), .g 11 false (some 13) (.call (some 13) 67 [(.t 12)]), .g 11 false (some 14) (.bnot 14 (.t 13)), .s (.pick 15 (.t 11) (.k (.v (.c .tt))) (.t 14)), .s (.mv 7 (.t 15))]) (.cond (.t 7) (.seq (.reg [.s (.mv 6 (.k (.v (.c (.int .i64 1)))))]) (.ret)) (.seq (.reg [.s (.fa 17 (.t 3) 2), .s (.fa 18 (.t 17) 3), .s (.load 19 false 1 (.t 18)), .s (.bin 20 .neq (.t 19) (.k (.v (.c (.int .i64 0))))), .s (.mv 16 (.t 20))]) (.cond (.t 16) (.seq (.reg [.s (.mv 6 (.k (.v (.c (.int .i64 2)))))]) (.ret)) (.seq (.reg [.s (.mv 22 (.t 2)), .s (.fa 23 (.t 3) 2), .s (.fa 24 (.t 23) 2), .s (.load 25 false 1 (.t 24)), .s (.bin 26 .andNot (.t 22) (.t 25)), .s (.bin 27 .neq (.t 26) (.k (.v (.c (.int .i64 0))))), .s (.mv 21 (.t 27))]) (.cond (.t 21) (.seq (.reg [.s (.mv 6 (.k (.v (.c (.int .i64 3)))))]) (.ret)) (.seq (.reg [.s (.mv 29 (.t 1)), .s (.fa 30 (.t 3) 2), .s (.fa 31 (.t 30) 0), .s (.load 32 false 1 (.t 31)), .s (.bin 33 .lss (.t 29) (.t 32)), .s (.mv 34 (.t 33)), .g 34 false (some 35) (.mv 35 (.t 1)), .g 34 false (some 36) (.fa 36 (.t 3) 2), .g 34 false (some 37) (.fa 37 (.t 36) 1), .g 34 false (some 38) (.load 38 false 1 (.t 37)), .g 34 false (some 39) (.bin 39 .geq (.t 35) (.t 38)), .s (.pick 40 (.t 34) (.k (.v (.c .tt))) (.t 39)), .s (.mv 28 (.t 40))]) (.cond (.t 28) (.seq (.reg [.s (.mv 6 (.k (.v (.c (.int .i64 4)))))]) (.ret)) (.skip)))))))))) (.seq (.reg [.s (.mv 6 (.k (.v (.c (.int .i64 0)))))]) (.ret)))⟩
def c_impl_Try : Fun := ⟨125, [], fun ts K => as3 ts fun t0 t1 t2 => arG pWordT t0 fun w => arC (pI .i64) t1 fun n => arC (pI .i64) t2 fun p => chk (0 ≤ p ∧ p ≤ 63) (K (tN (tryW w n p)) [])⟩
theorem run_impl_Try (w : Word) (n : Int) (p : Int) (hpre : 0 ≤ p ∧ p ≤ 63) : runK [c_impl_WordOk] (0) [] pf_impl_Try [tG (w.tc []), tI .i64 n, tI .i64 p] fun r o => r = tN (tryW w n p) ∧ o = [] := by
  have hm := andI_mask (q := w.key.perms) hpre
  conv => whnf
  repeat' (first | (refine sel_i (fun h => ?_) (fun h => ?_) <;> conv => whnf) | (refine chk_c ?_ ?_ <;> conv => whnf) | (refine And.intro ?_ rfl) | (refine And.intro ?_ ?_ <;> conv => whnf))
  all_goals (try simp only [etaKey, etaWord, andI_eq, Bool.not_eq_true', Bool.not_eq_false', decide_eq_true_eq, decide_eq_false_iff_not, bne_iff_ne, ne_eq, bne_eq_false_iff_eq, beq_iff_eq, beq_eq_false_iff_ne] at *)
  all_goals (try simp only [← hm] at *)
  all_goals first | (simp_all [tryW]; done) | (simp_all [tryW]; omega) | trace_state
theorem ok_impl_Try : FunOk Tryz.prog c_impl_Try := funOk (E := [c_impl_WordOk]) (envOk_cons ok_impl_WordOk (envOk_nil)) mixd Tryz.func125 (pf := pf_impl_Try) (by kernel_rfl) fun ts K h => by
  obtain ⟨t0, t1, t2, e0, h⟩ := as3_out h
  subst e0
  obtain ⟨w, e1, hq⟩ := arG_out rd_word h
  clear h
  subst e1
  have h := hq
  clear hq
  obtain ⟨n, e1, hq⟩ := arC_out (rd_int .i64) h
  clear h
  subst e1
  have h := hq
  clear hq
  obtain ⟨p, e1, hq⟩ := arC_out (rd_int .i64) h
  clear h
  subst e1
  have h := hq
  clear hq
  obtain ⟨hpre, h⟩ := chk_o h
  exact ⟨_, _, h, Nat.le_of_ble_eq_true (show Nat.ble 3 Tryz.f125.ntmps = true by kernel_rfl), _, run_impl_Try w n p hpre⟩

def pf_impl_permits : PF := ⟨[.t 4], .seq (.reg [.s (.box 2 (.t 0)), .s (.mv 4 (.k (.v (.c .ff))))]) (.seq (.reg [.s (.fa 5 (.t 2) 2), .s (.fa 6 (.t 5) 2), .s (.load 7 false 1 (.t 6)), .s (.mv 8 (.t 1)), .s (.bin 9 .and (.t 7) (.t 8)), .s (.bin 10 .neq (.t 9) (.k (.v (.c (.int .i64 0))))), .s (.mv 4 (.t 10))]) (.ret))⟩
def c_impl_permits : Fun := ⟨177, [], fun ts K => as2 ts fun t0 t1 => arG pWordT t0 fun y => arC (pI .i64) t1 fun p => K (tB (andI y.key.perms p != 0)) []⟩
theorem run_impl_permits (y : Word) (p : Int) : runK [] (0) [] pf_impl_permits [tG (y.tc []), tI .i64 p] fun r o => r = tB (andI y.key.perms p != 0) ∧ o = [] := by
  conv => whnf
  repeat' (first
    | exact rfl
    | exact trivial
    | (refine sel_i (fun h => ?_) (fun h => ?_) <;> conv => whnf)
    | (refine chk_c ?_ ?_ <;> conv => whnf)
    | (refine And.intro ?_ ?_ <;> conv => whnf))
theorem ok_impl_permits : FunOk Tryz.prog c_impl_permits := funOk (E := []) (envOk_nil) mixd Tryz.func177 (pf := pf_impl_permits) (by kernel_rfl) fun ts K h => by
  obtain ⟨t0, t1, e0, h⟩ := as2_out h
  subst e0
  obtain ⟨y, e1, hq⟩ := arG_out rd_word h
  clear h
  subst e1
  have h := hq
  clear hq
  obtain ⟨p, e1, hq⟩ := arC_out (rd_int .i64) h
  clear h
  subst e1
  have h := hq
  clear hq
  exact ⟨_, _, h, Nat.le_of_ble_eq_true (show Nat.ble 2 Tryz.f177.ntmps = true by kernel_rfl), _, run_impl_permits y p⟩

def pf_spec_Taken : PF := ⟨[.c 4 true 6], .seq (.reg [.s (.box 2 (.t 0)), .s (.box 3 (.t 1)), .s (.alloc 4 [.int .i64 0, .ff, .int .i64 0, .int .i64 0, .int .i64 0, .int .i64 0])]) (.seq (.seq (.reg [.s (.fa 5 (.t 2) 2), .s (.fa 6 (.t 5) 2), .s (.load 7 false 1 (.t 6)), .s (.bin 8 .and (.t 7) (.k (.v (.c (.int .i64 8))))), .s (.bin 9 .eql (.t 8) (.k (.v (.c (.int .i64 0)))))]) (.cond (.t 9) (.seq (.reg [.s (.load 10 true 6 (.t 3)), .s (.call (some 11) 220 [(.t 10)]), .s (.store 6 (.t 4) (.t 11))]) (.ret)) (.skip))) (.seq (.reg [.s (.load 12 true 6 (.t 3)), .s (.store 6 (.t 4) (.t 12))]) (.ret)))⟩
def c_spec_Taken : Fun := ⟨204, [], fun ts K => as2 ts fun t0 t1 => arG pWordT t0 fun y => arG pWordT t1 fun w => K (tG ((takenW y w).tc [])) []⟩
theorem run_spec_Taken (y : Word) (w : Word) : runK [c_spec_Bare] (0) [] pf_spec_Taken [tG (y.tc []), tG (w.tc [])] fun r o => r = tG ((takenW y w).tc []) ∧ o = [] := by
  conv => whnf
  repeat' (first | (refine sel_i (fun h => ?_) (fun h => ?_) <;> conv => whnf) | (refine chk_c ?_ ?_ <;> conv => whnf) | (refine And.intro ?_ rfl) | (refine And.intro ?_ ?_ <;> conv => whnf))
  all_goals (try simp only [etaKey, etaWord, andI_eq, Bool.not_eq_true', Bool.not_eq_false', decide_eq_true_eq, decide_eq_false_iff_not, bne_iff_ne, ne_eq, bne_eq_false_iff_eq, beq_iff_eq, beq_eq_false_iff_ne] at *)
  all_goals
    first
      | (rw [show takenW y w = plainW w.n by simp_all [takenW]]; rfl)
      | (rw [show takenW y w = w by simp_all [takenW]]; rfl)
      | trace_state
theorem ok_spec_Taken : FunOk Tryz.prog c_spec_Taken := funOk (E := [c_spec_Bare]) (envOk_cons ok_spec_Bare (envOk_nil)) mixd Tryz.func204 (pf := pf_spec_Taken) (by kernel_rfl) fun ts K h => by
  obtain ⟨t0, t1, e0, h⟩ := as2_out h
  subst e0
  obtain ⟨y, e1, hq⟩ := arG_out rd_word h
  clear h
  subst e1
  have h := hq
  clear hq
  obtain ⟨w, e1, hq⟩ := arG_out rd_word h
  clear h
  subst e1
  have h := hq
  clear hq
  exact ⟨_, _, h, Nat.le_of_ble_eq_true (show Nat.ble 2 Tryz.f204.ntmps = true by kernel_rfl), _, run_spec_Taken y w⟩

def pf_impl_Taken : PF := ⟨[.c 4 true 6], .seq (.reg [.s (.box 2 (.t 0)), .s (.box 3 (.t 1)), .s (.alloc 4 [.int .i64 0, .ff, .int .i64 0, .int .i64 0, .int .i64 0, .int .i64 0])]) (.seq (.seq (.reg [.s (.load 5 true 6 (.t 2)), .s (.call (some 6) 177 [(.t 5), (.k (.v (.c (.int .i64 8))))])]) (.cond (.t 6) (.seq (.reg [.s (.load 7 true 6 (.t 3)), .s (.store 6 (.t 4) (.t 7))]) (.ret)) (.skip))) (.seq (.reg [.s (.load 8 true 6 (.t 3)), .s (.call (some 9) 168 [(.t 8)]), .s (.store 6 (.t 4) (.t 9))]) (.ret)))⟩
def c_impl_Taken : Fun := ⟨149, [], fun ts K => as2 ts fun t0 t1 => arG pWordT t0 fun y => arG pWordT t1 fun w => K (tG ((takenW y w).tc [])) []⟩
theorem run_impl_Taken (y : Word) (w : Word) : runK [c_impl_Bare, c_impl_permits] (0) [] pf_impl_Taken [tG (y.tc []), tG (w.tc [])] fun r o => r = tG ((takenW y w).tc []) ∧ o = [] := by
  conv => whnf
  repeat' (first | (refine sel_i (fun h => ?_) (fun h => ?_) <;> conv => whnf) | (refine chk_c ?_ ?_ <;> conv => whnf) | (refine And.intro ?_ rfl) | (refine And.intro ?_ ?_ <;> conv => whnf))
  all_goals (try simp only [etaKey, etaWord, andI_eq, Bool.not_eq_true', Bool.not_eq_false', decide_eq_true_eq, decide_eq_false_iff_not, bne_iff_ne, ne_eq, bne_eq_false_iff_eq, beq_iff_eq, beq_eq_false_iff_ne] at *)
  all_goals
    first
      | (rw [show takenW y w = plainW w.n by simp_all [takenW]]; rfl)
      | (rw [show takenW y w = w by simp_all [takenW]]; rfl)
      | trace_state
theorem ok_impl_Taken : FunOk Tryz.prog c_impl_Taken := funOk (E := [c_impl_Bare, c_impl_permits]) (envOk_cons ok_impl_Bare (envOk_cons ok_impl_permits (envOk_nil))) mixd Tryz.func149 (pf := pf_impl_Taken) (by kernel_rfl) fun ts K h => by
  obtain ⟨t0, t1, e0, h⟩ := as2_out h
  subst e0
  obtain ⟨y, e1, hq⟩ := arG_out rd_word h
  clear h
  subst e1
  have h := hq
  clear hq
  obtain ⟨w, e1, hq⟩ := arG_out rd_word h
  clear h
  subst e1
  have h := hq
  clear hq
  exact ⟨_, _, h, Nat.le_of_ble_eq_true (show Nat.ble 2 Tryz.f149.ntmps = true by kernel_rfl), _, run_impl_Taken y w⟩

def pf_spec_MayPut : PF := ⟨[.t 4], .seq (.reg [.s (.box 2 (.t 0)), .s (.box 3 (.t 1)), .s (.mv 4 (.k (.v (.c .ff))))]) (.seq (.reg [.s (.fa 5 (.t 3) 1), .s (.load 6 false 1 (.t 5)), .s (.bnot 7 (.t 6)), .s (.mv 8 (.t 7)), .g 8 false (some 9) (.fa 9 (.t 2) 2), .g 8 false (some 10) (.fa 10 (.t 9) 2), .g 8 false (some 11) (.load 11 false 1 (.t 10)), .g 8 false (some 12) (.bin 12 .and (.t 11) (.k (.v (.c (.int .i64 16))))), .g 8 false (some 13) (.bin 13 .neq (.t 12) (.k (.v (.c (.int .i64 0))))), .s (.pick 14 (.t 8) (.k (.v (.c .tt))) (.t 13)), .s (.mv 4 (.t 14))]) (.ret))⟩
def c_spec_MayPut : Fun := ⟨205, [], fun ts K => as2 ts fun t0 t1 => arG pWordT t0 fun y => arG pWordT t1 fun w => K (tB (mayPut y w)) []⟩
theorem run_spec_MayPut (y : Word) (w : Word) : runK [] (0) [] pf_spec_MayPut [tG (y.tc []), tG (w.tc [])] fun r o => r = tB (mayPut y w) ∧ o = [] := by
  conv => whnf
  repeat' (first | (refine sel_i (fun h => ?_) (fun h => ?_) <;> conv => whnf) | (refine chk_c ?_ ?_ <;> conv => whnf) | (refine And.intro ?_ rfl) | (refine And.intro ?_ ?_ <;> conv => whnf))
  all_goals (try simp only [etaKey, etaWord, andI_eq, Bool.not_eq_true', Bool.not_eq_false', decide_eq_true_eq, decide_eq_false_iff_not, bne_iff_ne, ne_eq, bne_eq_false_iff_eq, beq_iff_eq, beq_eq_false_iff_ne] at *)
  all_goals first | (simp_all [mayPut]; done) | (simp_all [mayPut]; omega) | trace_state
theorem ok_spec_MayPut : FunOk Tryz.prog c_spec_MayPut := funOk (E := []) (envOk_nil) mixd Tryz.func205 (pf := pf_spec_MayPut) (by kernel_rfl) fun ts K h => by
  obtain ⟨t0, t1, e0, h⟩ := as2_out h
  subst e0
  obtain ⟨y, e1, hq⟩ := arG_out rd_word h
  clear h
  subst e1
  have h := hq
  clear hq
  obtain ⟨w, e1, hq⟩ := arG_out rd_word h
  clear h
  subst e1
  have h := hq
  clear hq
  exact ⟨_, _, h, Nat.le_of_ble_eq_true (show Nat.ble 2 Tryz.f205.ntmps = true by kernel_rfl), _, run_spec_MayPut y w⟩

def pf_impl_MayPut : PF := ⟨[.t 4], .seq (.reg [.s (.box 2 (.t 0)), .s (.box 3 (.t 1)), .s (.mv 4 (.k (.v (.c .ff))))]) (.seq (.reg [.s (.fa 5 (.t 3) 1), .s (.load 6 false 1 (.t 5)), .s (.bnot 7 (.t 6)), .s (.mv 8 (.t 7)), .g 8 false (some 9) (.load 9 true 6 (.t 2)), .g 8 false (some 10) (.call (some 10) 177 [(.t 9), (.k (.v (.c (.int .i64 16))))]), .s (.pick 11 (.t 8) (.k (.v (.c .tt))) (.t 10)), .s (.mv 4 (.t 11))]) (.ret))⟩
def c_impl_MayPut : Fun := ⟨150, [], fun ts K => as2 ts fun t0 t1 => arG pWordT t0 fun y => arG pWordT t1 fun w => K (tB (mayPut y w)) []⟩
theorem run_impl_MayPut (y : Word) (w : Word) : runK [c_impl_permits] (0) [] pf_impl_MayPut [tG (y.tc []), tG (w.tc [])] fun r o => r = tB (mayPut y w) ∧ o = [] := by
  conv => whnf
  repeat' (first | (refine sel_i (fun h => ?_) (fun h => ?_) <;> conv => whnf) | (refine chk_c ?_ ?_ <;> conv => whnf) | (refine And.intro ?_ rfl) | (refine And.intro ?_ ?_ <;> conv => whnf))
  all_goals (try simp only [etaKey, etaWord, andI_eq, Bool.not_eq_true', Bool.not_eq_false', decide_eq_true_eq, decide_eq_false_iff_not, bne_iff_ne, ne_eq, bne_eq_false_iff_eq, beq_iff_eq, beq_eq_false_iff_ne] at *)
  all_goals first | (simp_all [mayPut]; done) | (simp_all [mayPut]; omega) | trace_state
theorem ok_impl_MayPut : FunOk Tryz.prog c_impl_MayPut := funOk (E := [c_impl_permits]) (envOk_cons ok_impl_permits (envOk_nil)) mixd Tryz.func150 (pf := pf_impl_MayPut) (by kernel_rfl) fun ts K h => by
  obtain ⟨t0, t1, e0, h⟩ := as2_out h
  subst e0
  obtain ⟨y, e1, hq⟩ := arG_out rd_word h
  clear h
  subst e1
  have h := hq
  clear hq
  obtain ⟨w, e1, hq⟩ := arG_out rd_word h
  clear h
  subst e1
  have h := hq
  clear hq
  exact ⟨_, _, h, Nat.le_of_ble_eq_true (show Nat.ble 2 Tryz.f150.ntmps = true by kernel_rfl), _, run_impl_MayPut y w⟩

def pf_spec_l4Open : PF := ⟨[.t 2], .seq (.reg [.s (.box 1 (.t 0)), .s (.mv 2 (.k (.v (.c .ff))))]) (.seq (.reg [.s (.load 3 true 6 (.t 1)), .s (.call (some 4) 79 [(.t 3)]), .s (.mv 5 (.t 4)), .g 5 true (some 6) (.fa 6 (.t 1) 1), .g 5 true (some 7) (.load 7 false 1 (.t 6)), .s (.pick 8 (.t 5) (.t 7) (.k (.v (.c .ff)))), .s (.mv 9 (.t 8)), .g 9 true (some 10) (.fa 10 (.t 1) 2), .g 9 true (some 11) (.fa 11 (.t 10) 3), .g 9 true (some 12) (.load 12 false 1 (.t 11)), .g 9 true (some 13) (.bin 13 .eql (.t 12) (.k (.v (.c (.int .i64 0))))), .s (.pick 14 (.t 9) (.t 13) (.k (.v (.c .ff)))), .s (.mv 2 (.t 14))]) (.ret))⟩
def c_spec_l4Open : Fun := ⟨170, [], fun ts K => as1 ts fun t0 => arG pWordT t0 fun w => K (tB (openW w)) []⟩
theorem run_spec_l4Open (w : Word) : runK [c_spec_WordOk] (0) [] pf_spec_l4Open [tG (w.tc [])] fun r o => r = tB (openW w) ∧ o = [] := by
  conv => whnf
  repeat' (first | (refine sel_i (fun h => ?_) (fun h => ?_) <;> conv => whnf) | (refine chk_c ?_ ?_ <;> conv => whnf) | (refine And.intro ?_ rfl) | (refine And.intro ?_ ?_ <;> conv => whnf))
  all_goals (try simp only [etaKey, etaWord, andI_eq, Bool.not_eq_true', Bool.not_eq_false', decide_eq_true_eq, decide_eq_false_iff_not, bne_iff_ne, ne_eq, bne_eq_false_iff_eq, beq_iff_eq, beq_eq_false_iff_ne] at *)
  all_goals first | (simp_all [openW]; done) | (simp_all [openW]; omega) | trace_state
theorem ok_spec_l4Open : FunOk Tryz.prog c_spec_l4Open := funOk (E := [c_spec_WordOk]) (envOk_cons ok_spec_WordOk (envOk_nil)) mixd Tryz.func170 (pf := pf_spec_l4Open) (by kernel_rfl) fun ts K h => by
  obtain ⟨t0, e0, h⟩ := as1_out h
  subst e0
  obtain ⟨w, e1, hq⟩ := arG_out rd_word h
  clear h
  subst e1
  have h := hq
  clear hq
  exact ⟨_, _, h, Nat.le_of_ble_eq_true (show Nat.ble 1 Tryz.f170.ntmps = true by kernel_rfl), _, run_spec_l4Open w⟩

def pf_impl_open : PF := ⟨[.t 2], .seq (.reg [.s (.box 1 (.t 0)), .s (.mv 2 (.k (.v (.c .ff))))]) (.seq (.reg [.s (.load 3 true 6 (.t 1)), .s (.call (some 4) 67 [(.t 3)]), .s (.mv 5 (.t 4)), .g 5 true (some 6) (.fa 6 (.t 1) 1), .g 5 true (some 7) (.load 7 false 1 (.t 6)), .s (.pick 8 (.t 5) (.t 7) (.k (.v (.c .ff)))), .s (.mv 9 (.t 8)), .g 9 true (some 10) (.fa 10 (.t 1) 2), .g 9 true (some 11) (.fa 11 (.t 10) 3), .g 9 true (some 12) (.load 12 false 1 (.t 11)), .g 9 true (some 13) (.bin 13 .eql (.t 12) (.k (.v (.c (.int .i64 0))))), .s (.pick 14 (.t 9) (.t 13) (.k (.v (.c .ff)))), .s (.mv 2 (.t 14))]) (.ret))⟩
def c_impl_open : Fun := ⟨163, [], fun ts K => as1 ts fun t0 => arG pWordT t0 fun w => K (tB (openW w)) []⟩
theorem run_impl_open (w : Word) : runK [c_impl_WordOk] (0) [] pf_impl_open [tG (w.tc [])] fun r o => r = tB (openW w) ∧ o = [] := by
  conv => whnf
  repeat' (first | (refine sel_i (fun h => ?_) (fun h => ?_) <;> conv => whnf) | (refine chk_c ?_ ?_ <;> conv => whnf) | (refine And.intro ?_ rfl) | (refine And.intro ?_ ?_ <;> conv => whnf))
  all_goals (try simp only [etaKey, etaWord, andI_eq, Bool.not_eq_true', Bool.not_eq_false', decide_eq_true_eq, decide_eq_false_iff_not, bne_iff_ne, ne_eq, bne_eq_false_iff_eq, beq_iff_eq, beq_eq_false_iff_ne] at *)
  all_goals first | (simp_all [openW]; done) | (simp_all [openW]; omega) | trace_state
theorem ok_impl_open : FunOk Tryz.prog c_impl_open := funOk (E := [c_impl_WordOk]) (envOk_cons ok_impl_WordOk (envOk_nil)) mixd Tryz.func163 (pf := pf_impl_open) (by kernel_rfl) fun ts K h => by
  obtain ⟨t0, e0, h⟩ := as1_out h
  subst e0
  obtain ⟨w, e1, hq⟩ := arG_out rd_word h
  clear h
  subst e1
  have h := hq
  clear hq
  exact ⟨_, _, h, Nat.le_of_ble_eq_true (show Nat.ble 1 Tryz.f163.ntmps = true by kernel_rfl), _, run_impl_open w⟩

def pf_spec_Weaken : PF := ⟨[.c 4 true 6], .seq (.reg [.s (.box 2 (.t 0)), .s (.alloc 4 [.int .i64 0, .ff, .int .i64 0, .int .i64 0, .int .i64 0, .int .i64 0])]) (.seq (.seq (.reg [.s (.load 5 true 6 (.t 2)), .s (.call (some 6) 170 [(.t 5)]), .s (.bnot 7 (.t 6))]) (.cond (.t 7) (.seq (.reg [.s (.load 8 true 6 (.t 2)), .s (.call (some 9) 220 [(.t 8)]), .s (.store 6 (.t 4) (.t 9))]) (.ret)) (.skip))) (.seq (.reg [.s (.fa 10 (.t 2) 2), .s (.fa 11 (.t 10) 2), .s (.load 12 false 1 (.t 11)), .s (.mv 13 (.t 1)), .s (.bin 14 .and (.t 13) (.k (.v (.c (.int .i64 63))))), .s (.bin 15 .and (.t 12) (.t 14)), .s (.fa 16 (.t 2) 2), .s (.fa 17 (.t 16) 2), .s (.store 1 (.t 17) (.t 15))]) (.seq (.reg [.s (.load 18 true 6 (.t 2)), .s (.store 6 (.t 4) (.t 18))]) (.ret))))⟩
def c_spec_Weaken : Fun := ⟨206, [], fun ts K => as2 ts fun t0 t1 => arG pWordT t0 fun w => arC (pI .i64) t1 fun m => K (tG ((weakenW w m).tc [])) []⟩
theorem run_spec_Weaken (w : Word) (m : Int) : runK [c_spec_l4Open, c_spec_Bare] (0) [] pf_spec_Weaken [tG (w.tc []), tI .i64 m] fun r o => r = tG ((weakenW w m).tc []) ∧ o = [] := by
  conv => whnf
  repeat' (first | (refine sel_i (fun h => ?_) (fun h => ?_) <;> conv => whnf) | (refine chk_c ?_ ?_ <;> conv => whnf) | (refine And.intro ?_ rfl) | (refine And.intro ?_ ?_ <;> conv => whnf))
  all_goals (try simp only [etaKey, etaWord, andI_eq, Bool.not_eq_true', Bool.not_eq_false', decide_eq_true_eq, decide_eq_false_iff_not, bne_iff_ne, ne_eq, bne_eq_false_iff_eq, beq_iff_eq, beq_eq_false_iff_ne] at *)
  all_goals
    first
      | (rw [show weakenW w m = plainW w.n by simp_all [weakenW]]; rfl)
      | (rw [show weakenW w m = { w with key := { w.key with perms := andI w.key.perms (andI m 63) } } by simp_all [weakenW]]; rfl)
      | trace_state
theorem ok_spec_Weaken : FunOk Tryz.prog c_spec_Weaken := funOk (E := [c_spec_l4Open, c_spec_Bare]) (envOk_cons ok_spec_l4Open (envOk_cons ok_spec_Bare (envOk_nil))) mixd Tryz.func206 (pf := pf_spec_Weaken) (by kernel_rfl) fun ts K h => by
  obtain ⟨t0, t1, e0, h⟩ := as2_out h
  subst e0
  obtain ⟨w, e1, hq⟩ := arG_out rd_word h
  clear h
  subst e1
  have h := hq
  clear hq
  obtain ⟨m, e1, hq⟩ := arC_out (rd_int .i64) h
  clear h
  subst e1
  have h := hq
  clear hq
  exact ⟨_, _, h, Nat.le_of_ble_eq_true (show Nat.ble 2 Tryz.f206.ntmps = true by kernel_rfl), _, run_spec_Weaken w m⟩

def pf_impl_Weaken : PF := ⟨[.c 4 true 6], .seq (.reg [.s (.box 2 (.t 0)), .s (.alloc 4 [.int .i64 0, .ff, .int .i64 0, .int .i64 0, .int .i64 0, .int .i64 0])]) (.seq (.seq (.reg [.s (.load 5 true 6 (.t 2)), .s (.call (some 6) 163 [(.t 5)]), .s (.bnot 7 (.t 6))]) (.cond (.t 7) (.seq (.reg [.s (.load 8 true 6 (.t 2)), .s (.call (some 9) 168 [(.t 8)]), .s (.store 6 (.t 4) (.t 9))]) (.ret)) (.skip))) (.seq (.reg [.s (.fa 10 (.t 2) 2), .s (.fa 11 (.t 10) 2), .s (.load 12 false 1 (.t 11)), .s (.mv 13 (.t 1)), .s (.bin 14 .and (.t 13) (.k (.v (.c (.int .i64 63))))), .s (.bin 15 .and (.t 12) (.t 14)), .s (.fa 16 (.t 2) 2), .s (.fa 17 (.t 16) 2), .s (.store 1 (.t 17) (.t 15))]) (.seq (.reg [.s (.load 18 true 6 (.t 2)), .s (.store 6 (.t 4) (.t 18))]) (.ret))))⟩
def c_impl_Weaken : Fun := ⟨178, [], fun ts K => as2 ts fun t0 t1 => arG pWordT t0 fun w => arC (pI .i64) t1 fun m => K (tG ((weakenW w m).tc [])) []⟩
theorem run_impl_Weaken (w : Word) (m : Int) : runK [c_impl_open, c_impl_Bare] (0) [] pf_impl_Weaken [tG (w.tc []), tI .i64 m] fun r o => r = tG ((weakenW w m).tc []) ∧ o = [] := by
  conv => whnf
  repeat' (first | (refine sel_i (fun h => ?_) (fun h => ?_) <;> conv => whnf) | (refine chk_c ?_ ?_ <;> conv => whnf) | (refine And.intro ?_ rfl) | (refine And.intro ?_ ?_ <;> conv => whnf))
  all_goals (try simp only [etaKey, etaWord, andI_eq, Bool.not_eq_true', Bool.not_eq_false', decide_eq_true_eq, decide_eq_false_iff_not, bne_iff_ne, ne_eq, bne_eq_false_iff_eq, beq_iff_eq, beq_eq_false_iff_ne] at *)
  all_goals
    first
      | (rw [show weakenW w m = plainW w.n by simp_all [weakenW]]; rfl)
      | (rw [show weakenW w m = { w with key := { w.key with perms := andI w.key.perms (andI m 63) } } by simp_all [weakenW]]; rfl)
      | trace_state
theorem ok_impl_Weaken : FunOk Tryz.prog c_impl_Weaken := funOk (E := [c_impl_open, c_impl_Bare]) (envOk_cons ok_impl_open (envOk_cons ok_impl_Bare (envOk_nil))) mixd Tryz.func178 (pf := pf_impl_Weaken) (by kernel_rfl) fun ts K h => by
  obtain ⟨t0, t1, e0, h⟩ := as2_out h
  subst e0
  obtain ⟨w, e1, hq⟩ := arG_out rd_word h
  clear h
  subst e1
  have h := hq
  clear hq
  obtain ⟨m, e1, hq⟩ := arC_out (rd_int .i64) h
  clear h
  subst e1
  have h := hq
  clear hq
  exact ⟨_, _, h, Nat.le_of_ble_eq_true (show Nat.ble 2 Tryz.f178.ntmps = true by kernel_rfl), _, run_impl_Weaken w m⟩

def pf_spec_Point : PF := ⟨[.c 4 true 6], .seq (.reg [.s (.box 2 (.t 0)), .s (.alloc 4 [.int .i64 0, .ff, .int .i64 0, .int .i64 0, .int .i64 0, .int .i64 0])]) (.seq (.seq (.reg [.s (.load 5 true 6 (.t 2)), .s (.call (some 6) 170 [(.t 5)]), .s (.bnot 7 (.t 6))]) (.cond (.t 7) (.seq (.reg [.s (.mv 8 (.t 1)), .s (.call (some 9) 99 [(.t 8)]), .s (.store 6 (.t 4) (.t 9))]) (.ret)) (.skip))) (.seq (.reg [.s (.mv 10 (.t 1)), .s (.bin 11 .and (.t 10) (.k (.v (.c (.int .i64 65535))))), .s (.fa 12 (.t 2) 0), .s (.store 1 (.t 12) (.t 11))]) (.seq (.reg [.s (.load 13 true 6 (.t 2)), .s (.store 6 (.t 4) (.t 13))]) (.ret))))⟩
def c_spec_Point : Fun := ⟨137, [], fun ts K => as2 ts fun t0 t1 => arG pWordT t0 fun w => arC (pI .i64) t1 fun n => K (tG ((pointW w n).tc [])) []⟩
theorem run_spec_Point (w : Word) (n : Int) : runK [c_spec_Plain, c_spec_l4Open] (0) [] pf_spec_Point [tG (w.tc []), tI .i64 n] fun r o => r = tG ((pointW w n).tc []) ∧ o = [] := by
  conv => whnf
  repeat' (first | (refine sel_i (fun h => ?_) (fun h => ?_) <;> conv => whnf) | (refine chk_c ?_ ?_ <;> conv => whnf) | (refine And.intro ?_ rfl) | (refine And.intro ?_ ?_ <;> conv => whnf))
  all_goals (try simp only [etaKey, etaWord, andI_eq, Bool.not_eq_true', Bool.not_eq_false', decide_eq_true_eq, decide_eq_false_iff_not, bne_iff_ne, ne_eq, bne_eq_false_iff_eq, beq_iff_eq, beq_eq_false_iff_ne] at *)
  all_goals
    first
      | (rw [show pointW w n = plainW n by simp_all [pointW]]; rfl)
      | (rw [show pointW w n = ⟨andI n 65535, true, w.key⟩ by simp_all [pointW]]; rfl)
      | (rw [show pointW w n = ⟨andI n 65535, w.is, w.key⟩ by (have hi := openW_is h; simp_all [pointW])]; rfl)
      | trace_state
theorem ok_spec_Point : FunOk Tryz.prog c_spec_Point := funOk (E := [c_spec_Plain, c_spec_l4Open]) (envOk_cons ok_spec_Plain (envOk_cons ok_spec_l4Open (envOk_nil))) mixd Tryz.func137 (pf := pf_spec_Point) (by kernel_rfl) fun ts K h => by
  obtain ⟨t0, t1, e0, h⟩ := as2_out h
  subst e0
  obtain ⟨w, e1, hq⟩ := arG_out rd_word h
  clear h
  subst e1
  have h := hq
  clear hq
  obtain ⟨n, e1, hq⟩ := arC_out (rd_int .i64) h
  clear h
  subst e1
  have h := hq
  clear hq
  exact ⟨_, _, h, Nat.le_of_ble_eq_true (show Nat.ble 2 Tryz.f137.ntmps = true by kernel_rfl), _, run_spec_Point w n⟩

def pf_impl_Point : PF := ⟨[.c 4 true 6], .seq (.reg [.s (.box 2 (.t 0)), .s (.alloc 4 [.int .i64 0, .ff, .int .i64 0, .int .i64 0, .int .i64 0, .int .i64 0])]) (.seq (.reg [.s (.mv 6 (.t 1)), .s (.call (some 7) 63 [(.t 6)]), .s (.alloc 5 [.int .i64 0, .ff, .int .i64 0, .int .i64 0, .int .i64 0, .int .i64 0]), .s (.store 6 (.t 5) (.t 7))]) (.seq (.seq (.reg [.s (.load 8 true 6 (.t 2)), .s (.call (some 9) 163 [(.t 8)])]) (.cond (.t 9) (.rgd [] [.s (.fa 10 (.t 2) 2), .s (.load 11 true 4 (.t 10)), .s (.fa 12 (.t 5) 1), .s (.store 1 (.t 12) (.k (.v (.c .tt)))), .s (.fa 13 (.t 5) 2), .s (.store 4 (.t 13) (.t 11))] (.tk 0 (.tk 2 (.alt 1 false (.one 3 true (.tk 4 (.one 5 true (.done (some [4, 5]))))) (.alt 3 true (.one 1 true (.tk 4 (.one 5 true (.done (some [4, 5]))))) (.nil)))))) (.skip))) (.seq (.reg [.s (.load 14 true 6 (.t 5)), .s (.store 6 (.t 4) (.t 14))]) (.ret))))⟩
def c_impl_Point : Fun := ⟨126, [], fun ts K => as2 ts fun t0 t1 => arG pWordT t0 fun w => arC (pI .i64) t1 fun n => K (tG ((pointW w n).tc [])) []⟩
theorem run_impl_Point (w : Word) (n : Int) : runK [c_impl_Plain, c_impl_open] (0) [] pf_impl_Point [tG (w.tc []), tI .i64 n] fun r o => r = tG ((pointW w n).tc []) ∧ o = [] := by
  conv => whnf
  repeat' (first | (refine sel_i (fun h => ?_) (fun h => ?_) <;> conv => whnf) | (refine chk_c ?_ ?_ <;> conv => whnf) | (refine And.intro ?_ rfl) | (refine And.intro ?_ ?_ <;> conv => whnf))
  all_goals (try simp only [etaKey, etaWord, andI_eq, Bool.not_eq_true', Bool.not_eq_false', decide_eq_true_eq, decide_eq_false_iff_not, bne_iff_ne, ne_eq, bne_eq_false_iff_eq, beq_iff_eq, beq_eq_false_iff_ne] at *)
  all_goals
    first
      | (rw [show pointW w n = plainW n by simp_all [pointW]]; rfl)
      | (rw [show pointW w n = ⟨andI n 65535, true, w.key⟩ by simp_all [pointW]]; rfl)
      | (rw [show pointW w n = ⟨andI n 65535, w.is, w.key⟩ by (have hi := openW_is h; simp_all [pointW])]; rfl)
      | trace_state
theorem ok_impl_Point : FunOk Tryz.prog c_impl_Point := funOk (E := [c_impl_Plain, c_impl_open]) (envOk_cons ok_impl_Plain (envOk_cons ok_impl_open (envOk_nil))) mixd Tryz.func126 (pf := pf_impl_Point) (by kernel_rfl) fun ts K h => by
  obtain ⟨t0, t1, e0, h⟩ := as2_out h
  subst e0
  obtain ⟨w, e1, hq⟩ := arG_out rd_word h
  clear h
  subst e1
  have h := hq
  clear hq
  obtain ⟨n, e1, hq⟩ := arC_out (rd_int .i64) h
  clear h
  subst e1
  have h := hq
  clear hq
  exact ⟨_, _, h, Nat.le_of_ble_eq_true (show Nat.ble 2 Tryz.f126.ntmps = true by kernel_rfl), _, run_impl_Point w n⟩

def pf_spec_l4Sealer : PF := ⟨[.t 2], .seq (.reg [.s (.box 1 (.t 0)), .s (.mv 2 (.k (.v (.c .ff))))]) (.seq (.reg [.s (.load 3 true 6 (.t 1)), .s (.call (some 4) 170 [(.t 3)]), .s (.mv 5 (.t 4)), .g 5 true (some 6) (.fa 6 (.t 1) 2), .g 5 true (some 7) (.fa 7 (.t 6) 2), .g 5 true (some 8) (.load 8 false 1 (.t 7)), .g 5 true (some 9) (.bin 9 .and (.t 8) (.k (.v (.c (.int .i64 32))))), .g 5 true (some 10) (.bin 10 .neq (.t 9) (.k (.v (.c (.int .i64 0))))), .s (.pick 11 (.t 5) (.t 10) (.k (.v (.c .ff)))), .s (.mv 12 (.t 11)), .g 12 true (some 13) (.fa 13 (.t 1) 0), .g 12 true (some 14) (.load 14 false 1 (.t 13)), .g 12 true (some 15) (.fa 15 (.t 1) 2), .g 12 true (some 16) (.fa 16 (.t 15) 0), .g 12 true (some 17) (.load 17 false 1 (.t 16)), .g 12 true (some 18) (.bin 18 .geq (.t 14) (.t 17)), .s (.pick 19 (.t 12) (.t 18) (.k (.v (.c .ff)))), .s (.mv 20 (.t 19)), .g 20 true (some 21) (.fa 21 (.t 1) 0), .g 20 true (some 22) (.load 22 false 1 (.t 21)), .g 20 true (some 23) (.fa 23 (.t 1) 2), .g 20 true (some 24) (.fa 24 (.t 23) 1), .g 20 true (some 25) (.load 25 false 1 (.t 24)), .g 20 true (some 26) (.bin 26 .lss (.t 22) (.t 25)), .s (.pick 27 (.t 20) (.t 26) (.k (.v (.c .ff)))), .s (.mv 28 (.t 27)), .g 28 true (some 29) (.fa 29 (.t 1) 0), .g 28 true (some 30) (.load 30 false 1 (.t 29)), .g 28 true (some 31) (.call (some 31) 42 [(.t 30), (.k (.v (.c (.int .i64 1)))), (.k (.v (.c (.int .i64 7))))]), .s (.pick 32 (.t 28) (.t 31) (.k (.v (.c .ff)))), .s (.mv 2 (.t 32))]) (.ret))⟩
def c_spec_l4Sealer : Fun := ⟨221, [], fun ts K => as1 ts fun t0 => arG pWordT t0 fun y => K (tB (sealsB y)) []⟩
theorem run_spec_l4Sealer (y : Word) : runK [c_spec_l1In, c_spec_l4Open] (0) [] pf_spec_l4Sealer [tG (y.tc [])] fun r o => r = tB (sealsB y) ∧ o = [] := by
  conv => whnf
  repeat' (first | (refine sel_i (fun h => ?_) (fun h => ?_) <;> conv => whnf) | (refine chk_c ?_ ?_ <;> conv => whnf) | (refine And.intro ?_ rfl) | (refine And.intro ?_ ?_ <;> conv => whnf))
  all_goals (try simp only [etaKey, etaWord, andI_eq, Bool.not_eq_true', Bool.not_eq_false', decide_eq_true_eq, decide_eq_false_iff_not, bne_iff_ne, ne_eq, bne_eq_false_iff_eq, beq_iff_eq, beq_eq_false_iff_ne] at *)
  all_goals first | (simp_all [sealsB]; done) | (simp_all [sealsB]; omega) | trace_state
theorem ok_spec_l4Sealer : FunOk Tryz.prog c_spec_l4Sealer := funOk (E := [c_spec_l1In, c_spec_l4Open]) (envOk_cons ok_spec_l1In (envOk_cons ok_spec_l4Open (envOk_nil))) mixd Tryz.func221 (pf := pf_spec_l4Sealer) (by kernel_rfl) fun ts K h => by
  obtain ⟨t0, e0, h⟩ := as1_out h
  subst e0
  obtain ⟨y, e1, hq⟩ := arG_out rd_word h
  clear h
  subst e1
  have h := hq
  clear hq
  exact ⟨_, _, h, Nat.le_of_ble_eq_true (show Nat.ble 1 Tryz.f221.ntmps = true by kernel_rfl), _, run_spec_l4Sealer y⟩

def pf_impl_seals : PF := ⟨[.t 2], .seq (.reg [.s (.box 1 (.t 0)), .s (.mv 2 (.k (.v (.c .ff))))]) (.seq (.reg [.s (.load 3 true 6 (.t 1)), .s (.call (some 4) 163 [(.t 3)]), .s (.mv 5 (.t 4)), .g 5 true (some 6) (.fa 6 (.t 1) 2), .g 5 true (some 7) (.fa 7 (.t 6) 2), .g 5 true (some 8) (.load 8 false 1 (.t 7)), .g 5 true (some 9) (.bin 9 .and (.t 8) (.k (.v (.c (.int .i64 32))))), .g 5 true (some 10) (.bin 10 .neq (.t 9) (.k (.v (.c (.int .i64 0))))), .s (.pick 11 (.t 5) (.t 10) (.k (.v (.c .ff)))), .s (.mv 12 (.t 11)), .g 12 true (some 13) (.fa 13 (.t 1) 0), .g 12 true (some 14) (.load 14 false 1 (.t 13)), .g 12 true (some 15) (.fa 15 (.t 1) 2), .g 12 true (some 16) (.fa 16 (.t 15) 0), .g 12 true (some 17) (.load 17 false 1 (.t 16)), .g 12 true (some 18) (.bin 18 .geq (.t 14) (.t 17)), .s (.pick 19 (.t 12) (.t 18) (.k (.v (.c .ff)))), .s (.mv 20 (.t 19)), .g 20 true (some 21) (.fa 21 (.t 1) 0), .g 20 true (some 22) (.load 22 false 1 (.t 21)), .g 20 true (some 23) (.fa 23 (.t 1) 2), .g 20 true (some 24) (.fa 24 (.t 23) 1), .g 20 true (some 25) (.load 25 false 1 (.t 24)), .g 20 true (some 26) (.bin 26 .lss (.t 22) (.t 25)), .s (.pick 27 (.t 20) (.t 26) (.k (.v (.c .ff)))), .s (.mv 28 (.t 27)), .g 28 true (some 29) (.fa 29 (.t 1) 0), .g 28 true (some 30) (.load 30 false 1 (.t 29)), .g 28 true (some 31) (.call (some 31) 36 [(.t 30), (.k (.v (.c (.int .i64 1)))), (.k (.v (.c (.int .i64 7))))]), .s (.pick 32 (.t 28) (.t 31) (.k (.v (.c .ff)))), .s (.mv 2 (.t 32))]) (.ret))⟩
def c_impl_seals : Fun := ⟨210, [], fun ts K => as1 ts fun t0 => arG pWordT t0 fun y => K (tB (sealsB y)) []⟩
theorem run_impl_seals (y : Word) : runK [c_impl_in, c_impl_open] (0) [] pf_impl_seals [tG (y.tc [])] fun r o => r = tB (sealsB y) ∧ o = [] := by
  conv => whnf
  repeat' (first | (refine sel_i (fun h => ?_) (fun h => ?_) <;> conv => whnf) | (refine chk_c ?_ ?_ <;> conv => whnf) | (refine And.intro ?_ rfl) | (refine And.intro ?_ ?_ <;> conv => whnf))
  all_goals (try simp only [etaKey, etaWord, andI_eq, Bool.not_eq_true', Bool.not_eq_false', decide_eq_true_eq, decide_eq_false_iff_not, bne_iff_ne, ne_eq, bne_eq_false_iff_eq, beq_iff_eq, beq_eq_false_iff_ne] at *)
  all_goals first | (simp_all [sealsB]; done) | (simp_all [sealsB]; omega) | trace_state
theorem ok_impl_seals : FunOk Tryz.prog c_impl_seals := funOk (E := [c_impl_in, c_impl_open]) (envOk_cons ok_impl_in (envOk_cons ok_impl_open (envOk_nil))) mixd Tryz.func210 (pf := pf_impl_seals) (by kernel_rfl) fun ts K h => by
  obtain ⟨t0, e0, h⟩ := as1_out h
  subst e0
  obtain ⟨y, e1, hq⟩ := arG_out rd_word h
  clear h
  subst e1
  have h := hq
  clear hq
  exact ⟨_, _, h, Nat.le_of_ble_eq_true (show Nat.ble 1 Tryz.f210.ntmps = true by kernel_rfl), _, run_impl_seals y⟩

def pf_spec_SealBy : PF := ⟨[.c 4 true 6], .seq (.reg [.s (.box 2 (.t 0)), .s (.box 3 (.t 1)), .s (.alloc 4 [.int .i64 0, .ff, .int .i64 0, .int .i64 0, .int .i64 0, .int .i64 0])]) (.seq (.seq (.reg [.s (.load 5 true 6 (.t 2)), .s (.call (some 6) 170 [(.t 5)]), .s (.bnot 7 (.t 6)), .s (.mv 8 (.t 7)), .g 8 false (some 9) (.load 9 true 6 (.t 3)), .g 8 false (some 10) (.call (some 10) 221 [(.t 9)]), .g 8 false (some 11) (.bnot 11 (.t 10)), .s (.pick 12 (.t 8) (.k (.v (.c .tt))) (.t 11))]) (.cond (.t 12) (.seq (.reg [.s (.load 13 true 6 (.t 2)), .s (.call (some 14) 220 [(.t 13)]), .s (.store 6 (.t 4) (.t 14))]) (.ret)) (.skip))) (.seq (.reg [.s (.fa 15 (.t 3) 0), .s (.load 16 false 1 (.t 15)), .s (.fa 17 (.t 2) 2), .s (.fa 18 (.t 17) 3), .s (.store 1 (.t 18) (.t 16))]) (.seq (.reg [.s (.load 19 true 6 (.t 2)), .s (.store 6 (.t 4) (.t 19))]) (.ret))))⟩
def c_spec_SealBy : Fun := ⟨208, [], fun ts K => as2 ts fun t0 t1 => arG pWordT t0 fun w => arG pWordT t1 fun y => K (tG ((sealBy w y).tc [])) []⟩
theorem run_spec_SealBy (w : Word) (y : Word) : runK [c_spec_l4Open, c_spec_Bare, c_spec_l4Sealer] (0) [] pf_spec_SealBy [tG (w.tc []), tG (y.tc [])] fun r o => r = tG ((sealBy w y).tc []) ∧ o = [] := by
  conv => whnf
  repeat' (first | (refine sel_i (fun h => ?_) (fun h => ?_) <;> conv => whnf) | (refine chk_c ?_ ?_ <;> conv => whnf) | (refine And.intro ?_ rfl) | (refine And.intro ?_ ?_ <;> conv => whnf))
  all_goals (try simp only [etaKey, etaWord, andI_eq, Bool.not_eq_true', Bool.not_eq_false', decide_eq_true_eq, decide_eq_false_iff_not, bne_iff_ne, ne_eq, bne_eq_false_iff_eq, beq_iff_eq, beq_eq_false_iff_ne] at *)
  all_goals
    first
      | (rw [show sealBy w y = plainW w.n by simp_all [sealBy]]; rfl)
      | (rw [show sealBy w y = { w with key := { w.key with sealed := y.n } } by simp_all [sealBy]]; rfl)
      | trace_state
theorem ok_spec_SealBy : FunOk Tryz.prog c_spec_SealBy := funOk (E := [c_spec_l4Open, c_spec_Bare, c_spec_l4Sealer]) (envOk_cons ok_spec_l4Open (envOk_cons ok_spec_Bare (envOk_cons ok_spec_l4Sealer (envOk_nil)))) mixd Tryz.func208 (pf := pf_spec_SealBy) (by kernel_rfl) fun ts K h => by
  obtain ⟨t0, t1, e0, h⟩ := as2_out h
  subst e0
  obtain ⟨w, e1, hq⟩ := arG_out rd_word h
  clear h
  subst e1
  have h := hq
  clear hq
  obtain ⟨y, e1, hq⟩ := arG_out rd_word h
  clear h
  subst e1
  have h := hq
  clear hq
  exact ⟨_, _, h, Nat.le_of_ble_eq_true (show Nat.ble 2 Tryz.f208.ntmps = true by kernel_rfl), _, run_spec_SealBy w y⟩

def pf_impl_SealBy : PF := ⟨[.c 4 true 6], .seq (.reg [.s (.box 2 (.t 0)), .s (.box 3 (.t 1)), .s (.alloc 4 [.int .i64 0, .ff, .int .i64 0, .int .i64 0, .int .i64 0, .int .i64 0])]) (.seq (.seq (.reg [.s (.load 5 true 6 (.t 2)), .s (.call (some 6) 163 [(.t 5)]), .s (.bnot 7 (.t 6)), .s (.mv 8 (.t 7)), .g 8 false (some 9) (.load 9 true 6 (.t 3)), .g 8 false (some 10) (.call (some 10) 210 [(.t 9)]), .g 8 false (some 11) (.bnot 11 (.t 10)), .s (.pick 12 (.t 8) (.k (.v (.c .tt))) (.t 11))]) (.cond (.t 12) (.seq (.reg [.s (.load 13 true 6 (.t 2)), .s (.call (some 14) 168 [(.t 13)]), .s (.store 6 (.t 4) (.t 14))]) (.ret)) (.skip))) (.seq (.reg [.s (.fa 15 (.t 3) 0), .s (.load 16 false 1 (.t 15)), .s (.fa 17 (.t 2) 2), .s (.fa 18 (.t 17) 3), .s (.store 1 (.t 18) (.t 16))]) (.seq (.reg [.s (.load 19 true 6 (.t 2)), .s (.store 6 (.t 4) (.t 19))]) (.ret))))⟩
def c_impl_SealBy : Fun := ⟨180, [], fun ts K => as2 ts fun t0 t1 => arG pWordT t0 fun w => arG pWordT t1 fun y => K (tG ((sealBy w y).tc [])) []⟩
theorem run_impl_SealBy (w : Word) (y : Word) : runK [c_impl_open, c_impl_Bare, c_impl_seals] (0) [] pf_impl_SealBy [tG (w.tc []), tG (y.tc [])] fun r o => r = tG ((sealBy w y).tc []) ∧ o = [] := by
  conv => whnf
  repeat' (first | (refine sel_i (fun h => ?_) (fun h => ?_) <;> conv => whnf) | (refine chk_c ?_ ?_ <;> conv => whnf) | (refine And.intro ?_ rfl) | (refine And.intro ?_ ?_ <;> conv => whnf))
  all_goals (try simp only [etaKey, etaWord, andI_eq, Bool.not_eq_true', Bool.not_eq_false', decide_eq_true_eq, decide_eq_false_iff_not, bne_iff_ne, ne_eq, bne_eq_false_iff_eq, beq_iff_eq, beq_eq_false_iff_ne] at *)
  all_goals
    first
      | (rw [show sealBy w y = plainW w.n by simp_all [sealBy]]; rfl)
      | (rw [show sealBy w y = { w with key := { w.key with sealed := y.n } } by simp_all [sealBy]]; rfl)
      | trace_state
theorem ok_impl_SealBy : FunOk Tryz.prog c_impl_SealBy := funOk (E := [c_impl_open, c_impl_Bare, c_impl_seals]) (envOk_cons ok_impl_open (envOk_cons ok_impl_Bare (envOk_cons ok_impl_seals (envOk_nil)))) mixd Tryz.func180 (pf := pf_impl_SealBy) (by kernel_rfl) fun ts K h => by
  obtain ⟨t0, t1, e0, h⟩ := as2_out h
  subst e0
  obtain ⟨w, e1, hq⟩ := arG_out rd_word h
  clear h
  subst e1
  have h := hq
  clear hq
  obtain ⟨y, e1, hq⟩ := arG_out rd_word h
  clear h
  subst e1
  have h := hq
  clear hq
  exact ⟨_, _, h, Nat.le_of_ble_eq_true (show Nat.ble 2 Tryz.f180.ntmps = true by kernel_rfl), _, run_impl_SealBy w y⟩

def pf_spec_OpenBy : PF := ⟨[.c 4 true 6], .seq (.reg [.s (.box 2 (.t 0)), .s (.box 3 (.t 1)), .s (.alloc 4 [.int .i64 0, .ff, .int .i64 0, .int .i64 0, .int .i64 0, .int .i64 0])]) (.seq (.seq (.reg [.s (.load 5 true 6 (.t 2)), .s (.call (some 6) 79 [(.t 5)]), .s (.bnot 7 (.t 6)), .s (.mv 8 (.t 7)), .g 8 false (some 9) (.fa 9 (.t 2) 1), .g 8 false (some 10) (.load 10 false 1 (.t 9)), .g 8 false (some 11) (.bnot 11 (.t 10)), .s (.pick 12 (.t 8) (.k (.v (.c .tt))) (.t 11)), .s (.mv 13 (.t 12)), .g 13 false (some 14) (.load 14 true 6 (.t 3)), .g 13 false (some 15) (.call (some 15) 221 [(.t 14)]), .g 13 false (some 16) (.bnot 16 (.t 15)), .s (.pick 17 (.t 13) (.k (.v (.c .tt))) (.t 16)), .s (.mv 18 (.t 17)), .g 18 false (some 19) (.fa 19 (.t 2) 2), .g 18 false (some 20) (.fa 20 (.t 19) 3), .g 18 false (some 21) (.load 21 false 1 (.t 20)), .g 18 false (some 22) (.fa 22 (.t 3) 0), .g 18 false (some 23) (.load 23 false 1 (.t 22)), .g 18 false (some 24) (.bin 24 .neq (.t 21) (.t 23)), .s (.pick 25 (.t 18) (.k (.v (.c .tt))) (.t 24))]) (.cond (.t 25) (.seq (.reg [.s (.load 26 true 6 (.t 2)), .s (.call (some 27) 220 [(.t 26)]), .s (.store 6 (.t 4) (.t 27))]) (.ret)) (.skip))) (.seq (.reg [.s (.fa 28 (.t 2) 2), .s (.fa 29 (.t 28) 3), .s (.store 1 (.t 29) (.k (.v (.c (.int .i64 0)))))]) (.seq (.reg [.s (.load 30 true 6 (.t 2)), .s (.store 6 (.t 4) (.t 30))]) (.ret))))⟩
def c_spec_OpenBy : Fun := ⟨209, [], fun ts K => as2 ts fun t0 t1 => arG pWordT t0 fun w => arG pWordT t1 fun y => K (tG ((openBy w y).tc [])) []⟩
theorem run_spec_OpenBy (w : Word) (y : Word) : runK [c_spec_WordOk, c_spec_Bare, c_spec_l4Sealer] (0) [] pf_spec_OpenBy [tG (w.tc []), tG (y.tc [])] fun r o => r = tG ((openBy w y).tc []) ∧ o = [] := by
  conv => whnf
  repeat' (first | (refine sel_i (fun h => ?_) (fun h => ?_) <;> conv => whnf) | (refine chk_c ?_ ?_ <;> conv => whnf) | (refine And.intro ?_ rfl) | (refine And.intro ?_ ?_ <;> conv => whnf))
  all_goals (try simp only [etaKey, etaWord, andI_eq, Bool.not_eq_true', Bool.not_eq_false', decide_eq_true_eq, decide_eq_false_iff_not, bne_iff_ne, ne_eq, bne_eq_false_iff_eq, beq_iff_eq, beq_eq_false_iff_ne] at *)
  all_goals
    first
      | (rw [show openBy w y = plainW w.n by simp_all [openBy]]; rfl)
      | (rw [show openBy w y = { w with key := { w.key with sealed := 0 } } by simp_all [openBy]]; rfl)
      | trace_state
theorem ok_spec_OpenBy : FunOk Tryz.prog c_spec_OpenBy := funOk (E := [c_spec_WordOk, c_spec_Bare, c_spec_l4Sealer]) (envOk_cons ok_spec_WordOk (envOk_cons ok_spec_Bare (envOk_cons ok_spec_l4Sealer (envOk_nil)))) mixd Tryz.func209 (pf := pf_spec_OpenBy) (by kernel_rfl) fun ts K h => by
  obtain ⟨t0, t1, e0, h⟩ := as2_out h
  subst e0
  obtain ⟨w, e1, hq⟩ := arG_out rd_word h
  clear h
  subst e1
  have h := hq
  clear hq
  obtain ⟨y, e1, hq⟩ := arG_out rd_word h
  clear h
  subst e1
  have h := hq
  clear hq
  exact ⟨_, _, h, Nat.le_of_ble_eq_true (show Nat.ble 2 Tryz.f209.ntmps = true by kernel_rfl), _, run_spec_OpenBy w y⟩

def pf_impl_OpenBy : PF := ⟨[.c 4 true 6], .seq (.reg [.s (.box 2 (.t 0)), .s (.box 3 (.t 1)), .s (.alloc 4 [.int .i64 0, .ff, .int .i64 0, .int .i64 0, .int .i64 0, .int .i64 0])]) (.seq (.seq (.reg [.s (.load 5 true 6 (.t 2)), .s (.call (some 6) 67 [(.t 5)]), .s (.bnot 7 (.t 6)), .s (.mv 8 (.t 7)), .g 8 false (some 9) (.fa 9 (.t 2) 1), .g 8 false (some 10) (.load 10 false 1 (.t 9)), .g 8 false (some 11) (.bnot 11 (.t 10)), .s (.pick 12 (.t 8) (.k (.v (.c .tt))) (.t 11)), .s (.mv 13 (.t 12)), .g 13 false (some 14) (.load 14 true 6 (.t 3)), .g 13 false (some 15) (.call (some 15) 210 [(.t 14)]), .g 13 false (some 16) (.bnot 16 (.t 15)), .s (.pick 17 (.t 13) (.k (.v (.c .tt))) (.t 16)), .s (.mv 18 (.t 17)), .g 18 false (some 19) (.fa 19 (.t 2) 2), .g 18 false (some 20) (.fa 20 (.t 19) 3), .g 18 false (some 21) (.load 21 false 1 (.t 20)), .g 18 false (some 22) (.fa 22 (.t 3) 0), .g 18 false (some 23) (.load 23 false 1 (.t 22)), .g 18 false (some 24) (.bin 24 .neq (.t 21) (.t 23)), .s (.pick 25 (.t 18) (.k (.v (.c .tt))) (.t 24))]) (.cond (.t 25) (.seq (.reg [.s (.load 26 true 6 (.t 2)), .s (.call (some 27) 168 [(.t 26)]), .s (.store 6 (.t 4) (.t 27))]) (.ret)) (.skip))) (.seq (.reg [.s (.fa 28 (.t 2) 2), .s (.fa 29 (.t 28) 3), .s (.store 1 (.t 29) (.k (.v (.c (.int .i64 0)))))]) (.seq (.reg [.s (.load 30 true 6 (.t 2)), .s (.store 6 (.t 4) (.t 30))]) (.ret))))⟩
def c_impl_OpenBy : Fun := ⟨181, [], fun ts K => as2 ts fun t0 t1 => arG pWordT t0 fun w => arG pWordT t1 fun y => K (tG ((openBy w y).tc [])) []⟩
theorem run_impl_OpenBy (w : Word) (y : Word) : runK [c_impl_WordOk, c_impl_Bare, c_impl_seals] (0) [] pf_impl_OpenBy [tG (w.tc []), tG (y.tc [])] fun r o => r = tG ((openBy w y).tc []) ∧ o = [] := by
  conv => whnf
  repeat' (first | (refine sel_i (fun h => ?_) (fun h => ?_) <;> conv => whnf) | (refine chk_c ?_ ?_ <;> conv => whnf) | (refine And.intro ?_ rfl) | (refine And.intro ?_ ?_ <;> conv => whnf))
  all_goals (try simp only [etaKey, etaWord, andI_eq, Bool.not_eq_true', Bool.not_eq_false', decide_eq_true_eq, decide_eq_false_iff_not, bne_iff_ne, ne_eq, bne_eq_false_iff_eq, beq_iff_eq, beq_eq_false_iff_ne] at *)
  all_goals
    first
      | (rw [show openBy w y = plainW w.n by simp_all [openBy]]; rfl)
      | (rw [show openBy w y = { w with key := { w.key with sealed := 0 } } by simp_all [openBy]]; rfl)
      | trace_state
theorem ok_impl_OpenBy : FunOk Tryz.prog c_impl_OpenBy := funOk (E := [c_impl_WordOk, c_impl_Bare, c_impl_seals]) (envOk_cons ok_impl_WordOk (envOk_cons ok_impl_Bare (envOk_cons ok_impl_seals (envOk_nil)))) mixd Tryz.func181 (pf := pf_impl_OpenBy) (by kernel_rfl) fun ts K h => by
  obtain ⟨t0, t1, e0, h⟩ := as2_out h
  subst e0
  obtain ⟨w, e1, hq⟩ := arG_out rd_word h
  clear h
  subst e1
  have h := hq
  clear hq
  obtain ⟨y, e1, hq⟩ := arG_out rd_word h
  clear h
  subst e1
  have h := hq
  clear hq
  exact ⟨_, _, h, Nat.le_of_ble_eq_true (show Nat.ble 2 Tryz.f181.ntmps = true by kernel_rfl), _, run_impl_OpenBy w y⟩

theorem narrow_no {w : Word} {n : Int} (h : ¬ (openW w = true ∧ (0 ≤ n ∧ n ≤ 4096) ∧ boundsOk w.n (IntKind.i64.wrap (w.n + n)) = true)) : narrowW w n = plainW w.n := by
  unfold narrowW
  rw [if_neg]
  intro hh
  simp only [Bool.and_eq_true, inR_t] at hh
  exact h ⟨hh.1.1, hh.1.2, hh.2⟩
theorem narrow_yes {w : Word} {n : Int} (h : openW w = true ∧ (0 ≤ n ∧ n ≤ 4096) ∧ boundsOk w.n (IntKind.i64.wrap (w.n + n)) = true) : narrowW w n = if (wide w.n (IntKind.i64.wrap (w.n + n))).1 < w.key.base ∨ w.key.top < (wide w.n (IntKind.i64.wrap (w.n + n))).2 then plainW w.n else { w with key := { w.key with base := (wide w.n (IntKind.i64.wrap (w.n + n))).1, top := (wide w.n (IntKind.i64.wrap (w.n + n))).2 } } := by
  unfold narrowW
  rw [if_pos]
  simp only [Bool.and_eq_true, inR_t]
  exact ⟨⟨h.1, h.2.1⟩, h.2.2⟩

def pf_spec_Narrow : PF := ⟨[.c 4 true 6], .seq (.reg [.s (.box 2 (.t 0)), .s (.alloc 4 [.int .i64 0, .ff, .int .i64 0, .int .i64 0, .int .i64 0, .int .i64 0])]) (.seq (.seq (.reg [.s (.load 7 true 6 (.t 2)), .s (.call (some 8) 170 [(.t 7)]), .s (.bnot 9 (.t 8)), .s (.mv 10 (.t 9)), .g 10 false (some 11) (.mv 11 (.t 1)), .g 10 false (some 12) (.call (some 12) 42 [(.t 11), (.k (.v (.c (.int .i64 0)))), (.k (.v (.c (.int .i64 4096))))]), .g 10 false (some 13) (.bnot 13 (.t 12)), .s (.pick 14 (.t 10) (.k (.v (.c .tt))) (.t 13)), .s (.mv 15 (.t 14)), .g 15 false (some 16) (.fa 16 (.t 2) 0), .g 15 false (some 17) (.load 17 false 1 (.t 16)), .g 15 false (some 18) (.fa 18 (.t 2) 0), .g 15 false (some 19) (.load 19 false 1 (.t 18)), .g 15 false (some 20) (.mv 20 (.t 1)), .g 15 false (some 21) (.bin 21 .add (.t 19) (.t 20)), .g 15 false (some 22) (.call (some 22) 200 [(.t 17), (.t 21)]), .g 15 false (some 23) (.bnot 23 (.t 22)), .s (.pick 24 (.t 15) (.k (.v (.c .tt))) (.t 23))]) (.cond (.t 24) (.seq (.reg [.s (.load 25 true 6 (.t 2)), .s (.call (some 26) 220 [(.t 25)]), .s (.store 6 (.t 4) (.t 26))]) (.ret)) (.skip))) (.seq (.reg [.s (.fa 28 (.t 2) 0), .s (.load 29 false 1 (.t 28)), .s (.fa 30 (.t 2) 0), .s (.load 31 false 1 (.t 30)), .s (.mv 32 (.t 1)), .s (.bin 33 .add (.t 31) (.t 32)), .s (.call (some 34) 199 [(.t 29), (.t 33)]), .s (.mv 27 (.t 34)), .s (.ext 35 (.t 27) 0), .s (.ext 36 (.t 27) 1), .s (.mv 5 (.t 35)), .s (.mv 6 (.t 36))]) (.seq (.seq (.reg [.s (.mv 37 (.t 5)), .s (.fa 38 (.t 2) 2), .s (.fa 39 (.t 38) 0), .s (.load 40 false 1 (.t 39)), .s (.bin 41 .lss (.t 37) (.t 40)), .s (.mv 42 (.t 41)), .g 42 false (some 43) (.mv 43 (.t 6)), .g 42 false (some 44) (.fa 44 (.t 2) 2), .g 42 false (some 45) (.fa 45 (.t 44) 1), .g 42 false (some 46) (.load 46 false 1 (.t 45)), .g 42 false (some 47) (.bin 47 .gtr (.t 43) (.t 46)), .s (.pick 48 (.t 42) (.k (.v (.c .tt))) (.t 47))]) (.cond (.t 48) (.seq (.reg [.s (.load 49 true 6 (.t 2)), .s (.call (some 50) 220 [(.t 49)]), .s (.store 6 (.t 4) (.t 50))]) (.ret)) (.skip))) (.seq (.reg [.s (.mv 51 (.t 5)), .s (.fa 52 (.t 2) 2), .s (.fa 53 (.t 52) 0), .s (.store 1 (.t 53) (.t 51))]) (.seq (.reg [.s (.mv 54 (.t 6)), .s (.fa 55 (.t 2) 2), .s (.fa 56 (.t 55) 1), .s (.store 1 (.t 56) (.t 54))]) (.seq (.reg [.s (.load 57 true 6 (.t 2)), .s (.store 6 (.t 4) (.t 57))]) (.ret)))))))⟩
def c_spec_Narrow : Fun := ⟨207, [], fun ts K => as2 ts fun t0 t1 => arG pWordT t0 fun w => arC (pI .i64) t1 fun n => K (tG ((narrowW w n).tc [])) []⟩
theorem run_spec_Narrow (w : Word) (n : Int) : runK [c_spec_l1In, c_spec_l4Open, c_spec_Wide, c_spec_BoundsOk, c_spec_Bare] (0) [] pf_spec_Narrow [tG (w.tc []), tI .i64 n] fun r o => r = tG ((narrowW w n).tc []) ∧ o = [] := by
  by_cases hc : openW w = true ∧ (0 ≤ n ∧ n ≤ 4096) ∧ boundsOk w.n (IntKind.i64.wrap (w.n + n)) = true
  · rw [narrow_yes hc]
    obtain ⟨g1, g2, g3⟩ := hc
    conv => whnf
    repeat' (first | (refine sel_i (fun h => ?_) (fun h => ?_) <;> conv => whnf) | (refine chk_c ?_ ?_ <;> conv => whnf) | (refine And.intro ?_ rfl) | (refine And.intro ?_ ?_ <;> conv => whnf))
    all_goals (try simp only [etaKey, etaWord, inR_t, inR_f, g1, g3, Bool.not_eq_true', Bool.not_eq_false', Bool.true_eq_false, Bool.not_true, Bool.false_eq_true, decide_eq_true_eq, decide_eq_false_iff_not] at *)
    all_goals first
      | contradiction
      | (exfalso; omega)
      | (rw [if_pos (by omega)]; rfl)
      | (rw [if_neg (by omega)]; rfl)
      | trace_state
  · rw [narrow_no hc]
    conv => whnf
    repeat' (first | (refine sel_i (fun h => ?_) (fun h => ?_) <;> conv => whnf) | (refine chk_c ?_ ?_ <;> conv => whnf) | (refine And.intro ?_ rfl) | (refine And.intro ?_ ?_ <;> conv => whnf))
    all_goals (try simp only [etaKey, etaWord, inR_t, inR_f, Bool.not_eq_true', Bool.not_eq_false', decide_eq_true_eq, decide_eq_false_iff_not] at *)
    all_goals first
      | rfl
      | exact absurd ⟨by assumption, by omega, by assumption⟩ hc
      | trace_state
theorem ok_spec_Narrow : FunOk Tryz.prog c_spec_Narrow := funOk (E := [c_spec_l1In, c_spec_l4Open, c_spec_Wide, c_spec_BoundsOk, c_spec_Bare]) (envOk_cons ok_spec_l1In (envOk_cons ok_spec_l4Open (envOk_cons ok_spec_Wide (envOk_cons ok_spec_BoundsOk (envOk_cons ok_spec_Bare (envOk_nil)))))) mixd Tryz.func207 (pf := pf_spec_Narrow) (by kernel_rfl) fun ts K h => by
  obtain ⟨t0, t1, e0, h⟩ := as2_out h
  subst e0
  obtain ⟨w, e1, hq⟩ := arG_out rd_word h
  clear h
  subst e1
  have h := hq
  clear hq
  obtain ⟨n, e1, hq⟩ := arC_out (rd_int .i64) h
  clear h
  subst e1
  have h := hq
  clear hq
  exact ⟨_, _, h, Nat.le_of_ble_eq_true (show Nat.ble 2 Tryz.f207.ntmps = true by kernel_rfl), _, run_spec_Narrow w n⟩

def pf_impl_Narrow : PF := ⟨[.c 4 true 6], .seq (.reg [.s (.box 2 (.t 0)), .s (.alloc 4 [.int .i64 0, .ff, .int .i64 0, .int .i64 0, .int .i64 0, .int .i64 0])]) (.seq (.seq (.reg [.s (.load 7 true 6 (.t 2)), .s (.call (some 8) 163 [(.t 7)]), .s (.bnot 9 (.t 8)), .s (.mv 10 (.t 9)), .g 10 false (some 11) (.mv 11 (.t 1)), .g 10 false (some 12) (.bin 12 .lss (.t 11) (.k (.v (.c (.int .i64 0))))), .s (.pick 13 (.t 10) (.k (.v (.c .tt))) (.t 12)), .s (.mv 14 (.t 13)), .g 14 false (some 15) (.mv 15 (.t 1)), .g 14 false (some 16) (.bin 16 .gtr (.t 15) (.k (.v (.c (.int .i64 4096))))), .s (.pick 17 (.t 14) (.k (.v (.c .tt))) (.t 16)), .s (.mv 18 (.t 17)), .g 18 false (some 19) (.fa 19 (.t 2) 0), .g 18 false (some 20) (.load 20 false 1 (.t 19)), .g 18 false (some 21) (.fa 21 (.t 2) 0), .g 18 false (some 22) (.load 22 false 1 (.t 21)), .g 18 false (some 23) (.mv 23 (.t 1)), .g 18 false (some 24) (.bin 24 .add (.t 22) (.t 23)), .g 18 false (some 25) (.call (some 25) 157 [(.t 20), (.t 24)]), .g 18 false (some 26) (.bnot 26 (.t 25)), .s (.pick 27 (.t 18) (.k (.v (.c .tt))) (.t 26))]) (.cond (.t 27) (.seq (.reg [.s (.load 28 true 6 (.t 2)), .s (.call (some 29) 168 [(.t 28)]), .s (.store 6 (.t 4) (.t 29))]) (.ret)) (.skip))) (.seq (.reg [.s (.fa 31 (.t 2) 0), .s (.load 32 false 1 (.t 31)), .s (.fa 33 (.t 2) 0), .s (.load 34 false 1 (.t 33)), .s (.mv 35 (.t 1)), .s (.bin 36 .add (.t 34) (.t 35)), .s (.call (some 37) 156 [(.t 32), (.t 36)]), .s (.mv 30 (.t 37)), .s (.ext 38 (.t 30) 0), .s (.ext 39 (.t 30) 1), .s (.mv 5 (.t 38)), .s (.mv 6 (.t 39))]) (.seq (.seq (.reg [.s (.mv 40 (.t 5)), .s (.fa 41 (.t 2) 2), .s (.fa 42 (.t 41) 0), .s (.load 43 false 1 (.t 42)), .s (.bin 44 .lss (.t 40) (.t 43)), .s (.mv 45 (.t 44)), .g 45 false (some 46) (.mv 46 (.t 6)), .g 45 false (some 47) (.fa 47 (.t 2) 2), .g 45 false (some 48) (.fa 48 (.t 47) 1), .g 45 false (some 49) (.load 49 false 1 (.t 48)), .g 45 false (some 50) (.bin 50 .gtr (.t 46) (.t 49)), .s (.pick 51 (.t 45) (.k (.v (.c .tt))) (.t 50))]) (.cond (.t 51) (.seq (.reg [.s (.load 52 true 6 (.t 2)), .s (.call (some 53) 168 [(.t 52)]), .s (.store 6 (.t 4) (.t 53))]) (.ret)) (.skip))) (.seq (.reg [.s (.mv 54 (.t 5)), .s (.mv 55 (.t 6)), .s (.fa 56 (.t 2) 2), .s (.fa 57 (.t 56) 0), .s (.store 1 (.t 57) (.t 54)), .s (.fa 58 (.t 2) 2), .s (.fa 59 (.t 58) 1), .s (.store 1 (.t 59) (.t 55))]) (.seq (.reg [.s (.load 60 true 6 (.t 2)), .s (.store 6 (.t 4) (.t 60))]) (.ret))))))⟩
def c_impl_Narrow : Fun := ⟨179, [], fun ts K => as2 ts fun t0 t1 => arG pWordT t0 fun w => arC (pI .i64) t1 fun n => K (tG ((narrowW w n).tc [])) []⟩
theorem run_impl_Narrow (w : Word) (n : Int) : runK [c_impl_Wide, c_impl_BoundsOk, c_impl_open, c_impl_Bare] (0) [] pf_impl_Narrow [tG (w.tc []), tI .i64 n] fun r o => r = tG ((narrowW w n).tc []) ∧ o = [] := by
  by_cases hc : openW w = true ∧ (0 ≤ n ∧ n ≤ 4096) ∧ boundsOk w.n (IntKind.i64.wrap (w.n + n)) = true
  · rw [narrow_yes hc]
    obtain ⟨g1, g2, g3⟩ := hc
    conv => whnf
    repeat' (first | (refine sel_i (fun h => ?_) (fun h => ?_) <;> conv => whnf) | (refine chk_c ?_ ?_ <;> conv => whnf) | (refine And.intro ?_ rfl) | (refine And.intro ?_ ?_ <;> conv => whnf))
    all_goals (try simp only [etaKey, etaWord, inR_t, inR_f, g1, g3, Bool.not_eq_true', Bool.not_eq_false', Bool.true_eq_false, Bool.not_true, Bool.false_eq_true, decide_eq_true_eq, decide_eq_false_iff_not] at *)
    all_goals first
      | contradiction
      | (exfalso; omega)
      | (rw [if_pos (by omega)]; rfl)
      | (rw [if_neg (by omega)]; rfl)
      | trace_state
  · rw [narrow_no hc]
    conv => whnf
    repeat' (first | (refine sel_i (fun h => ?_) (fun h => ?_) <;> conv => whnf) | (refine chk_c ?_ ?_ <;> conv => whnf) | (refine And.intro ?_ rfl) | (refine And.intro ?_ ?_ <;> conv => whnf))
    all_goals (try simp only [etaKey, etaWord, inR_t, inR_f, Bool.not_eq_true', Bool.not_eq_false', decide_eq_true_eq, decide_eq_false_iff_not] at *)
    all_goals first
      | rfl
      | exact absurd ⟨by assumption, by omega, by assumption⟩ hc
      | trace_state
theorem ok_impl_Narrow : FunOk Tryz.prog c_impl_Narrow := funOk (E := [c_impl_Wide, c_impl_BoundsOk, c_impl_open, c_impl_Bare]) (envOk_cons ok_impl_Wide (envOk_cons ok_impl_BoundsOk (envOk_cons ok_impl_open (envOk_cons ok_impl_Bare (envOk_nil))))) mixd Tryz.func179 (pf := pf_impl_Narrow) (by kernel_rfl) fun ts K h => by
  obtain ⟨t0, t1, e0, h⟩ := as2_out h
  subst e0
  obtain ⟨w, e1, hq⟩ := arG_out rd_word h
  clear h
  subst e1
  have h := hq
  clear hq
  obtain ⟨n, e1, hq⟩ := arC_out (rd_int .i64) h
  clear h
  subst e1
  have h := hq
  clear hq
  exact ⟨_, _, h, Nat.le_of_ble_eq_true (show Nat.ble 2 Tryz.f179.ntmps = true by kernel_rfl), _, run_impl_Narrow w n⟩

def lb_slices_Index_byte_0 : PC := .seq (.reg [.s (.bin 9 .lss (.t 8) (.t 7))]) (.seq (.cond (.t 9) (.skip) (.exit 0)) (.seq (.blk 1 (.seq (.reg [.s (.mv 10 (.t 8)), .s (.mv 5 (.t 10))]) (.seq (.reg [.s (.mv 11 (.t 1)), .s (.mv 12 (.t 0)), .s (.mv 13 (.t 5)), .s (.ia 14 (.int .u8) (.t 12) (.t 13)), .s (.load 15 false 1 (.t 14)), .s (.bin 16 .eql (.t 11) (.t 15))]) (.cond (.t 16) (.seq (.reg [.s (.mv 17 (.t 5)), .s (.mv 4 (.t 17))]) (.ret)) (.skip))))) (.reg [.s (.bin 18 .add (.t 8) (.k (.v (.c (.int .i64 1))))), .s (.mv 8 (.t 18))])))
def pf_slices_Index_byte : PF := ⟨[.t 4], .seq (.reg [.s (.mv 4 (.k (.v (.c (.int .i64 0)))))]) (.seq (.seq (.reg [.s (.mv 6 (.t 0)), .s (.len 7 false (.t 6)), .s (.mv 8 (.k (.v (.c (.int .i64 0)))))]) (.blk 0 (.loop [0, 1, 7, 8] lb_slices_Index_byte_0))) (.seq (.reg [.s (.mv 4 (.k (.v (.c (.int .i64 (-1))))))]) (.ret)))⟩
def c_slices_Index_byte : Fun := ⟨182, [], fun ts K => as2 ts fun t0 t1 => arC (pL (.int .u8)) t0 fun xs => arC (pI .u8) t1 fun v => chk (xs.length ≤ 2147483647) (K (tN (idxOf (fun x => v == x) xs)) [])⟩
theorem run_slices_Index_byte (xs : List (FT.Ty (.int .u8))) (v : Int) (hpre : xs.length ≤ 2147483647) : runK [] (xs.length + 1) [] pf_slices_Index_byte [tL false (.int .u8) xs, tI .u8 v] fun r o => r = tN (idxOf (fun x => v == x) xs) ∧ o = [] := by
  conv => whnf
  refine loop (α := Nat) (fun i => ⟨[(0, .v (.c (.sl false (.int .u8) 0))), (1, .v (.c (.int .u8 v))), (7, .v (.c (.int .i64 (xs.length : Int)))), (8, .v (.c (.int .i64 (i : Int))))], [(0, some (.flat false (.int .u8) none xs))], nums.tail, [], false, []⟩)
      (fun i => i ≤ xs.length ∧ idxOf (fun x => v == x) xs = idxGo (fun x => v == x) (xs.drop i) i) (fun i => xs.length - i) (fun i R hI hR => ?_) 0 _ ⟨by simp, rfl⟩ (by simp)
  obtain ⟨hi, hx⟩ := hI
  conv => whnf
  refine sel_i (fun h2 => ?_) (fun h2 => ?_)
  · have hlt : i < xs.length := by simp at h2; omega
    conv => whnf
    repeat (refine chk_i (by first | omega | (simp; omega)) ?_; conv => whnf)
    refine sel_i (fun h3 => ?_) (fun h3 => ?_)
    · conv => whnf
      rw [hx, idxGo_yes (z := FT.zero (.int .u8)) hlt h3]
      exact ⟨rfl, rfl⟩
    · conv => whnf
      rw [wrap_id (n := (i : Int) + 1) (by omega) (by omega)]
      exact hR (i + 1) ⟨by omega, by rw [hx, idxGo_no (z := FT.zero (.int .u8)) hlt h3]⟩ (by omega)
  · conv => whnf
    rw [hx, idxGo_end (by simp at h2; omega)]
    exact ⟨rfl, rfl⟩
theorem ok_slices_Index_byte : FunOk Tryz.prog c_slices_Index_byte := funOk (E := []) (envOk_nil) mixd Tryz.func182 (pf := pf_slices_Index_byte) (by kernel_rfl) fun ts K h => by
  obtain ⟨t0, t1, e0, h⟩ := as2_out h
  subst e0
  obtain ⟨xs, e1, hq⟩ := arC_out (rd_l (.int .u8)) h
  clear h
  subst e1
  have h := hq
  clear hq
  obtain ⟨v, e1, hq⟩ := arC_out (rd_int .u8) h
  clear h
  subst e1
  have h := hq
  clear hq
  obtain ⟨hpre, h⟩ := chk_o h
  exact ⟨_, _, h, Nat.le_of_ble_eq_true (show Nat.ble 2 Tryz.f182.ntmps = true by kernel_rfl), _, run_slices_Index_byte xs v hpre⟩

def pf_slices_Contains_byte : PF := ⟨[.t 4], .seq (.reg [.s (.mv 4 (.k (.v (.c .ff))))]) (.seq (.reg [.s (.mv 5 (.t 0)), .s (.mv 6 (.t 1)), .s (.call (some 7) 182 [(.t 5), (.t 6)]), .s (.bin 8 .geq (.t 7) (.k (.v (.c (.int .i64 0))))), .s (.mv 4 (.t 8))]) (.ret))⟩
def c_slices_Contains_byte : Fun := ⟨152, [], fun ts K => as2 ts fun t0 t1 => arC (pL (.int .u8)) t0 fun xs => arC (pI .u8) t1 fun v => chk (xs.length ≤ 2147483647) (K (tB (xs.any (fun x => v == x))) [])⟩
theorem run_slices_Contains_byte (xs : List (FT.Ty (.int .u8))) (v : Int) (hpre : xs.length ≤ 2147483647) : runK [c_slices_Index_byte] (0) [] pf_slices_Contains_byte [tL false (.int .u8) xs, tI .u8 v] fun r o => r = tB (xs.any (fun x => v == x)) ∧ o = [] := by
  conv => whnf
  repeat' (first | (refine sel_i (fun h => ?_) (fun h => ?_) <;> conv => whnf) | (refine chk_c ?_ ?_ <;> conv => whnf) | (refine And.intro ?_ rfl) | (refine And.intro ?_ ?_ <;> conv => whnf))
  all_goals first | (refine ⟨?_⟩; exact hpre) | exact hpre | (rw [← idxOf_any]; rfl) | (rw [← idxOf_any])
theorem ok_slices_Contains_byte : FunOk Tryz.prog c_slices_Contains_byte := funOk (E := [c_slices_Index_byte]) (envOk_cons ok_slices_Index_byte (envOk_nil)) mixd Tryz.func152 (pf := pf_slices_Contains_byte) (by kernel_rfl) fun ts K h => by
  obtain ⟨t0, t1, e0, h⟩ := as2_out h
  subst e0
  obtain ⟨xs, e1, hq⟩ := arC_out (rd_l (.int .u8)) h
  clear h
  subst e1
  have h := hq
  clear hq
  obtain ⟨v, e1, hq⟩ := arC_out (rd_int .u8) h
  clear h
  subst e1
  have h := hq
  clear hq
  obtain ⟨hpre, h⟩ := chk_o h
  exact ⟨_, _, h, Nat.le_of_ble_eq_true (show Nat.ble 2 Tryz.f152.ntmps = true by kernel_rfl), _, run_slices_Contains_byte xs v hpre⟩

def formS (op : Int) : ByteArray :=
  if op = 1 then ⟨#[82, 78]⟩ else if op = 2 ∨ op = 4 ∨ op = 5 ∨ op = 7 ∨ op = 8 then ⟨#[82, 65, 66]⟩ else if op = 3 ∨ op = 9 ∨ op = 12 then ⟨#[82, 65]⟩ else if op = 6 then ⟨#[82, 65, 66, 78]⟩ else
  if op = 10 then ⟨#[82, 65, 78]⟩ else if op = 11 then ⟨#[65, 66, 78]⟩ else if op = 13 then ⟨#[65, 78]⟩ else if op = 14 then ⟨#[65]⟩ else ⟨#[]⟩
def maskI (op : Int) : Int := if inR op 1 15 then ([0, 9, 7, 3, 7, 7, 15, 7, 7, 3, 11, 14, 3, 10, 2, 0] : List Int).getD op.toNat 0 else 0
def hasC (op c : Int) : Bool := (bytesI (formS op)).any (fun b => c == b)
def partI (x : Inst) (c : Int) : Int := if c = 82 then x.r else if c = 65 then x.a else if c = 66 then x.b else x.n
def fld (v : Int) (b : Bool) : Bool := inR v 0 7 && (b || v == 0)
def insOk (x : Inst) : Bool := inR x.op 1 15 && fld x.r (andI (maskI x.op) 1 != 0) && fld x.a (andI (maskI x.op) 2 != 0) && fld x.b (andI (maskI x.op) 4 != 0) && inR x.n (-128) 127 && (andI (maskI x.op) 8 != 0 || x.n == 0)
def setsI (x : Inst) : Int := if andI (maskI x.op) 1 = 0 then -1 else x.r
theorem formS_len (op : Int) : (bytesI (formS op)).length ≤ 4 := by
  rw [bytesI_len]
  unfold formS
  repeat' split
  all_goals decide
def lettI (i : Nat) : Int := ([82, 65, 66, 78] : List Int).getD i 0
def partOkI (x : Inst) (c : Int) : Bool := if hasC x.op c then (if c == 78 then inR (partI x c) (-128) 127 else inR (partI x c) 0 7) else partI x c == 0
def okC : Option Bool → Cell | none => .ff | some b => .bool b
def okV : Option Bool → Bool | none => false | some b => b
theorem allR_succ (f : Nat → Bool) (n : Nat) : allR f (n + 1) = (allR f n && f n) := by simp [allR, List.range_succ]
theorem insOk_eq (x : Inst) : (inR x.op 1 15 && allR (fun j => partOkI x (lettI j)) 4) = insOk x := by
  have hall : allR (fun j => partOkI x (lettI j)) 4 = (partOkI x 82 && partOkI x 65 && partOkI x 66 && partOkI x 78) := by
    simp [allR, List.range_succ, lettI, Bool.and_assoc]
  rw [hall]
  unfold insOk
  by_cases h : inR x.op 1 15 = true
  · rw [h]
    simp only [Bool.true_and]
    obtain ⟨op, r, a, b, n⟩ := x
    have h := inR_t.1 h
    dsimp only at h ⊢
    have e0 : ∀ v : Int, (inR v 0 7 && (v == 0)) = (v == 0) := fun v => by
      by_cases e : v = 0
      · subst e; decide
      · simp [e]
    have e1 : ∀ v : Int, (inR v (-128) 127 && (v == 0)) = (v == 0) := fun v => by
      by_cases e : v = 0
      · subst e; decide
      · simp [e]
    have hop : op = 1 ∨ op = 2 ∨ op = 3 ∨ op = 4 ∨ op = 5 ∨ op = 6 ∨ op = 7 ∨ op = 8 ∨ op = 9 ∨ op = 10 ∨ op = 11 ∨ op = 12 ∨ op = 13 ∨ op = 14 ∨ op = 15 := by omega
    have key : ∀ (k1 k2 k3 k4 : Bool), hasC op 82 = k1 → hasC op 65 = k2 → hasC op 66 = k3 → hasC op 78 = k4 → (andI (maskI op) 1 != 0) = k1 → (andI (maskI op) 2 != 0) = k2 → (andI (maskI op) 4 != 0) = k3 → (andI (maskI op) 8 != 0) = k4 →
        (partOkI ⟨op, r, a, b, n⟩ 82 && partOkI ⟨op, r, a, b, n⟩ 65 && partOkI ⟨op, r, a, b, n⟩ 66 && partOkI ⟨op, r, a, b, n⟩ 78) = (fld r (andI (maskI op) 1 != 0) && fld a (andI (maskI op) 2 != 0) && fld b (andI (maskI op) 4 != 0) && inR n (-128) 127 && (andI (maskI op) 8 != 0 || n == 0)) := by
      intro k1 k2 k3 k4 a1 a2 a3 a4 b1 b2 b3 b4
      rw [b1, b2, b3, b4]
      simp only [partOkI, a1, a2, a3, a4, fld, partI]
      cases k1 <;> cases k2 <;> cases k3 <;> cases k4 <;> simp [e0, e1, Bool.and_assoc]
    rcases hop with rfl | rfl | rfl | rfl | rfl | rfl | rfl | rfl | rfl | rfl | rfl | rfl | rfl | rfl | rfl <;> exact key _ _ _ _ rfl rfl rfl rfl (by decide) (by decide) (by decide) (by decide)
  · simp only [Bool.not_eq_true] at h
    rw [h]; rfl

def pf_impl_formOf : PF := ⟨[.t 2, .t 3], .seq (.reg [.s (.mv 2 (.k (.v (.c (.str ⟨#[]⟩))))), .s (.mv 3 (.k (.v (.c .ff))))]) (.seq (.seq (.reg [.s (.mv 4 (.t 0))]) (.blk 0 (.seq (.reg [.s (.bin 6 .eql (.t 4) (.k (.v (.c (.int .i64 1))))), .s (.mv 5 (.t 6))]) (.cond (.t 5) (.seq (.reg [.s (.mv 2 (.k (.v (.c (.str ⟨#[82, 78]⟩))))), .s (.mv 3 (.k (.v (.c .tt))))]) (.ret)) (.seq (.seq (.reg [.s (.bin 8 .eql (.t 4) (.k (.v (.c (.int .i64 2))))), .s (.mv 7 (.t 8))]) (.cond (.t 7) (.skip) (.seq (.reg [.s (.bin 9 .eql (.t 4) (.k (.v (.c (.int .i64 4))))), .s (.mv 7 (.t 9))]) (.cond (.t 7) (.skip) (.seq (.reg [.s (.bin 10 .eql (.t 4) (.k (.v (.c (.int .i64 5))))), .s (.mv 7 (.t 10))]) (.cond (.t 7) (.skip) (.seq (.reg [.s (.bin 11 .eql (.t 4) (.k (.v (.c (.int .i64 7))))), .s (.mv 7 (.t 11))]) (.cond (.t 7) (.skip) (.reg [.s (.bin 12 .eql (.t 4) (.k (.v (.c (.int .i64 8))))), .s (.mv 7 (.t 12))]))))))))) (.cond (.t 7) (.seq (.reg [.s (.mv 2 (.k (.v (.c (.str ⟨#[82, 65, 66]⟩))))), .s (.mv 3 (.k (.v (.c .tt))))]) (.ret)) (.seq (.seq (.reg [.s (.bin 14 .eql (.t 4) (.k (.v (.c (.int .i64 3))))), .s (.mv 13 (.t 14))]) (.cond (.t 13) (.skip) (.seq (.reg [.s (.bin 15 .eql (.t 4) (.k (.v (.c (.int .i64 9))))), .s (.mv 13 (.t 15))]) (.cond (.t 13) (.skip) (.reg [.s (.bin 16 .eql (.t 4) (.k (.v (.c (.int .i64 12))))), .s (.mv 13 (.t 16))]))))) (.cond (.t 13) (.seq (.reg [.s (.mv 2 (.k (.v (.c (.str ⟨#[82, 65]⟩))))), .s (.mv 3 (.k (.v (.c .tt))))]) (.ret)) (.seq (.reg [.s (.bin 18 .eql (.t 4) (.k (.v (.c (.int .i64 6))))), .s (.mv 17 (.t 18))]) (.cond (.t 17) (.seq (.reg [.s (.mv 2 (.k (.v (.c (.str ⟨#[82, 65, 66, 78]⟩))))), .s (.mv 3 (.k (.v (.c .tt))))]) (.ret)) (.seq (.reg [.s (.bin 20 .eql (.t 4) (.k (.v (.c (.int .i64 10))))), .s (.mv 19 (.t 20))]) (.cond (.t 19) (.seq (.reg [.s (.mv 2 (.k (.v (.c (.str ⟨#[82, 65, 78]⟩))))), .s (.mv 3 (.k (.v (.c .tt))))]) (.ret)) (.seq (.reg [.s (.bin 22 .eql (.t 4) (.k (.v (.c (.int .i64 11))))), .s (.mv 21 (.t 22))]) (.cond (.t 21) (.seq (.reg [.s (.mv 2 (.k (.v (.c (.str ⟨#[65, 66, 78]⟩))))), .s (.mv 3 (.k (.v (.c .tt))))]) (.ret)) (.seq (.reg [.s (.bin 24 .eql (.t 4) (.k (.v (.c (.int .i64 13))))), .s (.mv 23 (.t 24))]) (.cond (.t 23) (.seq (.reg [.s (.mv 2 (.k (.v (.c (.str ⟨#[65, 78]⟩))))), .s (.mv 3 (.k (.v (.c .tt))))]) (.ret)) (.seq (.reg [.s (.bin 26 .eql (.t 4) (.k (.v (.c (.int .i64 14))))), .s (.mv 25 (.t 26))]) (.cond (.t 25) (.seq (.reg [.s (.mv 2 (.k (.v (.c (.str ⟨#[65]⟩))))), .s (.mv 3 (.k (.v (.c .tt))))]) (.ret)) (.seq (.reg [.s (.bin 28 .eql (.t 4) (.k (.v (.c (.int .i64 15))))), .s (.mv 27 (.t 28))]) (.cond (.t 27) (.seq (.reg [.s (.mv 2 (.k (.v (.c (.str ⟨#[]⟩))))), .s (.mv 3 (.k (.v (.c .tt))))]) (.ret)) (.skip))))))))))))))))))))) (.seq (.reg [.s (.mv 2 (.k (.v (.c (.str ⟨#[]⟩))))), .s (.mv 3 (.k (.v (.c .ff))))]) (.ret)))⟩
def c_impl_formOf : Fun := ⟨107, [], fun ts K => as1 ts fun t0 => arC (pI .i64) t0 fun op => K (.tup [.c (.str (formS op)), .c (.bool (inR op 1 15))]) []⟩
theorem run_impl_formOf (op : Int) : runK [] (0) [] pf_impl_formOf [tI .i64 op] fun r o => r = .tup [.c (.str (formS op)), .c (.bool (inR op 1 15))] ∧ o = [] := by
  conv => whnf
  repeat' (first | (refine sel_i (fun h => ?_) (fun h => ?_) <;> conv => whnf) | (refine chk_c ?_ ?_ <;> conv => whnf) | (refine And.intro ?_ rfl) | (refine And.intro ?_ ?_ <;> conv => whnf))
  all_goals (simp only [beq_iff_eq, beq_eq_false_iff_ne, ne_eq] at *)
  all_goals first
    | (subst h; rfl)
    | (exfalso; omega)
    | (have e1 : inR op 1 15 = false := inR_f.2 (by omega)
       have e2 : formS op = ⟨#[]⟩ := by simp only [formS, *, if_false, or_self]
       rw [e1, e2])
    | trace_state
theorem ok_impl_formOf : FunOk Tryz.prog c_impl_formOf := funOk (E := []) (envOk_nil) mixd Tryz.func107 (pf := pf_impl_formOf) (by kernel_rfl) fun ts K h => by
  obtain ⟨t0, e0, h⟩ := as1_out h
  subst e0
  obtain ⟨op, e1, hq⟩ := arC_out (rd_int .i64) h
  clear h
  subst e1
  have h := hq
  clear hq
  exact ⟨_, _, h, Nat.le_of_ble_eq_true (show Nat.ble 1 Tryz.f107.ntmps = true by kernel_rfl), _, run_impl_formOf op⟩

def pf_impl_partOf : PF := ⟨[.t 4], .seq (.reg [.s (.box 2 (.t 0)), .s (.mv 4 (.k (.v (.c (.int .i64 0)))))]) (.seq (.seq (.reg [.s (.mv 5 (.t 1))]) (.blk 0 (.seq (.reg [.s (.bin 7 .eql (.t 5) (.k (.v (.c (.int .u8 82))))), .s (.mv 6 (.t 7))]) (.cond (.t 6) (.seq (.reg [.s (.fa 8 (.t 2) 1), .s (.load 9 false 1 (.t 8)), .s (.mv 4 (.t 9))]) (.ret)) (.seq (.reg [.s (.bin 11 .eql (.t 5) (.k (.v (.c (.int .u8 65))))), .s (.mv 10 (.t 11))]) (.cond (.t 10) (.seq (.reg [.s (.fa 12 (.t 2) 2), .s (.load 13 false 1 (.t 12)), .s (.mv 4 (.t 13))]) (.ret)) (.seq (.reg [.s (.bin 15 .eql (.t 5) (.k (.v (.c (.int .u8 66))))), .s (.mv 14 (.t 15))]) (.cond (.t 14) (.seq (.reg [.s (.fa 16 (.t 2) 3), .s (.load 17 false 1 (.t 16)), .s (.mv 4 (.t 17))]) (.ret)) (.skip))))))))) (.seq (.reg [.s (.fa 18 (.t 2) 4), .s (.load 19 false 1 (.t 18)), .s (.mv 4 (.t 19))]) (.ret)))⟩
def c_impl_partOf : Fun := ⟨108, [], fun ts K => as2 ts fun t0 t1 => arG pInstT t0 fun x => arC (pI .u8) t1 fun c => K (tN (partI x c)) []⟩
theorem run_impl_partOf (x : Inst) (c : Int) : runK [] (0) [] pf_impl_partOf [tG (x.tc []), tI .u8 c] fun r o => r = tN (partI x c) ∧ o = [] := by
  conv => whnf
  repeat' (first | (refine sel_i (fun h => ?_) (fun h => ?_) <;> conv => whnf) | (refine chk_c ?_ ?_ <;> conv => whnf) | (refine And.intro ?_ rfl) | (refine And.intro ?_ ?_ <;> conv => whnf))
  all_goals (simp_all [partI]; done)
theorem ok_impl_partOf : FunOk Tryz.prog c_impl_partOf := funOk (E := []) (envOk_nil) mixd Tryz.func108 (pf := pf_impl_partOf) (by kernel_rfl) fun ts K h => by
  obtain ⟨t0, t1, e0, h⟩ := as2_out h
  subst e0
  obtain ⟨x, e1, hq⟩ := arG_out rd_inst h
  clear h
  subst e1
  have h := hq
  clear hq
  obtain ⟨c, e1, hq⟩ := arC_out (rd_int .u8) h
  clear h
  subst e1
  have h := hq
  clear hq
  exact ⟨_, _, h, Nat.le_of_ble_eq_true (show Nat.ble 2 Tryz.f108.ntmps = true by kernel_rfl), _, run_impl_partOf x c⟩

def pf_impl_hasPart : PF := ⟨[.t 4], .seq (.reg [.s (.box 2 (.t 0)), .s (.mv 4 (.k (.v (.c .ff))))]) (.seq (.reg [.s (.fa 8 (.t 2) 0), .s (.load 9 false 1 (.t 8)), .s (.call (some 10) 107 [(.t 9)]), .s (.mv 7 (.t 10)), .s (.ext 11 (.t 7) 0), .s (.ext 12 (.t 7) 1), .s (.mv 5 (.t 11)), .s (.mv 6 (.t 12))]) (.seq (.reg [.s (.mv 13 (.t 5)), .s (.s2b 14 (.t 13)), .s (.mv 15 (.t 1)), .s (.call (some 16) 152 [(.t 14), (.t 15)]), .s (.mv 4 (.t 16))]) (.ret)))⟩
def c_impl_hasPart : Fun := ⟨109, [], fun ts K => as2 ts fun t0 t1 => arG pInstT t0 fun x => arC (pI .u8) t1 fun c => K (tB (hasC x.op c)) []⟩
theorem run_impl_hasPart (x : Inst) (c : Int) : runK [c_impl_formOf, c_slices_Contains_byte] (0) [] pf_impl_hasPart [tG (x.tc []), tI .u8 c] fun r o => r = tB (hasC x.op c) ∧ o = [] := by
  have hl := formS_len x.op
  conv => whnf
  repeat' (first | (refine sel_i (fun h => ?_) (fun h => ?_) <;> conv => whnf) | (refine chk_c ?_ ?_ <;> conv => whnf) | (refine And.intro ?_ rfl) | (refine And.intro ?_ ?_ <;> conv => whnf))
  all_goals first | rfl | (refine ⟨?_⟩; omega) | trace_state
theorem ok_impl_hasPart : FunOk Tryz.prog c_impl_hasPart := funOk (E := [c_impl_formOf, c_slices_Contains_byte]) (envOk_cons ok_impl_formOf (envOk_cons ok_slices_Contains_byte (envOk_nil))) mixd Tryz.func109 (pf := pf_impl_hasPart) (by kernel_rfl) fun ts K h => by
  obtain ⟨t0, t1, e0, h⟩ := as2_out h
  subst e0
  obtain ⟨x, e1, hq⟩ := arG_out rd_inst h
  clear h
  subst e1
  have h := hq
  clear hq
  obtain ⟨c, e1, hq⟩ := arC_out (rd_int .u8) h
  clear h
  subst e1
  have h := hq
  clear hq
  exact ⟨_, _, h, Nat.le_of_ble_eq_true (show Nat.ble 2 Tryz.f109.ntmps = true by kernel_rfl), _, run_impl_hasPart x c⟩

def pf_spec_l6Has : PF := ⟨[.t 2], .seq (.reg [.s (.mv 2 (.k (.v (.c (.int .i64 0)))))]) (.seq (.seq (.reg [.s (.mv 3 (.t 0)), .s (.call (some 4) 42 [(.t 3), (.k (.v (.c (.int .i64 1)))), (.k (.v (.c (.int .i64 15))))]), .s (.bnot 5 (.t 4))]) (.cond (.t 5) (.seq (.reg [.s (.mv 2 (.k (.v (.c (.int .i64 0)))))]) (.ret)) (.skip))) (.seq (.reg [.s (.bs 6 (.int .i64) [(.k (.v (.c (.int .i64 0)))), (.k (.v (.c (.int .i64 9)))), (.k (.v (.c (.int .i64 7)))), (.k (.v (.c (.int .i64 3)))), (.k (.v (.c (.int .i64 7)))), (.k (.v (.c (.int .i64 7)))), (.k (.v (.c (.int .i64 15)))), (.k (.v (.c (.int .i64 7)))), (.k (.v (.c (.int .i64 7)))), (.k (.v (.c (.int .i64 3)))), (.k (.v (.c (.int .i64 11)))), (.k (.v (.c (.int .i64 14)))), (.k (.v (.c (.int .i64 3)))), (.k (.v (.c (.int .i64 10)))), (.k (.v (.c (.int .i64 2)))), (.k (.v (.c (.int .i64 0))))]), .s (.mv 7 (.t 0)), .s (.ia 8 (.int .i64) (.t 6) (.t 7)), .s (.load 9 false 1 (.t 8)), .s (.mv 2 (.t 9))]) (.ret)))⟩
def c_spec_l6Has : Fun := ⟨143, [], fun ts K => as1 ts fun t0 => arC (pI .i64) t0 fun op => K (tN (maskI op)) []⟩
theorem run_spec_l6Has (op : Int) : runK [c_spec_l1In] (0) [] pf_spec_l6Has [tI .i64 op] fun r o => r = tN (maskI op) ∧ o = [] := by
  conv => whnf
  repeat' (first | (refine sel_i (fun h => ?_) (fun h => ?_) <;> conv => whnf) | (refine chk_c ?_ ?_ <;> conv => whnf) | (refine And.intro ?_ rfl) | (refine And.intro ?_ ?_ <;> conv => whnf))
  all_goals (try simp only [inR_t, inR_f, Bool.not_eq_true', Bool.not_eq_false'] at *)
  all_goals first
    | (refine ⟨?_⟩; show _ ≤ _ ∧ _ < (16 : Int); omega)
    | (refine ⟨?_⟩; show op.toNat < 16; omega)
    | (rw [show maskI op = 0 by unfold maskI; rw [if_neg (by rw [inR_t]; omega)]])
    | (unfold maskI; rw [if_pos (by rw [inR_t]; omega)]; rfl)
    | trace_state
theorem ok_spec_l6Has : FunOk Tryz.prog c_spec_l6Has := funOk (E := [c_spec_l1In]) (envOk_cons ok_spec_l1In (envOk_nil)) mixd Tryz.func143 (pf := pf_spec_l6Has) (by kernel_rfl) fun ts K h => by
  obtain ⟨t0, e0, h⟩ := as1_out h
  subst e0
  obtain ⟨op, e1, hq⟩ := arC_out (rd_int .i64) h
  clear h
  subst e1
  have h := hq
  clear hq
  exact ⟨_, _, h, Nat.le_of_ble_eq_true (show Nat.ble 1 Tryz.f143.ntmps = true by kernel_rfl), _, run_spec_l6Has op⟩

def pf_spec_l6Field : PF := ⟨[.t 4], .seq (.reg [.s (.mv 4 (.k (.v (.c .ff))))]) (.seq (.reg [.s (.mv 5 (.t 0)), .s (.call (some 6) 42 [(.t 5), (.k (.v (.c (.int .i64 0)))), (.k (.v (.c (.int .i64 7))))]), .s (.mv 7 (.t 6)), .g 7 true (some 8) (.mv 8 (.t 1)), .g 7 true (some 9) (.mv 9 (.t 8)), .g 9 false (some 10) (.mv 10 (.t 0)), .g 9 false (some 11) (.bin 11 .eql (.t 10) (.k (.v (.c (.int .i64 0))))), .g 7 true (some 12) (.pick 12 (.t 9) (.k (.v (.c .tt))) (.t 11)), .s (.pick 13 (.t 7) (.t 12) (.k (.v (.c .ff)))), .s (.mv 4 (.t 13))]) (.ret))⟩
def c_spec_l6Field : Fun := ⟨144, [], fun ts K => as2 ts fun t0 t1 => arC (pI .i64) t0 fun v => arC pB t1 fun b => K (tB (fld v b)) []⟩
theorem run_spec_l6Field (v : Int) (b : Bool) : runK [c_spec_l1In] (0) [] pf_spec_l6Field [tI .i64 v, tB b] fun r o => r = tB (fld v b) ∧ o = [] := by
  conv => whnf
  repeat' (first | (refine sel_i (fun h => ?_) (fun h => ?_) <;> conv => whnf) | (refine chk_c ?_ ?_ <;> conv => whnf) | (refine And.intro ?_ rfl) | (refine And.intro ?_ ?_ <;> conv => whnf))
  all_goals (simp_all [fld]; done)
theorem ok_spec_l6Field : FunOk Tryz.prog c_spec_l6Field := funOk (E := [c_spec_l1In]) (envOk_cons ok_spec_l1In (envOk_nil)) mixd Tryz.func144 (pf := pf_spec_l6Field) (by kernel_rfl) fun ts K h => by
  obtain ⟨t0, t1, e0, h⟩ := as2_out h
  subst e0
  obtain ⟨v, e1, hq⟩ := arC_out (rd_int .i64) h
  clear h
  subst e1
  have h := hq
  clear hq
  obtain ⟨b, e1, hq⟩ := arC_out rd_b h
  clear h
  subst e1
  have h := hq
  clear hq
  exact ⟨_, _, h, Nat.le_of_ble_eq_true (show Nat.ble 2 Tryz.f144.ntmps = true by kernel_rfl), _, run_spec_l6Field v b⟩

def pf_spec_InsOk : PF := ⟨[.t 2], .seq (.reg [.s (.box 1 (.t 0)), .s (.mv 2 (.k (.v (.c .ff))))]) (.seq (.reg [.s (.fa 4 (.t 1) 0), .s (.load 5 false 1 (.t 4)), .s (.call (some 6) 143 [(.t 5)]), .s (.mv 3 (.t 6))]) (.seq (.reg [.s (.fa 7 (.t 1) 0), .s (.load 8 false 1 (.t 7)), .s (.call (some 9) 42 [(.t 8), (.k (.v (.c (.int .i64 1)))), (.k (.v (.c (.int .i64 15))))]), .s (.mv 10 (.t 9)), .g 10 true (some 11) (.fa 11 (.t 1) 1), .g 10 true (some 12) (.load 12 false 1 (.t 11)), .g 10 true (some 13) (.mv 13 (.t 3)), .g 10 true (some 14) (.bin 14 .and (.t 13) (.k (.v (.c (.int .i64 1))))), .g 10 true (some 15) (.bin 15 .neq (.t 14) (.k (.v (.c (.int .i64 0))))), .g 10 true (some 16) (.call (some 16) 144 [(.t 12), (.t 15)]), .s (.pick 17 (.t 10) (.t 16) (.k (.v (.c .ff)))), .s (.mv 18 (.t 17)), .g 18 true (some 19) (.fa 19 (.t 1) 2), .g 18 true (some 20) (.load 20 false 1 (.t 19)), .g 18 true (some 21) (.mv 21 (.t 3)), .g 18 true (some 22) (.bin 22 .and (.t 21) (.k (.v (.c (.int .i64 2))))), .g 18 true (some 23) (.bin 23 .neq (.t 22) (.k (.v (.c (.int .i64 0))))), .g 18 true (some 24) (.call (some 24) 144 [(.t 20), (.t 23)]), .s (.pick 25 (.t 18) (.t 24) (.k (.v (.c .ff)))), .s (.mv 26 (.t 25)), .g 26 true (some 27) (.fa 27 (.t 1) 3), .g 26 true (some 28) (.load 28 false 1 (.t 27)), .g 26 true (some 29) (.mv 29 (.t 3)), .g 26 true (some 30) (.bin 30 .and (.t 29) (.k (.v (.c (.int .i64 4))))), .g 26 true (some 31) (.bin 31 .neq (.t 30) (.k (.v (.c (.int .i64 0))))), .g 26 true (some 32) (.call (some 32) 144 [(.t 28), (.t 31)]), .s (.pick 33 (.t 26) (.t 32) (.k (.v (.c .ff)))), .s (.mv 34 (.t 33)), .g 34 true (some 35) (.fa 35 (.t 1) 4), .g 34 true (some 36) (.load 36 false 1 (.t 35)), .g 34 true (some 37) (.call (some 37) 42 [(.t 36), (.k (.v (.c (.int .i64 (-128))))), (.k (.v (.c (.int .i64 127))))]), .s (.pick 38 (.t 34) (.t 37) (.k (.v (.c .ff)))), .s (.mv 39 (.t 38)), .g 39 true (some 40) (.mv 40 (.t 3)), .g 39 true (some 41) (.bin 41 .and (.t 40) (.k (.v (.c (.int .i64 8))))), .g 39 true (some 42) (.bin 42 .neq (.t 41) (.k (.v (.c (.int .i64 0))))), .g 39 true (some 43) (.mv 43 (.t 42)), .g 43 false (some 44) (.fa 44 (.t 1) 4), .g 43 false (some 45) (.load 45 false 1 (.t 44)), .g 43 false (some 46) (.bin 46 .eql (.t 45) (.k (.v (.c (.int .i64 0))))), .g 39 true (some 47) (.pick 47 (.t 43) (.k (.v (.c .tt))) (.t 46)), .s (.pick 48 (.t 39) (.t 47) (.k (.v (.c .ff)))), .s (.mv 2 (.t 48))]) (.ret)))⟩
def c_spec_InsOk : Fun := ⟨95, [], fun ts K => as1 ts fun t0 => arG pInstT t0 fun x => K (tB (insOk x)) []⟩
theorem run_spec_InsOk (x : Inst) : runK [c_spec_l1In, c_spec_l6Has, c_spec_l6Field] (0) [] pf_spec_InsOk [tG (x.tc [])] fun r o => r = tB (insOk x) ∧ o = [] := by
  conv => whnf
  repeat' (first | (refine sel_i (fun h => ?_) (fun h => ?_) <;> conv => whnf) | (refine chk_c ?_ ?_ <;> conv => whnf) | (refine And.intro ?_ rfl) | (refine And.intro ?_ ?_ <;> conv => whnf))
  all_goals (try simp only [andI_eq] at *)
  all_goals (simp only [insOk, *, Bool.true_and, Bool.false_and, Bool.and_true, Bool.and_false, Bool.or_true, Bool.true_or, Bool.false_or]; first | done | trace_state)
theorem ok_spec_InsOk : FunOk Tryz.prog c_spec_InsOk := funOk (E := [c_spec_l1In, c_spec_l6Has, c_spec_l6Field]) (envOk_cons ok_spec_l1In (envOk_cons ok_spec_l6Has (envOk_cons ok_spec_l6Field (envOk_nil)))) mixd Tryz.func95 (pf := pf_spec_InsOk) (by kernel_rfl) fun ts K h => by
  obtain ⟨t0, e0, h⟩ := as1_out h
  subst e0
  obtain ⟨x, e1, hq⟩ := arG_out rd_inst h
  clear h
  subst e1
  have h := hq
  clear hq
  exact ⟨_, _, h, Nat.le_of_ble_eq_true (show Nat.ble 1 Tryz.f95.ntmps = true by kernel_rfl), _, run_spec_InsOk x⟩

def pf_spec_Sets : PF := ⟨[.t 2], .seq (.reg [.s (.box 1 (.t 0)), .s (.mv 2 (.k (.v (.c (.int .i64 0)))))]) (.seq (.seq (.reg [.s (.fa 3 (.t 1) 0), .s (.load 4 false 1 (.t 3)), .s (.call (some 5) 143 [(.t 4)]), .s (.bin 6 .and (.t 5) (.k (.v (.c (.int .i64 1))))), .s (.bin 7 .eql (.t 6) (.k (.v (.c (.int .i64 0)))))]) (.cond (.t 7) (.seq (.reg [.s (.mv 2 (.k (.v (.c (.int .i64 (-1))))))]) (.ret)) (.skip))) (.seq (.reg [.s (.fa 8 (.t 1) 1), .s (.load 9 false 1 (.t 8)), .s (.mv 2 (.t 9))]) (.ret)))⟩
def c_spec_Sets : Fun := ⟨175, [], fun ts K => as1 ts fun t0 => arG pInstT t0 fun x => K (tN (setsI x)) []⟩
theorem run_spec_Sets (x : Inst) : runK [c_spec_l6Has] (0) [] pf_spec_Sets [tG (x.tc [])] fun r o => r = tN (setsI x) ∧ o = [] := by
  conv => whnf
  repeat' (first | (refine sel_i (fun h => ?_) (fun h => ?_) <;> conv => whnf) | (refine chk_c ?_ ?_ <;> conv => whnf) | (refine And.intro ?_ rfl) | (refine And.intro ?_ ?_ <;> conv => whnf))
  all_goals (try simp only [andI_eq, beq_iff_eq, beq_eq_false_iff_ne] at *)
  all_goals (simp_all [setsI]; done)
theorem ok_spec_Sets : FunOk Tryz.prog c_spec_Sets := funOk (E := [c_spec_l6Has]) (envOk_cons ok_spec_l6Has (envOk_nil)) mixd Tryz.func175 (pf := pf_spec_Sets) (by kernel_rfl) fun ts K h => by
  obtain ⟨t0, e0, h⟩ := as1_out h
  subst e0
  obtain ⟨x, e1, hq⟩ := arG_out rd_inst h
  clear h
  subst e1
  have h := hq
  clear hq
  exact ⟨_, _, h, Nat.le_of_ble_eq_true (show Nat.ble 1 Tryz.f175.ntmps = true by kernel_rfl), _, run_spec_Sets x⟩

def lb_impl_InsOk_0 : PC := .seq (.reg [.s (.bin 18 .lss (.t 17) (.t 16))]) (.seq (.cond (.t 18) (.skip) (.exit 0)) (.seq (.blk 1 (.seq (.reg [.s (.ia 19 (.int .u8) (.t 15) (.t 17)), .s (.load 20 false 1 (.t 19)), .s (.mv 6 (.t 20))]) (.seq (.reg [.s (.load 21 true 5 (.t 1)), .s (.mv 22 (.t 6)), .s (.call (some 23) 108 [(.t 21), (.t 22)]), .s (.mv 7 (.t 23))]) (.blk 2 (.seq (.reg [.s (.load 30 true 5 (.t 1)), .s (.mv 31 (.t 6)), .s (.call (some 32) 109 [(.t 30), (.t 31)]), .s (.bnot 33 (.t 32)), .s (.mv 29 (.t 33))]) (.cond (.t 29) (.reg [.s (.mv 34 (.t 4)), .s (.mv 35 (.t 34)), .g 35 true (some 36) (.mv 36 (.t 7)), .g 35 true (some 37) (.bin 37 .eql (.t 36) (.k (.v (.c (.int .i64 0))))), .s (.pick 38 (.t 35) (.t 37) (.k (.v (.c .ff)))), .s (.mv 4 (.t 38))]) (.seq (.reg [.s (.mv 40 (.t 6)), .s (.bin 41 .eql (.t 40) (.k (.v (.c (.int .u8 78))))), .s (.mv 39 (.t 41))]) (.cond (.t 39) (.reg [.s (.mv 42 (.t 4)), .s (.mv 43 (.t 42)), .g 43 true (some 44) (.mv 44 (.t 7)), .g 43 true (some 45) (.call (some 45) 36 [(.t 44), (.k (.v (.c (.int .i64 (-128))))), (.k (.v (.c (.int .i64 127))))]), .s (.pick 46 (.t 43) (.t 45) (.k (.v (.c .ff)))), .s (.mv 4 (.t 46))]) (.reg [.s (.mv 24 (.t 4)), .s (.mv 25 (.t 24)), .g 25 true (some 26) (.mv 26 (.t 7)), .g 25 true (some 27) (.call (some 27) 36 [(.t 26), (.k (.v (.c (.int .i64 0)))), (.k (.v (.c (.int .i64 7))))]), .s (.pick 28 (.t 25) (.t 27) (.k (.v (.c .ff)))), .s (.mv 4 (.t 28))]))))))))) (.reg [.s (.bin 47 .add (.t 17) (.k (.v (.c (.int .i64 1))))), .s (.mv 17 (.t 47))])))
def pf_impl_InsOk : PF := ⟨[.t 2], .seq (.reg [.s (.box 1 (.t 0)), .s (.mv 2 (.k (.v (.c .ff))))]) (.seq (.reg [.s (.fa 9 (.t 1) 0), .s (.load 10 false 1 (.t 9)), .s (.call (some 11) 107 [(.t 10)]), .s (.mv 8 (.t 11)), .s (.ext 12 (.t 8) 0), .s (.ext 13 (.t 8) 1), .s (.mv 3 (.t 12)), .s (.mv 4 (.t 13))]) (.seq (.seq (.reg [.s (.bs 14 (.int .u8) [(.k (.v (.c (.int .u8 82)))), (.k (.v (.c (.int .u8 65)))), (.k (.v (.c (.int .u8 66)))), (.k (.v (.c (.int .u8 78))))]), .s (.stri 15 (.t 14)), .s (.len 16 false (.t 15)), .s (.mv 17 (.k (.v (.c (.int .i64 0)))))]) (.blk 0 (.loop [1, 4, 15, 16, 17] lb_impl_InsOk_0))) (.seq (.reg [.s (.mv 48 (.t 4)), .s (.mv 2 (.t 48))]) (.ret))))⟩
def c_impl_InsOk : Fun := ⟨61, [], fun ts K => as1 ts fun t0 => arG pInstT t0 fun x => K (tB (insOk x)) []⟩
theorem run_impl_InsOk (x : Inst) : runK [c_impl_in, c_impl_formOf, c_impl_partOf, c_impl_hasPart] (6) [] pf_impl_InsOk [tG (x.tc [])] fun r o => r = tB (insOk x) ∧ o = [] := by
  rw [← insOk_eq]
  conv => whnf
  refine chk_i (by decide) ?_
  conv => whnf
  refine loop (α := Nat × Option Bool) (fun q => ⟨[(1, .v (.c (.ptr 0 0))), (4, .v (.c (okC q.2))), (15, .v (.c (.sl true (.int .u8) 1))), (16, .v (.c (.int .i64 (([82, 65, 66, 78] : List Int).length : Int)))), (17, .v (.c (.int .i64 (q.1 : Int))))],
        [(1, some (.flat true (.int .u8) none [82, 65, 66, 78])), (0, some (.box true [.int .i64 x.op, .int .i64 x.r, .int .i64 x.a, .int .i64 x.b, .int .i64 x.n]))], nums.tail.tail, [], false, []⟩)
      (fun q => q.1 ≤ 4 ∧ okV q.2 = (inR x.op 1 15 && allR (fun j => partOkI x (lettI j)) q.1)) (fun q => 4 - q.1) (fun q R hI hR => ?_) (0, some (inR x.op 1 15)) _ ⟨by simp, by simp [okV, allR]⟩ (by dsimp only; omega)
  obtain ⟨i, o⟩ := q
  obtain ⟨hi, hx⟩ := hI
  dsimp only at hi hx
  dsimp only
  have hl4 : (([82, 65, 66, 78] : List Int).length : Int) = 4 := rfl
  have hg : ([82, 65, 66, 78] : List Int).getD ((i : Int)).toNat (FT.zero (.int .u8)) = lettI i := rfl
  conv => whnf
  refine sel_i (fun h => ?_) (fun h => ?_)
  · have hlt : i < 4 := by rw [hl4] at h; simp at h; omega
    clear h
    have hs := allR_succ (fun j => partOkI x (lettI j)) i
    cases o
    all_goals (dsimp only [okC, okV] at *)
    all_goals conv => whnf
    all_goals repeat' (first | (refine sel_i (fun h => ?_) (fun h => ?_) <;> conv => whnf) | (refine chk_c ?_ ?_ <;> conv => whnf) | (refine And.intro ?_ rfl) | (refine And.intro ?_ ?_ <;> conv => whnf))
    all_goals (try simp only [hg, hl4, etaInst, Bool.not_eq_true', Bool.not_eq_false'] at *)
    all_goals first
      | (refine ⟨?_⟩; omega)
      | (refine ⟨?_⟩; exact hlt)
      | (rw [wrap_id (n := (i : Int) + 1) (by omega) (by omega)]
         exact hR (i + 1, none) ⟨by dsimp only; omega, by dsimp only [okV]; rw [hs, ← Bool.and_assoc, ← hx]; clear hx hs hR; simp [partOkI, *]⟩ (by dsimp only; omega))
      | (rw [wrap_id (n := (i : Int) + 1) (by omega) (by omega)]
         exact hR (i + 1, some _) ⟨by dsimp only; omega, by dsimp only [okV]; rw [hs, ← Bool.and_assoc, ← hx]; clear hx hs hR; simp [partOkI, *]⟩ (by dsimp only; omega))
      | trace_state
  · have e : i = 4 := by rw [hl4] at h; simp at h; omega
    subst e
    rw [← hx]
    cases o <;> (conv => whnf) <;> exact ⟨rfl, rfl⟩
theorem ok_impl_InsOk : FunOk Tryz.prog c_impl_InsOk := funOk (E := [c_impl_in, c_impl_formOf, c_impl_partOf, c_impl_hasPart]) (envOk_cons ok_impl_in (envOk_cons ok_impl_formOf (envOk_cons ok_impl_partOf (envOk_cons ok_impl_hasPart (envOk_nil))))) mixd Tryz.func61 (pf := pf_impl_InsOk) (by kernel_rfl) fun ts K h => by
  obtain ⟨t0, e0, h⟩ := as1_out h
  subst e0
  obtain ⟨x, e1, hq⟩ := arG_out rd_inst h
  clear h
  subst e1
  have h := hq
  clear hq
  exact ⟨_, _, h, Nat.le_of_ble_eq_true (show Nat.ble 1 Tryz.f61.ntmps = true by kernel_rfl), _, run_impl_InsOk x⟩
end Go.Pi
