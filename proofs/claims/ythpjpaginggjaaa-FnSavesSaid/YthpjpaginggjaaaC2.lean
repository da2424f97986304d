/- Contracts of functions, each out of its run by PI. No conditions. -/
import Derived.Test.YthpjpaginggjaaaC1
namespace Go.Pi
open Go.Proofs
set_option linter.unusedVariables false
set_option linter.unusedSimpArgs false
set_option maxRecDepth 100000
attribute [local irreducible] iterN
def plainW (n : Int) : Word := ⟨andI n 65535, false, ⟨0, 0, 0, 0⟩⟩
def gonB (g : List Bool) (w : Word) : Bool := w.is && inR w.key.base 0 (g.length - 1) && g.getD w.key.base.toNat false
def filterW (g : List Bool) (w : Word) : Word := if gonB g w then plainW w.n else w

def pf_spec_Plain : PF := ⟨[.c 2 true 6], .seq (.reg [.s (.alloc 2 [.int .i64 0, .ff, .int .i64 0, .int .i64 0, .int .i64 0, .int .i64 0])]) (.seq (.reg [.s (.mv 3 (.t 0)), .s (.bin 4 .and (.t 3) (.k (.v (.c (.int .i64 65535))))), .s (.build 5 [.int .i64 0, .ff, .int .i64 0, .int .i64 0, .int .i64 0, .int .i64 0] [(0, 1, (.t 4))]), .s (.store 6 (.t 2) (.t 5))]) (.ret))⟩
def c_spec_Plain : Fun := ⟨164, [], fun ts K => as1 ts fun t0 => arC (pI .i64) t0 fun n => K (tG ((plainW n).tc [])) []⟩
theorem run_spec_Plain (n : Int) : runK [] (0) [] pf_spec_Plain [tI .i64 n] fun r o => r = tG ((plainW n).tc []) ∧ o = [] := by
  conv => whnf
  repeat' (first
    | exact rfl
    | exact trivial
    | (refine sel_i (fun h => ?_) (fun h => ?_) <;> conv => whnf)
    | (refine chk_c ?_ ?_ <;> conv => whnf)
    | (refine And.intro ?_ ?_ <;> conv => whnf))
theorem ok_spec_Plain : FunOk Try.prog c_spec_Plain := funOk (E := []) (envOk_nil) mixd Try.func164 (pf := pf_spec_Plain) (by kernel_rfl) fun ts K h => by
  obtain ⟨t0, e0, h⟩ := as1_out h
  subst e0
  obtain ⟨n, e1, hq⟩ := arC_out (rd_int .i64) h
  clear h
  subst e1
  have h := hq
  clear hq
  exact ⟨_, _, h, Nat.le_of_ble_eq_true (show Nat.ble 1 Try.f164.ntmps = true by kernel_rfl), _, run_spec_Plain n⟩

def pf_spec_Bare : PF := ⟨[.c 2 true 6], .seq (.reg [.s (.box 1 (.t 0)), .s (.alloc 2 [.int .i64 0, .ff, .int .i64 0, .int .i64 0, .int .i64 0, .int .i64 0])]) (.seq (.reg [.s (.fa 3 (.t 1) 0), .s (.load 4 false 1 (.t 3)), .s (.call (some 5) 164 [(.t 4)]), .s (.store 6 (.t 2) (.t 5))]) (.ret))⟩
def c_spec_Bare : Fun := ⟨226, [], fun ts K => as1 ts fun t0 => arG pWordT t0 fun w => K (tG ((plainW w.n).tc [])) []⟩
theorem run_spec_Bare (w : Word) : runK [c_spec_Plain] (0) [] pf_spec_Bare [tG (w.tc [])] fun r o => r = tG ((plainW w.n).tc []) ∧ o = [] := by
  conv => whnf
  repeat' (first
    | exact rfl
    | exact trivial
    | (refine sel_i (fun h => ?_) (fun h => ?_) <;> conv => whnf)
    | (refine chk_c ?_ ?_ <;> conv => whnf)
    | (refine And.intro ?_ ?_ <;> conv => whnf))
theorem ok_spec_Bare : FunOk Try.prog c_spec_Bare := funOk (E := [c_spec_Plain]) (envOk_cons ok_spec_Plain (envOk_nil)) mixd Try.func226 (pf := pf_spec_Bare) (by kernel_rfl) fun ts K h => by
  obtain ⟨t0, e0, h⟩ := as1_out h
  subst e0
  obtain ⟨w, e1, hq⟩ := arG_out rd_word h
  clear h
  subst e1
  have h := hq
  clear hq
  exact ⟨_, _, h, Nat.le_of_ble_eq_true (show Nat.ble 1 Try.f226.ntmps = true by kernel_rfl), _, run_spec_Bare w⟩

def pf_spec_Filter : PF := ⟨[.c 4 true 6], .seq (.reg [.s (.box 2 (.t 0)), .s (.box 3 (.t 1)), .s (.alloc 4 [.int .i64 0, .ff, .int .i64 0, .int .i64 0, .int .i64 0, .int .i64 0])]) (.seq (.seq (.reg [.s (.fa 5 (.t 3) 1), .s (.load 6 false 1 (.t 5)), .s (.mv 7 (.t 6)), .g 7 true (some 8) (.fa 8 (.t 3) 2), .g 7 true (some 9) (.fa 9 (.t 8) 0), .g 7 true (some 10) (.load 10 false 1 (.t 9)), .g 7 true (some 11) (.fa 11 (.t 2) 1), .g 7 true (some 12) (.load 12 false 1 (.t 11)), .g 7 true (some 13) (.len 13 false (.t 12)), .g 7 true (some 14) (.bin 14 .sub (.t 13) (.k (.v (.c (.int .i64 1))))), .g 7 true (some 15) (.call (some 15) 149 [(.t 10), (.k (.v (.c (.int .i64 0)))), (.t 14)]), .s (.pick 16 (.t 7) (.t 15) (.k (.v (.c .ff)))), .s (.mv 17 (.t 16)), .g 17 true (some 18) (.fa 18 (.t 2) 1), .g 17 true (some 19) (.load 19 false 1 (.t 18)), .g 17 true (some 20) (.fa 20 (.t 3) 2), .g 17 true (some 21) (.fa 21 (.t 20) 0), .g 17 true (some 22) (.load 22 false 1 (.t 21)), .g 17 true (some 23) (.ia 23 .bool (.t 19) (.t 22)), .g 17 true (some 24) (.load 24 false 1 (.t 23)), .s (.pick 25 (.t 17) (.t 24) (.k (.v (.c .ff))))]) (.cond (.t 25) (.seq (.reg [.s (.load 26 true 6 (.t 3)), .s (.call (some 27) 226 [(.t 26)]), .s (.store 6 (.t 4) (.t 27))]) (.ret)) (.skip))) (.seq (.reg [.s (.load 28 true 6 (.t 3)), .s (.store 6 (.t 4) (.t 28))]) (.ret)))⟩
def c_spec_Filter : Fun := ⟨229, [], fun ts K => as2 ts fun t0 t1 => arG pMemT t0 fun m => arG pWordT t1 fun w => chk (LMem m 2147483647) (K (tG ((filterW m.gone w).tc [])) [])⟩
theorem run_spec_Filter (m : Mem) (w : Word) (hpre : LMem m 2147483647) : runK [c_spec_l1In, c_spec_Bare] (0) [] pf_spec_Filter [tG (m.tc false []), tG (w.tc [])] fun r o => r = tG ((filterW m.gone w).tc []) ∧ o = [] := by
  obtain ⟨l1, l2⟩ := hpre
  have w1 : IntKind.i64.wrap ((m.gone.length : Int) - 1) = (m.gone.length : Int) - 1 := wrap_id (by omega) (by omega)
  conv => whnf
  repeat' (first | (refine sel_i (fun h => ?_) (fun h => ?_) <;> conv => whnf) | (refine chk_c ?_ ?_ <;> conv => whnf) | (refine And.intro ?_ rfl) | (refine And.intro ?_ ?_ <;> conv => whnf))
  all_goals (try simp only [w1, show FT.zero .bool = false from rfl] at *)
  all_goals first
    | (refine ⟨?_⟩; rename_i g; have := inR_t.1 g; omega)
    | (refine ⟨?_⟩; have := inR_t.1 h; omega)
    | (rw [show filterW m.gone w = plainW w.n by simp only [filterW, gonB, *, Bool.and_self, if_true]]; rfl)
    | (rw [show filterW m.gone w = w by simp only [filterW, gonB, *, Bool.and_false, Bool.false_and, Bool.false_eq_true, if_false]]; rfl)
    | trace_state
theorem ok_spec_Filter : FunOk Try.prog c_spec_Filter := funOk (E := [c_spec_l1In, c_spec_Bare]) (envOk_cons ok_spec_l1In (envOk_cons ok_spec_Bare (envOk_nil))) mixd Try.func229 (pf := pf_spec_Filter) (by kernel_rfl) fun ts K h => by
  obtain ⟨t0, t1, e0, h⟩ := as2_out h
  subst e0
  obtain ⟨m, e1, hq⟩ := arG_out rd_mem h
  clear h
  subst e1
  have h := hq
  clear hq
  obtain ⟨w, e1, hq⟩ := arG_out rd_word h
  clear h
  subst e1
  have h := hq
  clear hq
  obtain ⟨hpre, h⟩ := chk_o h
  exact ⟨_, _, h, Nat.le_of_ble_eq_true (show Nat.ble 2 Try.f229.ntmps = true by kernel_rfl), _, run_spec_Filter m w hpre⟩


def tryW (w : Word) (n p : Int) : Int := if w.is = false ∨ wordOk w = false then 1 else if w.key.sealed ≠ 0 then 2 else if andI w.key.perms p ≠ p then 3 else if n < w.key.base ∨ w.key.top ≤ n then 4 else 0
def takenW (y w : Word) : Word := if andI y.key.perms 8 = 0 then plainW w.n else w
def mayPut (y w : Word) : Bool := !w.is || andI y.key.perms 16 != 0
def openW (w : Word) : Bool := wordOk w && w.is && w.key.sealed == 0
theorem openW_is {w : Word} (h : openW w = true) : w.is = true := by simp only [openW, Bool.and_eq_true] at h; exact h.1.2
def weakenW (w : Word) (m : Int) : Word := if openW w then { w with key := { w.key with perms := andI w.key.perms (andI m 63) } } else plainW w.n
def narrowW (w : Word) (n : Int) : Word :=
  if openW w && inR n 0 4096 && boundsOk w.n (IntKind.i64.wrap (w.n + n)) then
    (if (wide w.n (IntKind.i64.wrap (w.n + n))).1 < w.key.base ∨ w.key.top < (wide w.n (IntKind.i64.wrap (w.n + n))).2 then plainW w.n else { w with key := { w.key with base := (wide w.n (IntKind.i64.wrap (w.n + n))).1, top := (wide w.n (IntKind.i64.wrap (w.n + n))).2 } })
  else plainW w.n
def pointW (w : Word) (n : Int) : Word := if openW w then ⟨andI n 65535, true, w.key⟩ else plainW n
def sealsB (y : Word) : Bool := openW y && (andI y.key.perms 32 != 0) && decide (y.key.base ≤ y.n) && decide (y.n < y.key.top) && inR y.n 1 7
def sealBy (w y : Word) : Word := if openW w && sealsB y then { w with key := { w.key with sealed := y.n } } else plainW w.n
def openBy (w y : Word) : Word := if wordOk w && w.is && sealsB y && w.key.sealed == y.n then { w with key := { w.key with sealed := 0 } } else plainW w.n

def pf_spec_Try : PF := ⟨[.t 6], .seq (.reg [.s (.box 3 (.t 0)), .s (.mv 6 (.k (.v (.c (.int .i64 0)))))]) (.seq (.blk 0 (.seq (.reg [.s (.load 8 true 6 (.t 3)), .s (.call (some 9) 90 [(.t 8)]), .s (.bnot 10 (.t 9)), .s (.mv 11 (.t 10)), .g 11 false (some 12) (.fa 12 (.t 3) 1), .g 11 false (some 13) (.load 13 false 1 (.t 12)), .g 11 false (some 14) (.bnot 14 (.t 13)), .s (.pick 15 (.t 11) (.k (.v (.c .tt))) (.t 14)), .s (.mv 7 (.t 15))]) (.cond (.t 7) (.seq (.reg [.s (.mv 6 (.k (.v (.c (.int .i64 1)))))]) (.ret)) (.seq (.reg [.s (.fa 17 (.t 3) 2), .s (.fa 18 (.t 17) 3), .s (.load 19 false 1 (.t 18)), .s (.bin 20 .neq (.t 19) (.k (.v (.c (.int .i64 0))))), .s (.mv 16 (.t 20))]) (.cond (.t 16) (.seq (.reg [.s (.mv 6 (.k (.v (.c (.int .i64 2)))))]) (.ret)) (.seq (.reg [.s (.fa 22 (.t 3) 2), .s (.fa 23 (.t 22) 2), .s (.load 24 false 1 (.t 23)), .s (.mv 25 (.t 2)), .s (.bin 26 .and (.t 24) (.t 25)), .s (.mv 27 (.t 2)), .s (.bin 28 .neq (.t 26) (.t 27)), .s (.mv 21 (.t 28))]) (.cond (.t 21) (.seq (.reg [.s (.mv 6 (.k (.v (.c (.int .i64 3)))))]) (.ret)) (.seq (.reg [.s (.mv 30 (.t 1)), .s (.fa 31 (.t 3) 2), .s (.fa 32 (.t 31) 0), .s (.load 33 false 1 (.t 32)), .s (.bin 34 .lss (.t 30) (.t 33)), .s (.mv 35 (.t 34)), .g 35 false (some 36) (.mv 36 (.t 1)), .g 35 false (some 37) (.fa 37 (.t 3) 2), .g 35 false (some 38) (.fa 38 (.t 37) 1), .g 35 false (some 39) (.load 39 false 1 (.t 38)), .g 35 false (some 40) (.bin 40 .geq (.t 36) (.t 39)), .s (.pick 41 (.t 35) (.k (.v (.c .tt))) (.t 40)), .s (.mv 29 (.t 41))]) (.cond (.t 29) (.seq (.reg [.s (.mv 6 (.k (.v (.c (.int .i64 4)))))]) (.ret)) (.skip)))))))))) (.seq (.reg [.s (.mv 6 (.k (.v (.c (.int .i64 0)))))]) (.ret)))⟩
def c_spec_Try : Fun := ⟨233, [], fun ts K => as3 ts fun t0 t1 t2 => arG pWordT t0 fun w => arC (pI .i64) t1 fun n => arC (pI .i64) t2 fun p => K (tN (tryW w n p)) []⟩
theorem run_spec_Try (w : Word) (n : Int) (p : Int) : runK [c_spec_WordOk] (0) [] pf_spec_Try [tG (w.tc []), tI .i64 n, tI .i64 p] fun r o => r = tN (tryW w n p) ∧ o = [] := by
  conv => whnf
  repeat' (first | (refine sel_i (fun h => ?_) (fun h => ?_) <;> conv => whnf) | (refine chk_c ?_ ?_ <;> conv => whnf) | (refine And.intro ?_ rfl) | (refine And.intro ?_ ?_ <;> conv => whnf))
  all_goals (try simp only [etaKey, etaWord, andI_eq, Bool.not_eq_true', Bool.not_eq_false', decide_eq_true_eq, decide_eq_false_iff_not, bne_iff_ne, ne_eq, bne_eq_false_iff_eq, beq_iff_eq, beq_eq_false_iff_ne] at *)
  all_goals first | (simp_all [tryW]; done) | (simp_all [tryW]; omega) | trace_state
theorem ok_spec_Try : FunOk Try.prog c_spec_Try := funOk (E := [c_spec_WordOk]) (envOk_cons ok_spec_WordOk (envOk_nil)) mixd Try.func233 (pf := pf_spec_Try) (by kernel_rfl) fun ts K h => by
  obtain ⟨t0, t1, t2, e0, h⟩ := as3_out h
  subst e0
  obtain ⟨w, e1, hq⟩ := arG_out rd_word h
  clear h
  subst e1
  have h := hq
  clear hq
  obtain ⟨n, e1, hq⟩ := arC_out (rd_int .i64) h
  clear h
  subst e1
  have h := hq
  clear hq
  obtain ⟨p, e1, hq⟩ := arC_out (rd_int .i64) h
  clear h
  subst e1
  have h := hq
  clear hq
  exact ⟨_, _, h, Nat.le_of_ble_eq_true (show Nat.ble 3 Try.f233.ntmps = true by kernel_rfl), _, run_spec_Try w n p⟩

def pf_spec_Taken : PF := ⟨[.c 4 true 6], .seq (.reg [.s (.box 2 (.t 0)), .s (.box 3 (.t 1)), .s (.alloc 4 [.int .i64 0, .ff, .int .i64 0, .int .i64 0, .int .i64 0, .int .i64 0])]) (.seq (.seq (.reg [.s (.fa 5 (.t 2) 2), .s (.fa 6 (.t 5) 2), .s (.load 7 false 1 (.t 6)), .s (.bin 8 .and (.t 7) (.k (.v (.c (.int .i64 8))))), .s (.bin 9 .eql (.t 8) (.k (.v (.c (.int .i64 0)))))]) (.cond (.t 9) (.seq (.reg [.s (.load 10 true 6 (.t 3)), .s (.call (some 11) 226 [(.t 10)]), .s (.store 6 (.t 4) (.t 11))]) (.ret)) (.skip))) (.seq (.reg [.s (.load 12 true 6 (.t 3)), .s (.store 6 (.t 4) (.t 12))]) (.ret)))⟩
def c_spec_Taken : Fun := ⟨251, [], fun ts K => as2 ts fun t0 t1 => arG pWordT t0 fun y => arG pWordT t1 fun w => K (tG ((takenW y w).tc [])) []⟩
theorem run_spec_Taken (y : Word) (w : Word) : runK [c_spec_Bare] (0) [] pf_spec_Taken [tG (y.tc []), tG (w.tc [])] fun r o => r = tG ((takenW y w).tc []) ∧ o = [] := by
  conv => whnf
  repeat' (first | (refine sel_i (fun h => ?_) (fun h => ?_) <;> conv => whnf) | (refine chk_c ?_ ?_ <;> conv => whnf) | (refine And.intro ?_ rfl) | (refine And.intro ?_ ?_ <;> conv => whnf))
  all_goals (try simp only [etaKey, etaWord, andI_eq, Bool.not_eq_true', Bool.not_eq_false', decide_eq_true_eq, decide_eq_false_iff_not, bne_iff_ne, ne_eq, bne_eq_false_iff_eq, beq_iff_eq, beq_eq_false_iff_ne] at *)
  all_goals
    first
      | (rw [show takenW y w = plainW w.n by simp_all [takenW]]; rfl)
      | (rw [show takenW y w = w by simp_all [takenW]]; rfl)
      | trace_state
theorem ok_spec_Taken : FunOk Try.prog c_spec_Taken := funOk (E := [c_spec_Bare]) (envOk_cons ok_spec_Bare (envOk_nil)) mixd Try.func251 (pf := pf_spec_Taken) (by kernel_rfl) fun ts K h => by
  obtain ⟨t0, t1, e0, h⟩ := as2_out h
  subst e0
  obtain ⟨y, e1, hq⟩ := arG_out rd_word h
  clear h
  subst e1
  have h := hq
  clear hq
  obtain ⟨w, e1, hq⟩ := arG_out rd_word h
  clear h
  subst e1
  have h := hq
  clear hq
  exact ⟨_, _, h, Nat.le_of_ble_eq_true (show Nat.ble 2 Try.f251.ntmps = true by kernel_rfl), _, run_spec_Taken y w⟩

def pf_spec_MayPut : PF := ⟨[.t 4], .seq (.reg [.s (.box 2 (.t 0)), .s (.box 3 (.t 1)), .s (.mv 4 (.k (.v (.c .ff))))]) (.seq (.reg [.s (.fa 5 (.t 3) 1), .s (.load 6 false 1 (.t 5)), .s (.bnot 7 (.t 6)), .s (.mv 8 (.t 7)), .g 8 false (some 9) (.fa 9 (.t 2) 2), .g 8 false (some 10) (.fa 10 (.t 9) 2), .g 8 false (some 11) (.load 11 false 1 (.t 10)), .g 8 false (some 12) (.bin 12 .and (.t 11) (.k (.v (.c (.int .i64 16))))), .g 8 false (some 13) (.bin 13 .neq (.t 12) (.k (.v (.c (.int .i64 0))))), .s (.pick 14 (.t 8) (.k (.v (.c .tt))) (.t 13)), .s (.mv 4 (.t 14))]) (.ret))⟩
def c_spec_MayPut : Fun := ⟨249, [], fun ts K => as2 ts fun t0 t1 => arG pWordT t0 fun y => arG pWordT t1 fun w => K (tB (mayPut y w)) []⟩
theorem run_spec_MayPut (y : Word) (w : Word) : runK [] (0) [] pf_spec_MayPut [tG (y.tc []), tG (w.tc [])] fun r o => r = tB (mayPut y w) ∧ o = [] := by
  conv => whnf
  repeat' (first | (refine sel_i (fun h => ?_) (fun h => ?_) <;> conv => whnf) | (refine chk_c ?_ ?_ <;> conv => whnf) | (refine And.intro ?_ rfl) | (refine And.intro ?_ ?_ <;> conv => whnf))
  all_goals (try simp only [etaKey, etaWord, andI_eq, Bool.not_eq_true', Bool.not_eq_false', decide_eq_true_eq, decide_eq_false_iff_not, bne_iff_ne, ne_eq, bne_eq_false_iff_eq, beq_iff_eq, beq_eq_false_iff_ne] at *)
  all_goals first | (simp_all [mayPut]; done) | (simp_all [mayPut]; omega) | trace_state
theorem ok_spec_MayPut : FunOk Try.prog c_spec_MayPut := funOk (E := []) (envOk_nil) mixd Try.func249 (pf := pf_spec_MayPut) (by kernel_rfl) fun ts K h => by
  obtain ⟨t0, t1, e0, h⟩ := as2_out h
  subst e0
  obtain ⟨y, e1, hq⟩ := arG_out rd_word h
  clear h
  subst e1
  have h := hq
  clear hq
  obtain ⟨w, e1, hq⟩ := arG_out rd_word h
  clear h
  subst e1
  have h := hq
  clear hq
  exact ⟨_, _, h, Nat.le_of_ble_eq_true (show Nat.ble 2 Try.f249.ntmps = true by kernel_rfl), _, run_spec_MayPut y w⟩

def pf_spec_l4Open : PF := ⟨[.t 2], .seq (.reg [.s (.box 1 (.t 0)), .s (.mv 2 (.k (.v (.c .ff))))]) (.seq (.reg [.s (.load 3 true 6 (.t 1)), .s (.call (some 4) 90 [(.t 3)]), .s (.mv 5 (.t 4)), .g 5 true (some 6) (.fa 6 (.t 1) 1), .g 5 true (some 7) (.load 7 false 1 (.t 6)), .s (.pick 8 (.t 5) (.t 7) (.k (.v (.c .ff)))), .s (.mv 9 (.t 8)), .g 9 true (some 10) (.fa 10 (.t 1) 2), .g 9 true (some 11) (.fa 11 (.t 10) 3), .g 9 true (some 12) (.load 12 false 1 (.t 11)), .g 9 true (some 13) (.bin 13 .eql (.t 12) (.k (.v (.c (.int .i64 0))))), .s (.pick 14 (.t 9) (.t 13) (.k (.v (.c .ff)))), .s (.mv 2 (.t 14))]) (.ret))⟩
def c_spec_l4Open : Fun := ⟨224, [], fun ts K => as1 ts fun t0 => arG pWordT t0 fun w => K (tB (openW w)) []⟩
theorem run_spec_l4Open (w : Word) : runK [c_spec_WordOk] (0) [] pf_spec_l4Open [tG (w.tc [])] fun r o => r = tB (openW w) ∧ o = [] := by
  conv => whnf
  repeat' (first | (refine sel_i (fun h => ?_) (fun h => ?_) <;> conv => whnf) | (refine chk_c ?_ ?_ <;> conv => whnf) | (refine And.intro ?_ rfl) | (refine And.intro ?_ ?_ <;> conv => whnf))
  all_goals (try simp only [etaKey, etaWord, andI_eq, Bool.not_eq_true', Bool.not_eq_false', decide_eq_true_eq, decide_eq_false_iff_not, bne_iff_ne, ne_eq, bne_eq_false_iff_eq, beq_iff_eq, beq_eq_false_iff_ne] at *)
  all_goals first | (simp_all [openW]; done) | (simp_all [openW]; omega) | trace_state
theorem ok_spec_l4Open : FunOk Try.prog c_spec_l4Open := funOk (E := [c_spec_WordOk]) (envOk_cons ok_spec_WordOk (envOk_nil)) mixd Try.func224 (pf := pf_spec_l4Open) (by kernel_rfl) fun ts K h => by
  obtain ⟨t0, e0, h⟩ := as1_out h
  subst e0
  obtain ⟨w, e1, hq⟩ := arG_out rd_word h
  clear h
  subst e1
  have h := hq
  clear hq
  exact ⟨_, _, h, Nat.le_of_ble_eq_true (show Nat.ble 1 Try.f224.ntmps = true by kernel_rfl), _, run_spec_l4Open w⟩

def pf_spec_Weaken : PF := ⟨[.c 4 true 6], .seq (.reg [.s (.box 2 (.t 0)), .s (.alloc 4 [.int .i64 0, .ff, .int .i64 0, .int .i64 0, .int .i64 0, .int .i64 0])]) (.seq (.seq (.reg [.s (.load 5 true 6 (.t 2)), .s (.call (some 6) 224 [(.t 5)]), .s (.bnot 7 (.t 6))]) (.cond (.t 7) (.seq (.reg [.s (.load 8 true 6 (.t 2)), .s (.call (some 9) 226 [(.t 8)]), .s (.store 6 (.t 4) (.t 9))]) (.ret)) (.skip))) (.seq (.reg [.s (.fa 10 (.t 2) 2), .s (.fa 11 (.t 10) 2), .s (.load 12 false 1 (.t 11)), .s (.mv 13 (.t 1)), .s (.bin 14 .and (.t 13) (.k (.v (.c (.int .i64 63))))), .s (.bin 15 .and (.t 12) (.t 14)), .s (.fa 16 (.t 2) 2), .s (.fa 17 (.t 16) 2), .s (.store 1 (.t 17) (.t 15))]) (.seq (.reg [.s (.load 18 true 6 (.t 2)), .s (.store 6 (.t 4) (.t 18))]) (.ret))))⟩
def c_spec_Weaken : Fun := ⟨252, [], fun ts K => as2 ts fun t0 t1 => arG pWordT t0 fun w => arC (pI .i64) t1 fun m => K (tG ((weakenW w m).tc [])) []⟩
theorem run_spec_Weaken (w : Word) (m : Int) : runK [c_spec_l4Open, c_spec_Bare] (0) [] pf_spec_Weaken [tG (w.tc []), tI .i64 m] fun r o => r = tG ((weakenW w m).tc []) ∧ o = [] := by
  conv => whnf
  repeat' (first | (refine sel_i (fun h => ?_) (fun h => ?_) <;> conv => whnf) | (refine chk_c ?_ ?_ <;> conv => whnf) | (refine And.intro ?_ rfl) | (refine And.intro ?_ ?_ <;> conv => whnf))
  all_goals (try simp only [etaKey, etaWord, andI_eq, Bool.not_eq_true', Bool.not_eq_false', decide_eq_true_eq, decide_eq_false_iff_not, bne_iff_ne, ne_eq, bne_eq_false_iff_eq, beq_iff_eq, beq_eq_false_iff_ne] at *)
  all_goals
    first
      | (rw [show weakenW w m = plainW w.n by simp_all [weakenW]]; rfl)
      | (rw [show weakenW w m = { w with key := { w.key with perms := andI w.key.perms (andI m 63) } } by simp_all [weakenW]]; rfl)
      | trace_state
theorem ok_spec_Weaken : FunOk Try.prog c_spec_Weaken := funOk (E := [c_spec_l4Open, c_spec_Bare]) (envOk_cons ok_spec_l4Open (envOk_cons ok_spec_Bare (envOk_nil))) mixd Try.func252 (pf := pf_spec_Weaken) (by kernel_rfl) fun ts K h => by
  obtain ⟨t0, t1, e0, h⟩ := as2_out h
  subst e0
  obtain ⟨w, e1, hq⟩ := arG_out rd_word h
  clear h
  subst e1
  have h := hq
  clear hq
  obtain ⟨m, e1, hq⟩ := arC_out (rd_int .i64) h
  clear h
  subst e1
  have h := hq
  clear hq
  exact ⟨_, _, h, Nat.le_of_ble_eq_true (show Nat.ble 2 Try.f252.ntmps = true by kernel_rfl), _, run_spec_Weaken w m⟩

def pf_spec_Point : PF := ⟨[.c 4 true 6], .seq (.reg [.s (.box 2 (.t 0)), .s (.alloc 4 [.int .i64 0, .ff, .int .i64 0, .int .i64 0, .int .i64 0, .int .i64 0])]) (.seq (.seq (.reg [.s (.load 5 true 6 (.t 2)), .s (.call (some 6) 224 [(.t 5)]), .s (.bnot 7 (.t 6))]) (.cond (.t 7) (.seq (.reg [.s (.mv 8 (.t 1)), .s (.call (some 9) 164 [(.t 8)]), .s (.store 6 (.t 4) (.t 9))]) (.ret)) (.skip))) (.seq (.reg [.s (.mv 10 (.t 1)), .s (.bin 11 .and (.t 10) (.k (.v (.c (.int .i64 65535))))), .s (.fa 12 (.t 2) 0), .s (.store 1 (.t 12) (.t 11))]) (.seq (.reg [.s (.load 13 true 6 (.t 2)), .s (.store 6 (.t 4) (.t 13))]) (.ret))))⟩
def c_spec_Point : Fun := ⟨236, [], fun ts K => as2 ts fun t0 t1 => arG pWordT t0 fun w => arC (pI .i64) t1 fun n => K (tG ((pointW w n).tc [])) []⟩
theorem run_spec_Point (w : Word) (n : Int) : runK [c_spec_Plain, c_spec_l4Open] (0) [] pf_spec_Point [tG (w.tc []), tI .i64 n] fun r o => r = tG ((pointW w n).tc []) ∧ o = [] := by
  conv => whnf
  repeat' (first | (refine sel_i (fun h => ?_) (fun h => ?_) <;> conv => whnf) | (refine chk_c ?_ ?_ <;> conv => whnf) | (refine And.intro ?_ rfl) | (refine And.intro ?_ ?_ <;> conv => whnf))
  all_goals (try simp only [etaKey, etaWord, andI_eq, Bool.not_eq_true', Bool.not_eq_false', decide_eq_true_eq, decide_eq_false_iff_not, bne_iff_ne, ne_eq, bne_eq_false_iff_eq, beq_iff_eq, beq_eq_false_iff_ne] at *)
  all_goals
    first
      | (rw [show pointW w n = plainW n by simp_all [pointW]]; rfl)
      | (rw [show pointW w n = ⟨andI n 65535, true, w.key⟩ by simp_all [pointW]]; rfl)
      | (rw [show pointW w n = ⟨andI n 65535, w.is, w.key⟩ by (have hi := openW_is h; simp_all [pointW])]; rfl)
      | trace_state
theorem ok_spec_Point : FunOk Try.prog c_spec_Point := funOk (E := [c_spec_Plain, c_spec_l4Open]) (envOk_cons ok_spec_Plain (envOk_cons ok_spec_l4Open (envOk_nil))) mixd Try.func236 (pf := pf_spec_Point) (by kernel_rfl) fun ts K h => by
  obtain ⟨t0, t1, e0, h⟩ := as2_out h
  subst e0
  obtain ⟨w, e1, hq⟩ := arG_out rd_word h
  clear h
  subst e1
  have h := hq
  clear hq
  obtain ⟨n, e1, hq⟩ := arC_out (rd_int .i64) h
  clear h
  subst e1
  have h := hq
  clear hq
  exact ⟨_, _, h, Nat.le_of_ble_eq_true (show Nat.ble 2 Try.f236.ntmps = true by kernel_rfl), _, run_spec_Point w n⟩

def pf_spec_l4Sealer : PF := ⟨[.t 2], .seq (.reg [.s (.box 1 (.t 0)), .s (.mv 2 (.k (.v (.c .ff))))]) (.seq (.reg [.s (.load 3 true 6 (.t 1)), .s (.call (some 4) 224 [(.t 3)]), .s (.mv 5 (.t 4)), .g 5 true (some 6) (.fa 6 (.t 1) 2), .g 5 true (some 7) (.fa 7 (.t 6) 2), .g 5 true (some 8) (.load 8 false 1 (.t 7)), .g 5 true (some 9) (.bin 9 .and (.t 8) (.k (.v (.c (.int .i64 32))))), .g 5 true (some 10) (.bin 10 .neq (.t 9) (.k (.v (.c (.int .i64 0))))), .s (.pick 11 (.t 5) (.t 10) (.k (.v (.c .ff)))), .s (.mv 12 (.t 11)), .g 12 true (some 13) (.fa 13 (.t 1) 0), .g 12 true (some 14) (.load 14 false 1 (.t 13)), .g 12 true (some 15) (.fa 15 (.t 1) 2), .g 12 true (some 16) (.fa 16 (.t 15) 0), .g 12 true (some 17) (.load 17 false 1 (.t 16)), .g 12 true (some 18) (.bin 18 .geq (.t 14) (.t 17)), .s (.pick 19 (.t 12) (.t 18) (.k (.v (.c .ff)))), .s (.mv 20 (.t 19)), .g 20 true (some 21) (.fa 21 (.t 1) 0), .g 20 true (some 22) (.load 22 false 1 (.t 21)), .g 20 true (some 23) (.fa 23 (.t 1) 2), .g 20 true (some 24) (.fa 24 (.t 23) 1), .g 20 true (some 25) (.load 25 false 1 (.t 24)), .g 20 true (some 26) (.bin 26 .lss (.t 22) (.t 25)), .s (.pick 27 (.t 20) (.t 26) (.k (.v (.c .ff)))), .s (.mv 28 (.t 27)), .g 28 true (some 29) (.fa 29 (.t 1) 0), .g 28 true (some 30) (.load 30 false 1 (.t 29)), .g 28 true (some 31) (.call (some 31) 149 [(.t 30), (.k (.v (.c (.int .i64 1)))), (.k (.v (.c (.int .i64 7))))]), .s (.pick 32 (.t 28) (.t 31) (.k (.v (.c .ff)))), .s (.mv 2 (.t 32))]) (.ret))⟩
def c_spec_l4Sealer : Fun := ⟨262, [], fun ts K => as1 ts fun t0 => arG pWordT t0 fun y => K (tB (sealsB y)) []⟩
theorem run_spec_l4Sealer (y : Word) : runK [c_spec_l1In, c_spec_l4Open] (0) [] pf_spec_l4Sealer [tG (y.tc [])] fun r o => r = tB (sealsB y) ∧ o = [] := by
  conv => whnf
  repeat' (first | (refine sel_i (fun h => ?_) (fun h => ?_) <;> conv => whnf) | (refine chk_c ?_ ?_ <;> conv => whnf) | (refine And.intro ?_ rfl) | (refine And.intro ?_ ?_ <;> conv => whnf))
  all_goals (try simp only [etaKey, etaWord, andI_eq, Bool.not_eq_true', Bool.not_eq_false', decide_eq_true_eq, decide_eq_false_iff_not, bne_iff_ne, ne_eq, bne_eq_false_iff_eq, beq_iff_eq, beq_eq_false_iff_ne] at *)
  all_goals first | (simp_all [sealsB]; done) | (simp_all [sealsB]; omega) | trace_state
theorem ok_spec_l4Sealer : FunOk Try.prog c_spec_l4Sealer := funOk (E := [c_spec_l1In, c_spec_l4Open]) (envOk_cons ok_spec_l1In (envOk_cons ok_spec_l4Open (envOk_nil))) mixd Try.func262 (pf := pf_spec_l4Sealer) (by kernel_rfl) fun ts K h => by
  obtain ⟨t0, e0, h⟩ := as1_out h
  subst e0
  obtain ⟨y, e1, hq⟩ := arG_out rd_word h
  clear h
  subst e1
  have h := hq
  clear hq
  exact ⟨_, _, h, Nat.le_of_ble_eq_true (show Nat.ble 1 Try.f262.ntmps = true by kernel_rfl), _, run_spec_l4Sealer y⟩

def pf_spec_SealBy : PF := ⟨[.c 4 true 6], .seq (.reg [.s (.box 2 (.t 0)), .s (.box 3 (.t 1)), .s (.alloc 4 [.int .i64 0, .ff, .int .i64 0, .int .i64 0, .int .i64 0, .int .i64 0])]) (.seq (.seq (.reg [.s (.load 5 true 6 (.t 2)), .s (.call (some 6) 224 [(.t 5)]), .s (.bnot 7 (.t 6)), .s (.mv 8 (.t 7)), .g 8 false (some 9) (.load 9 true 6 (.t 3)), .g 8 false (some 10) (.call (some 10) 262 [(.t 9)]), .g 8 false (some 11) (.bnot 11 (.t 10)), .s (.pick 12 (.t 8) (.k (.v (.c .tt))) (.t 11))]) (.cond (.t 12) (.seq (.reg [.s (.load 13 true 6 (.t 2)), .s (.call (some 14) 226 [(.t 13)]), .s (.store 6 (.t 4) (.t 14))]) (.ret)) (.skip))) (.seq (.reg [.s (.fa 15 (.t 3) 0), .s (.load 16 false 1 (.t 15)), .s (.fa 17 (.t 2) 2), .s (.fa 18 (.t 17) 3), .s (.store 1 (.t 18) (.t 16))]) (.seq (.reg [.s (.load 19 true 6 (.t 2)), .s (.store 6 (.t 4) (.t 19))]) (.ret))))⟩
def c_spec_SealBy : Fun := ⟨253, [], fun ts K => as2 ts fun t0 t1 => arG pWordT t0 fun w => arG pWordT t1 fun y => K (tG ((sealBy w y).tc [])) []⟩
theorem run_spec_SealBy (w : Word) (y : Word) : runK [c_spec_l4Open, c_spec_Bare, c_spec_l4Sealer] (0) [] pf_spec_SealBy [tG (w.tc []), tG (y.tc [])] fun r o => r = tG ((sealBy w y).tc []) ∧ o = [] := by
  conv => whnf
  repeat' (first | (refine sel_i (fun h => ?_) (fun h => ?_) <;> conv => whnf) | (refine chk_c ?_ ?_ <;> conv => whnf) | (refine And.intro ?_ rfl) | (refine And.intro ?_ ?_ <;> conv => whnf))
  all_goals (try simp only [etaKey, etaWord, andI_eq, Bool.not_eq_true', Bool.not_eq_false', decide_eq_true_eq, decide_eq_false_iff_not, bne_iff_ne, ne_eq, bne_eq_false_iff_eq, beq_iff_eq, beq_eq_false_iff_ne] at *)
  all_goals
    first
      | (rw [show sealBy w y = plainW w.n by simp_all [sealBy]]; rfl)
      | (rw [show sealBy w y = { w with key := { w.key with sealed := y.n } } by simp_all [sealBy]]; rfl)
      | trace_state
theorem ok_spec_SealBy : FunOk Try.prog c_spec_SealBy := funOk (E := [c_spec_l4Open, c_spec_Bare, c_spec_l4Sealer]) (envOk_cons ok_spec_l4Open (envOk_cons ok_spec_Bare (envOk_cons ok_spec_l4Sealer (envOk_nil)))) mixd Try.func253 (pf := pf_spec_SealBy) (by kernel_rfl) fun ts K h => by
  obtain ⟨t0, t1, e0, h⟩ := as2_out h
  subst e0
  obtain ⟨w, e1, hq⟩ := arG_out rd_word h
  clear h
  subst e1
  have h := hq
  clear hq
  obtain ⟨y, e1, hq⟩ := arG_out rd_word h
  clear h
  subst e1
  have h := hq
  clear hq
  exact ⟨_, _, h, Nat.le_of_ble_eq_true (show Nat.ble 2 Try.f253.ntmps = true by kernel_rfl), _, run_spec_SealBy w y⟩

def pf_spec_OpenBy : PF := ⟨[.c 4 true 6], .seq (.reg [.s (.box 2 (.t 0)), .s (.box 3 (.t 1)), .s (.alloc 4 [.int .i64 0, .ff, .int .i64 0, .int .i64 0, .int .i64 0, .int .i64 0])]) (.seq (.seq (.reg [.s (.load 5 true 6 (.t 2)), .s (.call (some 6) 90 [(.t 5)]), .s (.bnot 7 (.t 6)), .s (.mv 8 (.t 7)), .g 8 false (some 9) (.fa 9 (.t 2) 1), .g 8 false (some 10) (.load 10 false 1 (.t 9)), .g 8 false (some 11) (.bnot 11 (.t 10)), .s (.pick 12 (.t 8) (.k (.v (.c .tt))) (.t 11)), .s (.mv 13 (.t 12)), .g 13 false (some 14) (.load 14 true 6 (.t 3)), .g 13 false (some 15) (.call (some 15) 262 [(.t 14)]), .g 13 false (some 16) (.bnot 16 (.t 15)), .s (.pick 17 (.t 13) (.k (.v (.c .tt))) (.t 16)), .s (.mv 18 (.t 17)), .g 18 false (some 19) (.fa 19 (.t 2) 2), .g 18 false (some 20) (.fa 20 (.t 19) 3), .g 18 false (some 21) (.load 21 false 1 (.t 20)), .g 18 false (some 22) (.fa 22 (.t 3) 0), .g 18 false (some 23) (.load 23 false 1 (.t 22)), .g 18 false (some 24) (.bin 24 .neq (.t 21) (.t 23)), .s (.pick 25 (.t 18) (.k (.v (.c .tt))) (.t 24))]) (.cond (.t 25) (.seq (.reg [.s (.load 26 true 6 (.t 2)), .s (.call (some 27) 226 [(.t 26)]), .s (.store 6 (.t 4) (.t 27))]) (.ret)) (.skip))) (.seq (.reg [.s (.fa 28 (.t 2) 2), .s (.fa 29 (.t 28) 3), .s (.store 1 (.t 29) (.k (.v (.c (.int .i64 0)))))]) (.seq (.reg [.s (.load 30 true 6 (.t 2)), .s (.store 6 (.t 4) (.t 30))]) (.ret))))⟩
def c_spec_OpenBy : Fun := ⟨254, [], fun ts K => as2 ts fun t0 t1 => arG pWordT t0 fun w => arG pWordT t1 fun y => K (tG ((openBy w y).tc [])) []⟩
theorem run_spec_OpenBy (w : Word) (y : Word) : runK [c_spec_WordOk, c_spec_Bare, c_spec_l4Sealer] (0) [] pf_spec_OpenBy [tG (w.tc []), tG (y.tc [])] fun r o => r = tG ((openBy w y).tc []) ∧ o = [] := by
  conv => whnf
  repeat' (first | (refine sel_i (fun h => ?_) (fun h => ?_) <;> conv => whnf) | (refine chk_c ?_ ?_ <;> conv => whnf) | (refine And.intro ?_ rfl) | (refine And.intro ?_ ?_ <;> conv => whnf))
  all_goals (try simp only [etaKey, etaWord, andI_eq, Bool.not_eq_true', Bool.not_eq_false', decide_eq_true_eq, decide_eq_false_iff_not, bne_iff_ne, ne_eq, bne_eq_false_iff_eq, beq_iff_eq, beq_eq_false_iff_ne] at *)
  all_goals
    first
      | (rw [show openBy w y = plainW w.n by simp_all [openBy]]; rfl)
      | (rw [show openBy w y = { w with key := { w.key with sealed := 0 } } by simp_all [openBy]]; rfl)
      | trace_state
theorem ok_spec_OpenBy : FunOk Try.prog c_spec_OpenBy := funOk (E := [c_spec_WordOk, c_spec_Bare, c_spec_l4Sealer]) (envOk_cons ok_spec_WordOk (envOk_cons ok_spec_Bare (envOk_cons ok_spec_l4Sealer (envOk_nil)))) mixd Try.func254 (pf := pf_spec_OpenBy) (by kernel_rfl) fun ts K h => by
  obtain ⟨t0, t1, e0, h⟩ := as2_out h
  subst e0
  obtain ⟨w, e1, hq⟩ := arG_out rd_word h
  clear h
  subst e1
  have h := hq
  clear hq
  obtain ⟨y, e1, hq⟩ := arG_out rd_word h
  clear h
  subst e1
  have h := hq
  clear hq
  exact ⟨_, _, h, Nat.le_of_ble_eq_true (show Nat.ble 2 Try.f254.ntmps = true by kernel_rfl), _, run_spec_OpenBy w y⟩

theorem narrow_no {w : Word} {n : Int} (h : ¬ (openW w = true ∧ (0 ≤ n ∧ n ≤ 4096) ∧ boundsOk w.n (IntKind.i64.wrap (w.n + n)) = true)) : narrowW w n = plainW w.n := by
  unfold narrowW
  rw [if_neg]
  intro hh
  simp only [Bool.and_eq_true, inR_t] at hh
  exact h ⟨hh.1.1, hh.1.2, hh.2⟩
theorem narrow_yes {w : Word} {n : Int} (h : openW w = true ∧ (0 ≤ n ∧ n ≤ 4096) ∧ boundsOk w.n (IntKind.i64.wrap (w.n + n)) = true) : narrowW w n = if (wide w.n (IntKind.i64.wrap (w.n + n))).1 < w.key.base ∨ w.key.top < (wide w.n (IntKind.i64.wrap (w.n + n))).2 then plainW w.n else { w with key := { w.key with base := (wide w.n (IntKind.i64.wrap (w.n + n))).1, top := (wide w.n (IntKind.i64.wrap (w.n + n))).2 } } := by
  unfold narrowW
  rw [if_pos]
  simp only [Bool.and_eq_true, inR_t]
  exact ⟨⟨h.1, h.2.1⟩, h.2.2⟩

def pf_spec_Narrow : PF := ⟨[.c 4 true 6], .seq (.reg [.s (.box 2 (.t 0)), .s (.alloc 4 [.int .i64 0, .ff, .int .i64 0, .int .i64 0, .int .i64 0, .int .i64 0])]) (.seq (.seq (.reg [.s (.load 7 true 6 (.t 2)), .s (.call (some 8) 224 [(.t 7)]), .s (.bnot 9 (.t 8)), .s (.mv 10 (.t 9)), .g 10 false (some 11) (.mv 11 (.t 1)), .g 10 false (some 12) (.call (some 12) 149 [(.t 11), (.k (.v (.c (.int .i64 0)))), (.k (.v (.c (.int .i64 4096))))]), .g 10 false (some 13) (.bnot 13 (.t 12)), .s (.pick 14 (.t 10) (.k (.v (.c .tt))) (.t 13)), .s (.mv 15 (.t 14)), .g 15 false (some 16) (.fa 16 (.t 2) 0), .g 15 false (some 17) (.load 17 false 1 (.t 16)), .g 15 false (some 18) (.fa 18 (.t 2) 0), .g 15 false (some 19) (.load 19 false 1 (.t 18)), .g 15 false (some 20) (.mv 20 (.t 1)), .g 15 false (some 21) (.bin 21 .add (.t 19) (.t 20)), .g 15 false (some 22) (.call (some 22) 225 [(.t 17), (.t 21)]), .g 15 false (some 23) (.bnot 23 (.t 22)), .s (.pick 24 (.t 15) (.k (.v (.c .tt))) (.t 23))]) (.cond (.t 24) (.seq (.reg [.s (.load 25 true 6 (.t 2)), .s (.call (some 26) 226 [(.t 25)]), .s (.store 6 (.t 4) (.t 26))]) (.ret)) (.skip))) (.seq (.reg [.s (.fa 28 (.t 2) 0), .s (.load 29 false 1 (.t 28)), .s (.fa 30 (.t 2) 0), .s (.load 31 false 1 (.t 30)), .s (.mv 32 (.t 1)), .s (.bin 33 .add (.t 31) (.t 32)), .s (.call (some 34) 227 [(.t 29), (.t 33)]), .s (.mv 27 (.t 34)), .s (.ext 35 (.t 27) 0), .s (.ext 36 (.t 27) 1), .s (.mv 5 (.t 35)), .s (.mv 6 (.t 36))]) (.seq (.seq (.reg [.s (.mv 37 (.t 5)), .s (.fa 38 (.t 2) 2), .s (.fa 39 (.t 38) 0), .s (.load 40 false 1 (.t 39)), .s (.bin 41 .lss (.t 37) (.t 40)), .s (.mv 42 (.t 41)), .g 42 false (some 43) (.mv 43 (.t 6)), .g 42 false (some 44) (.fa 44 (.t 2) 2), .g 42 false (some 45) (.fa 45 (.t 44) 1), .g 42 false (some 46) (.load 46 false 1 (.t 45)), .g 42 false (some 47) (.bin 47 .gtr (.t 43) (.t 46)), .s (.pick 48 (.t 42) (.k (.v (.c .tt))) (.t 47))]) (.cond (.t 48) (.seq (.reg [.s (.load 49 true 6 (.t 2)), .s (.call (some 50) 226 [(.t 49)]), .s (.store 6 (.t 4) (.t 50))]) (.ret)) (.skip))) (.seq (.reg [.s (.mv 51 (.t 5)), .s (.fa 52 (.t 2) 2), .s (.fa 53 (.t 52) 0), .s (.store 1 (.t 53) (.t 51))]) (.seq (.reg [.s (.mv 54 (.t 6)), .s (.fa 55 (.t 2) 2), .s (.fa 56 (.t 55) 1), .s (.store 1 (.t 56) (.t 54))]) (.seq (.reg [.s (.load 57 true 6 (.t 2)), .s (.store 6 (.t 4) (.t 57))]) (.ret)))))))⟩
def c_spec_Narrow : Fun := ⟨200, [], fun ts K => as2 ts fun t0 t1 => arG pWordT t0 fun w => arC (pI .i64) t1 fun n => K (tG ((narrowW w n).tc [])) []⟩
theorem run_spec_Narrow (w : Word) (n : Int) : runK [c_spec_l1In, c_spec_l4Open, c_spec_BoundsOk, c_spec_Bare, c_spec_Wide] (0) [] pf_spec_Narrow [tG (w.tc []), tI .i64 n] fun r o => r = tG ((narrowW w n).tc []) ∧ o = [] := by
  by_cases hc : openW w = true ∧ (0 ≤ n ∧ n ≤ 4096) ∧ boundsOk w.n (IntKind.i64.wrap (w.n + n)) = true
  · rw [narrow_yes hc]
    obtain ⟨g1, g2, g3⟩ := hc
    conv => whnf
    repeat' (first | (refine sel_i (fun h => ?_) (fun h => ?_) <;> conv => whnf) | (refine chk_c ?_ ?_ <;> conv => whnf) | (refine And.intro ?_ rfl) | (refine And.intro ?_ ?_ <;> conv => whnf))
    all_goals (try simp only [etaKey, etaWord, inR_t, inR_f, g1, g3, Bool.not_eq_true', Bool.not_eq_false', Bool.true_eq_false, Bool.not_true, Bool.false_eq_true, decide_eq_true_eq, decide_eq_false_iff_not] at *)
    all_goals first
      | contradiction
      | (exfalso; omega)
      | (rw [if_pos (by omega)]; rfl)
      | (rw [if_neg (by omega)]; rfl)
      | trace_state
  · rw [narrow_no hc]
    conv => whnf
    repeat' (first | (refine sel_i (fun h => ?_) (fun h => ?_) <;> conv => whnf) | (refine chk_c ?_ ?_ <;> conv => whnf) | (refine And.intro ?_ rfl) | (refine And.intro ?_ ?_ <;> conv => whnf))
    all_goals (try simp only [etaKey, etaWord, inR_t, inR_f, Bool.not_eq_true', Bool.not_eq_false', decide_eq_true_eq, decide_eq_false_iff_not] at *)
    all_goals first
      | rfl
      | exact absurd ⟨by assumption, by omega, by assumption⟩ hc
      | trace_state
theorem ok_spec_Narrow : FunOk Try.prog c_spec_Narrow := funOk (E := [c_spec_l1In, c_spec_l4Open, c_spec_BoundsOk, c_spec_Bare, c_spec_Wide]) (envOk_cons ok_spec_l1In (envOk_cons ok_spec_l4Open (envOk_cons ok_spec_BoundsOk (envOk_cons ok_spec_Bare (envOk_cons ok_spec_Wide (envOk_nil)))))) mixd Try.func200 (pf := pf_spec_Narrow) (by kernel_rfl) fun ts K h => by
  obtain ⟨t0, t1, e0, h⟩ := as2_out h
  subst e0
  obtain ⟨w, e1, hq⟩ := arG_out rd_word h
  clear h
  subst e1
  have h := hq
  clear hq
  obtain ⟨n, e1, hq⟩ := arC_out (rd_int .i64) h
  clear h
  subst e1
  have h := hq
  clear hq
  exact ⟨_, _, h, Nat.le_of_ble_eq_true (show Nat.ble 2 Try.f200.ntmps = true by kernel_rfl), _, run_spec_Narrow w n⟩

def formS (op : Int) : ByteArray :=
  if op = 1 then ⟨#[82, 78]⟩ else if op = 2 ∨ op = 4 ∨ op = 5 ∨ op = 7 ∨ op = 8 then ⟨#[82, 65, 66]⟩ else if op = 3 ∨ op = 9 ∨ op = 12 then ⟨#[82, 65]⟩ else if op = 6 then ⟨#[82, 65, 66, 78]⟩ else
  if op = 10 then ⟨#[82, 65, 78]⟩ else if op = 11 then ⟨#[65, 66, 78]⟩ else if op = 13 then ⟨#[65, 78]⟩ else if op = 14 then ⟨#[65]⟩ else ⟨#[]⟩
def maskI (op : Int) : Int := if inR op 1 15 then ([0, 9, 7, 3, 7, 7, 15, 7, 7, 3, 11, 14, 3, 10, 2, 0] : List Int).getD op.toNat 0 else 0
def hasC (op c : Int) : Bool := (bytesI (formS op)).any (fun b => c == b)
def fld (v : Int) (b : Bool) : Bool := inR v 0 7 && (b || v == 0)
def insOk (x : Inst) : Bool := inR x.op 1 15 && fld x.r (andI (maskI x.op) 1 != 0) && fld x.a (andI (maskI x.op) 2 != 0) && fld x.b (andI (maskI x.op) 4 != 0) && inR x.n (-128) 127 && (andI (maskI x.op) 8 != 0 || x.n == 0)
def setsI (x : Inst) : Int := if andI (maskI x.op) 1 = 0 then -1 else x.r
def pf_spec_l6Has : PF := ⟨[.t 2], .seq (.reg [.s (.mv 2 (.k (.v (.c (.int .i64 0)))))]) (.seq (.seq (.reg [.s (.mv 3 (.t 0)), .s (.call (some 4) 149 [(.t 3), (.k (.v (.c (.int .i64 1)))), (.k (.v (.c (.int .i64 15))))]), .s (.bnot 5 (.t 4))]) (.cond (.t 5) (.seq (.reg [.s (.mv 2 (.k (.v (.c (.int .i64 0)))))]) (.ret)) (.skip))) (.seq (.reg [.s (.bs 6 (.int .i64) [(.k (.v (.c (.int .i64 0)))), (.k (.v (.c (.int .i64 9)))), (.k (.v (.c (.int .i64 7)))), (.k (.v (.c (.int .i64 3)))), (.k (.v (.c (.int .i64 7)))), (.k (.v (.c (.int .i64 7)))), (.k (.v (.c (.int .i64 15)))), (.k (.v (.c (.int .i64 7)))), (.k (.v (.c (.int .i64 7)))), (.k (.v (.c (.int .i64 3)))), (.k (.v (.c (.int .i64 11)))), (.k (.v (.c (.int .i64 14)))), (.k (.v (.c (.int .i64 3)))), (.k (.v (.c (.int .i64 10)))), (.k (.v (.c (.int .i64 2)))), (.k (.v (.c (.int .i64 0))))]), .s (.mv 7 (.t 0)), .s (.ia 8 (.int .i64) (.t 6) (.t 7)), .s (.load 9 false 1 (.t 8)), .s (.mv 2 (.t 9))]) (.ret)))⟩
def c_spec_l6Has : Fun := ⟨232, [], fun ts K => as1 ts fun t0 => arC (pI .i64) t0 fun op => K (tN (maskI op)) []⟩
theorem run_spec_l6Has (op : Int) : runK [c_spec_l1In] (0) [] pf_spec_l6Has [tI .i64 op] fun r o => r = tN (maskI op) ∧ o = [] := by
  conv => whnf
  repeat' (first | (refine sel_i (fun h => ?_) (fun h => ?_) <;> conv => whnf) | (refine chk_c ?_ ?_ <;> conv => whnf) | (refine And.intro ?_ rfl) | (refine And.intro ?_ ?_ <;> conv => whnf))
  all_goals (try simp only [inR_t, inR_f, Bool.not_eq_true', Bool.not_eq_false'] at *)
  all_goals first
    | (refine ⟨?_⟩; show _ ≤ _ ∧ _ < (16 : Int); omega)
    | (refine ⟨?_⟩; show op.toNat < 16; omega)
    | (rw [show maskI op = 0 by unfold maskI; rw [if_neg (by rw [inR_t]; omega)]])
    | (unfold maskI; rw [if_pos (by rw [inR_t]; omega)]; rfl)
    | trace_state
theorem ok_spec_l6Has : FunOk Try.prog c_spec_l6Has := funOk (E := [c_spec_l1In]) (envOk_cons ok_spec_l1In (envOk_nil)) mixd Try.func232 (pf := pf_spec_l6Has) (by kernel_rfl) fun ts K h => by
  obtain ⟨t0, e0, h⟩ := as1_out h
  subst e0
  obtain ⟨op, e1, hq⟩ := arC_out (rd_int .i64) h
  clear h
  subst e1
  have h := hq
  clear hq
  exact ⟨_, _, h, Nat.le_of_ble_eq_true (show Nat.ble 1 Try.f232.ntmps = true by kernel_rfl), _, run_spec_l6Has op⟩

def pf_spec_l6Field : PF := ⟨[.t 4], .seq (.reg [.s (.mv 4 (.k (.v (.c .ff))))]) (.seq (.reg [.s (.mv 5 (.t 0)), .s (.call (some 6) 149 [(.t 5), (.k (.v (.c (.int .i64 0)))), (.k (.v (.c (.int .i64 7))))]), .s (.mv 7 (.t 6)), .g 7 true (some 8) (.mv 8 (.t 1)), .g 7 true (some 9) (.mv 9 (.t 8)), .g 9 false (some 10) (.mv 10 (.t 0)), .g 9 false (some 11) (.bin 11 .eql (.t 10) (.k (.v (.c (.int .i64 0))))), .g 7 true (some 12) (.pick 12 (.t 9) (.k (.v (.c .tt))) (.t 11)), .s (.pick 13 (.t 7) (.t 12) (.k (.v (.c .ff)))), .s (.mv 4 (.t 13))]) (.ret))⟩
def c_spec_l6Field : Fun := ⟨250, [], fun ts K => as2 ts fun t0 t1 => arC (pI .i64) t0 fun v => arC pB t1 fun b => K (tB (fld v b)) []⟩
theorem run_spec_l6Field (v : Int) (b : Bool) : runK [c_spec_l1In] (0) [] pf_spec_l6Field [tI .i64 v, tB b] fun r o => r = tB (fld v b) ∧ o = [] := by
  conv => whnf
  repeat' (first | (refine sel_i (fun h => ?_) (fun h => ?_) <;> conv => whnf) | (refine chk_c ?_ ?_ <;> conv => whnf) | (refine And.intro ?_ rfl) | (refine And.intro ?_ ?_ <;> conv => whnf))
  all_goals (simp_all [fld]; done)
theorem ok_spec_l6Field : FunOk Try.prog c_spec_l6Field := funOk (E := [c_spec_l1In]) (envOk_cons ok_spec_l1In (envOk_nil)) mixd Try.func250 (pf := pf_spec_l6Field) (by kernel_rfl) fun ts K h => by
  obtain ⟨t0, t1, e0, h⟩ := as2_out h
  subst e0
  obtain ⟨v, e1, hq⟩ := arC_out (rd_int .i64) h
  clear h
  subst e1
  have h := hq
  clear hq
  obtain ⟨b, e1, hq⟩ := arC_out rd_b h
  clear h
  subst e1
  have h := hq
  clear hq
  exact ⟨_, _, h, Nat.le_of_ble_eq_true (show Nat.ble 2 Try.f250.ntmps = true by kernel_rfl), _, run_spec_l6Field v b⟩

def pf_spec_InsOk : PF := ⟨[.t 2], .seq (.reg [.s (.box 1 (.t 0)), .s (.mv 2 (.k (.v (.c .ff))))]) (.seq (.reg [.s (.fa 4 (.t 1) 0), .s (.load 5 false 1 (.t 4)), .s (.call (some 6) 232 [(.t 5)]), .s (.mv 3 (.t 6))]) (.seq (.reg [.s (.fa 7 (.t 1) 0), .s (.load 8 false 1 (.t 7)), .s (.call (some 9) 149 [(.t 8), (.k (.v (.c (.int .i64 1)))), (.k (.v (.c (.int .i64 15))))]), .s (.mv 10 (.t 9)), .g 10 true (some 11) (.fa 11 (.t 1) 1), .g 10 true (some 12) (.load 12 false 1 (.t 11)), .g 10 true (some 13) (.mv 13 (.t 3)), .g 10 true (some 14) (.bin 14 .and (.t 13) (.k (.v (.c (.int .i64 1))))), .g 10 true (some 15) (.bin 15 .neq (.t 14) (.k (.v (.c (.int .i64 0))))), .g 10 true (some 16) (.call (some 16) 250 [(.t 12), (.t 15)]), .s (.pick 17 (.t 10) (.t 16) (.k (.v (.c .ff)))), .s (.mv 18 (.t 17)), .g 18 true (some 19) (.fa 19 (.t 1) 2), .g 18 true (some 20) (.load 20 false 1 (.t 19)), .g 18 true (some 21) (.mv 21 (.t 3)), .g 18 true (some 22) (.bin 22 .and (.t 21) (.k (.v (.c (.int .i64 2))))), .g 18 true (some 23) (.bin 23 .neq (.t 22) (.k (.v (.c (.int .i64 0))))), .g 18 true (some 24) (.call (some 24) 250 [(.t 20), (.t 23)]), .s (.pick 25 (.t 18) (.t 24) (.k (.v (.c .ff)))), .s (.mv 26 (.t 25)), .g 26 true (some 27) (.fa 27 (.t 1) 3), .g 26 true (some 28) (.load 28 false 1 (.t 27)), .g 26 true (some 29) (.mv 29 (.t 3)), .g 26 true (some 30) (.bin 30 .and (.t 29) (.k (.v (.c (.int .i64 4))))), .g 26 true (some 31) (.bin 31 .neq (.t 30) (.k (.v (.c (.int .i64 0))))), .g 26 true (some 32) (.call (some 32) 250 [(.t 28), (.t 31)]), .s (.pick 33 (.t 26) (.t 32) (.k (.v (.c .ff)))), .s (.mv 34 (.t 33)), .g 34 true (some 35) (.fa 35 (.t 1) 4), .g 34 true (some 36) (.load 36 false 1 (.t 35)), .g 34 true (some 37) (.call (some 37) 149 [(.t 36), (.k (.v (.c (.int .i64 (-128))))), (.k (.v (.c (.int .i64 127))))]), .s (.pick 38 (.t 34) (.t 37) (.k (.v (.c .ff)))), .s (.mv 39 (.t 38)), .g 39 true (some 40) (.mv 40 (.t 3)), .g 39 true (some 41) (.bin 41 .and (.t 40) (.k (.v (.c (.int .i64 8))))), .g 39 true (some 42) (.bin 42 .neq (.t 41) (.k (.v (.c (.int .i64 0))))), .g 39 true (some 43) (.mv 43 (.t 42)), .g 43 false (some 44) (.fa 44 (.t 1) 4), .g 43 false (some 45) (.load 45 false 1 (.t 44)), .g 43 false (some 46) (.bin 46 .eql (.t 45) (.k (.v (.c (.int .i64 0))))), .g 39 true (some 47) (.pick 47 (.t 43) (.k (.v (.c .tt))) (.t 46)), .s (.pick 48 (.t 39) (.t 47) (.k (.v (.c .ff)))), .s (.mv 2 (.t 48))]) (.ret)))⟩
def c_spec_InsOk : Fun := ⟨234, [], fun ts K => as1 ts fun t0 => arG pInstT t0 fun x => K (tB (insOk x)) []⟩
theorem run_spec_InsOk (x : Inst) : runK [c_spec_l1In, c_spec_l6Has, c_spec_l6Field] (0) [] pf_spec_InsOk [tG (x.tc [])] fun r o => r = tB (insOk x) ∧ o = [] := by
  conv => whnf
  repeat' (first | (refine sel_i (fun h => ?_) (fun h => ?_) <;> conv => whnf) | (refine chk_c ?_ ?_ <;> conv => whnf) | (refine And.intro ?_ rfl) | (refine And.intro ?_ ?_ <;> conv => whnf))
  all_goals (try simp only [andI_eq] at *)
  all_goals (simp only [insOk, *, Bool.true_and, Bool.false_and, Bool.and_true, Bool.and_false, Bool.or_true, Bool.true_or, Bool.false_or]; first | done | trace_state)
theorem ok_spec_InsOk : FunOk Try.prog c_spec_InsOk := funOk (E := [c_spec_l1In, c_spec_l6Has, c_spec_l6Field]) (envOk_cons ok_spec_l1In (envOk_cons ok_spec_l6Has (envOk_cons ok_spec_l6Field (envOk_nil)))) mixd Try.func234 (pf := pf_spec_InsOk) (by kernel_rfl) fun ts K h => by
  obtain ⟨t0, e0, h⟩ := as1_out h
  subst e0
  obtain ⟨x, e1, hq⟩ := arG_out rd_inst h
  clear h
  subst e1
  have h := hq
  clear hq
  exact ⟨_, _, h, Nat.le_of_ble_eq_true (show Nat.ble 1 Try.f234.ntmps = true by kernel_rfl), _, run_spec_InsOk x⟩

def pf_spec_Sets : PF := ⟨[.t 2], .seq (.reg [.s (.box 1 (.t 0)), .s (.mv 2 (.k (.v (.c (.int .i64 0)))))]) (.seq (.seq (.reg [.s (.fa 3 (.t 1) 0), .s (.load 4 false 1 (.t 3)), .s (.call (some 5) 232 [(.t 4)]), .s (.bin 6 .and (.t 5) (.k (.v (.c (.int .i64 1))))), .s (.bin 7 .eql (.t 6) (.k (.v (.c (.int .i64 0)))))]) (.cond (.t 7) (.seq (.reg [.s (.mv 2 (.k (.v (.c (.int .i64 (-1))))))]) (.ret)) (.skip))) (.seq (.reg [.s (.fa 8 (.t 1) 1), .s (.load 9 false 1 (.t 8)), .s (.mv 2 (.t 9))]) (.ret)))⟩
def c_spec_Sets : Fun := ⟨237, [], fun ts K => as1 ts fun t0 => arG pInstT t0 fun x => K (tN (setsI x)) []⟩
theorem run_spec_Sets (x : Inst) : runK [c_spec_l6Has] (0) [] pf_spec_Sets [tG (x.tc [])] fun r o => r = tN (setsI x) ∧ o = [] := by
  conv => whnf
  repeat' (first | (refine sel_i (fun h => ?_) (fun h => ?_) <;> conv => whnf) | (refine chk_c ?_ ?_ <;> conv => whnf) | (refine And.intro ?_ rfl) | (refine And.intro ?_ ?_ <;> conv => whnf))
  all_goals (try simp only [andI_eq, beq_iff_eq, beq_eq_false_iff_ne] at *)
  all_goals (simp_all [setsI]; done)
theorem ok_spec_Sets : FunOk Try.prog c_spec_Sets := funOk (E := [c_spec_l6Has]) (envOk_cons ok_spec_l6Has (envOk_nil)) mixd Try.func237 (pf := pf_spec_Sets) (by kernel_rfl) fun ts K h => by
  obtain ⟨t0, e0, h⟩ := as1_out h
  subst e0
  obtain ⟨x, e1, hq⟩ := arG_out rd_inst h
  clear h
  subst e1
  have h := hq
  clear hq
  exact ⟨_, _, h, Nat.le_of_ble_eq_true (show Nat.ble 1 Try.f237.ntmps = true by kernel_rfl), _, run_spec_Sets x⟩

abbrev zW : Word := ⟨0, false, ⟨0, 0, 0, 0⟩⟩
abbrev zI : Inst := ⟨0, 0, 0, 0, 0⟩
def readC (m : Mem) (y : Word) (n : Int) : Int := if tryW y n 1 ≠ 0 then tryW y n 1 else if inR n 0 (m.words.length - 1) then 0 else 4
def readM (m : Mem) (y : Word) (n : Int) : Word × Int := if readC m y n ≠ 0 then (zW, readC m y n) else (filterW m.gone (takenW y (m.words.getD n.toNat (FT.zero .word))), 0)
def writeC (m : Mem) (y : Word) (n : Int) (w : Word) : Int := if tryW y n 2 ≠ 0 then tryW y n 2 else if inR n 0 (m.words.length - 1) = false then 4 else if mayPut y w = false then 3 else 0
def fetchI (l : List Inst) (pc : Word) : Inst × Int := if tryW pc pc.n 4 ≠ 0 then (zI, tryW pc pc.n 4) else if inR pc.n 0 (l.length - 1) = false ∨ insOk (l.getD pc.n.toNat (FT.zero .inst)) = false then (zI, 4) else (l.getD pc.n.toNat (FT.zero .inst), 0)
def trapE (c : Int) (pc : Word) : Eff := ⟨c, -1, zW, pc, -1, zW, -1⟩
def madeW (x : Inst) (a b got : Word) : Word :=
  if x.op = 1 then plainW x.n else if x.op = 2 then plainW (IntKind.i64.wrap (a.n + b.n)) else if x.op = 3 then a else if x.op = 4 then weakenW a b.n else if x.op = 5 then narrowW a b.n else
  if x.op = 6 then pointW a (IntKind.i64.wrap (IntKind.i64.wrap (a.n + b.n) + x.n)) else if x.op = 7 then sealBy a b else if x.op = 8 then openBy a b else if x.op = 9 then (if a.is then plainW 1 else plainW 0) else got
def nextW (pc : Word) : Word := pointW pc (IntKind.i64.wrap (pc.n + 1))
def workE (x : Inst) (pc a b got : Word) : Eff :=
  if x.op = 11 then ⟨0, -1, zW, nextW pc, IntKind.i64.wrap (a.n + x.n), b, -1⟩ else
  if x.op = 12 then (if tryW a a.n 4 ≠ 0 then trapE (tryW a a.n 4) pc else ⟨0, x.r, nextW pc, a, -1, zW, -1⟩) else
  if x.op = 13 then ⟨0, -1, zW, if a.n = 0 then pointW pc (IntKind.i64.wrap (pc.n + x.n)) else nextW pc, -1, zW, -1⟩ else
  if x.op = 14 then (if tryW a a.n 32 ≠ 0 then trapE (tryW a a.n 32) pc else ⟨0, -1, zW, nextW pc, -1, zW, a.key.base⟩) else
  if x.op = 15 then trapE 5 pc else
  if hasC x.op 82 then ⟨0, x.r, if 0 ≤ x.r then madeW x a b got else zW, nextW pc, -1, zW, -1⟩ else ⟨0, -1, zW, nextW pc, -1, zW, -1⟩

theorem readC_t {m : Mem} {y : Word} {n : Int} (h : ¬ tryW y n 1 = 0) : readC m y n = tryW y n 1 := if_pos h
theorem readC_b {m : Mem} {y : Word} {n : Int} (h : tryW y n 1 = 0) (hb : n < 0 ∨ m.words.length - 1 < n) : readC m y n = 4 := by
  unfold readC; rw [if_neg (fun q => q h), if_neg (by rw [inR_t]; omega)]
theorem readC_0 {m : Mem} {y : Word} {n : Int} (h : tryW y n 1 = 0) (hb : 0 ≤ n ∧ n ≤ m.words.length - 1) : readC m y n = 0 := by
  unfold readC; rw [if_neg (fun q => q h), if_pos (by rw [inR_t]; omega)]
theorem readM_t {m : Mem} {y : Word} {n : Int} (h : ¬ tryW y n 1 = 0) : readM m y n = (zW, tryW y n 1) := by
  unfold readM; rw [readC_t h, if_pos h]
theorem readM_b {m : Mem} {y : Word} {n : Int} (h : tryW y n 1 = 0) (hb : n < 0 ∨ m.words.length - 1 < n) : readM m y n = (zW, 4) := by
  unfold readM; rw [readC_b h hb, if_pos (by decide)]
theorem readM_0 {m : Mem} {y : Word} {n : Int} (h : tryW y n 1 = 0) (hb : 0 ≤ n ∧ n ≤ m.words.length - 1) : readM m y n = (filterW m.gone (takenW y (m.words.getD n.toNat (FT.zero .word))), 0) := by
  unfold readM; rw [readC_0 h hb, if_neg (fun q => q rfl)]
theorem writeC_t {m : Mem} {y w : Word} {n : Int} (h : ¬ tryW y n 2 = 0) : writeC m y n w = tryW y n 2 := if_pos h
theorem writeC_b {m : Mem} {y w : Word} {n : Int} (h : tryW y n 2 = 0) (hb : n < 0 ∨ m.words.length - 1 < n) : writeC m y n w = 4 := by
  unfold writeC; rw [if_neg (fun q => q h), if_pos (by rw [inR_f]; omega)]
theorem writeC_p {m : Mem} {y w : Word} {n : Int} (h : tryW y n 2 = 0) (hb : 0 ≤ n ∧ n ≤ m.words.length - 1) (hp : mayPut y w = false) : writeC m y n w = 3 := by
  unfold writeC; rw [if_neg (fun q => q h), if_neg (by rw [inR_f]; omega), if_pos hp]
theorem writeC_0 {m : Mem} {y w : Word} {n : Int} (h : tryW y n 2 = 0) (hb : 0 ≤ n ∧ n ≤ m.words.length - 1) (hp : mayPut y w = true) : writeC m y n w = 0 := by
  unfold writeC; rw [if_neg (fun q => q h), if_neg (by rw [inR_f]; omega), if_neg (by rw [hp]; decide)]
theorem fetchI_t {l : List Inst} {pc : Word} (h : ¬ tryW pc pc.n 4 = 0) : fetchI l pc = (zI, tryW pc pc.n 4) := if_pos h
theorem fetchI_b {l : List Inst} {pc : Word} (h : tryW pc pc.n 4 = 0) (hb : pc.n < 0 ∨ l.length - 1 < pc.n) : fetchI l pc = (zI, 4) := by
  unfold fetchI; rw [if_neg (fun q => q h), if_pos (.inl (by rw [inR_f]; omega))]
theorem fetchI_i {l : List Inst} {pc : Word} (h : tryW pc pc.n 4 = 0) (hi : insOk (l.getD pc.n.toNat (FT.zero .inst)) = false) : fetchI l pc = (zI, 4) := by
  unfold fetchI; rw [if_neg (fun q => q h), if_pos (.inr hi)]
theorem fetchI_0 {l : List Inst} {pc : Word} (h : tryW pc pc.n 4 = 0) (hb : 0 ≤ pc.n ∧ pc.n ≤ l.length - 1) (hi : insOk (l.getD pc.n.toNat (FT.zero .inst)) = true) : fetchI l pc = (l.getD pc.n.toNat (FT.zero .inst), 0) := by
  unfold fetchI; rw [if_neg (fun q => q h), if_neg (by rw [inR_f, hi]; rintro (h | h) <;> first | omega | cases h)]
theorem hasR (x : Inst) : hasC x.op 82 = (andI (maskI x.op) 1 != 0) := by
  obtain ⟨op, r, a, b, n⟩ := x
  dsimp only
  by_cases h : 1 ≤ op ∧ op ≤ 15
  · have hop : op = 1 ∨ op = 2 ∨ op = 3 ∨ op = 4 ∨ op = 5 ∨ op = 6 ∨ op = 7 ∨ op = 8 ∨ op = 9 ∨ op = 10 ∨ op = 11 ∨ op = 12 ∨ op = 13 ∨ op = 14 ∨ op = 15 := by omega
    rcases hop with rfl | rfl | rfl | rfl | rfl | rfl | rfl | rfl | rfl | rfl | rfl | rfl | rfl | rfl | rfl <;> decide
  · have e1 : maskI op = 0 := by unfold maskI; rw [if_neg (by rw [inR_t]; exact h)]
    have e2 : formS op = ⟨#[]⟩ := by
      unfold formS
      rw [if_neg (by omega), if_neg (by omega), if_neg (by omega), if_neg (by omega), if_neg (by omega), if_neg (by omega), if_neg (by omega), if_neg (by omega)]
    rw [e1, hasC, e2]; decide

def pf_spec_Read : PF := ⟨[.c 6 true 6, .t 7], .seq (.reg [.s (.box 3 (.t 0)), .s (.box 4 (.t 1)), .s (.alloc 6 [.int .i64 0, .ff, .int .i64 0, .int .i64 0, .int .i64 0, .int .i64 0]), .s (.mv 7 (.k (.v (.c (.int .i64 0)))))]) (.seq (.reg [.s (.load 9 true 6 (.t 4)), .s (.mv 10 (.t 2)), .s (.call (some 11) 233 [(.t 9), (.t 10), (.k (.v (.c (.int .i64 1))))]), .s (.mv 8 (.t 11))]) (.seq (.seq (.reg [.s (.mv 12 (.t 8)), .s (.bin 13 .eql (.t 12) (.k (.v (.c (.int .i64 0))))), .s (.mv 14 (.t 13)), .g 14 true (some 15) (.mv 15 (.t 2)), .g 14 true (some 16) (.fa 16 (.t 3) 0), .g 14 true (some 17) (.load 17 false 1 (.t 16)), .g 14 true (some 18) (.len 18 false (.t 17)), .g 14 true (some 19) (.bin 19 .sub (.t 18) (.k (.v (.c (.int .i64 1))))), .g 14 true (some 20) (.call (some 20) 149 [(.t 15), (.k (.v (.c (.int .i64 0)))), (.t 19)]), .g 14 true (some 21) (.bnot 21 (.t 20)), .s (.pick 22 (.t 14) (.t 21) (.k (.v (.c .ff))))]) (.cond (.t 22) (.reg [.s (.mv 8 (.k (.v (.c (.int .i64 4)))))]) (.skip))) (.seq (.seq (.reg [.s (.mv 23 (.t 8)), .s (.bin 24 .neq (.t 23) (.k (.v (.c (.int .i64 0)))))]) (.cond (.t 24) (.seq (.reg [.s (.build 25 [.int .i64 0, .ff, .int .i64 0, .int .i64 0, .int .i64 0, .int .i64 0] []), .s (.mv 26 (.t 8)), .s (.store 6 (.t 6) (.t 25)), .s (.mv 7 (.t 26))]) (.ret)) (.skip))) (.seq (.rgd [] [.s (.load 27 true 2 (.t 3)), .s (.load 28 true 6 (.t 4)), .s (.fa 29 (.t 3) 0), .s (.load 30 false 1 (.t 29)), .s (.mv 31 (.t 2)), .s (.ia 32 .word (.t 30) (.t 31)), .s (.load 33 true 6 (.t 32)), .s (.call (some 34) 251 [(.t 28), (.t 33)]), .s (.call (some 35) 229 [(.t 27), (.t 34)]), .s (.store 6 (.t 6) (.t 35)), .s (.mv 7 (.k (.v (.c (.int .i64 0)))))] (.tk 0 (.tk 1 (.tk 2 (.tk 3 (.tk 4 (.tk 5 (.tk 6 (.one 7 false (.one 8 true (.one 9 true (.tk 10 (.done none))))))))))))) (.ret)))))⟩
def c_spec_Read : Fun := ⟨235, [], fun ts K => as3 ts fun t0 t1 t2 => arG pMemT t0 fun m => arG pWordT t1 fun y => arC (pI .i64) t2 fun n => chk (LMem m 2147483647) (K (.tup [.g ((readM m y n).1.tc []), .c (.int .i64 (readM m y n).2)]) [])⟩
theorem run_spec_Read (m : Mem) (y : Word) (n : Int) (hpre : LMem m 2147483647) : runK [c_spec_l1In, c_spec_Filter, c_spec_Try, c_spec_Taken] (0) [] pf_spec_Read [tG (m.tc false []), tG (y.tc []), tI .i64 n] fun r o => r = .tup [.g ((readM m y n).1.tc []), .c (.int .i64 (readM m y n).2)] ∧ o = [] := by
  have l2 := hpre.1
  have w1 : IntKind.i64.wrap ((m.words.length : Int) - 1) = (m.words.length : Int) - 1 := wrap_id (by omega) (by omega)
  conv => whnf
  repeat' (first | (refine sel_i (fun h => ?_) (fun h => ?_) <;> conv => whnf) | (refine chk_c ?_ ?_ <;> conv => whnf) | (refine And.intro ?_ rfl) | (refine And.intro ?_ ?_ <;> conv => whnf))
  all_goals (try simp only [etaKey, etaWord, etaInst, etaMemory, w1, bne_iff_ne, ne_eq, bne_eq_false_iff_eq, beq_iff_eq, beq_eq_false_iff_ne, Bool.not_eq_true', Bool.not_eq_false', inR_t, inR_f, decide_eq_true_eq, decide_eq_false_iff_not] at *)
  all_goals first
    | (exfalso; omega)
    | (refine ⟨?_⟩; first | assumption | omega | decide)
    | (rw [readM_t (by assumption)]; rfl)
    | (rw [readM_b (by assumption) (by omega)]; rfl)
    | (rw [readM_0 (by assumption) (by omega)]; rfl)
    | trace_state
theorem ok_spec_Read : FunOk Try.prog c_spec_Read := funOk (E := [c_spec_l1In, c_spec_Filter, c_spec_Try, c_spec_Taken]) (envOk_cons ok_spec_l1In (envOk_cons ok_spec_Filter (envOk_cons ok_spec_Try (envOk_cons ok_spec_Taken (envOk_nil))))) mixd Try.func235 (pf := pf_spec_Read) (by kernel_rfl) fun ts K h => by
  obtain ⟨t0, t1, t2, e0, h⟩ := as3_out h
  subst e0
  obtain ⟨m, e1, hq⟩ := arG_out rd_mem h
  clear h
  subst e1
  have h := hq
  clear hq
  obtain ⟨y, e1, hq⟩ := arG_out rd_word h
  clear h
  subst e1
  have h := hq
  clear hq
  obtain ⟨n, e1, hq⟩ := arC_out (rd_int .i64) h
  clear h
  subst e1
  have h := hq
  clear hq
  obtain ⟨hpre, h⟩ := chk_o h
  exact ⟨_, _, h, Nat.le_of_ble_eq_true (show Nat.ble 3 Try.f235.ntmps = true by kernel_rfl), _, run_spec_Read m y n hpre⟩

def pf_spec_l8Write : PF := ⟨[.t 8], .seq (.reg [.s (.box 4 (.t 0)), .s (.box 5 (.t 1)), .s (.box 7 (.t 3)), .s (.mv 8 (.k (.v (.c (.int .i64 0)))))]) (.seq (.reg [.s (.load 10 true 6 (.t 5)), .s (.mv 11 (.t 2)), .s (.call (some 12) 233 [(.t 10), (.t 11), (.k (.v (.c (.int .i64 2))))]), .s (.mv 9 (.t 12))]) (.seq (.blk 0 (.seq (.reg [.s (.mv 14 (.t 9)), .s (.bin 15 .neq (.t 14) (.k (.v (.c (.int .i64 0))))), .s (.mv 13 (.t 15))]) (.cond (.t 13) (.seq (.reg [.s (.mv 16 (.t 9)), .s (.mv 8 (.t 16))]) (.ret)) (.seq (.reg [.s (.mv 18 (.t 2)), .s (.fa 19 (.t 4) 0), .s (.load 20 false 1 (.t 19)), .s (.len 21 false (.t 20)), .s (.bin 22 .sub (.t 21) (.k (.v (.c (.int .i64 1))))), .s (.call (some 23) 149 [(.t 18), (.k (.v (.c (.int .i64 0)))), (.t 22)]), .s (.bnot 24 (.t 23)), .s (.mv 17 (.t 24))]) (.cond (.t 17) (.seq (.reg [.s (.mv 8 (.k (.v (.c (.int .i64 4)))))]) (.ret)) (.seq (.reg [.s (.load 26 true 6 (.t 5)), .s (.load 27 true 6 (.t 7)), .s (.call (some 28) 249 [(.t 26), (.t 27)]), .s (.bnot 29 (.t 28)), .s (.mv 25 (.t 29))]) (.cond (.t 25) (.seq (.reg [.s (.mv 8 (.k (.v (.c (.int .i64 3)))))]) (.ret)) (.skip)))))))) (.seq (.reg [.s (.mv 8 (.k (.v (.c (.int .i64 0)))))]) (.ret))))⟩
def c_spec_l8Write : Fun := ⟨228, [], fun ts K => as4 ts fun t0 t1 t2 t3 => arG pMemT t0 fun m => arG pWordT t1 fun y => arC (pI .i64) t2 fun n => arG pWordT t3 fun w => chk (LMem m 2147483647) (K (tN (writeC m y n w)) [])⟩
theorem run_spec_l8Write (m : Mem) (y : Word) (n : Int) (w : Word) (hpre : LMem m 2147483647) : runK [c_spec_l1In, c_spec_Try, c_spec_MayPut] (0) [] pf_spec_l8Write [tG (m.tc false []), tG (y.tc []), tI .i64 n, tG (w.tc [])] fun r o => r = tN (writeC m y n w) ∧ o = [] := by
  have l2 := hpre.1
  have w1 : IntKind.i64.wrap ((m.words.length : Int) - 1) = (m.words.length : Int) - 1 := wrap_id (by omega) (by omega)
  conv => whnf
  repeat' (first | (refine sel_i (fun h => ?_) (fun h => ?_) <;> conv => whnf) | (refine chk_c ?_ ?_ <;> conv => whnf) | (refine And.intro ?_ rfl) | (refine And.intro ?_ ?_ <;> conv => whnf))
  all_goals (try simp only [etaKey, etaWord, etaInst, etaMemory, w1, bne_iff_ne, ne_eq, bne_eq_false_iff_eq, beq_iff_eq, beq_eq_false_iff_ne, Bool.not_eq_true', Bool.not_eq_false', inR_t, inR_f, decide_eq_true_eq, decide_eq_false_iff_not] at *)
  all_goals first
    | (exfalso; omega)
    | (refine ⟨?_⟩; first | assumption | omega | decide)
    | (rw [writeC_t (by assumption)]; done)
    | (rw [writeC_b (by assumption) (by omega)]; done)
    | (rw [writeC_p (by assumption) (by omega) (by assumption)]; done)
    | (rw [writeC_0 (by assumption) (by omega) (by assumption)]; done)
    | trace_state
theorem ok_spec_l8Write : FunOk Try.prog c_spec_l8Write := funOk (E := [c_spec_l1In, c_spec_Try, c_spec_MayPut]) (envOk_cons ok_spec_l1In (envOk_cons ok_spec_Try (envOk_cons ok_spec_MayPut (envOk_nil)))) mixd Try.func228 (pf := pf_spec_l8Write) (by kernel_rfl) fun ts K h => by
  obtain ⟨t0, t1, t2, t3, e0, h⟩ := as4_out h
  subst e0
  obtain ⟨m, e1, hq⟩ := arG_out rd_mem h
  clear h
  subst e1
  have h := hq
  clear hq
  obtain ⟨y, e1, hq⟩ := arG_out rd_word h
  clear h
  subst e1
  have h := hq
  clear hq
  obtain ⟨n, e1, hq⟩ := arC_out (rd_int .i64) h
  clear h
  subst e1
  have h := hq
  clear hq
  obtain ⟨w, e1, hq⟩ := arG_out rd_word h
  clear h
  subst e1
  have h := hq
  clear hq
  obtain ⟨hpre, h⟩ := chk_o h
  exact ⟨_, _, h, Nat.le_of_ble_eq_true (show Nat.ble 4 Try.f228.ntmps = true by kernel_rfl), _, run_spec_l8Write m y n w hpre⟩

def pf_spec_Fetch : PF := ⟨[.c 4 true 5, .t 5], .seq (.reg [.s (.box 3 (.t 1)), .s (.alloc 4 [.int .i64 0, .int .i64 0, .int .i64 0, .int .i64 0, .int .i64 0]), .s (.mv 5 (.k (.v (.c (.int .i64 0)))))]) (.seq (.reg [.s (.load 7 true 6 (.t 3)), .s (.fa 8 (.t 3) 0), .s (.load 9 false 1 (.t 8)), .s (.call (some 10) 233 [(.t 7), (.t 9), (.k (.v (.c (.int .i64 4))))]), .s (.mv 6 (.t 10))]) (.seq (.seq (.reg [.s (.mv 11 (.t 6)), .s (.bin 12 .neq (.t 11) (.k (.v (.c (.int .i64 0)))))]) (.cond (.t 12) (.seq (.reg [.s (.build 13 [.int .i64 0, .int .i64 0, .int .i64 0, .int .i64 0, .int .i64 0] []), .s (.mv 14 (.t 6)), .s (.store 5 (.t 4) (.t 13)), .s (.mv 5 (.t 14))]) (.ret)) (.skip))) (.seq (.seq (.reg [.s (.fa 15 (.t 3) 0), .s (.load 16 false 1 (.t 15)), .s (.mv 17 (.t 0)), .s (.len 18 false (.t 17)), .s (.bin 19 .sub (.t 18) (.k (.v (.c (.int .i64 1))))), .s (.call (some 20) 149 [(.t 16), (.k (.v (.c (.int .i64 0)))), (.t 19)]), .s (.bnot 21 (.t 20)), .s (.mv 22 (.t 21)), .g 22 false (some 23) (.mv 23 (.t 0)), .g 22 false (some 24) (.fa 24 (.t 3) 0), .g 22 false (some 25) (.load 25 false 1 (.t 24)), .g 22 false (some 26) (.ia 26 .inst (.t 23) (.t 25)), .g 22 false (some 27) (.load 27 true 5 (.t 26)), .g 22 false (some 28) (.call (some 28) 234 [(.t 27)]), .g 22 false (some 29) (.bnot 29 (.t 28)), .s (.pick 30 (.t 22) (.k (.v (.c .tt))) (.t 29))]) (.cond (.t 30) (.seq (.reg [.s (.build 31 [.int .i64 0, .int .i64 0, .int .i64 0, .int .i64 0, .int .i64 0] []), .s (.store 5 (.t 4) (.t 31)), .s (.mv 5 (.k (.v (.c (.int .i64 4)))))]) (.ret)) (.skip))) (.seq (.reg [.s (.mv 32 (.t 0)), .s (.fa 33 (.t 3) 0), .s (.load 34 false 1 (.t 33)), .s (.ia 35 .inst (.t 32) (.t 34)), .s (.load 36 true 5 (.t 35)), .s (.store 5 (.t 4) (.t 36)), .s (.mv 5 (.k (.v (.c (.int .i64 0)))))]) (.ret)))))⟩
def c_spec_Fetch : Fun := ⟨209, [], fun ts K => as2 ts fun t0 t1 => arC (pL .inst) t0 fun l => arG pWordT t1 fun pc => chk (l.length ≤ 2147483647) (K (.tup [.g ((fetchI l pc).1.tc []), .c (.int .i64 (fetchI l pc).2)]) [])⟩
theorem run_spec_Fetch (l : List (FT.Ty .inst)) (pc : Word) (hpre : l.length ≤ 2147483647) : runK [c_spec_l1In, c_spec_Try, c_spec_InsOk] (0) [] pf_spec_Fetch [tL false .inst l, tG (pc.tc [])] fun r o => r = .tup [.g ((fetchI l pc).1.tc []), .c (.int .i64 (fetchI l pc).2)] ∧ o = [] := by
  have w1 : IntKind.i64.wrap ((l.length : Int) - 1) = (l.length : Int) - 1 := wrap_id (by omega) (by omega)
  conv => whnf
  repeat' (first | (refine sel_i (fun h => ?_) (fun h => ?_) <;> conv => whnf) | (refine chk_c ?_ ?_ <;> conv => whnf) | (refine And.intro ?_ rfl) | (refine And.intro ?_ ?_ <;> conv => whnf))
  all_goals (try simp only [etaKey, etaWord, etaInst, etaMemory, w1, bne_iff_ne, ne_eq, bne_eq_false_iff_eq, beq_iff_eq, beq_eq_false_iff_ne, Bool.not_eq_true', Bool.not_eq_false', inR_t, inR_f, decide_eq_true_eq, decide_eq_false_iff_not] at *)
  all_goals first
    | (exfalso; omega)
    | (refine ⟨?_⟩; first | assumption | omega | decide)
    | (rw [fetchI_t (by assumption)]; rfl)
    | (rw [fetchI_b (by assumption) (by omega)]; rfl)
    | (rw [fetchI_i (by assumption) (by assumption)]; rfl)
    | (rw [fetchI_0 (by assumption) (by omega) (by assumption)]; rfl)
    | trace_state
theorem ok_spec_Fetch : FunOk Try.prog c_spec_Fetch := funOk (E := [c_spec_l1In, c_spec_Try, c_spec_InsOk]) (envOk_cons ok_spec_l1In (envOk_cons ok_spec_Try (envOk_cons ok_spec_InsOk (envOk_nil)))) mixd Try.func209 (pf := pf_spec_Fetch) (by kernel_rfl) fun ts K h => by
  obtain ⟨t0, t1, e0, h⟩ := as2_out h
  subst e0
  obtain ⟨l, e1, hq⟩ := arC_out (rd_l .inst) h
  clear h
  subst e1
  have h := hq
  clear hq
  obtain ⟨pc, e1, hq⟩ := arG_out rd_word h
  clear h
  subst e1
  have h := hq
  clear hq
  obtain ⟨hpre, h⟩ := chk_o h
  exact ⟨_, _, h, Nat.le_of_ble_eq_true (show Nat.ble 2 Try.f209.ntmps = true by kernel_rfl), _, run_spec_Fetch l pc hpre⟩

def pf_spec_l9Trap : PF := ⟨[.c 4 true 22], .seq (.reg [.s (.box 3 (.t 1)), .s (.alloc 4 [.int .i64 0, .int .i64 0, .int .i64 0, .ff, .int .i64 0, .int .i64 0, .int .i64 0, .int .i64 0, .int .i64 0, .ff, .int .i64 0, .int .i64 0, .int .i64 0, .int .i64 0, .int .i64 0, .int .i64 0, .ff, .int .i64 0, .int .i64 0, .int .i64 0, .int .i64 0, .int .i64 0])]) (.seq (.reg [.s (.mv 5 (.t 0)), .s (.load 6 true 6 (.t 3)), .s (.build 7 [.int .i64 0, .int .i64 0, .int .i64 0, .ff, .int .i64 0, .int .i64 0, .int .i64 0, .int .i64 0, .int .i64 0, .ff, .int .i64 0, .int .i64 0, .int .i64 0, .int .i64 0, .int .i64 0, .int .i64 0, .ff, .int .i64 0, .int .i64 0, .int .i64 0, .int .i64 0, .int .i64 0] [(0, 1, (.t 5)), (1, 1, (.k (.v (.c (.int .i64 (-1)))))), (8, 6, (.t 6)), (14, 1, (.k (.v (.c (.int .i64 (-1)))))), (21, 1, (.k (.v (.c (.int .i64 (-1))))))]), .s (.store 22 (.t 4) (.t 7))]) (.ret))⟩
def c_spec_l9Trap : Fun := ⟨239, [], fun ts K => as2 ts fun t0 t1 => arC (pI .i64) t0 fun c => arG pWordT t1 fun pc => K (tG ((trapE c pc).tc [])) []⟩
theorem run_spec_l9Trap (c : Int) (pc : Word) : runK [] (0) [] pf_spec_l9Trap [tI .i64 c, tG (pc.tc [])] fun r o => r = tG ((trapE c pc).tc []) ∧ o = [] := by
  conv => whnf
  repeat' (first
    | exact rfl
    | exact trivial
    | (refine sel_i (fun h => ?_) (fun h => ?_) <;> conv => whnf)
    | (refine chk_c ?_ ?_ <;> conv => whnf)
    | (refine And.intro ?_ ?_ <;> conv => whnf))
theorem ok_spec_l9Trap : FunOk Try.prog c_spec_l9Trap := funOk (E := []) (envOk_nil) mixd Try.func239 (pf := pf_spec_l9Trap) (by kernel_rfl) fun ts K h => by
  obtain ⟨t0, t1, e0, h⟩ := as2_out h
  subst e0
  obtain ⟨c, e1, hq⟩ := arC_out (rd_int .i64) h
  clear h
  subst e1
  have h := hq
  clear hq
  obtain ⟨pc, e1, hq⟩ := arG_out rd_word h
  clear h
  subst e1
  have h := hq
  clear hq
  exact ⟨_, _, h, Nat.le_of_ble_eq_true (show Nat.ble 2 Try.f239.ntmps = true by kernel_rfl), _, run_spec_l9Trap c pc⟩

def pf_spec_l9Value : PF := ⟨[.c 8 true 6], .seq (.reg [.s (.box 4 (.t 0)), .s (.box 5 (.t 1)), .s (.box 6 (.t 2)), .s (.box 7 (.t 3)), .s (.alloc 8 [.int .i64 0, .ff, .int .i64 0, .int .i64 0, .int .i64 0, .int .i64 0])]) (.seq (.seq (.reg [.s (.fa 9 (.t 4) 0), .s (.load 10 false 1 (.t 9))]) (.blk 0 (.seq (.reg [.s (.bin 12 .eql (.t 10) (.k (.v (.c (.int .i64 1))))), .s (.mv 11 (.t 12))]) (.cond (.t 11) (.seq (.reg [.s (.fa 13 (.t 4) 4), .s (.load 14 false 1 (.t 13)), .s (.call (some 15) 164 [(.t 14)]), .s (.store 6 (.t 8) (.t 15))]) (.ret)) (.seq (.reg [.s (.bin 17 .eql (.t 10) (.k (.v (.c (.int .i64 2))))), .s (.mv 16 (.t 17))]) (.cond (.t 16) (.seq (.reg [.s (.fa 18 (.t 5) 0), .s (.load 19 false 1 (.t 18)), .s (.fa 20 (.t 6) 0), .s (.load 21 false 1 (.t 20)), .s (.bin 22 .add (.t 19) (.t 21)), .s (.call (some 23) 164 [(.t 22)]), .s (.store 6 (.t 8) (.t 23))]) (.ret)) (.seq (.reg [.s (.bin 25 .eql (.t 10) (.k (.v (.c (.int .i64 3))))), .s (.mv 24 (.t 25))]) (.cond (.t 24) (.seq (.reg [.s (.load 26 true 6 (.t 5)), .s (.store 6 (.t 8) (.t 26))]) (.ret)) (.seq (.reg [.s (.bin 28 .eql (.t 10) (.k (.v (.c (.int .i64 4))))), .s (.mv 27 (.t 28))]) (.cond (.t 27) (.seq (.reg [.s (.load 29 true 6 (.t 5)), .s (.fa 30 (.t 6) 0), .s (.load 31 false 1 (.t 30)), .s (.call (some 32) 252 [(.t 29), (.t 31)]), .s (.store 6 (.t 8) (.t 32))]) (.ret)) (.seq (.reg [.s (.bin 34 .eql (.t 10) (.k (.v (.c (.int .i64 5))))), .s (.mv 33 (.t 34))]) (.cond (.t 33) (.seq (.reg [.s (.load 35 true 6 (.t 5)), .s (.fa 36 (.t 6) 0), .s (.load 37 false 1 (.t 36)), .s (.call (some 38) 200 [(.t 35), (.t 37)]), .s (.store 6 (.t 8) (.t 38))]) (.ret)) (.seq (.reg [.s (.bin 40 .eql (.t 10) (.k (.v (.c (.int .i64 6))))), .s (.mv 39 (.t 40))]) (.cond (.t 39) (.seq (.reg [.s (.load 41 true 6 (.t 5)), .s (.fa 42 (.t 5) 0), .s (.load 43 false 1 (.t 42)), .s (.fa 44 (.t 6) 0), .s (.load 45 false 1 (.t 44)), .s (.bin 46 .add (.t 43) (.t 45)), .s (.fa 47 (.t 4) 4), .s (.load 48 false 1 (.t 47)), .s (.bin 49 .add (.t 46) (.t 48)), .s (.call (some 50) 236 [(.t 41), (.t 49)]), .s (.store 6 (.t 8) (.t 50))]) (.ret)) (.seq (.reg [.s (.bin 52 .eql (.t 10) (.k (.v (.c (.int .i64 7))))), .s (.mv 51 (.t 52))]) (.cond (.t 51) (.seq (.reg [.s (.load 53 true 6 (.t 5)), .s (.load 54 true 6 (.t 6)), .s (.call (some 55) 253 [(.t 53), (.t 54)]), .s (.store 6 (.t 8) (.t 55))]) (.ret)) (.seq (.reg [.s (.bin 57 .eql (.t 10) (.k (.v (.c (.int .i64 8))))), .s (.mv 56 (.t 57))]) (.cond (.t 56) (.seq (.reg [.s (.load 58 true 6 (.t 5)), .s (.load 59 true 6 (.t 6)), .s (.call (some 60) 254 [(.t 58), (.t 59)]), .s (.store 6 (.t 8) (.t 60))]) (.ret)) (.seq (.reg [.s (.bin 62 .eql (.t 10) (.k (.v (.c (.int .i64 10))))), .s (.mv 61 (.t 62))]) (.cond (.t 61) (.seq (.reg [.s (.load 63 true 6 (.t 7)), .s (.store 6 (.t 8) (.t 63))]) (.ret)) (.skip))))))))))))))))))))) (.seq (.seq (.reg [.s (.fa 64 (.t 5) 1), .s (.load 65 false 1 (.t 64))]) (.cond (.t 65) (.seq (.reg [.s (.call (some 66) 164 [(.k (.v (.c (.int .i64 1))))]), .s (.store 6 (.t 8) (.t 66))]) (.ret)) (.skip))) (.seq (.reg [.s (.call (some 67) 164 [(.k (.v (.c (.int .i64 0))))]), .s (.store 6 (.t 8) (.t 67))]) (.ret))))⟩
def c_spec_l9Value : Fun := ⟨238, [], fun ts K => as4 ts fun t0 t1 t2 t3 => arG pInstT t0 fun x => arG pWordT t1 fun a => arG pWordT t2 fun b => arG pWordT t3 fun got => chk (1 ≤ x.op ∧ x.op ≤ 10) (K (tG ((madeW x a b got).tc [])) [])⟩
theorem run_spec_l9Value (x : Inst) (a : Word) (b : Word) (got : Word) (hpre : 1 ≤ x.op ∧ x.op ≤ 10) : runK [c_spec_Plain, c_spec_Narrow, c_spec_Point, c_spec_Weaken, c_spec_SealBy, c_spec_OpenBy] (0) [] pf_spec_l9Value [tG (x.tc []), tG (a.tc []), tG (b.tc []), tG (got.tc [])] fun r o => r = tG ((madeW x a b got).tc []) ∧ o = [] := by
  have w1 := True.intro
  conv => whnf
  repeat' (first | (refine sel_i (fun h => ?_) (fun h => ?_) <;> conv => whnf) | (refine chk_c ?_ ?_ <;> conv => whnf) | (refine And.intro ?_ rfl) | (refine And.intro ?_ ?_ <;> conv => whnf))
  all_goals (try simp only [etaKey, etaWord, etaInst, etaMemory, w1, bne_iff_ne, ne_eq, bne_eq_false_iff_eq, beq_iff_eq, beq_eq_false_iff_ne, Bool.not_eq_true', Bool.not_eq_false', inR_t, inR_f, decide_eq_true_eq, decide_eq_false_iff_not] at *)
  all_goals first
    | (exfalso; omega)
    | (have e9 : x.op = 9 := by omega
       unfold madeW; simp only [e9, *, if_true, if_false, Int.reduceEq, Bool.false_eq_true]; rfl)
    | (unfold madeW; simp only [*, if_true, if_false, Int.reduceEq, Bool.false_eq_true]; rfl)
    | trace_state
theorem ok_spec_l9Value : FunOk Try.prog c_spec_l9Value := funOk (E := [c_spec_Plain, c_spec_Narrow, c_spec_Point, c_spec_Weaken, c_spec_SealBy, c_spec_OpenBy]) (envOk_cons ok_spec_Plain (envOk_cons ok_spec_Narrow (envOk_cons ok_spec_Point (envOk_cons ok_spec_Weaken (envOk_cons ok_spec_SealBy (envOk_cons ok_spec_OpenBy (envOk_nil))))))) mixd Try.func238 (pf := pf_spec_l9Value) (by kernel_rfl) fun ts K h => by
  obtain ⟨t0, t1, t2, t3, e0, h⟩ := as4_out h
  subst e0
  obtain ⟨x, e1, hq⟩ := arG_out rd_inst h
  clear h
  subst e1
  have h := hq
  clear hq
  obtain ⟨a, e1, hq⟩ := arG_out rd_word h
  clear h
  subst e1
  have h := hq
  clear hq
  obtain ⟨b, e1, hq⟩ := arG_out rd_word h
  clear h
  subst e1
  have h := hq
  clear hq
  obtain ⟨got, e1, hq⟩ := arG_out rd_word h
  clear h
  subst e1
  have h := hq
  clear hq
  obtain ⟨hpre, h⟩ := chk_o h
  exact ⟨_, _, h, Nat.le_of_ble_eq_true (show Nat.ble 4 Try.f238.ntmps = true by kernel_rfl), _, run_spec_l9Value x a b got hpre⟩

theorem maskI_out {op : Int} (h : ¬ (1 ≤ op ∧ op ≤ 15)) : maskI op = 0 := by unfold maskI; rw [if_neg (by rw [inR_t]; exact h)]
theorem sets_op {x : Inst} (h : 0 ≤ setsI x) : 1 ≤ x.op ∧ x.op ≤ 15 := by
  by_cases e : 1 ≤ x.op ∧ x.op ≤ 15
  · exact e
  · unfold setsI at h
    rw [maskI_out e, if_pos (by decide)] at h
    omega
theorem setsI_yes {x : Inst} (h : hasC x.op 82 = true) : setsI x = x.r := by
  rw [hasR] at h; unfold setsI; rw [if_neg (by simpa using h)]
theorem setsI_no {x : Inst} (h : hasC x.op 82 = false) : setsI x = -1 := by
  rw [hasR] at h; unfold setsI; rw [if_pos (by simpa using h)]
theorem workE_pos {x : Inst} {pc a b got : Word} (h1 : ¬ x.op = 11) (h2 : ¬ x.op = 12) (h3 : ¬ x.op = 13) (h4 : ¬ x.op = 14) (h5 : ¬ x.op = 15) (h : 0 ≤ setsI x) :
    workE x pc a b got = ⟨0, setsI x, madeW x a b got, nextW pc, -1, zW, -1⟩ := by
  unfold workE
  rw [if_neg h1, if_neg h2, if_neg h3, if_neg h4, if_neg h5]
  cases hb : hasC x.op 82 with
  | true => rw [setsI_yes hb] at h ⊢; rw [if_pos rfl, if_pos h]
  | false => rw [setsI_no hb] at h; omega
theorem workE_neg {x : Inst} {pc a b got : Word} (h1 : ¬ x.op = 11) (h2 : ¬ x.op = 12) (h3 : ¬ x.op = 13) (h4 : ¬ x.op = 14) (h5 : ¬ x.op = 15) (h : ¬ 0 ≤ setsI x) :
    workE x pc a b got = ⟨0, setsI x, zW, nextW pc, -1, zW, -1⟩ := by
  unfold workE
  rw [if_neg h1, if_neg h2, if_neg h3, if_neg h4, if_neg h5]
  cases hb : hasC x.op 82 with
  | true => rw [setsI_yes hb] at h ⊢; rw [if_pos rfl, if_neg h]
  | false => rw [setsI_no hb]; rfl

def pf_spec_Work : PF := ⟨[.c 10 true 22], .seq (.reg [.s (.box 5 (.t 0)), .s (.box 6 (.t 1)), .s (.box 7 (.t 2)), .s (.box 8 (.t 3)), .s (.box 9 (.t 4)), .s (.alloc 10 [.int .i64 0, .int .i64 0, .int .i64 0, .ff, .int .i64 0, .int .i64 0, .int .i64 0, .int .i64 0, .int .i64 0, .ff, .int .i64 0, .int .i64 0, .int .i64 0, .int .i64 0, .int .i64 0, .int .i64 0, .ff, .int .i64 0, .int .i64 0, .int .i64 0, .int .i64 0, .int .i64 0])]) (.seq (.reg [.s (.load 13 true 6 (.t 6)), .s (.fa 14 (.t 6) 0), .s (.load 15 false 1 (.t 14)), .s (.bin 16 .add (.t 15) (.k (.v (.c (.int .i64 1))))), .s (.call (some 17) 236 [(.t 13), (.t 16)]), .s (.build 18 [.int .i64 0, .int .i64 0, .int .i64 0, .ff, .int .i64 0, .int .i64 0, .int .i64 0, .int .i64 0, .int .i64 0, .ff, .int .i64 0, .int .i64 0, .int .i64 0, .int .i64 0, .int .i64 0, .int .i64 0, .ff, .int .i64 0, .int .i64 0, .int .i64 0, .int .i64 0, .int .i64 0] [(1, 1, (.k (.v (.c (.int .i64 (-1)))))), (8, 6, (.t 17)), (14, 1, (.k (.v (.c (.int .i64 (-1)))))), (21, 1, (.k (.v (.c (.int .i64 (-1))))))]), .s (.alloc 11 [.int .i64 0, .int .i64 0, .int .i64 0, .ff, .int .i64 0, .int .i64 0, .int .i64 0, .int .i64 0, .int .i64 0, .ff, .int .i64 0, .int .i64 0, .int .i64 0, .int .i64 0, .int .i64 0, .int .i64 0, .ff, .int .i64 0, .int .i64 0, .int .i64 0, .int .i64 0, .int .i64 0]), .s (.store 22 (.t 11) (.t 18))]) (.seq (.reg [.s (.mv 12 (.k (.v (.c (.int .i64 0)))))]) (.seq (.seq (.reg [.s (.fa 19 (.t 5) 0), .s (.load 20 false 1 (.t 19))]) (.blk 0 (.seq (.reg [.s (.bin 34 .eql (.t 20) (.k (.v (.c (.int .i64 11))))), .s (.mv 33 (.t 34))]) (.cond (.t 33) (.seq (.reg [.s (.fa 35 (.t 7) 0), .s (.load 36 false 1 (.t 35)), .s (.fa 37 (.t 5) 4), .s (.load 38 false 1 (.t 37)), .s (.bin 39 .add (.t 36) (.t 38)), .s (.fa 40 (.t 11) 14), .s (.store 1 (.t 40) (.t 39))]) (.seq (.reg [.s (.load 41 true 6 (.t 8)), .s (.fa 42 (.t 11) 15), .s (.store 6 (.t 42) (.t 41))]) (.seq (.reg [.s (.load 43 true 22 (.t 11)), .s (.store 22 (.t 10) (.t 43))]) (.ret)))) (.seq (.reg [.s (.bin 45 .eql (.t 20) (.k (.v (.c (.int .i64 12))))), .s (.mv 44 (.t 45))]) (.cond (.t 44) (.seq (.reg [.s (.load 46 true 6 (.t 7)), .s (.fa 47 (.t 7) 0), .s (.load 48 false 1 (.t 47)), .s (.call (some 49) 233 [(.t 46), (.t 48), (.k (.v (.c (.int .i64 4))))]), .s (.mv 12 (.t 49))]) (.seq (.reg [.s (.fa 50 (.t 5) 1), .s (.load 51 false 1 (.t 50)), .s (.fa 52 (.t 11) 1), .s (.store 1 (.t 52) (.t 51))]) (.seq (.reg [.s (.fa 53 (.t 11) 8), .s (.load 54 true 6 (.t 53)), .s (.fa 55 (.t 11) 2), .s (.store 6 (.t 55) (.t 54))]) (.reg [.s (.load 56 true 6 (.t 7)), .s (.fa 57 (.t 11) 8), .s (.store 6 (.t 57) (.t 56))])))) (.seq (.reg [.s (.bin 59 .eql (.t 20) (.k (.v (.c (.int .i64 13))))), .s (.mv 58 (.t 59))]) (.cond (.t 58) (.seq (.seq (.reg [.s (.fa 60 (.t 7) 0), .s (.load 61 false 1 (.t 60)), .s (.bin 62 .eql (.t 61) (.k (.v (.c (.int .i64 0)))))]) (.cond (.t 62) (.reg [.s (.load 63 true 6 (.t 6)), .s (.fa 64 (.t 6) 0), .s (.load 65 false 1 (.t 64)), .s (.fa 66 (.t 5) 4), .s (.load 67 false 1 (.t 66)), .s (.bin 68 .add (.t 65) (.t 67)), .s (.call (some 69) 236 [(.t 63), (.t 68)]), .s (.fa 70 (.t 11) 8), .s (.store 6 (.t 70) (.t 69))]) (.skip))) (.seq (.reg [.s (.load 71 true 22 (.t 11)), .s (.store 22 (.t 10) (.t 71))]) (.ret))) (.seq (.reg [.s (.bin 73 .eql (.t 20) (.k (.v (.c (.int .i64 14))))), .s (.mv 72 (.t 73))]) (.cond (.t 72) (.seq (.reg [.s (.load 74 true 6 (.t 7)), .s (.fa 75 (.t 7) 0), .s (.load 76 false 1 (.t 75)), .s (.call (some 77) 233 [(.t 74), (.t 76), (.k (.v (.c (.int .i64 32))))]), .s (.mv 12 (.t 77))]) (.reg [.s (.fa 78 (.t 7) 2), .s (.fa 79 (.t 78) 0), .s (.load 80 false 1 (.t 79)), .s (.fa 81 (.t 11) 21), .s (.store 1 (.t 81) (.t 80))])) (.seq (.reg [.s (.bin 83 .eql (.t 20) (.k (.v (.c (.int .i64 15))))), .s (.mv 82 (.t 83))]) (.cond (.t 82) (.reg [.s (.mv 12 (.k (.v (.c (.int .i64 5)))))]) (.seq (.reg [.s (.load 21 true 5 (.t 5)), .s (.call (some 22) 237 [(.t 21)]), .s (.fa 23 (.t 11) 1), .s (.store 1 (.t 23) (.t 22))]) (.seq (.reg [.s (.fa 24 (.t 11) 1), .s (.load 25 false 1 (.t 24)), .s (.bin 26 .geq (.t 25) (.k (.v (.c (.int .i64 0)))))]) (.cond (.t 26) (.reg [.s (.load 27 true 5 (.t 5)), .s (.load 28 true 6 (.t 7)), .s (.load 29 true 6 (.t 8)), .s (.load 30 true 6 (.t 9)), .s (.call (some 31) 238 [(.t 27), (.t 28), (.t 29), (.t 30)]), .s (.fa 32 (.t 11) 2), .s (.store 6 (.t 32) (.t 31))]) (.skip)))))))))))))))) (.seq (.seq (.reg [.s (.mv 84 (.t 12)), .s (.bin 85 .neq (.t 84) (.k (.v (.c (.int .i64 0)))))]) (.cond (.t 85) (.seq (.reg [.s (.mv 86 (.t 12)), .s (.load 87 true 6 (.t 6)), .s (.call (some 88) 239 [(.t 86), (.t 87)]), .s (.store 22 (.t 10) (.t 88))]) (.ret)) (.skip))) (.seq (.reg [.s (.load 89 true 22 (.t 11)), .s (.store 22 (.t 10) (.t 89))]) (.ret))))))⟩
def c_spec_Work : Fun := ⟨211, [], fun ts K => as5 ts fun t0 t1 t2 t3 t4 => arG pInstT t0 fun x => arG pWordT t1 fun pc => arG pWordT t2 fun a => arG pWordT t3 fun b => arG pWordT t4 fun got => K (tG ((workE x pc a b got).tc [])) []⟩
theorem run_spec_Work (x : Inst) (pc : Word) (a : Word) (b : Word) (got : Word) : runK [c_spec_Try, c_spec_Point, c_spec_Sets, c_spec_l9Value, c_spec_l9Trap] (0) [] pf_spec_Work [tG (x.tc []), tG (pc.tc []), tG (a.tc []), tG (b.tc []), tG (got.tc [])] fun r o => r = tG ((workE x pc a b got).tc []) ∧ o = [] := by
  have w1 := True.intro
  conv => whnf
  repeat' (first | (refine sel_i (fun h => ?_) (fun h => ?_) <;> conv => whnf) | (refine chk_c ?_ ?_ <;> conv => whnf) | (refine And.intro ?_ rfl) | (refine And.intro ?_ ?_ <;> conv => whnf))
  all_goals (try simp only [etaKey, etaWord, etaInst, etaEff, bne_iff_ne, ne_eq, bne_eq_false_iff_eq, beq_iff_eq, beq_eq_false_iff_ne, Bool.not_eq_true', Bool.not_eq_false', decide_eq_true_eq, decide_eq_false_iff_not, ge_iff_le] at *)
  all_goals first
    | (exact absurd trivial h)
    | (exfalso; omega)
    | (refine ⟨?_⟩; first | assumption | omega | decide)
    | (refine ⟨?_⟩; have := sets_op (by assumption); omega)
    | (unfold workE nextW; simp only [*, ge_iff_le, ne_eq, not_true_eq_false, not_false_eq_true, if_true, if_false, Int.reduceEq, Bool.false_eq_true]; rfl)
    | (rw [workE_pos (by assumption) (by assumption) (by assumption) (by assumption) (by assumption) (by assumption)]; rfl)
    | (rw [workE_neg (by assumption) (by assumption) (by assumption) (by assumption) (by assumption) (by assumption)]; rfl)
    | trace_state
theorem ok_spec_Work : FunOk Try.prog c_spec_Work := funOk (E := [c_spec_Try, c_spec_Point, c_spec_Sets, c_spec_l9Value, c_spec_l9Trap]) (envOk_cons ok_spec_Try (envOk_cons ok_spec_Point (envOk_cons ok_spec_Sets (envOk_cons ok_spec_l9Value (envOk_cons ok_spec_l9Trap (envOk_nil)))))) mixd Try.func211 (pf := pf_spec_Work) (by kernel_rfl) fun ts K h => by
  obtain ⟨t0, t1, t2, t3, t4, e0, h⟩ := as5_out h
  subst e0
  obtain ⟨x, e1, hq⟩ := arG_out rd_inst h
  clear h
  subst e1
  have h := hq
  clear hq
  obtain ⟨pc, e1, hq⟩ := arG_out rd_word h
  clear h
  subst e1
  have h := hq
  clear hq
  obtain ⟨a, e1, hq⟩ := arG_out rd_word h
  clear h
  subst e1
  have h := hq
  clear hq
  obtain ⟨b, e1, hq⟩ := arG_out rd_word h
  clear h
  subst e1
  have h := hq
  clear hq
  obtain ⟨got, e1, hq⟩ := arG_out rd_word h
  clear h
  subst e1
  have h := hq
  clear hq
  exact ⟨_, _, h, Nat.le_of_ble_eq_true (show Nat.ble 5 Try.f211.ntmps = true by kernel_rfl), _, run_spec_Work x pc a b got⟩

def memE (m : Mem) (x : Inst) (a b : Word) : Word × Int :=
  if x.op = 10 then readM m a (IntKind.i64.wrap (a.n + x.n)) else if x.op = 11 then (zW, writeC m a (IntKind.i64.wrap (a.n + x.n)) b) else (zW, 0)
def effE (l : List Inst) (s : State) : Eff :=
  let x := (fetchI l s.pc).1
  let a := s.regs.getD x.a.toNat (FT.zero .word)
  let b := s.regs.getD x.b.toNat (FT.zero .word)
  if (fetchI l s.pc).2 ≠ 0 then trapE (fetchI l s.pc).2 s.pc else
  if (memE s.mem x a b).2 ≠ 0 then trapE (memE s.mem x a b).2 s.pc else workE x s.pc a b (memE s.mem x a b).1
def putE (s : State) (e : Eff) : State :=
  ⟨if inR e.r 0 7 then s.regs.set e.r.toNat e.val else s.regs, e.next,
   ⟨if inR e.addr 0 23 then s.mem.words.set e.addr.toNat e.put else s.mem.words, if inR e.drop 0 23 then s.mem.gone.set e.drop.toNat true else s.mem.gone⟩, s.trap⟩
abbrev zState : State := ⟨[], zW, ⟨[], []⟩, 0⟩
def stepS (l : List Inst) (s : State) : State :=
  if stateOk s = false then zState else if s.trap ≠ 0 then s else if (effE l s).trap ≠ 0 then ⟨s.regs, s.pc, s.mem, (effE l s).trap⟩ else putE s (effE l s)
def LenOk (s : State) : Prop := s.regs.length = 8 ∧ s.mem.words.length = 24 ∧ s.mem.gone.length = 24
theorem stateOk_len {s : State} (h : stateOk s = true) : LenOk s := by
  simp only [stateOk, memoryOk, Bool.and_eq_true, decide_eq_true_eq] at h
  exact ⟨h.1.1.1.1, h.1.2.1.1, h.1.2.1.2⟩
theorem LenOk.l {s : State} (h : LenOk s) : LState s 2147483647 := by
  obtain ⟨h1, h2, h3⟩ := h; exact ⟨by omega, by omega, by omega⟩
theorem fld_in {v : Int} {b : Bool} (h : fld v b = true) : 0 ≤ v ∧ v ≤ 7 := by
  simp only [fld, Bool.and_eq_true, inR_t] at h; exact h.1
theorem fetchI_ok {l : List Inst} {pc : Word} (h : (fetchI l pc).2 = 0) : insOk (fetchI l pc).1 = true := by
  unfold fetchI at h ⊢
  split at h
  · contradiction
  · rename_i h1
    rw [if_neg h1]
    split at h
    · cases h
    · rename_i h2
      rw [if_neg h2]
      cases e : insOk (l.getD pc.n.toNat (FT.zero .inst)) with
      | true => rfl
      | false => exact absurd (.inr e) h2
theorem insOk_in {x : Inst} (h : insOk x = true) : (0 ≤ x.a ∧ x.a ≤ 7) ∧ (0 ≤ x.b ∧ x.b ≤ 7) := by
  simp only [insOk, Bool.and_eq_true] at h
  exact ⟨fld_in h.1.1.1.2, fld_in h.1.1.2⟩
theorem fetchI_in {l : List Inst} {pc : Word} (h : (fetchI l pc).2 = 0) : (0 ≤ (fetchI l pc).1.a ∧ (fetchI l pc).1.a ≤ 7) ∧ (0 ≤ (fetchI l pc).1.b ∧ (fetchI l pc).1.b ≤ 7) := insOk_in (fetchI_ok h)
theorem memE_10 {m : Mem} {x : Inst} {a b : Word} (h : x.op = 10) : memE m x a b = readM m a (IntKind.i64.wrap (a.n + x.n)) := if_pos h
theorem memE_11 {m : Mem} {x : Inst} {a b : Word} (h0 : ¬ x.op = 10) (h : x.op = 11) : memE m x a b = (zW, writeC m a (IntKind.i64.wrap (a.n + x.n)) b) := by unfold memE; rw [if_neg h0, if_pos h]
theorem memE_x {m : Mem} {x : Inst} {a b : Word} (h0 : ¬ x.op = 10) (h : ¬ x.op = 11) : memE m x a b = (zW, 0) := by unfold memE; rw [if_neg h0, if_neg h]

def pf_spec_l9Mem : PF := ⟨[.c 8 true 6, .t 9], .seq (.reg [.s (.box 4 (.t 0)), .s (.box 5 (.t 1)), .s (.box 6 (.t 2)), .s (.box 7 (.t 3)), .s (.alloc 8 [.int .i64 0, .ff, .int .i64 0, .int .i64 0, .int .i64 0, .int .i64 0]), .s (.mv 9 (.k (.v (.c (.int .i64 0)))))]) (.seq (.seq (.reg [.s (.fa 12 (.t 5) 0), .s (.load 13 false 1 (.t 12))]) (.blk 0 (.seq (.reg [.s (.bin 15 .eql (.t 13) (.k (.v (.c (.int .i64 10))))), .s (.mv 14 (.t 15))]) (.cond (.t 14) (.seq (.reg [.s (.load 17 true 2 (.t 4)), .s (.load 18 true 6 (.t 6)), .s (.fa 19 (.t 6) 0), .s (.load 20 false 1 (.t 19)), .s (.fa 21 (.t 5) 4), .s (.load 22 false 1 (.t 21)), .s (.bin 23 .add (.t 20) (.t 22)), .s (.call (some 24) 235 [(.t 17), (.t 18), (.t 23)]), .s (.mv 16 (.t 24)), .s (.ext 25 (.t 16) 0), .s (.ext 26 (.t 16) 1), .s (.alloc 10 [.int .i64 0, .ff, .int .i64 0, .int .i64 0, .int .i64 0, .int .i64 0]), .s (.store 6 (.t 10) (.t 25)), .s (.mv 11 (.t 26))]) (.seq (.reg [.s (.load 27 true 6 (.t 10)), .s (.mv 28 (.t 11)), .s (.store 6 (.t 8) (.t 27)), .s (.mv 9 (.t 28))]) (.ret))) (.seq (.reg [.s (.bin 30 .eql (.t 13) (.k (.v (.c (.int .i64 11))))), .s (.mv 29 (.t 30))]) (.cond (.t 29) (.seq (.reg [.s (.build 31 [.int .i64 0, .ff, .int .i64 0, .int .i64 0, .int .i64 0, .int .i64 0] []), .s (.load 32 true 2 (.t 4)), .s (.load 33 true 6 (.t 6)), .s (.fa 34 (.t 6) 0), .s (.load 35 false 1 (.t 34)), .s (.fa 36 (.t 5) 4), .s (.load 37 false 1 (.t 36)), .s (.bin 38 .add (.t 35) (.t 37)), .s (.load 39 true 6 (.t 7)), .s (.call (some 40) 228 [(.t 32), (.t 33), (.t 38), (.t 39)]), .s (.store 6 (.t 8) (.t 31)), .s (.mv 9 (.t 40))]) (.ret)) (.skip))))))) (.seq (.reg [.s (.build 41 [.int .i64 0, .ff, .int .i64 0, .int .i64 0, .int .i64 0, .int .i64 0] []), .s (.store 6 (.t 8) (.t 41)), .s (.mv 9 (.k (.v (.c (.int .i64 0)))))]) (.ret)))⟩
def c_spec_l9Mem : Fun := ⟨210, [], fun ts K => as4 ts fun t0 t1 t2 t3 => arG pMemT t0 fun m => arG pInstT t1 fun x => arG pWordT t2 fun a => arG pWordT t3 fun b => chk (LMem m 2147483647) (K (.tup [.g ((memE m x a b).1.tc []), .c (.int .i64 (memE m x a b).2)]) [])⟩
theorem run_spec_l9Mem (m : Mem) (x : Inst) (a : Word) (b : Word) (hpre : LMem m 2147483647) : runK [c_spec_l8Write, c_spec_Read] (0) [] pf_spec_l9Mem [tG (m.tc false []), tG (x.tc []), tG (a.tc []), tG (b.tc [])] fun r o => r = .tup [.g ((memE m x a b).1.tc []), .c (.int .i64 (memE m x a b).2)] ∧ o = [] := by
  have w1 := True.intro
  conv => whnf
  repeat' (first | (refine sel_i (fun h => ?_) (fun h => ?_) <;> conv => whnf) | (refine chk_c ?_ ?_ <;> conv => whnf) | (refine And.intro ?_ rfl) | (refine And.intro ?_ ?_ <;> conv => whnf))
  all_goals (try simp only [etaKey, etaWord, etaInst, etaMemory, bne_iff_ne, ne_eq, bne_eq_false_iff_eq, beq_iff_eq, beq_eq_false_iff_ne, Bool.not_eq_true', Bool.not_eq_false', decide_eq_true_eq, decide_eq_false_iff_not] at *)
  all_goals first
    | (refine ⟨?_⟩; first | assumption | omega | decide)
    | (rw [memE_10 (by assumption)]; rfl)
    | (rw [memE_11 (by assumption) (by assumption)]; rfl)
    | (rw [memE_x (by assumption) (by assumption)]; rfl)
    | trace_state
theorem ok_spec_l9Mem : FunOk Try.prog c_spec_l9Mem := funOk (E := [c_spec_l8Write, c_spec_Read]) (envOk_cons ok_spec_l8Write (envOk_cons ok_spec_Read (envOk_nil))) mixd Try.func210 (pf := pf_spec_l9Mem) (by kernel_rfl) fun ts K h => by
  obtain ⟨t0, t1, t2, t3, e0, h⟩ := as4_out h
  subst e0
  obtain ⟨m, e1, hq⟩ := arG_out rd_mem h
  clear h
  subst e1
  have h := hq
  clear hq
  obtain ⟨x, e1, hq⟩ := arG_out rd_inst h
  clear h
  subst e1
  have h := hq
  clear hq
  obtain ⟨a, e1, hq⟩ := arG_out rd_word h
  clear h
  subst e1
  have h := hq
  clear hq
  obtain ⟨b, e1, hq⟩ := arG_out rd_word h
  clear h
  subst e1
  have h := hq
  clear hq
  obtain ⟨hpre, h⟩ := chk_o h
  exact ⟨_, _, h, Nat.le_of_ble_eq_true (show Nat.ble 4 Try.f210.ntmps = true by kernel_rfl), _, run_spec_l9Mem m x a b hpre⟩

def pf_spec_l9Copy : PF := ⟨[.c 2 true 10], .seq (.reg [.s (.box 1 (.t 0)), .s (.alloc 2 [.nils .word, .int .i64 0, .ff, .int .i64 0, .int .i64 0, .int .i64 0, .int .i64 0, .nils .word, .nils .bool, .int .i64 0])]) (.seq (.rgd [] [.s (.bs 3 .word []), .s (.fa 4 (.t 1) 0), .s (.load 5 false 1 (.t 4)), .s (.app 6 .word (.t 3) (.t 5)), .s (.fa 7 (.t 1) 1), .s (.load 8 true 6 (.t 7)), .s (.fa 9 (.t 1) 7), .s (.load 10 true 2 (.t 9)), .s (.call (some 11) 190 [(.t 10)]), .s (.fa 12 (.t 1) 9), .s (.load 13 false 1 (.t 12)), .s (.build 14 [.nils .word, .int .i64 0, .ff, .int .i64 0, .int .i64 0, .int .i64 0, .int .i64 0, .nils .word, .nils .bool, .int .i64 0] [(0, 1, (.t 6)), (1, 6, (.t 8)), (7, 2, (.t 11)), (9, 1, (.t 13))]), .s (.store 10 (.t 2) (.t 14))] (.tk 1 (.tk 2 (.tk 4 (.tk 5 (.tk 6 (.tk 7 (.tk 9 (.tk 10 (.one 0 false (.one 3 false (.one 8 false (.tk 11 (.one 12 true (.done none))))))))))))))) (.ret))⟩
def c_spec_l9Copy : Fun := ⟨208, [], fun ts K => as1 ts fun t0 => arG pStateT t0 fun s => chk (LState s 2147483647) (K (tG (s.tc true [])) [])⟩
theorem run_spec_l9Copy (s : State) (hpre : LState s 2147483647) : runK [c_spec_l8Copy] (0) [] pf_spec_l9Copy [tG (s.tc false [])] fun r o => r = tG (s.tc true []) ∧ o = [] := by
  obtain ⟨l1, l2, l3⟩ := hpre
  conv => whnf
  repeat' (first | (refine chk_c ?_ ?_ <;> conv => whnf) | (refine And.intro ?_ ?_ <;> conv => whnf))
  all_goals first
    | (refine ⟨?_⟩; omega)
    | (refine ⟨?_⟩; simp; done)
    | (refine ⟨?_⟩; simp [LMem, LTwo] at *; omega)
    | rfl
    | exact True.intro
    | exact ⟨rfl, rfl⟩
theorem ok_spec_l9Copy : FunOk Try.prog c_spec_l9Copy := funOk (E := [c_spec_l8Copy]) (envOk_cons ok_spec_l8Copy (envOk_nil)) mixd Try.func208 (pf := pf_spec_l9Copy) (by kernel_rfl) fun ts K h => by
  obtain ⟨t0, e0, h⟩ := as1_out h
  subst e0
  obtain ⟨s, e1, hq⟩ := arG_out rd_state h
  clear h
  subst e1
  have h := hq
  clear hq
  obtain ⟨hpre, h⟩ := chk_o h
  exact ⟨_, _, h, Nat.le_of_ble_eq_true (show Nat.ble 1 Try.f208.ntmps = true by kernel_rfl), _, run_spec_l9Copy s hpre⟩

def pf_spec_l9Apply : PF := ⟨[.c 4 true 10], .seq (.reg [.s (.box 2 (.t 0)), .s (.box 3 (.t 1)), .s (.alloc 4 [.nils .word, .int .i64 0, .ff, .int .i64 0, .int .i64 0, .int .i64 0, .int .i64 0, .nils .word, .nils .bool, .int .i64 0])]) (.seq (.seq (.reg [.s (.fa 5 (.t 3) 1), .s (.load 6 false 1 (.t 5)), .s (.call (some 7) 149 [(.t 6), (.k (.v (.c (.int .i64 0)))), (.k (.v (.c (.int .i64 7))))])]) (.cond (.t 7) (.reg [.s (.fa 8 (.t 2) 0), .s (.load 9 false 1 (.t 8)), .s (.fa 10 (.t 3) 1), .s (.load 11 false 1 (.t 10)), .s (.fa 12 (.t 3) 2), .s (.load 13 true 6 (.t 12)), .s (.ia 14 .word (.t 9) (.t 11)), .s (.store 6 (.t 14) (.t 13))]) (.skip))) (.seq (.seq (.reg [.s (.fa 15 (.t 3) 14), .s (.load 16 false 1 (.t 15)), .s (.call (some 17) 149 [(.t 16), (.k (.v (.c (.int .i64 0)))), (.k (.v (.c (.int .i64 23))))])]) (.cond (.t 17) (.reg [.s (.fa 18 (.t 2) 7), .s (.fa 19 (.t 18) 0), .s (.load 20 false 1 (.t 19)), .s (.fa 21 (.t 3) 14), .s (.load 22 false 1 (.t 21)), .s (.fa 23 (.t 3) 15), .s (.load 24 true 6 (.t 23)), .s (.ia 25 .word (.t 20) (.t 22)), .s (.store 6 (.t 25) (.t 24))]) (.skip))) (.seq (.seq (.reg [.s (.fa 26 (.t 3) 21), .s (.load 27 false 1 (.t 26)), .s (.call (some 28) 149 [(.t 27), (.k (.v (.c (.int .i64 0)))), (.k (.v (.c (.int .i64 23))))])]) (.cond (.t 28) (.reg [.s (.fa 29 (.t 2) 7), .s (.fa 30 (.t 29) 1), .s (.load 31 false 1 (.t 30)), .s (.fa 32 (.t 3) 21), .s (.load 33 false 1 (.t 32)), .s (.ia 34 .bool (.t 31) (.t 33)), .s (.store 1 (.t 34) (.k (.v (.c .tt))))]) (.skip))) (.seq (.reg [.s (.fa 35 (.t 3) 8), .s (.load 36 true 6 (.t 35)), .s (.fa 37 (.t 2) 1), .s (.store 6 (.t 37) (.t 36))]) (.seq (.reg [.s (.load 38 true 10 (.t 2)), .s (.store 10 (.t 4) (.t 38))]) (.ret))))))⟩
def c_spec_l9Apply : Fun := ⟨212, [true, false], fun ts K => as2 ts fun t0 t1 => arG pStateO t0 fun s => arG pEffT t1 fun e => chk (LenOk s) (K (tG ((putE s e).tc true [])) ([.v (.g [.unk, .int .i64 s.pc.n, .bool s.pc.is, .int .i64 s.pc.key.base, .int .i64 s.pc.key.top, .int .i64 s.pc.key.perms, .int .i64 s.pc.key.sealed, .unk, .unk, .int .i64 s.trap])]))⟩
theorem run_spec_l9Apply (s : State) (e : Eff) (hpre : LenOk s) : runK [c_spec_l1In] (0) [true, false] pf_spec_l9Apply [tG (s.tc true []), tG (e.tc [])] fun r o => r = tG ((putE s e).tc true []) ∧ o = [.v (.g [.unk, .int .i64 s.pc.n, .bool s.pc.is, .int .i64 s.pc.key.base, .int .i64 s.pc.key.top, .int .i64 s.pc.key.perms, .int .i64 s.pc.key.sealed, .unk, .unk, .int .i64 s.trap])] := by
  obtain ⟨l2, l3, l4⟩ := hpre
  conv => whnf
  repeat' (first | (refine sel_i (fun h => ?_) (fun h => ?_) <;> conv => whnf) | (refine chk_c ?_ ?_ <;> conv => whnf) | (refine And.intro ?_ rfl) | (refine And.intro ?_ ?_ <;> conv => whnf))
  all_goals (try simp only [etaKey, etaWord, etaInst, etaEff, etaMemory, bne_iff_ne, ne_eq, bne_eq_false_iff_eq, beq_iff_eq, beq_eq_false_iff_ne, Bool.not_eq_true', Bool.not_eq_false', decide_eq_true_eq, decide_eq_false_iff_not] at *)
  all_goals first
    | (refine ⟨?_⟩; simp only [inR_t, inR_f] at *; omega)
    | (unfold putE; simp only [*, if_true, if_false, Bool.false_eq_true]; first | done | rfl)
    | trace_state
theorem ok_spec_l9Apply : FunOk Try.prog c_spec_l9Apply := funOk (E := [c_spec_l1In]) (envOk_cons ok_spec_l1In (envOk_nil)) mixd Try.func212 (pf := pf_spec_l9Apply) (by kernel_rfl) fun ts K h => by
  obtain ⟨t0, t1, e0, h⟩ := as2_out h
  subst e0
  obtain ⟨s, e1, hq⟩ := arG_out rd_stateO h
  clear h
  subst e1
  have h := hq
  clear hq
  obtain ⟨e, e1, hq⟩ := arG_out rd_eff h
  clear h
  subst e1
  have h := hq
  clear hq
  obtain ⟨hpre, h⟩ := chk_o h
  exact ⟨_, _, h, Nat.le_of_ble_eq_true (show Nat.ble 2 Try.f212.ntmps = true by kernel_rfl), _, run_spec_l9Apply s e hpre⟩

theorem stateOk_trap {s : State} (h : stateOk s = true) : 0 ≤ s.trap ∧ s.trap ≤ 5 := by
  simp only [stateOk, Bool.and_eq_true, inR_t] at h; exact h.2
theorem stepS_no {l : List Inst} {s : State} (h : stateOk s = false) : stepS l s = zState := if_pos h
theorem stepS_trap {l : List Inst} {s : State} (h : stateOk s = true) (h2 : ¬ s.trap = 0) : stepS l s = s := by
  unfold stepS; rw [if_neg (by rw [h]; decide), if_pos h2]
theorem stepS_e {l : List Inst} {s : State} (h : stateOk s = true) (h2 : s.trap = 0) (h3 : ¬ (effE l s).trap = 0) : stepS l s = ⟨s.regs, s.pc, s.mem, (effE l s).trap⟩ := by
  unfold stepS; rw [if_neg (by rw [h]; decide), if_neg (by simpa using h2), if_pos h3]
theorem stepS_0 {l : List Inst} {s : State} (h : stateOk s = true) (h2 : s.trap = 0) (h3 : (effE l s).trap = 0) : stepS l s = putE s (effE l s) := by
  unfold stepS; rw [if_neg (by rw [h]; decide), if_neg (by simpa using h2), if_neg (by simpa using h3)]
theorem trapE_trap (c : Int) (pc : Word) : (trapE c pc).trap = c := rfl

def pf_spec_Step : PF := ⟨[.c 4 true 10], .seq (.reg [.s (.box 3 (.t 1)), .s (.alloc 4 [.nils .word, .int .i64 0, .ff, .int .i64 0, .int .i64 0, .int .i64 0, .int .i64 0, .nils .word, .nils .bool, .int .i64 0])]) (.seq (.seq (.reg [.s (.load 13 true 10 (.t 3)), .s (.call (some 14) 112 [(.t 13)]), .s (.bnot 15 (.t 14))]) (.cond (.t 15) (.seq (.reg [.s (.build 16 [.nils .word, .int .i64 0, .ff, .int .i64 0, .int .i64 0, .int .i64 0, .int .i64 0, .nils .word, .nils .bool, .int .i64 0] []), .s (.store 10 (.t 4) (.t 16))]) (.ret)) (.skip))) (.seq (.reg [.s (.load 17 true 10 (.t 3)), .s (.call (some 18) 208 [(.t 17)]), .s (.alloc 5 [.nils .word, .int .i64 0, .ff, .int .i64 0, .int .i64 0, .int .i64 0, .int .i64 0, .nils .word, .nils .bool, .int .i64 0]), .s (.store 10 (.t 5) (.t 18))]) (.seq (.seq (.reg [.s (.fa 19 (.t 3) 9), .s (.load 20 false 1 (.t 19)), .s (.bin 21 .neq (.t 20) (.k (.v (.c (.int .i64 0)))))]) (.cond (.t 21) (.seq (.reg [.s (.load 22 true 10 (.t 5)), .s (.store 10 (.t 4) (.t 22))]) (.ret)) (.skip))) (.seq (.reg [.s (.mv 24 (.t 0)), .s (.fa 25 (.t 3) 1), .s (.load 26 true 6 (.t 25)), .s (.call (some 27) 209 [(.t 24), (.t 26)]), .s (.mv 23 (.t 27)), .s (.ext 28 (.t 23) 0), .s (.ext 29 (.t 23) 1), .s (.alloc 6 [.int .i64 0, .int .i64 0, .int .i64 0, .int .i64 0, .int .i64 0]), .s (.store 5 (.t 6) (.t 28)), .s (.mv 7 (.t 29))]) (.seq (.seq (.reg [.s (.mv 30 (.t 7)), .s (.bin 31 .eql (.t 30) (.k (.v (.c (.int .i64 0)))))]) (.cond (.t 31) (.seq (.rgd [] [.s (.fa 32 (.t 3) 0), .s (.load 33 false 1 (.t 32)), .s (.fa 34 (.t 6) 2), .s (.load 35 false 1 (.t 34)), .s (.ia 36 .word (.t 33) (.t 35)), .s (.load 37 true 6 (.t 36)), .s (.fa 38 (.t 3) 0), .s (.load 39 false 1 (.t 38)), .s (.fa 40 (.t 6) 3), .s (.load 41 false 1 (.t 40)), .s (.ia 42 .word (.t 39) (.t 41)), .s (.load 43 true 6 (.t 42)), .s (.alloc 8 [.int .i64 0, .ff, .int .i64 0, .int .i64 0, .int .i64 0, .int .i64 0]), .s (.alloc 9 [.int .i64 0, .ff, .int .i64 0, .int .i64 0, .int .i64 0, .int .i64 0]), .s (.store 6 (.t 8) (.t 37)), .s (.store 6 (.t 9) (.t 43))] (.tk 0 (.tk 1 (.tk 2 (.tk 3 (.tk 4 (.tk 5 (.tk 6 (.tk 7 (.tk 8 (.tk 9 (.tk 10 (.tk 11 (.alt 12 false (.one 13 false (.one 14 false (.one 15 true (.done (some [3, 4, 5, 6, 8, 9]))))) (.alt 13 false (.one 12 false (.one 14 false (.one 15 true (.done (some [3, 4, 5, 6, 8, 9]))))) (.nil)))))))))))))))) (.seq (.reg [.s (.fa 45 (.t 3) 7), .s (.load 46 true 2 (.t 45)), .s (.load 47 true 5 (.t 6)), .s (.load 48 true 6 (.t 8)), .s (.load 49 true 6 (.t 9)), .s (.call (some 50) 210 [(.t 46), (.t 47), (.t 48), (.t 49)]), .s (.mv 44 (.t 50)), .s (.ext 51 (.t 44) 0), .s (.ext 52 (.t 44) 1), .s (.alloc 10 [.int .i64 0, .ff, .int .i64 0, .int .i64 0, .int .i64 0, .int .i64 0]), .s (.store 6 (.t 10) (.t 51)), .s (.mv 11 (.t 52))]) (.seq (.reg [.s (.load 53 true 5 (.t 6)), .s (.fa 54 (.t 3) 1), .s (.load 55 true 6 (.t 54)), .s (.load 56 true 6 (.t 8)), .s (.load 57 true 6 (.t 9)), .s (.load 58 true 6 (.t 10)), .s (.call (some 59) 211 [(.t 53), (.t 55), (.t 56), (.t 57), (.t 58)]), .s (.alloc 12 [.int .i64 0, .int .i64 0, .int .i64 0, .ff, .int .i64 0, .int .i64 0, .int .i64 0, .int .i64 0, .int .i64 0, .ff, .int .i64 0, .int .i64 0, .int .i64 0, .int .i64 0, .int .i64 0, .int .i64 0, .ff, .int .i64 0, .int .i64 0, .int .i64 0, .int .i64 0, .int .i64 0]), .s (.store 22 (.t 12) (.t 59))]) (.seq (.reg [.s (.mv 60 (.t 11)), .s (.mv 7 (.t 60))]) (.seq (.seq (.reg [.s (.mv 61 (.t 7)), .s (.bin 62 .eql (.t 61) (.k (.v (.c (.int .i64 0)))))]) (.cond (.t 62) (.reg [.s (.fa 63 (.t 12) 0), .s (.load 64 false 1 (.t 63)), .s (.mv 7 (.t 64))]) (.skip))) (.seq (.reg [.s (.mv 65 (.t 7)), .s (.bin 66 .eql (.t 65) (.k (.v (.c (.int .i64 0)))))]) (.cond (.t 66) (.seq (.reg [.s (.load 67 true 10 (.t 5)), .s (.load 68 true 22 (.t 12)), .s (.call (some 69) 212 [(.t 67), (.t 68)]), .s (.store 10 (.t 4) (.t 69))]) (.ret)) (.skip)))))))) (.skip))) (.seq (.reg [.s (.mv 70 (.t 7)), .s (.fa 71 (.t 5) 9), .s (.store 1 (.t 71) (.t 70))]) (.seq (.reg [.s (.load 72 true 10 (.t 5)), .s (.store 10 (.t 4) (.t 72))]) (.ret))))))))⟩
def c_spec_Step : Fun := ⟨169, [], fun ts K => as2 ts fun t0 t1 => arC (pL .inst) t0 fun l => arG pStateT t1 fun s => chk (l.length ≤ 2147483647 ∧ LState s 2147483647) (K (tG ((stepS l s).tc true [])) [])⟩
theorem run_spec_Step (l : List (FT.Ty .inst)) (s : State) (hpre : l.length ≤ 2147483647 ∧ LState s 2147483647) : runK [c_spec_StateOk, c_spec_l9Copy, c_spec_Fetch, c_spec_l9Mem, c_spec_Work, c_spec_l9Apply] (0) [] pf_spec_Step [tL false .inst l, tG (s.tc false [])] fun r o => r = tG ((stepS l s).tc true []) ∧ o = [] := by
  obtain ⟨l1, l2⟩ := hpre
  conv => whnf
  repeat' (first | (refine sel_i (fun h => ?_) (fun h => ?_) <;> conv => whnf) | (refine chk_c ?_ ?_ <;> conv => whnf) | (refine And.intro ?_ rfl) | (refine And.intro ?_ ?_ <;> conv => whnf))
  all_goals (try simp only [etaKey, etaWord, etaInst, etaEff, etaMemory, etaState, bne_iff_ne, ne_eq, bne_eq_false_iff_eq, beq_iff_eq, beq_eq_false_iff_ne, Bool.not_eq_true', Bool.not_eq_false', decide_eq_true_eq, decide_eq_false_iff_not] at *)
  all_goals first
    | contradiction
    | (refine ⟨?_⟩; assumption)
    | (refine ⟨?_⟩; exact l2.2)
    | (refine ⟨?_⟩; exact stateOk_len (by assumption))
    | (have hl := stateOk_len (by assumption); have hx := fetchI_in (by assumption); have l3 := hl.1; refine ⟨?_⟩; omega)
    | (rw [stepS_no (by assumption)]; rfl)
    | (rw [stepS_trap (by assumption) (by assumption)]; rfl)
    | (rw [stepS_e (by assumption) (by assumption) (by unfold effE; simp only [*, ne_eq, not_true_eq_false, not_false_eq_true, trapE_trap, if_true, if_false])]; unfold effE; simp only [*, ne_eq, not_true_eq_false, not_false_eq_true, trapE_trap, if_true, if_false]; rfl)
    | (rw [stepS_0 (by assumption) (by assumption) (by unfold effE; simp only [*, ne_eq, not_true_eq_false, not_false_eq_true, trapE_trap, if_true, if_false])]; unfold effE; simp only [*, ne_eq, not_true_eq_false, not_false_eq_true, trapE_trap, if_true, if_false]; rfl)
    | trace_state
theorem ok_spec_Step : FunOk Try.prog c_spec_Step := funOk (E := [c_spec_StateOk, c_spec_l9Copy, c_spec_Fetch, c_spec_l9Mem, c_spec_Work, c_spec_l9Apply]) (envOk_cons ok_spec_StateOk (envOk_cons ok_spec_l9Copy (envOk_cons ok_spec_Fetch (envOk_cons ok_spec_l9Mem (envOk_cons ok_spec_Work (envOk_cons ok_spec_l9Apply (envOk_nil))))))) mixd Try.func169 (pf := pf_spec_Step) (by kernel_rfl) fun ts K h => by
  obtain ⟨t0, t1, e0, h⟩ := as2_out h
  subst e0
  obtain ⟨l, e1, hq⟩ := arC_out (rd_l .inst) h
  clear h
  subst e1
  have h := hq
  clear hq
  obtain ⟨s, e1, hq⟩ := arG_out rd_state h
  clear h
  subst e1
  have h := hq
  clear hq
  obtain ⟨hpre, h⟩ := chk_o h
  exact ⟨_, _, h, Nat.le_of_ble_eq_true (show Nat.ble 2 Try.f169.ntmps = true by kernel_rfl), _, run_spec_Step l s hpre⟩




theorem digits_rel : ∀ (n t : Nat) (acc : Array Value) (zs : List Int), acc.toList = zs.map (Value.int .u8) → ∃ ys, (Extern.BytealgMakeNoZero.digits n t acc).toList = (zs ++ ys).map (Value.int .u8) ∧ ys.length = n
  | 0, t, acc, zs, h => ⟨[], by rw [List.append_nil]; exact h, rfl⟩
  | n + 1, t, acc, zs, h => by
    obtain ⟨ys, h1, h2⟩ := digits_rel n (t / 256) (acc.push (.int .u8 (Int.ofNat (t % 256)))) (zs ++ [Int.ofNat (t % 256)]) (by simp [h])
    exact ⟨Int.ofNat (t % 256) :: ys, by rw [Extern.BytealgMakeNoZero.digits, h1]; simp, by simp [h2]⟩
theorem run_mnz {P : Program} (w : World) (ps : Array TypeId) (t e : TypeId) (ht : P.underlying t = some (.slice e)) (n : Nat) (hn : n ≤ 281474976710656) :
    ∃ (cs : Array Value) (zs : List Int), (Extern.BytealgMakeNoZero.makeNoZero ps #[t] #[.int .i64 n]).run P w = .ok (.slice (some ⟨w.heap.size, 0, none⟩) n cs.size) (w.drew.drew.alloc (.cells cs e)) ∧ n ≤ cs.size ∧ cs.toList = zs.map (Value.int .u8) := by
  obtain ⟨ys, h1, h2⟩ := digits_rel (grownCap w n 0 e) ((Question.extern "internal/bytealg.MakeNoZero.bytes" 0).cut (w.tape (w.drawn + 1) (.extern "internal/bytealg.MakeNoZero.bytes" 0))) #[] [] rfl
  have hsz := Lib.size_digits (grownCap w n 0 e) ((Question.extern "internal/bytealg.MakeNoZero.bytes" 0).cut (w.tape (w.drawn + 1) (.extern "internal/bytealg.MakeNoZero.bytes" 0))) #[]
  refine ⟨Extern.BytealgMakeNoZero.digits (grownCap w n 0 e) ((Question.extern "internal/bytealg.MakeNoZero.bytes" 0).cut (w.tape (w.drawn + 1) (.extern "internal/bytealg.MakeNoZero.bytes" 0))) #[], ys, ?_, ?_, by simpa using h1⟩
  · have k1 : ¬ (n : Int) < 0 := by omega
    have k2 : ¬ (281474976710656 : Int) < (n : Int) := by omega
    have hdef : Extern.BytealgMakeNoZero.makeNoZero ps #[t] #[.int .i64 n] =
      (do
        let .slice elem ← underlying t | stuck "bytealg.MakeNoZero: slice type expected"
        if (n : Int) < 0 || (n : Int) > 2 ^ 48 then runtimePanic (.error "makeslice: len out of range")
        let cap ← choose (.appendCap (n : Int).toNat 0 elem)
        askRoom cap
        let bytes ← choose (.extern "internal/bytealg.MakeNoZero.bytes" 0)
        let a ← newRow elem (Extern.BytealgMakeNoZero.digits cap bytes #[])
        pure (.slice (some a) (n : Int).toNat cap)) := rfl
    rw [hdef]
    simp [run_underlying ht, k1, k2, Question.forced, newRow, Lib.size_digits, grownCap]
  · rw [hsz]; simpa using grownCap_ge w n 0 e
def mnzFun (f : Nat) : Fun := ⟨f, [], fun ts K => as1 ts fun t0 => arC (pI .i64) t0 fun n => chk (0 ≤ n ∧ n ≤ 1000000) (∀ zs : List Int, zs.length = n.toNat → K (tL true (.int .u8) zs) [])⟩
theorem mnz_ok {P : Program} {f : Nat} {fn : Func} {ps : Array TypeId} {t e : TypeId} (hf : P.funcs[f]? = some fn) (hname : (fn.name == "runtime.NumGoroutine") = false)
    (hb : fn.body.isNone = true) (hn : Extern.findNext fn = none) (he : Extern.find fn = some (Extern.BytealgMakeNoZero.makeNoZero ps #[t])) (ht : P.underlying t = some (.slice e)) : FunOk P (mnzFun f) := by
  intro ts K h
  obtain ⟨t0, e0, h⟩ := as1_out h
  subst e0
  obtain ⟨n, e1, h⟩ := arC_out (rd_int .i64) h
  subst e1
  obtain ⟨⟨h0, h1⟩, h⟩ := chk_o h
  intro w vs F G hrep _ _ _
  obtain ⟨v, vs', hvs⟩ : ∃ v vs', vs = v :: vs' := by cases vs with
    | nil => exact hrep.elim
    | cons v vs' => exact ⟨v, vs', rfl⟩
  subst hvs
  obtain ⟨F1, F2, G1, G2, hv, hr, rfl, rfl⟩ := hrep
  have hv' : v = .int .i64 n ∧ F1 = [] ∧ G1 = [] := hv
  obtain ⟨rfl, rfl, rfl⟩ := hv'
  cases vs' with
  | cons _ _ => exact hr.elim
  | nil =>
  obtain ⟨rfl, rfl⟩ := hr
  obtain ⟨m, rfl⟩ : ∃ m : Nat, n = m := ⟨n.toNat, by omega⟩
  obtain ⟨cs, zs, hrun, hle, hcs⟩ := run_mnz (P := P) w ps t e ht m (by omega)
  have hzl : zs.length = cs.size := by rw [← Array.length_toList, hcs]; simp
  have g := Grown.alloc w.drew.drew cs e
  refine .inr ⟨_, _, (run_callFunc_extern hf hname hb hn he #[.int .i64 (m : Int)] w).trans (by rw [hrun]; rfl), tL true (.int .u8) (zs.take m), [], h _ (by simp; omega), ?_⟩
  have hsz : w.drew.drew.heap.size = w.heap.size := rfl
  have hcell : CellsR none0 (flats (.int .u8) (zs.take m)) (cs.toList.take m) := by
    rw [hcs, ← List.map_take]
    generalize zs.take m = ys
    induction ys with
    | nil => trivial
    | cons y ys ih => exact ⟨rfl, ih⟩
  have hlen : (zs.take m).length = m := by simp; omega
  have hB : BlkR (w.drew.drew.alloc (.cells cs e)) none0 ⟨w.heap.size, 0, cs.size, m⟩ (.flat true (.int .u8) none (zs.take m)) :=
    ⟨hlen.symm, hle, (fun _ e => by cases e), ⟨_, fun j v hj => by
      have hj2 : cs.toList[j]? = some v := by rw [List.getElem?_take] at hj; split at hj <;> first | exact hj | cases hj
      have := g.cell j
      rw [Nat.zero_add]
      exact this.trans (by simpa using hj2), hcell⟩, fun _ => ⟨fun j hj => by
        have hj' : j < cs.size := by simpa [FT.sz] using hj
        rw [Nat.zero_add]
        exact ⟨by rw [show (w.drew.drew.alloc (.cells cs e)).cell? ⟨w.heap.size, j, none⟩ = cs[j]? from g.cell j]; simp [hj'], g.frz j hj'⟩, fun _ => g.free.le (by simp [FT.sz])⟩⟩
  refine ⟨.slice (some ⟨w.heap.size, 0, none⟩) m cs.size, (Blk.flat true (.int .u8) none (zs.take m)).foot ⟨w.heap.size, 0, cs.size, m⟩, [], [], [], rfl, ⟨⟨w.heap.size, 0, cs.size, m⟩, some ⟨w.heap.size, 0, none⟩, ⟨rfl, (fun e => by cases e), fun _ => rfl⟩, hB, rfl, rfl⟩, ⟨rfl, rfl⟩, ?_, fun x hx => ?_, (fun x hx => by cases hx), ?_⟩
  · simp only [Blk.foot, List.nil_append]; split <;> simp
  · simp only [Blk.foot, List.nil_append] at hx
    split at hx
    · simp only [List.mem_singleton] at hx
      subst hx
      exact ⟨by have := g.size; rw [this]; show w.heap.size < w.heap.size + 1; omega, .inr (Nat.le_refl _)⟩
    · cases hx
  · exact g.fr

def c_bytealg_MakeNoZero : Fun := mnzFun 162
theorem ok_bytealg_MakeNoZero : FunOk Try.prog c_bytealg_MakeNoZero := mnz_ok (ps := #[3]) (t := 22) (e := 5) Try.func162 (by kernel_rfl) (by kernel_rfl) (by kernel_rfl) (by kernel_rfl) (by kernel_rfl)

theorem list9 {zs : List Int} (h : zs.length = 9) : ∃ a b c d e p q r s, zs = [a, b, c, d, e, p, q, r, s] := by
  match zs, h with
  | [a, b, c, d, e, p, q, r, s], _ => exact ⟨a, b, c, d, e, p, q, r, s, rfl⟩
def five (xss : List (List Int)) (k : Int → Int → Int → Int → Int → Int → Int → Int → Int → Prop) : Prop := match xss with
  | [[a, b], [c], [d, e], [p, q], [r, s]] => k a b c d e p q r s
  | _ => False
theorem five_out {xss : List (List Int)} {k : Int → Int → Int → Int → Int → Int → Int → Int → Int → Prop} (h : five xss k) : ∃ a b c d e p q r s, xss = [[a, b], [c], [d, e], [p, q], [r, s]] ∧ k a b c d e p q r s := by
  unfold five at h
  split at h
  · exact ⟨_, _, _, _, _, _, _, _, _, rfl, h⟩
  · exact h.elim
def noneL (xs : List Int) (k : Prop) : Prop := match xs with | [] => k | _ :: _ => False
theorem noneL_out {xs : List Int} {k : Prop} (h : noneL xs k) : xs = [] ∧ k := by
  cases xs with
  | nil => exact ⟨rfl, h⟩
  | cons _ _ => exact h.elim

def lb_bytes_Join_0 : PC := .seq (.reg [.s (.bin 45 .lss (.t 44) (.t 43))]) (.seq (.cond (.t 45) (.skip) (.exit 0)) (.seq (.blk 1 (.seq (.reg [.s (.iar 46 (.t 42) (.t 44)), .s (.load 47 false 1 (.t 46)), .s (.mv 7 (.t 47))]) (.seq (.seq (.reg [.s (.mv 48 (.t 7)), .s (.len 49 false (.t 48)), .s (.mv 50 (.t 5)), .s (.bin 51 .sub (.k (.v (.c (.int .i64 9223372036854775807)))) (.t 50)), .s (.bin 52 .gtr (.t 49) (.t 51))]) (.cond (.t 52) (.reg [.s (.no), .s (.no)]) (.skip))) (.reg [.s (.mv 54 (.t 5)), .s (.mv 55 (.t 7)), .s (.len 56 false (.t 55)), .s (.bin 57 .add (.t 54) (.t 56)), .s (.mv 5 (.t 57))])))) (.reg [.s (.bin 58 .add (.t 44) (.k (.v (.c (.int .i64 1))))), .s (.mv 44 (.t 58))])))
def lb_bytes_Join_1 : PC := .seq (.reg [.s (.bin 73 .lss (.t 72) (.t 71))]) (.seq (.cond (.t 73) (.skip) (.exit 2)) (.seq (.blk 3 (.seq (.reg [.s (.iar 74 (.t 70) (.t 72)), .s (.load 75 false 1 (.t 74)), .s (.mv 11 (.t 75))]) (.seq (.reg [.s (.mv 76 (.t 9)), .s (.mv 77 (.t 8)), .s (.mv 78 (.t 9)), .s (.slc 79 (.int .u8) (.t 77) (some (.t 78)) none), .s (.mv 80 (.t 1)), .s (.cpy (some 81) (.int .u8) (.t 79) (.t 80)), .s (.bin 82 .add (.t 76) (.t 81)), .s (.mv 9 (.t 82))]) (.reg [.s (.mv 83 (.t 9)), .s (.mv 84 (.t 8)), .s (.mv 85 (.t 9)), .s (.slc 86 (.int .u8) (.t 84) (some (.t 85)) none), .s (.mv 87 (.t 11)), .s (.cpy (some 88) (.int .u8) (.t 86) (.t 87)), .s (.bin 89 .add (.t 83) (.t 88)), .s (.mv 9 (.t 89))])))) (.reg [.s (.bin 90 .add (.t 72) (.k (.v (.c (.int .i64 1))))), .s (.mv 72 (.t 90))])))
def pf_bytes_Join : PF := ⟨[.t 4], .seq (.reg [.s (.mv 4 (.k (.v (.c (.nils (.int .u8))))))]) (.seq (.seq (.reg [.s (.mv 12 (.t 0)), .s (.lenr 13 (.t 12)), .s (.bin 14 .eql (.t 13) (.k (.v (.c (.int .i64 0)))))]) (.cond (.t 14) (.seq (.reg [.s (.bs 15 (.int .u8) []), .s (.mv 4 (.t 15))]) (.ret)) (.skip))) (.seq (.seq (.reg [.s (.mv 16 (.t 0)), .s (.lenr 17 (.t 16)), .s (.bin 18 .eql (.t 17) (.k (.v (.c (.int .i64 1)))))]) (.cond (.t 18) (.seq (.reg [.s (.mv 19 (.t 0)), .s (.iar 20 (.t 19) (.k (.v (.c (.int .i64 0))))), .s (.load 21 false 1 (.t 20)), .s (.app 22 (.int .u8) (.k (.v (.c (.nils (.int .u8))))) (.t 21)), .s (.mv 4 (.t 22))]) (.ret)) (.skip))) (.seq (.reg [.s (.mv 5 (.k (.v (.c (.int .i64 0)))))]) (.seq (.seq (.reg [.s (.mv 23 (.t 1)), .s (.len 24 false (.t 23)), .s (.bin 25 .gtr (.t 24) (.k (.v (.c (.int .i64 0)))))]) (.cond (.t 25) (.seq (.seq (.reg [.s (.mv 26 (.t 1)), .s (.len 27 false (.t 26)), .s (.mv 28 (.t 0)), .s (.lenr 29 (.t 28)), .s (.bin 30 .sub (.t 29) (.k (.v (.c (.int .i64 1))))), .s (.bin 31 .quo (.k (.v (.c (.int .i64 9223372036854775807)))) (.t 30)), .s (.bin 32 .geq (.t 27) (.t 31))]) (.cond (.t 32) (.reg [.s (.no), .s (.no)]) (.skip))) (.reg [.s (.mv 34 (.t 5)), .s (.mv 35 (.t 1)), .s (.len 36 false (.t 35)), .s (.mv 37 (.t 0)), .s (.lenr 38 (.t 37)), .s (.bin 39 .sub (.t 38) (.k (.v (.c (.int .i64 1))))), .s (.bin 40 .mul (.t 36) (.t 39)), .s (.bin 41 .add (.t 34) (.t 40)), .s (.mv 5 (.t 41))])) (.skip))) (.seq (.seq (.reg [.s (.mv 42 (.t 0)), .s (.lenr 43 (.t 42)), .s (.mv 44 (.k (.v (.c (.int .i64 0)))))]) (.blk 0 (.loop [0, 1, 5, 42, 43, 44] lb_bytes_Join_0))) (.seq (.reg [.s (.mv 59 (.t 5)), .s (.call (some 60) 162 [(.t 59)]), .s (.mv 61 (.t 5)), .s (.mv 62 (.t 5)), .s (.slc3 63 (.int .u8) (.t 60) (.t 61) (.t 62)), .s (.mv 8 (.t 63))]) (.seq (.reg [.s (.mv 64 (.t 8)), .s (.mv 65 (.t 0)), .s (.iar 66 (.t 65) (.k (.v (.c (.int .i64 0))))), .s (.load 67 false 1 (.t 66)), .s (.cpy (some 68) (.int .u8) (.t 64) (.t 67)), .s (.mv 9 (.t 68))]) (.seq (.seq (.reg [.s (.mv 69 (.t 0)), .s (.slr 70 (.t 69) (.k (.v (.c (.int .i64 1))))), .s (.lenr 71 (.t 70)), .s (.mv 72 (.k (.v (.c (.int .i64 0)))))]) (.blk 2 (.loop [1, 8, 9, 70, 71, 72] lb_bytes_Join_1))) (.seq (.reg [.s (.mv 91 (.t 8)), .s (.mv 4 (.t 91))]) (.ret))))))))))⟩
def c_bytes_Join : Fun := ⟨103, [], fun ts K => as2 ts fun t0 t1 => arRB t0 fun xss => arC (pL (.int .u8)) t1 fun sep => noneL sep (five xss fun a b c d e p q r s => K (tL true (.int .u8) [a, b, c, d, e, p, q, r, s]) [])⟩
set_option maxHeartbeats 4000000 in
theorem run_bytes_Join (a b c d e p q r s : Int) : runK [c_bytealg_MakeNoZero] 10 [] pf_bytes_Join [.rows 5 [tl false (.int .u8) [a, b], tl false (.int .u8) [c], tl false (.int .u8) [d, e], tl false (.int .u8) [p, q], tl false (.int .u8) [r, s]], tL false (.int .u8) []] fun x o => x = tL true (.int .u8) [a, b, c, d, e, p, q, r, s] ∧ o = [] := by
  conv => whnf
  repeat' (first | (refine sel_i (fun h => ?_) (fun h => ?_) <;> first | (exfalso; revert h; decide) | conv => whnf) | (refine chk_c ?_ ?_ <;> conv => whnf) | (refine iter_s ?_; conv => whnf) | (refine And.intro ?_ rfl) | (refine And.intro ?_ ?_ <;> conv => whnf))
  all_goals (try first
    | (refine ⟨?_⟩; decide)
    | (refine ⟨?_⟩; simp only [List.length_cons, List.length_nil]; decide)
    | (refine ⟨?_⟩; simp only [List.length_cons, List.length_nil, IntKind.wrap_i64]; omega)
    | (exfalso; simp only [List.length_cons, List.length_nil, decide_eq_true_eq, decide_eq_false_iff_not, gt_iff_lt, IntKind.wrap_i64] at h; omega))
  intro zs hz
  have hz : zs.length = 9 := by
    simp only [List.length_cons, List.length_nil] at hz
    exact hz.trans (by decide)
  obtain ⟨z0, z1, z2, z3, z4, z5, z6, z7, z8, rfl⟩ := list9 hz
  clear hz
  conv => whnf
  repeat' (first | (refine sel_i (fun h => ?_) (fun h => ?_) <;> conv => whnf) | (refine chk_c ?_ ?_ <;> conv => whnf) | (refine And.intro ?_ rfl) | (refine And.intro ?_ ?_ <;> conv => whnf))
  all_goals (try first
    | (refine ⟨?_⟩; decide)
    | (refine ⟨?_⟩; simp only [List.length_cons, List.length_nil]; decide)
    | (refine ⟨?_⟩; simp only [List.length_cons, List.length_nil, IntKind.wrap_i64]; omega)
    | (exfalso; simp only [List.length_cons, List.length_nil, decide_eq_true_eq, decide_eq_false_iff_not, gt_iff_lt, IntKind.wrap_i64] at h; omega))
  refine loop (α := Nat) (fun j => ⟨[(1, .v (.c (.sl false (.int .u8) 0))), (8, .v (.c (.sl false (.int .u8) 1))), (9, .v (.c (.int .i64 (([2, 3, 5, 7, 9] : List Int).getD j 0)))), (70, .rows 2 1 4), (71, .v (.c (.int .i64 4))), (72, .v (.c (.int .i64 (j : Int))))],
      [(7, some (.flat false (.int .u8) none [r, s])), (6, some (.flat false (.int .u8) none [p, q])), (5, some (.flat false (.int .u8) none [d, e])), (4, some (.flat false (.int .u8) none [c])), (3, some (.flat false (.int .u8) none [a, b])),
       (2, some (.box false [.sl false (.int .u8) 3, .sl false (.int .u8) 4, .sl false (.int .u8) 5, .sl false (.int .u8) 6, .sl false (.int .u8) 7])),
       (1, some (.flat true (.int .u8) none (match j with | 0 => [a, b, z2, z3, z4, z5, z6, z7, z8] | 1 => [a, b, c, z3, z4, z5, z6, z7, z8] | 2 => [a, b, c, d, e, z5, z6, z7, z8] | 3 => [a, b, c, d, e, p, q, z7, z8] | _ => [a, b, c, d, e, p, q, r, s]))),
       (0, some (.flat false (.int .u8) none []))], nums.tail.tail.tail.tail.tail.tail.tail.tail, [], false, []⟩) (fun j => j ≤ 4) (fun j => 4 - j) (fun j R hI hR => ?_) 0 _ (show (0 : Nat) ≤ 4 by decide) (show 4 - 0 < 10 by decide)
  have hj : j = 0 ∨ j = 1 ∨ j = 2 ∨ j = 3 ∨ j = 4 := by omega
  rcases hj with rfl | rfl | rfl | rfl | rfl
  · conv => whnf
    repeat' (first | (refine sel_i (fun h => ?_) (fun h => ?_) <;> first | (exfalso; revert h; decide) | conv => whnf) | (refine chk_c ?_ ?_ <;> conv => whnf) | (refine iter_s ?_; conv => whnf) | (refine And.intro ?_ rfl) | (refine And.intro ?_ ?_ <;> conv => whnf))
    all_goals first
      | (refine ⟨?_⟩; decide)
      | (refine ⟨?_⟩; exact (show (0 : Int) ≤ 2 ∧ (2 : Int) ≤ 9 by decide))
      | exact hR 1 (by decide) (by decide)
      | trace_state
  · conv => whnf
    repeat' (first | (refine sel_i (fun h => ?_) (fun h => ?_) <;> first | (exfalso; revert h; decide) | conv => whnf) | (refine chk_c ?_ ?_ <;> conv => whnf) | (refine iter_s ?_; conv => whnf) | (refine And.intro ?_ rfl) | (refine And.intro ?_ ?_ <;> conv => whnf))
    all_goals first
      | (refine ⟨?_⟩; decide)
      | (refine ⟨?_⟩; exact (show (0 : Int) ≤ 3 ∧ (3 : Int) ≤ 9 by decide))
      | exact hR 2 (by decide) (by decide)
      | trace_state
  · conv => whnf
    repeat' (first | (refine sel_i (fun h => ?_) (fun h => ?_) <;> first | (exfalso; revert h; decide) | conv => whnf) | (refine chk_c ?_ ?_ <;> conv => whnf) | (refine iter_s ?_; conv => whnf) | (refine And.intro ?_ rfl) | (refine And.intro ?_ ?_ <;> conv => whnf))
    all_goals first
      | (refine ⟨?_⟩; decide)
      | (refine ⟨?_⟩; exact (show (0 : Int) ≤ 5 ∧ (5 : Int) ≤ 9 by decide))
      | exact hR 3 (by decide) (by decide)
      | trace_state
  · conv => whnf
    repeat' (first | (refine sel_i (fun h => ?_) (fun h => ?_) <;> first | (exfalso; revert h; decide) | conv => whnf) | (refine chk_c ?_ ?_ <;> conv => whnf) | (refine iter_s ?_; conv => whnf) | (refine And.intro ?_ rfl) | (refine And.intro ?_ ?_ <;> conv => whnf))
    all_goals first
      | (refine ⟨?_⟩; decide)
      | (refine ⟨?_⟩; exact (show (0 : Int) ≤ 7 ∧ (7 : Int) ≤ 9 by decide))
      | exact hR 4 (by decide) (by decide)
      | trace_state
  · conv => whnf
    repeat' (first | (refine sel_i (fun h => ?_) (fun h => ?_) <;> first | (exfalso; revert h; decide) | conv => whnf) | (refine chk_c ?_ ?_ <;> conv => whnf) | (refine iter_s ?_; conv => whnf) | (refine And.intro ?_ rfl) | (refine And.intro ?_ ?_ <;> conv => whnf))
    all_goals first
      | (refine ⟨?_⟩; decide)
      | exact ⟨rfl, rfl⟩
      | rfl
      | trace_state
theorem ok_bytes_Join : FunOk Try.prog c_bytes_Join := funOk (E := [c_bytealg_MakeNoZero]) (envOk_cons ok_bytealg_MakeNoZero envOk_nil) mixd Try.func103 (pf := pf_bytes_Join) (by kernel_rfl) fun ts K h => by
  obtain ⟨t0, t1, e0, hp⟩ := as2_out h
  clear h
  subst e0
  obtain ⟨xss, e1, hq⟩ := arRB_out hp
  clear hp
  subst e1
  obtain ⟨sep, e2, hr⟩ := arC_out (rd_l (.int .u8)) hq
  clear hq
  subst e2
  obtain ⟨e3, h2⟩ := noneL_out hr
  clear hr
  have e3 : sep = [] := e3
  subst e3
  obtain ⟨a, b, c, d, e, p, q, r, s, e4, h3⟩ := five_out h2
  clear h2
  subst e4
  exact ⟨_, _, h3, Nat.le_of_ble_eq_true (show Nat.ble 2 Try.f103.ntmps = true by kernel_rfl), _, run_bytes_Join a b c d e p q r s⟩
end Go.Pi
