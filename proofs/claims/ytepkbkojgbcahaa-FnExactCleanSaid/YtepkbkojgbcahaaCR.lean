/- Contracts of functions, each out of its run by PI. No conditions. -/
import Derived.Test.YtepkbkojgbcahaaCQ
namespace Go.Pi
open Go.Proofs
set_option linter.unusedVariables false
set_option linter.unusedSimpArgs false
set_option maxRecDepth 100000
attribute [local irreducible] iterN
def plainW (n : Int) : Word := ⟨andI n 65535, false, ⟨0, 0, 0, 0⟩⟩
def gonB (g : List Bool) (w : Word) : Bool := w.is && inR w.key.base 0 (g.length - 1) && g.getD w.key.base.toNat false
def filterW (g : List Bool) (w : Word) : Word := if gonB g w then plainW w.n else w

def pf_spec_Plain : PF := ⟨[.c 2 true 6], .seq (.reg [.s (.alloc 2 [.int .i64 0, .ff, .int .i64 0, .int .i64 0, .int .i64 0, .int .i64 0])]) (.seq (.reg [.s (.mv 3 (.t 0)), .s (.bin 4 .and (.t 3) (.k (.v (.c (.int .i64 65535))))), .s (.build 5 [.int .i64 0, .ff, .int .i64 0, .int .i64 0, .int .i64 0, .int .i64 0] [(0, 1, (.t 4))]), .s (.store 6 (.t 2) (.t 5))]) (.ret))⟩
def c_spec_Plain : Fun := ⟨89, [], fun ts K => as1 ts fun t0 => arC (pI .i64) t0 fun n => K (tG ((plainW n).tc [])) []⟩
theorem run_spec_Plain (n : Int) : runK [] (0) [] pf_spec_Plain [tI .i64 n] fun r o => r = tG ((plainW n).tc []) ∧ o = [] := by
  conv => whnf
  repeat' (first
    | exact rfl
    | exact trivial
    | (refine sel_i (fun h => ?_) (fun h => ?_) <;> conv => whnf)
    | (refine chk_c ?_ ?_ <;> conv => whnf)
    | (refine And.intro ?_ ?_ <;> conv => whnf))
theorem ok_spec_Plain : FunOk Try.prog c_spec_Plain := funOk (E := []) (envOk_nil) mixd Try.func89 (pf := pf_spec_Plain) (by kernel_rfl) fun ts K h => by
  obtain ⟨t0, e0, h⟩ := as1_out h
  subst e0
  obtain ⟨n, e1, hq⟩ := arC_out (rd_int .i64) h
  clear h
  subst e1
  have h := hq
  clear hq
  exact ⟨_, _, h, Nat.le_of_ble_eq_true (show Nat.ble 1 Try.f89.ntmps = true by kernel_rfl), _, run_spec_Plain n⟩

def pf_impl_Plain : PF := ⟨[.c 2 true 6], .seq (.reg [.s (.alloc 2 [.int .i64 0, .ff, .int .i64 0, .int .i64 0, .int .i64 0, .int .i64 0])]) (.seq (.reg [.s (.mv 3 (.t 0)), .s (.bin 4 .and (.t 3) (.k (.v (.c (.int .i64 65535))))), .s (.build 5 [.int .i64 0, .ff, .int .i64 0, .int .i64 0, .int .i64 0, .int .i64 0] [(0, 1, (.t 4))]), .s (.store 6 (.t 2) (.t 5))]) (.ret))⟩
def c_impl_Plain : Fun := ⟨134, [], fun ts K => as1 ts fun t0 => arC (pI .i64) t0 fun n => K (tG ((plainW n).tc [])) []⟩
theorem run_impl_Plain (n : Int) : runK [] (0) [] pf_impl_Plain [tI .i64 n] fun r o => r = tG ((plainW n).tc []) ∧ o = [] := by
  conv => whnf
  repeat' (first
    | exact rfl
    | exact trivial
    | (refine sel_i (fun h => ?_) (fun h => ?_) <;> conv => whnf)
    | (refine chk_c ?_ ?_ <;> conv => whnf)
    | (refine And.intro ?_ ?_ <;> conv => whnf))
theorem ok_impl_Plain : FunOk Try.prog c_impl_Plain := funOk (E := []) (envOk_nil) mixd Try.func134 (pf := pf_impl_Plain) (by kernel_rfl) fun ts K h => by
  obtain ⟨t0, e0, h⟩ := as1_out h
  subst e0
  obtain ⟨n, e1, hq⟩ := arC_out (rd_int .i64) h
  clear h
  subst e1
  have h := hq
  clear hq
  exact ⟨_, _, h, Nat.le_of_ble_eq_true (show Nat.ble 1 Try.f134.ntmps = true by kernel_rfl), _, run_impl_Plain n⟩

def pf_spec_Bare : PF := ⟨[.c 2 true 6], .seq (.reg [.s (.box 1 (.t 0)), .s (.alloc 2 [.int .i64 0, .ff, .int .i64 0, .int .i64 0, .int .i64 0, .int .i64 0])]) (.seq (.reg [.s (.fa 3 (.t 1) 0), .s (.load 4 false 1 (.t 3)), .s (.call (some 5) 89 [(.t 4)]), .s (.store 6 (.t 2) (.t 5))]) (.ret))⟩
def c_spec_Bare : Fun := ⟨126, [], fun ts K => as1 ts fun t0 => arG pWordT t0 fun w => K (tG ((plainW w.n).tc [])) []⟩
theorem run_spec_Bare (w : Word) : runK [c_spec_Plain] (0) [] pf_spec_Bare [tG (w.tc [])] fun r o => r = tG ((plainW w.n).tc []) ∧ o = [] := by
  conv => whnf
  repeat' (first
    | exact rfl
    | exact trivial
    | (refine sel_i (fun h => ?_) (fun h => ?_) <;> conv => whnf)
    | (refine chk_c ?_ ?_ <;> conv => whnf)
    | (refine And.intro ?_ ?_ <;> conv => whnf))
theorem ok_spec_Bare : FunOk Try.prog c_spec_Bare := funOk (E := [c_spec_Plain]) (envOk_cons ok_spec_Plain (envOk_nil)) mixd Try.func126 (pf := pf_spec_Bare) (by kernel_rfl) fun ts K h => by
  obtain ⟨t0, e0, h⟩ := as1_out h
  subst e0
  obtain ⟨w, e1, hq⟩ := arG_out rd_word h
  clear h
  subst e1
  have h := hq
  clear hq
  exact ⟨_, _, h, Nat.le_of_ble_eq_true (show Nat.ble 1 Try.f126.ntmps = true by kernel_rfl), _, run_spec_Bare w⟩

def pf_impl_Bare : PF := ⟨[.c 2 true 6], .seq (.reg [.s (.box 1 (.t 0)), .s (.alloc 2 [.int .i64 0, .ff, .int .i64 0, .int .i64 0, .int .i64 0, .int .i64 0])]) (.seq (.reg [.s (.fa 3 (.t 1) 0), .s (.load 4 false 1 (.t 3)), .s (.call (some 5) 134 [(.t 4)]), .s (.store 6 (.t 2) (.t 5))]) (.ret))⟩
def c_impl_Bare : Fun := ⟨129, [], fun ts K => as1 ts fun t0 => arG pWordT t0 fun w => K (tG ((plainW w.n).tc [])) []⟩
theorem run_impl_Bare (w : Word) : runK [c_impl_Plain] (0) [] pf_impl_Bare [tG (w.tc [])] fun r o => r = tG ((plainW w.n).tc []) ∧ o = [] := by
  conv => whnf
  repeat' (first
    | exact rfl
    | exact trivial
    | (refine sel_i (fun h => ?_) (fun h => ?_) <;> conv => whnf)
    | (refine chk_c ?_ ?_ <;> conv => whnf)
    | (refine And.intro ?_ ?_ <;> conv => whnf))
theorem ok_impl_Bare : FunOk Try.prog c_impl_Bare := funOk (E := [c_impl_Plain]) (envOk_cons ok_impl_Plain (envOk_nil)) mixd Try.func129 (pf := pf_impl_Bare) (by kernel_rfl) fun ts K h => by
  obtain ⟨t0, e0, h⟩ := as1_out h
  subst e0
  obtain ⟨w, e1, hq⟩ := arG_out rd_word h
  clear h
  subst e1
  have h := hq
  clear hq
  exact ⟨_, _, h, Nat.le_of_ble_eq_true (show Nat.ble 1 Try.f129.ntmps = true by kernel_rfl), _, run_impl_Bare w⟩

def pf_spec_Filter : PF := ⟨[.c 4 true 6], .seq (.reg [.s (.box 2 (.t 0)), .s (.box 3 (.t 1)), .s (.alloc 4 [.int .i64 0, .ff, .int .i64 0, .int .i64 0, .int .i64 0, .int .i64 0])]) (.seq (.seq (.reg [.s (.fa 5 (.t 3) 1), .s (.load 6 false 1 (.t 5)), .s (.mv 7 (.t 6)), .g 7 true (some 8) (.fa 8 (.t 3) 2), .g 7 true (some 9) (.fa 9 (.t 8) 0), .g 7 true (some 10) (.load 10 false 1 (.t 9)), .g 7 true (some 11) (.fa 11 (.t 2) 1), .g 7 true (some 12) (.load 12 false 1 (.t 11)), .g 7 true (some 13) (.len 13 false (.t 12)), .g 7 true (some 14) (.bin 14 .sub (.t 13) (.k (.v (.c (.int .i64 1))))), .g 7 true (some 15) (.call (some 15) 101 [(.t 10), (.k (.v (.c (.int .i64 0)))), (.t 14)]), .s (.pick 16 (.t 7) (.t 15) (.k (.v (.c .ff)))), .s (.mv 17 (.t 16)), .g 17 true (some 18) (.fa 18 (.t 2) 1), .g 17 true (some 19) (.load 19 false 1 (.t 18)), .g 17 true (some 20) (.fa 20 (.t 3) 2), .g 17 true (some 21) (.fa 21 (.t 20) 0), .g 17 true (some 22) (.load 22 false 1 (.t 21)), .g 17 true (some 23) (.ia 23 .bool (.t 19) (.t 22)), .g 17 true (some 24) (.load 24 false 1 (.t 23)), .s (.pick 25 (.t 17) (.t 24) (.k (.v (.c .ff))))]) (.cond (.t 25) (.seq (.reg [.s (.load 26 true 6 (.t 3)), .s (.call (some 27) 126 [(.t 26)]), .s (.store 6 (.t 4) (.t 27))]) (.ret)) (.skip))) (.seq (.reg [.s (.load 28 true 6 (.t 3)), .s (.store 6 (.t 4) (.t 28))]) (.ret)))⟩
def c_spec_Filter : Fun := ⟨88, [], fun ts K => as2 ts fun t0 t1 => arG pMemT t0 fun m => arG pWordT t1 fun w => chk (LMem m 2147483647) (K (tG ((filterW m.gone w).tc [])) [])⟩
theorem run_spec_Filter (m : Mem) (w : Word) (hpre : LMem m 2147483647) : runK [c_spec_l1In, c_spec_Bare] (0) [] pf_spec_Filter [tG (m.tc false []), tG (w.tc [])] fun r o => r = tG ((filterW m.gone w).tc []) ∧ o = [] := by
  obtain ⟨l1, l2⟩ := hpre
  have w1 : IntKind.i64.wrap ((m.gone.length : Int) - 1) = (m.gone.length : Int) - 1 := wrap_id (by omega) (by omega)
  conv => whnf
  repeat' (first | (refine sel_i (fun h => ?_) (fun h => ?_) <;> conv => whnf) | (refine chk_c ?_ ?_ <;> conv => whnf) | (refine And.intro ?_ rfl) | (refine And.intro ?_ ?_ <;> conv => whnf))
  all_goals (try simp only [w1, show FT.zero .bool = false from rfl] at *)
  all_goals first
    | (refine ⟨?_⟩; rename_i g; have := inR_t.1 g; omega)
    | (refine ⟨?_⟩; have := inR_t.1 h; omega)
    | (rw [show filterW m.gone w = plainW w.n by simp only [filterW, gonB, *, Bool.and_self, if_true]]; rfl)
    | (rw [show filterW m.gone w = w by simp only [filterW, gonB, *, Bool.and_false, Bool.false_and, Bool.false_eq_true, if_false]]; rfl)
    | trace_state
theorem ok_spec_Filter : FunOk Try.prog c_spec_Filter := funOk (E := [c_spec_l1In, c_spec_Bare]) (envOk_cons ok_spec_l1In (envOk_cons ok_spec_Bare (envOk_nil))) mixd Try.func88 (pf := pf_spec_Filter) (by kernel_rfl) fun ts K h => by
  obtain ⟨t0, t1, e0, h⟩ := as2_out h
  subst e0
  obtain ⟨m, e1, hq⟩ := arG_out rd_mem h
  clear h
  subst e1
  have h := hq
  clear hq
  obtain ⟨w, e1, hq⟩ := arG_out rd_word h
  clear h
  subst e1
  have h := hq
  clear hq
  obtain ⟨hpre, h⟩ := chk_o h
  exact ⟨_, _, h, Nat.le_of_ble_eq_true (show Nat.ble 2 Try.f88.ntmps = true by kernel_rfl), _, run_spec_Filter m w hpre⟩

def pf_impl_Filter : PF := ⟨[.c 4 true 6], .seq (.reg [.s (.box 2 (.t 0)), .s (.box 3 (.t 1)), .s (.alloc 4 [.int .i64 0, .ff, .int .i64 0, .int .i64 0, .int .i64 0, .int .i64 0])]) (.seq (.seq (.reg [.s (.fa 5 (.t 3) 1), .s (.load 6 false 1 (.t 5)), .s (.mv 7 (.t 6)), .g 7 true (some 8) (.fa 8 (.t 3) 2), .g 7 true (some 9) (.fa 9 (.t 8) 0), .g 7 true (some 10) (.load 10 false 1 (.t 9)), .g 7 true (some 11) (.fa 11 (.t 2) 1), .g 7 true (some 12) (.load 12 false 1 (.t 11)), .g 7 true (some 13) (.len 13 false (.t 12)), .g 7 true (some 14) (.bin 14 .sub (.t 13) (.k (.v (.c (.int .i64 1))))), .g 7 true (some 15) (.call (some 15) 103 [(.t 10), (.k (.v (.c (.int .i64 0)))), (.t 14)]), .s (.pick 16 (.t 7) (.t 15) (.k (.v (.c .ff)))), .s (.mv 17 (.t 16)), .g 17 true (some 18) (.fa 18 (.t 2) 1), .g 17 true (some 19) (.load 19 false 1 (.t 18)), .g 17 true (some 20) (.fa 20 (.t 3) 2), .g 17 true (some 21) (.fa 21 (.t 20) 0), .g 17 true (some 22) (.load 22 false 1 (.t 21)), .g 17 true (some 23) (.ia 23 .bool (.t 19) (.t 22)), .g 17 true (some 24) (.load 24 false 1 (.t 23)), .s (.pick 25 (.t 17) (.t 24) (.k (.v (.c .ff))))]) (.cond (.t 25) (.seq (.reg [.s (.load 26 true 6 (.t 3)), .s (.call (some 27) 129 [(.t 26)]), .s (.store 6 (.t 4) (.t 27))]) (.ret)) (.skip))) (.seq (.reg [.s (.load 28 true 6 (.t 3)), .s (.store 6 (.t 4) (.t 28))]) (.ret)))⟩
def c_impl_Filter : Fun := ⟨92, [], fun ts K => as2 ts fun t0 t1 => arG pMemT t0 fun m => arG pWordT t1 fun w => chk (LMem m 2147483647) (K (tG ((filterW m.gone w).tc [])) [])⟩
theorem run_impl_Filter (m : Mem) (w : Word) (hpre : LMem m 2147483647) : runK [c_impl_in, c_impl_Bare] (0) [] pf_impl_Filter [tG (m.tc false []), tG (w.tc [])] fun r o => r = tG ((filterW m.gone w).tc []) ∧ o = [] := by
  obtain ⟨l1, l2⟩ := hpre
  have w1 : IntKind.i64.wrap ((m.gone.length : Int) - 1) = (m.gone.length : Int) - 1 := wrap_id (by omega) (by omega)
  conv => whnf
  repeat' (first | (refine sel_i (fun h => ?_) (fun h => ?_) <;> conv => whnf) | (refine chk_c ?_ ?_ <;> conv => whnf) | (refine And.intro ?_ rfl) | (refine And.intro ?_ ?_ <;> conv => whnf))
  all_goals (try simp only [w1, show FT.zero .bool = false from rfl] at *)
  all_goals first
    | (refine ⟨?_⟩; rename_i g; have := inR_t.1 g; omega)
    | (refine ⟨?_⟩; have := inR_t.1 h; omega)
    | (rw [show filterW m.gone w = plainW w.n by simp only [filterW, gonB, *, Bool.and_self, if_true]]; rfl)
    | (rw [show filterW m.gone w = w by simp only [filterW, gonB, *, Bool.and_false, Bool.false_and, Bool.false_eq_true, if_false]]; rfl)
    | trace_state
theorem ok_impl_Filter : FunOk Try.prog c_impl_Filter := funOk (E := [c_impl_in, c_impl_Bare]) (envOk_cons ok_impl_in (envOk_cons ok_impl_Bare (envOk_nil))) mixd Try.func92 (pf := pf_impl_Filter) (by kernel_rfl) fun ts K h => by
  obtain ⟨t0, t1, e0, h⟩ := as2_out h
  subst e0
  obtain ⟨m, e1, hq⟩ := arG_out rd_mem h
  clear h
  subst e1
  have h := hq
  clear hq
  obtain ⟨w, e1, hq⟩ := arG_out rd_word h
  clear h
  subst e1
  have h := hq
  clear hq
  obtain ⟨hpre, h⟩ := chk_o h
  exact ⟨_, _, h, Nat.le_of_ble_eq_true (show Nat.ble 2 Try.f92.ntmps = true by kernel_rfl), _, run_impl_Filter m w hpre⟩

def pf_impl_cloneHeap : PF := ⟨[.c 2 true 4], .seq (.reg [.s (.box 1 (.t 0)), .s (.alloc 2 [.nils .word, .nils .bool, .nils .span, .nils .span])]) (.seq (.rgd [.s (.fa 3 (.t 1) 0), .s (.load 4 true 2 (.t 3)), .s (.call (some 5) 127 [(.t 4)]), .s (.fa 6 (.t 1) 2), .s (.load 7 false 1 (.t 6)), .s (.call (some 8) 128 [(.t 7)]), .s (.fa 9 (.t 1) 3), .s (.load 10 false 1 (.t 9)), .s (.call (some 11) 128 [(.t 10)]), .s (.build 12 [.nils .word, .nils .bool, .nils .span, .nils .span] [(0, 2, (.t 5)), (2, 1, (.t 8)), (3, 1, (.t 11))]), .s (.store 4 (.t 2) (.t 12))] (.tk 0 (.tk 1 (.tk 3 (.tk 4 (.tk 6 (.tk 7 (.one 2 false (.one 5 false (.one 8 true (.tk 9 (.one 10 true (.done none))))))))))))) (.ret))⟩
def c_impl_cloneHeap : Fun := ⟨90, [], fun ts K => as1 ts fun t0 => arG pHeapT t0 fun t => chk (LHeap t 2147483647) (K (tG (t.tc true [])) [])⟩
theorem run_impl_cloneHeap (t : Heap) (hpre : LHeap t 2147483647) : runK [c_impl_cloneMemory, c_slices_Clone_Span] (0) [] pf_impl_cloneHeap [tG (t.tc false [])] fun r o => r = tG (t.tc true []) ∧ o = [] := by
  obtain ⟨⟨l1, l4⟩, l2, l3⟩ := hpre
  conv => whnf
  repeat' (first | (refine chk_c ?_ ?_ <;> conv => whnf) | (refine And.intro ?_ ?_ <;> conv => whnf))
  all_goals first
    | (refine ⟨?_⟩; omega)
    | (refine ⟨?_⟩; simp; done)
    | (refine ⟨?_⟩; simp [LMem, LTwo] at *; omega)
    | rfl
    | exact True.intro
    | exact ⟨rfl, rfl⟩
theorem ok_impl_cloneHeap : FunOk Try.prog c_impl_cloneHeap := funOk (E := [c_impl_cloneMemory, c_slices_Clone_Span]) (envOk_cons ok_impl_cloneMemory (envOk_cons ok_slices_Clone_Span (envOk_nil))) mixd Try.func90 (pf := pf_impl_cloneHeap) (by kernel_rfl) fun ts K h => by
  obtain ⟨t0, e0, h⟩ := as1_out h
  subst e0
  obtain ⟨t, e1, hq⟩ := arG_out rd_heap h
  clear h
  subst e1
  have h := hq
  clear hq
  obtain ⟨hpre, h⟩ := chk_o h
  exact ⟨_, _, h, Nat.le_of_ble_eq_true (show Nat.ble 1 Try.f90.ntmps = true by kernel_rfl), _, run_impl_cloneHeap t hpre⟩

def pf_spec_l23Copy : PF := ⟨[.c 2 true 4], .seq (.reg [.s (.box 1 (.t 0)), .s (.alloc 2 [.nils .word, .nils .bool, .nils .span, .nils .span])]) (.seq (.rgd [.s (.fa 3 (.t 1) 0), .s (.load 4 true 2 (.t 3)), .s (.call (some 5) 125 [(.t 4)]), .s (.bs 6 .span []), .s (.fa 7 (.t 1) 2), .s (.load 8 false 1 (.t 7)), .s (.app 9 .span (.t 6) (.t 8)), .s (.bs 10 .span []), .s (.fa 11 (.t 1) 3), .s (.load 12 false 1 (.t 11)), .s (.app 13 .span (.t 10) (.t 12)), .s (.build 14 [.nils .word, .nils .bool, .nils .span, .nils .span] [(0, 2, (.t 5)), (2, 1, (.t 9)), (3, 1, (.t 13))]), .s (.store 4 (.t 2) (.t 14))] (.tk 0 (.tk 1 (.tk 4 (.tk 5 (.tk 8 (.tk 9 (.alt 2 (.alt 3 (.alt 6 (.one 7 false (.one 10 true (.tk 11 (.one 12 true (.done (some [2])))))) (.alt 7 (.one 6 false (.one 10 true (.tk 11 (.one 12 true (.done (some [2])))))) (.nil))) (.alt 7 (.one 3 false (.one 6 false (.one 10 true (.tk 11 (.one 12 true (.done (some [2]))))))) (.nil))) (.alt 3 (.alt 2 (.alt 6 (.one 7 false (.one 10 true (.tk 11 (.one 12 true (.done (some [2])))))) (.alt 7 (.one 6 false (.one 10 true (.tk 11 (.one 12 true (.done (some [2])))))) (.nil))) (.alt 7 (.one 2 false (.one 6 false (.one 10 true (.tk 11 (.one 12 true (.done (some [2]))))))) (.nil))) (.alt 7 (.alt 2 (.one 3 false (.one 6 false (.one 10 true (.tk 11 (.one 12 true (.done (some [2]))))))) (.alt 3 (.one 2 false (.one 6 false (.one 10 true (.tk 11 (.one 12 true (.done (some [2]))))))) (.nil))) (.nil))))))))))) (.ret))⟩
def c_spec_l23Copy : Fun := ⟨87, [], fun ts K => as1 ts fun t0 => arG pHeapT t0 fun t => chk (LHeap t 2147483647) (K (tG (t.tc true [])) [])⟩
theorem run_spec_l23Copy (t : Heap) (hpre : LHeap t 2147483647) : runK [c_spec_l8Copy] (0) [] pf_spec_l23Copy [tG (t.tc false [])] fun r o => r = tG (t.tc true []) ∧ o = [] := by
  obtain ⟨⟨l1, l4⟩, l2, l3⟩ := hpre
  conv => whnf
  repeat' (first | (refine chk_c ?_ ?_ <;> conv => whnf) | (refine And.intro ?_ ?_ <;> conv => whnf))
  all_goals first
    | (refine ⟨?_⟩; omega)
    | (refine ⟨?_⟩; simp; done)
    | (refine ⟨?_⟩; simp [LMem, LTwo] at *; omega)
    | rfl
    | exact True.intro
    | exact ⟨rfl, rfl⟩
theorem ok_spec_l23Copy : FunOk Try.prog c_spec_l23Copy := funOk (E := [c_spec_l8Copy]) (envOk_cons ok_spec_l8Copy (envOk_nil)) mixd Try.func87 (pf := pf_spec_l23Copy) (by kernel_rfl) fun ts K h => by
  obtain ⟨t0, e0, h⟩ := as1_out h
  subst e0
  obtain ⟨t, e1, hq⟩ := arG_out rd_heap h
  clear h
  subst e1
  have h := hq
  clear hq
  obtain ⟨hpre, h⟩ := chk_o h
  exact ⟨_, _, h, Nat.le_of_ble_eq_true (show Nat.ble 1 Try.f87.ntmps = true by kernel_rfl), _, run_spec_l23Copy t hpre⟩

theorem keep_mid {α : Type} {m a : List α} {i : Nat} (h : m.length = a.length) (hi : i < a.length) (hx : m[i]? = a[i]?) : m.take i ++ a.drop i = m.take (i + 1) ++ a.drop (i + 1) := by
  rw [List.drop_eq_getElem_cons hi, List.take_add_one, hx, List.getElem?_eq_getElem hi]
  simp
def cleanW (g : List Bool) (ws : List Word) : List Word := (List.range 24).map (fun c => if g.getD c false then ⟨0, false, ⟨0, 0, 0, 0⟩⟩ else filterW g (ws.getD c (FT.zero .word)))
theorem cleanW_len (g : List Bool) (ws : List Word) : (cleanW g ws).length = 24 := by simp [cleanW]
theorem cleanW_yes {g : List Bool} {ws : List Word} {c : Nat} (h : c < 24) (hg : g.getD c false = true) : (cleanW g ws)[c]? = some ⟨0, false, ⟨0, 0, 0, 0⟩⟩ := by
  unfold cleanW
  rw [List.getElem?_map, List.getElem?_range h, Option.map_some, if_pos hg]
theorem cleanW_no {g : List Bool} {ws : List Word} {c : Nat} (h : c < 24) (hg : g.getD c false = false) : (cleanW g ws)[c]? = some (filterW g (ws.getD c (FT.zero .word))) := by
  unfold cleanW
  rw [List.getElem?_map, List.getElem?_range h, Option.map_some, if_neg (by rw [hg]; decide)]
theorem map_getD {α β : Type} {f : α → β} {xs : List α} {i : Nat} (z : α) (h : i < xs.length) : (xs.map f)[i]? = some (f (xs.getD i z)) := by
  rw [List.getElem?_map, List.getElem?_eq_getElem h, Option.map_some, List.getD_eq_getElem?_getD, List.getElem?_eq_getElem h, Option.getD_some]
def clean (h : Heap) (rs : List Word) : Heap × List Word := if heapOk h then (⟨⟨cleanW h.mem.gone h.mem.words, List.replicate 24 false⟩, h.live, []⟩, rs.map (filterW h.mem.gone)) else (h, rs)
theorem clean_no {h : Heap} {rs : List Word} (k : heapOk h = false) : clean h rs = (h, rs) := by simp [clean, k]
theorem clean_yes {h : Heap} {rs : List Word} (k : heapOk h = true) : clean h rs = (⟨⟨cleanW h.mem.gone h.mem.words, List.replicate 24 false⟩, h.live, []⟩, rs.map (filterW h.mem.gone)) := by simp [clean, k]
theorem heapOk_mem {h : Heap} (k : heapOk h = true) : memoryOk h.mem = true := by
  simp only [heapOk, Bool.and_eq_true] at k; exact k.1.1.1
theorem plainW_0 : plainW 0 = ⟨0, false, ⟨0, 0, 0, 0⟩⟩ := by decide
theorem heapOk_gone {h : Heap} (k : heapOk h = true) {c : Nat} (hc : c < 24) : inL h.waits (c : Int) = h.mem.gone.getD c false := by
  simp only [heapOk, Bool.and_eq_true, allR_iff] at k
  have h1 := (k.2 c hc).2
  rw [inL_eq (spansOk_mem k.1.2)]
  simp only [beq_iff_eq] at h1
  exact h1.symm

def lb_impl_Clean_0 : PC := .seq (.reg [.s (.bin 28 .lss (.t 27) (.t 26))]) (.seq (.cond (.t 28) (.skip) (.exit 0)) (.seq (.blk 1 (.seq (.reg [.s (.mv 29 (.t 27)), .s (.ia 30 .word (.t 25) (.t 27)), .s (.load 31 true 6 (.t 30)), .s (.alloc 9 [.int .i64 0, .ff, .int .i64 0, .int .i64 0, .int .i64 0, .int .i64 0]), .s (.mv 8 (.t 29)), .s (.store 6 (.t 9) (.t 31))]) (.rgd [.s (.fa 32 (.t 6) 0), .s (.fa 33 (.t 32) 0), .s (.load 34 false 1 (.t 33)), .s (.mv 35 (.t 8)), .s (.fa 36 (.t 2) 0), .s (.load 37 true 2 (.t 36)), .s (.load 38 true 6 (.t 9)), .s (.call (some 39) 92 [(.t 37), (.t 38)]), .s (.ia 40 .word (.t 34) (.t 35)), .s (.store 6 (.t 40) (.t 39))] (.tk 0 (.tk 1 (.tk 2 (.tk 3 (.tk 4 (.tk 5 (.tk 6 (.one 7 false (.tk 8 (.one 9 true (.done none)))))))))))))) (.reg [.s (.bin 41 .add (.t 27) (.k (.v (.c (.int .i64 1))))), .s (.mv 27 (.t 41))])))
def lb_impl_Clean_1 : PC := .seq (.reg [.s (.bin 45 .lss (.t 44) (.t 43))]) (.seq (.cond (.t 45) (.skip) (.exit 2)) (.seq (.blk 3 (.seq (.reg [.s (.mv 46 (.t 44)), .s (.ia 47 .word (.t 42) (.t 44)), .s (.load 48 true 6 (.t 47)), .s (.alloc 11 [.int .i64 0, .ff, .int .i64 0, .int .i64 0, .int .i64 0, .int .i64 0]), .s (.mv 10 (.t 46)), .s (.store 6 (.t 11) (.t 48))]) (.reg [.s (.mv 49 (.t 7)), .s (.mv 50 (.t 10)), .s (.fa 51 (.t 2) 0), .s (.load 52 true 2 (.t 51)), .s (.load 53 true 6 (.t 11)), .s (.call (some 54) 92 [(.t 52), (.t 53)]), .s (.ia 55 .word (.t 49) (.t 50)), .s (.store 6 (.t 55) (.t 54))]))) (.reg [.s (.bin 56 .add (.t 44) (.k (.v (.c (.int .i64 1))))), .s (.mv 44 (.t 56))])))
def lb_impl_Clean_2 : PC := .seq (.reg [.s (.bin 62 .lss (.t 61) (.t 60))]) (.seq (.cond (.t 62) (.skip) (.exit 4)) (.seq (.blk 5 (.seq (.reg [.s (.mv 63 (.t 61)), .s (.ia 64 .bool (.t 59) (.t 61)), .s (.load 65 false 1 (.t 64)), .s (.mv 12 (.t 63)), .s (.mv 13 (.t 65))]) (.seq (.reg [.s (.mv 66 (.t 13))]) (.cond (.t 66) (.reg [.s (.fa 67 (.t 6) 0), .s (.fa 68 (.t 67) 0), .s (.load 69 false 1 (.t 68)), .s (.mv 70 (.t 12)), .s (.build 71 [.int .i64 0, .ff, .int .i64 0, .int .i64 0, .int .i64 0, .int .i64 0] []), .s (.ia 72 .word (.t 69) (.t 70)), .s (.store 6 (.t 72) (.t 71))]) (.skip))))) (.reg [.s (.bin 73 .add (.t 61) (.k (.v (.c (.int .i64 1))))), .s (.mv 61 (.t 73))])))
def pf_impl_Clean : PF := ⟨[.c 4 true 4, .t 5], .seq (.reg [.s (.box 2 (.t 0)), .s (.alloc 4 [.nils .word, .nils .bool, .nils .span, .nils .span]), .s (.mv 5 (.k (.v (.c (.nils .word)))))]) (.seq (.reg [.s (.load 14 true 4 (.t 2)), .s (.call (some 15) 90 [(.t 14)]), .s (.mv 16 (.t 1)), .s (.call (some 17) 91 [(.t 16)]), .s (.alloc 6 [.nils .word, .nils .bool, .nils .span, .nils .span]), .s (.store 4 (.t 6) (.t 15)), .s (.mv 7 (.t 17))]) (.seq (.seq (.reg [.s (.load 18 true 4 (.t 2)), .s (.call (some 19) 26 [(.t 18)]), .s (.bnot 20 (.t 19))]) (.cond (.t 20) (.seq (.reg [.s (.load 21 true 4 (.t 6)), .s (.mv 22 (.t 7)), .s (.store 4 (.t 4) (.t 21)), .s (.mv 5 (.t 22))]) (.ret)) (.skip))) (.seq (.seq (.reg [.s (.fa 23 (.t 2) 0), .s (.fa 24 (.t 23) 0), .s (.load 25 false 1 (.t 24)), .s (.len 26 false (.t 25)), .s (.mv 27 (.k (.v (.c (.int .i64 0)))))]) (.blk 0 (.loop [1, 2, 4, 6, 7, 25, 26, 27] lb_impl_Clean_0))) (.seq (.seq (.reg [.s (.mv 42 (.t 1)), .s (.len 43 false (.t 42)), .s (.mv 44 (.k (.v (.c (.int .i64 0)))))]) (.blk 2 (.loop [2, 4, 6, 7, 42, 43, 44] lb_impl_Clean_1))) (.seq (.seq (.reg [.s (.fa 57 (.t 2) 0), .s (.fa 58 (.t 57) 1), .s (.load 59 false 1 (.t 58)), .s (.len 60 false (.t 59)), .s (.mv 61 (.k (.v (.c (.int .i64 0)))))]) (.blk 4 (.loop [4, 6, 7, 59, 60, 61] lb_impl_Clean_2))) (.seq (.reg [.s (.fa 74 (.t 6) 3), .s (.store 1 (.t 74) (.k (.v (.c (.nils .span)))))]) (.seq (.reg [.s (.mkS 75 .bool (.k (.v (.c (.int .i64 24))))), .s (.fa 76 (.t 6) 0), .s (.fa 77 (.t 76) 1), .s (.store 1 (.t 77) (.t 75))]) (.seq (.reg [.s (.load 78 true 4 (.t 6)), .s (.mv 79 (.t 7)), .s (.store 4 (.t 4) (.t 78)), .s (.mv 5 (.t 79))]) (.ret)))))))))⟩
def c_impl_Clean : Fun := ⟨43, [], fun ts K => as2 ts fun t0 t1 => arG pHeapT t0 fun t => arC (pL .word) t1 fun rs => chk (LHeap t 1048576 ∧ rs.length ≤ 1048576) (K (.tup [.g ((clean t rs).1.tc true []), .c (tl true .word (clean t rs).2)]) [])⟩
theorem run_impl_Clean (t : Heap) (rs : List (FT.Ty .word)) (hpre : LHeap t 1048576 ∧ rs.length ≤ 1048576) : runK [c_impl_HeapOk, c_impl_cloneHeap, c_slices_Clone_Word, c_impl_Filter] (rs.length + 30) [] pf_impl_Clean [tG (t.tc false []), tL false .word rs] fun r o => r = .tup [.g ((clean t rs).1.tc true []), .c (tl true .word (clean t rs).2)] ∧ o = [] := by
  obtain ⟨hp, l0⟩ := hpre
  have hp2 : LHeap t 2147483647 := hp.mono (by decide)
  have hpm : LMem t.mem 2147483647 := hp2.1
  conv => whnf
  repeat' (first | (refine sel_i (fun h => ?_) (fun h => ?_) <;> conv => whnf) | (refine chk_c ?_ ?_ <;> conv => whnf) | (refine And.intro ?_ rfl) | (refine And.intro ?_ ?_ <;> conv => whnf))
  all_goals (try simp only [etaMemory, etaHeap, Bool.not_eq_true', Bool.not_eq_false'] at *)
  all_goals first
    | (refine ⟨?_⟩; assumption)
    | (refine ⟨?_⟩; omega)
    | (rw [clean_no h]; rfl)
    | skip
  obtain ⟨m1, m2, m3⟩ := memoryOk_n (heapOk_mem h)
  rw [clean_yes h]
  dsimp only
  have hml : (t.mem.words.map (filterW t.mem.gone)).length = t.mem.words.length := by simp
  refine loop (α := Nat × List Word) (fun q => ⟨[(1, .v (.c (.sl false .word 0))), (2, .v (.c (.ptr 1 0))), (4, .v (.c (.ptr 6 0))), (6, .v (.c (.ptr 7 0))), (7, .v (.c (.sl false .word 12))), (25, .v (.c (.sl false .word 2))), (26, .v (.c (.int .i64 (t.mem.words.length : Int)))), (27, .v (.c (.int .i64 (q.1 : Int))))],
        [(12, some (.flat true .word none rs)), (11, some (.flat true .span none t.waits)), (10, some (.flat true .span none t.live)), (9, some (.flat true .bool none t.mem.gone)), (8, some (.flat true .word none q.2)), (7, some (.box true [.sl false .word 8, .sl false .bool 9, .sl false .span 10, .sl false .span 11])), (6, some (.box true [.nils .word, .nils .bool, .nils .span, .nils .span])),
         (5, some (.flat false .span none t.waits)), (4, some (.flat false .span none t.live)), (3, some (.flat false .bool none t.mem.gone)), (2, some (.flat false .word none t.mem.words)), (1, some (.box true [.sl false .word 2, .sl false .bool 3, .sl false .span 4, .sl false .span 5])), (0, some (.flat false .word none rs))], nums.tail.tail.tail.tail.tail.tail.tail.tail.tail.tail.tail.tail.tail, [], false, []⟩)
      (fun q => q.1 ≤ 24 ∧ q.2 = (t.mem.words.map (filterW t.mem.gone)).take q.1 ++ t.mem.words.drop q.1) (fun q => 24 - q.1) (fun q R hI hR => ?_) (0, t.mem.words) _ ⟨by simp, by simp⟩ (by dsimp only; omega)
  obtain ⟨i, ws⟩ := q
  obtain ⟨hi, hx⟩ := hI
  dsimp only at hi hx
  dsimp only
  have hwl : ws.length = 24 := by rw [hx]; simp; omega
  conv => whnf
  repeat' (first | (refine sel_i (fun h => ?_) (fun h => ?_) <;> conv => whnf) | (refine chk_c ?_ ?_ <;> conv => whnf) | (refine And.intro ?_ rfl) | (refine And.intro ?_ ?_ <;> conv => whnf))
  all_goals (try simp only [etaMemory, etaWord, etaKey, Int.toNat_natCast, decide_eq_true_eq, decide_eq_false_iff_not] at *)
  all_goals try (refine ⟨?_⟩; first | assumption | omega)
  · rename_i g
    have hlt : i < 24 := by omega
    rw [wrap_id (n := (i : Int) + 1) (by omega) (by omega)]
    exact hR (i + 1, ws.set i (filterW t.mem.gone (t.mem.words.getD i (FT.zero .word)))) ⟨by dsimp only; omega, by rw [hx]; exact set_mid hml (by omega) (map_getD _ (by omega))⟩ (by dsimp only; omega)
  have hi24 : i = 24 := by omega
  clear h hR
  subst hi24
  rw [List.take_of_length_le (by omega), List.drop_eq_nil_of_le (by omega), List.append_nil] at hx
  have hrl : (rs.map (filterW t.mem.gone)).length = rs.length := by simp
  refine loop (α := Nat × List Word) (fun q => ⟨[(2, .v (.c (.ptr 0 0))), (4, .v (.c (.ptr 5 0))), (6, .v (.c (.ptr 6 0))), (7, .v (.c (.sl false .word 11))), (42, .v (.c (.sl false .word 12))), (43, .v (.c (.int .i64 (rs.length : Int)))), (44, .v (.c (.int .i64 (q.1 : Int))))],
        [(12, some (.flat false .word none rs)), (11, some (.flat true .word none q.2)), (10, some (.flat true .span none t.waits)), (9, some (.flat true .span none t.live)), (8, some (.flat true .bool none t.mem.gone)), (7, some (.flat true .word none ws)), (6, some (.box true [.sl false .word 7, .sl false .bool 8, .sl false .span 9, .sl false .span 10])), (5, some (.box true [.nils .word, .nils .bool, .nils .span, .nils .span])),
         (4, some (.flat false .span none t.waits)), (3, some (.flat false .span none t.live)), (2, some (.flat false .bool none t.mem.gone)), (1, some (.flat false .word none t.mem.words)), (0, some (.box true [.sl false .word 1, .sl false .bool 2, .sl false .span 3, .sl false .span 4]))], nums.tail.tail.tail.tail.tail.tail.tail.tail.tail.tail.tail.tail.tail, [], false, []⟩)
      (fun q => q.1 ≤ rs.length ∧ q.2 = (rs.map (filterW t.mem.gone)).take q.1 ++ rs.drop q.1) (fun q => rs.length - q.1) (fun q R hI hR => ?_) (0, rs) _ ⟨by simp, by simp⟩ (by dsimp only; omega)
  obtain ⟨i, zs⟩ := q
  obtain ⟨hi, hz⟩ := hI
  dsimp only at hi hz
  dsimp only
  have hzl : zs.length = rs.length := by rw [hz]; simp; omega
  conv => whnf
  repeat' (first | (refine sel_i (fun h => ?_) (fun h => ?_) <;> conv => whnf) | (refine chk_c ?_ ?_ <;> conv => whnf) | (refine And.intro ?_ rfl) | (refine And.intro ?_ ?_ <;> conv => whnf))
  all_goals (try simp only [etaMemory, etaWord, etaKey, Int.toNat_natCast, decide_eq_true_eq, decide_eq_false_iff_not] at *)
  all_goals try (refine ⟨?_⟩; first | assumption | omega)
  · rename_i g
    rw [wrap_id (n := (i : Int) + 1) (by omega) (by omega)]
    exact hR (i + 1, zs.set i (filterW t.mem.gone (rs.getD i (FT.zero .word)))) ⟨by dsimp only; omega, by rw [hz]; exact set_mid hrl (by omega) (map_getD _ (by omega))⟩ (by dsimp only; omega)
  have hirl : i = rs.length := by omega
  clear h hR
  subst hirl
  rw [List.take_of_length_le (by omega), List.drop_eq_nil_of_le (by omega), List.append_nil] at hz
  refine loop (α := Nat × List Word) (fun q => ⟨[(4, .v (.c (.ptr 0 0))), (6, .v (.c (.ptr 1 0))), (7, .v (.c (.sl false .word 6))), (59, .v (.c (.sl false .bool 7))), (60, .v (.c (.int .i64 (t.mem.gone.length : Int)))), (61, .v (.c (.int .i64 (q.1 : Int))))],
        [(7, some (.flat false .bool none t.mem.gone)), (6, some (.flat true .word none zs)), (5, some (.flat true .span none t.waits)), (4, some (.flat true .span none t.live)), (3, some (.flat true .bool none t.mem.gone)), (2, some (.flat true .word none q.2)), (1, some (.box true [.sl false .word 2, .sl false .bool 3, .sl false .span 4, .sl false .span 5])), (0, some (.box true [.nils .word, .nils .bool, .nils .span, .nils .span]))], nums.tail.tail.tail.tail.tail.tail.tail.tail, [], false, []⟩)
      (fun q => q.1 ≤ 24 ∧ q.2 = (cleanW t.mem.gone t.mem.words).take q.1 ++ ws.drop q.1) (fun q => 24 - q.1) (fun q R hI hR => ?_) (0, ws) _ ⟨by simp, by simp⟩ (by dsimp only; omega)
  obtain ⟨i, vs⟩ := q
  obtain ⟨hi, hv⟩ := hI
  dsimp only at hi hv
  dsimp only
  have hcl := cleanW_len t.mem.gone t.mem.words
  have hvl : vs.length = 24 := by rw [hv]; simp; omega
  conv => whnf
  repeat' (first | (refine sel_i (fun h => ?_) (fun h => ?_) <;> conv => whnf) | (refine chk_c ?_ ?_ <;> conv => whnf) | (refine And.intro ?_ rfl) | (refine And.intro ?_ ?_ <;> conv => whnf))
  all_goals (try simp only [etaMemory, etaWord, etaKey, Int.toNat_natCast, show FT.zero .bool = false from rfl, decide_eq_true_eq, decide_eq_false_iff_not] at *)
  all_goals try (refine ⟨?_⟩; first | assumption | omega)
  · rename_i g1 g2
    rw [wrap_id (n := (i : Int) + 1) (by omega) (by omega)]
    exact hR (i + 1, vs.set i ⟨0, false, ⟨0, 0, 0, 0⟩⟩) ⟨by dsimp only; omega, by rw [hv]; exact set_mid (by omega) (by omega) (cleanW_yes (by omega) h)⟩ (by dsimp only; omega)
  · rename_i g1 g2
    rw [wrap_id (n := (i : Int) + 1) (by omega) (by omega)]
    exact hR (i + 1, vs) ⟨by dsimp only; omega, by
      dsimp only
      rw [hv, keep_mid (by omega) (by omega) (by rw [cleanW_no (by omega) h, hx, map_getD _ (by omega)])]⟩ (by dsimp only; omega)
  · rename_i g1
    have e : i = 24 := by omega
    subst e
    rw [List.take_of_length_le (by omega), List.drop_eq_nil_of_le (by omega), List.append_nil] at hv
    rw [hv, hz]; rfl
theorem ok_impl_Clean : FunOk Try.prog c_impl_Clean := funOk (E := [c_impl_HeapOk, c_impl_cloneHeap, c_slices_Clone_Word, c_impl_Filter]) (envOk_cons ok_impl_HeapOk (envOk_cons ok_impl_cloneHeap (envOk_cons ok_slices_Clone_Word (envOk_cons ok_impl_Filter (envOk_nil))))) mixd Try.func43 (pf := pf_impl_Clean) (by kernel_rfl) fun ts K h => by
  obtain ⟨t0, t1, e0, h⟩ := as2_out h
  subst e0
  obtain ⟨t, e1, hq⟩ := arG_out rd_heap h
  clear h
  subst e1
  have h := hq
  clear hq
  obtain ⟨rs, e1, hq⟩ := arC_out (rd_l .word) h
  clear h
  subst e1
  have h := hq
  clear hq
  obtain ⟨hpre, h⟩ := chk_o h
  exact ⟨_, _, h, Nat.le_of_ble_eq_true (show Nat.ble 2 Try.f43.ntmps = true by kernel_rfl), _, run_impl_Clean t rs hpre⟩

def lb_spec_Clean_0 : PC := .seq (.seq (.reg [.s (.mv 20 (.t 8)), .s (.mv 21 (.t 7)), .s (.len 22 false (.t 21)), .s (.bin 23 .lss (.t 20) (.t 22))]) (.cond (.t 23) (.skip) (.exit 0))) (.seq (.blk 1 (.rgd [.s (.mv 26 (.t 7)), .s (.mv 27 (.t 8)), .s (.fa 28 (.t 2) 0), .s (.load 29 true 2 (.t 28)), .s (.mv 30 (.t 1)), .s (.mv 31 (.t 8)), .s (.ia 32 .word (.t 30) (.t 31)), .s (.load 33 true 6 (.t 32)), .s (.call (some 34) 88 [(.t 29), (.t 33)]), .s (.ia 35 .word (.t 26) (.t 27)), .s (.store 6 (.t 35) (.t 34))] (.tk 0 (.tk 1 (.tk 2 (.tk 3 (.tk 4 (.tk 5 (.tk 6 (.tk 7 (.one 8 true (.tk 9 (.one 10 true (.done none)))))))))))))) (.reg [.s (.mv 24 (.t 8)), .s (.bin 25 .add (.t 24) (.k (.v (.c (.int .i64 1))))), .s (.mv 8 (.t 25))]))
def lb_spec_Clean_1 : PC := .seq (.seq (.reg [.s (.mv 36 (.t 9)), .s (.bin 37 .lss (.t 36) (.k (.v (.c (.int .i64 24)))))]) (.cond (.t 37) (.skip) (.exit 2))) (.seq (.blk 3 (.seq (.rgd [.s (.fa 40 (.t 6) 0), .s (.fa 41 (.t 40) 0), .s (.load 42 false 1 (.t 41)), .s (.mv 43 (.t 9)), .s (.fa 44 (.t 2) 0), .s (.load 45 true 2 (.t 44)), .s (.fa 46 (.t 2) 0), .s (.fa 47 (.t 46) 0), .s (.load 48 false 1 (.t 47)), .s (.mv 49 (.t 9)), .s (.ia 50 .word (.t 48) (.t 49)), .s (.load 51 true 6 (.t 50)), .s (.call (some 52) 88 [(.t 45), (.t 51)]), .s (.ia 53 .word (.t 42) (.t 43)), .s (.store 6 (.t 53) (.t 52))] (.tk 0 (.tk 1 (.tk 2 (.tk 3 (.tk 4 (.tk 5 (.tk 6 (.tk 7 (.tk 8 (.tk 9 (.tk 10 (.tk 11 (.one 12 false (.tk 13 (.one 14 true (.done none))))))))))))))))) (.seq (.seq (.reg [.s (.fa 54 (.t 2) 3), .s (.load 55 false 1 (.t 54)), .s (.mv 56 (.t 9)), .s (.call (some 57) 69 [(.t 55), (.t 56)])]) (.cond (.t 57) (.rgd [.s (.fa 58 (.t 6) 0), .s (.fa 59 (.t 58) 0), .s (.load 60 false 1 (.t 59)), .s (.mv 61 (.t 9)), .s (.call (some 62) 89 [(.k (.v (.c (.int .i64 0))))]), .s (.ia 63 .word (.t 60) (.t 61)), .s (.store 6 (.t 63) (.t 62))] (.tk 0 (.tk 1 (.tk 2 (.tk 3 (.one 4 false (.tk 5 (.one 6 true (.done none))))))))) (.skip))) (.reg [.s (.fa 64 (.t 6) 0), .s (.fa 65 (.t 64) 1), .s (.load 66 false 1 (.t 65)), .s (.mv 67 (.t 9)), .s (.ia 68 .bool (.t 66) (.t 67)), .s (.store 1 (.t 68) (.k (.v (.c .ff))))])))) (.reg [.s (.mv 38 (.t 9)), .s (.bin 39 .add (.t 38) (.k (.v (.c (.int .i64 1))))), .s (.mv 9 (.t 39))]))
def pf_spec_Clean : PF := ⟨[.c 4 true 4, .t 5], .seq (.reg [.s (.box 2 (.t 0)), .s (.alloc 4 [.nils .word, .nils .bool, .nils .span, .nils .span]), .s (.mv 5 (.k (.v (.c (.nils .word)))))]) (.seq (.reg [.s (.load 10 true 4 (.t 2)), .s (.call (some 11) 87 [(.t 10)]), .s (.alloc 6 [.nils .word, .nils .bool, .nils .span, .nils .span]), .s (.store 4 (.t 6) (.t 11))]) (.seq (.reg [.s (.bs 12 .word []), .s (.mv 13 (.t 1)), .s (.app 14 .word (.t 12) (.t 13)), .s (.mv 7 (.t 14))]) (.seq (.seq (.reg [.s (.load 15 true 4 (.t 2)), .s (.call (some 16) 24 [(.t 15)]), .s (.bnot 17 (.t 16))]) (.cond (.t 17) (.seq (.reg [.s (.load 18 true 4 (.t 6)), .s (.mv 19 (.t 7)), .s (.store 4 (.t 4) (.t 18)), .s (.mv 5 (.t 19))]) (.ret)) (.skip))) (.seq (.seq (.reg [.s (.mv 8 (.k (.v (.c (.int .i64 0)))))]) (.blk 0 (.loop [1, 2, 4, 6, 7, 8] lb_spec_Clean_0))) (.seq (.seq (.reg [.s (.mv 9 (.k (.v (.c (.int .i64 0)))))]) (.blk 2 (.loop [2, 4, 6, 7, 9] lb_spec_Clean_1))) (.seq (.reg [.s (.fa 69 (.t 6) 3), .s (.store 1 (.t 69) (.k (.v (.c (.nils .span)))))]) (.seq (.reg [.s (.load 70 true 4 (.t 6)), .s (.mv 71 (.t 7)), .s (.store 4 (.t 4) (.t 70)), .s (.mv 5 (.t 71))]) (.ret))))))))⟩
def c_spec_Clean : Fun := ⟨42, [], fun ts K => as2 ts fun t0 t1 => arG pHeapT t0 fun t => arC (pL .word) t1 fun rs => chk (LHeap t 1048576 ∧ rs.length ≤ 1048576) (K (.tup [.g ((clean t rs).1.tc true []), .c (tl true .word (clean t rs).2)]) [])⟩
theorem run_spec_Clean (t : Heap) (rs : List (FT.Ty .word)) (hpre : LHeap t 1048576 ∧ rs.length ≤ 1048576) : runK [c_spec_HeapOk, c_spec_l23In, c_spec_l23Copy, c_spec_Filter, c_spec_Plain] (rs.length + 30) [] pf_spec_Clean [tG (t.tc false []), tL false .word rs] fun r o => r = .tup [.g ((clean t rs).1.tc true []), .c (tl true .word (clean t rs).2)] ∧ o = [] := by
  obtain ⟨hp, l0⟩ := hpre
  have hp2 : LHeap t 2147483647 := hp.mono (by decide)
  have hpm : LMem t.mem 2147483647 := hp2.1
  have ha : ([] ++ rs : List Word) = rs := rfl
  conv => whnf
  repeat' (first | (refine sel_i (fun h => ?_) (fun h => ?_) <;> conv => whnf) | (refine chk_c ?_ ?_ <;> conv => whnf) | (refine And.intro ?_ rfl) | (refine And.intro ?_ ?_ <;> conv => whnf))
  all_goals (try simp only [ha, etaMemory, etaHeap, Bool.not_eq_true', Bool.not_eq_false'] at *)
  all_goals first
    | (refine ⟨?_⟩; assumption)
    | (refine ⟨?_⟩; omega)
    | (refine ⟨?_⟩; simp; omega)
    | (rw [clean_no h]; rfl)
    | skip
  have hok := h
  obtain ⟨m1, m2, m3⟩ := memoryOk_n (heapOk_mem h)
  rw [clean_yes h]
  dsimp only
  have hrl : (rs.map (filterW t.mem.gone)).length = rs.length := by simp
  refine loop (α := Nat × List Word) (fun q => ⟨[(1, .v (.c (.sl false .word 0))), (2, .v (.c (.ptr 1 0))), (4, .v (.c (.ptr 6 0))), (6, .v (.c (.ptr 7 0))), (7, .v (.c (.sl true .word 12))), (8, .v (.c (.int .i64 (q.1 : Int))))],
        [(12, some (.flat true .word none q.2)), (11, some (.flat true .span none t.waits)), (10, some (.flat true .span none t.live)), (9, some (.flat true .bool none t.mem.gone)), (8, some (.flat true .word none t.mem.words)), (7, some (.box true [.sl false .word 8, .sl false .bool 9, .sl false .span 10, .sl false .span 11])), (6, some (.box true [.nils .word, .nils .bool, .nils .span, .nils .span])),
         (5, some (.flat false .span none t.waits)), (4, some (.flat false .span none t.live)), (3, some (.flat false .bool none t.mem.gone)), (2, some (.flat false .word none t.mem.words)), (1, some (.box true [.sl false .word 2, .sl false .bool 3, .sl false .span 4, .sl false .span 5])), (0, some (.flat false .word none rs))], nums.tail.tail.tail.tail.tail.tail.tail.tail.tail.tail.tail.tail.tail, [], false, []⟩)
      (fun q => q.1 ≤ rs.length ∧ q.2 = (rs.map (filterW t.mem.gone)).take q.1 ++ rs.drop q.1) (fun q => rs.length - q.1) (fun q R hI hR => ?_) (0, rs) _ ⟨by simp, by simp⟩ (by dsimp only; omega)
  obtain ⟨i, zs⟩ := q
  obtain ⟨hi, hz⟩ := hI
  dsimp only at hi hz
  dsimp only
  have hzl : zs.length = rs.length := by rw [hz]; simp; omega
  conv => whnf
  repeat' (first | (refine sel_i (fun h => ?_) (fun h => ?_) <;> conv => whnf) | (refine chk_c ?_ ?_ <;> conv => whnf) | (refine And.intro ?_ rfl) | (refine And.intro ?_ ?_ <;> conv => whnf))
  all_goals (try simp only [etaMemory, etaWord, etaKey, Int.toNat_natCast, decide_eq_true_eq, decide_eq_false_iff_not] at *)
  all_goals try (refine ⟨?_⟩; first | assumption | omega)
  · rename_i g
    rw [wrap_id (n := (i : Int) + 1) (by omega) (by omega)]
    exact hR (i + 1, zs.set i (filterW t.mem.gone (rs.getD i (FT.zero .word)))) ⟨by dsimp only; omega, by rw [hz]; exact set_mid hrl (by omega) (map_getD _ (by omega))⟩ (by dsimp only; omega)
  have hirl : i = rs.length := by omega
  clear h hR
  subst hirl
  rw [List.take_of_length_le (by omega), List.drop_eq_nil_of_le (by omega), List.append_nil] at hz
  refine loop (α := Nat × List Word × List Bool) (fun q => ⟨[(2, .v (.c (.ptr 0 0))), (4, .v (.c (.ptr 5 0))), (6, .v (.c (.ptr 6 0))), (7, .v (.c (.sl true .word 11))), (9, .v (.c (.int .i64 (q.1 : Int))))],
        [(11, some (.flat true .word none zs)), (10, some (.flat true .span none t.waits)), (9, some (.flat true .span none t.live)), (8, some (.flat true .bool none q.2.2)), (7, some (.flat true .word none q.2.1)), (6, some (.box true [.sl false .word 7, .sl false .bool 8, .sl false .span 9, .sl false .span 10])), (5, some (.box true [.nils .word, .nils .bool, .nils .span, .nils .span])),
         (4, some (.flat false .span none t.waits)), (3, some (.flat false .span none t.live)), (2, some (.flat false .bool none t.mem.gone)), (1, some (.flat false .word none t.mem.words)), (0, some (.box true [.sl false .word 1, .sl false .bool 2, .sl false .span 3, .sl false .span 4]))], nums.tail.tail.tail.tail.tail.tail.tail.tail.tail.tail.tail.tail, [], false, []⟩)
      (fun q => q.1 ≤ 24 ∧ q.2.1 = (cleanW t.mem.gone t.mem.words).take q.1 ++ t.mem.words.drop q.1 ∧ q.2.2 = (List.replicate 24 false).take q.1 ++ t.mem.gone.drop q.1) (fun q => 24 - q.1) (fun q R hI hR => ?_) (0, t.mem.words, t.mem.gone) _ ⟨by simp, by simp, by simp⟩ (by dsimp only; omega)
  obtain ⟨i, vs, gs⟩ := q
  obtain ⟨hi, hv, hg⟩ := hI
  dsimp only at hi hv hg
  dsimp only
  have hcl := cleanW_len t.mem.gone t.mem.words
  have hvl : vs.length = 24 := by rw [hv]; simp; omega
  have hgl : gs.length = 24 := by rw [hg]; simp; omega
  have hrl2 : (List.replicate 24 false).length = t.mem.gone.length := by simp [m2]
  have hw := hp2.2.2
  conv => whnf
  repeat' (first | (refine sel_i (fun h => ?_) (fun h => ?_) <;> conv => whnf) | (refine chk_c ?_ ?_ <;> conv => whnf) | (refine And.intro ?_ rfl) | (refine And.intro ?_ ?_ <;> conv => whnf))
  all_goals (try simp only [etaMemory, etaWord, etaKey, Int.toNat_natCast, show FT.zero .bool = false from rfl, decide_eq_true_eq, decide_eq_false_iff_not, List.length_set] at *)
  all_goals try (refine ⟨?_⟩; first | assumption | omega)
  · rename_i g1
    rw [heapOk_gone hok (by omega)] at g1
    rw [wrap_id (n := (i : Int) + 1) (by omega) (by omega), List.set_set, plainW_0]
    exact hR (i + 1, vs.set i ⟨0, false, ⟨0, 0, 0, 0⟩⟩, gs.set i false) ⟨by dsimp only; omega, by rw [hv]; exact set_mid (by omega) (by omega) (cleanW_yes (by omega) g1), by rw [hg]; exact set_mid hrl2 (by omega) (by rw [List.getElem?_replicate, if_pos (by omega)])⟩ (by dsimp only; omega)
  · rename_i g1
    rw [heapOk_gone hok (by omega)] at g1
    rw [wrap_id (n := (i : Int) + 1) (by omega) (by omega)]
    exact hR (i + 1, vs.set i (filterW t.mem.gone (t.mem.words.getD i (FT.zero .word))), gs.set i false) ⟨by dsimp only; omega, by rw [hv]; exact set_mid (by omega) (by omega) (cleanW_no (by omega) g1), by rw [hg]; exact set_mid hrl2 (by omega) (by rw [List.getElem?_replicate, if_pos (by omega)])⟩ (by dsimp only; omega)
  · have e : i = 24 := by omega
    subst e
    rw [List.take_of_length_le (by omega), List.drop_eq_nil_of_le (by omega), List.append_nil] at hv
    rw [List.take_of_length_le (by simp), List.drop_eq_nil_of_le (by omega), List.append_nil] at hg
    rw [hv, hz, hg]; rfl
theorem ok_spec_Clean : FunOk Try.prog c_spec_Clean := funOk (E := [c_spec_HeapOk, c_spec_l23In, c_spec_l23Copy, c_spec_Filter, c_spec_Plain]) (envOk_cons ok_spec_HeapOk (envOk_cons ok_spec_l23In (envOk_cons ok_spec_l23Copy (envOk_cons ok_spec_Filter (envOk_cons ok_spec_Plain (envOk_nil)))))) mixd Try.func42 (pf := pf_spec_Clean) (by kernel_rfl) fun ts K h => by
  obtain ⟨t0, t1, e0, h⟩ := as2_out h
  subst e0
  obtain ⟨t, e1, hq⟩ := arG_out rd_heap h
  clear h
  subst e1
  have h := hq
  clear hq
  obtain ⟨rs, e1, hq⟩ := arC_out (rd_l .word) h
  clear h
  subst e1
  have h := hq
  clear hq
  obtain ⟨hpre, h⟩ := chk_o h
  exact ⟨_, _, h, Nat.le_of_ble_eq_true (show Nat.ble 2 Try.f42.ntmps = true by kernel_rfl), _, run_spec_Clean t rs hpre⟩

theorem szHeap_n2 {h : Heap} {k : Int} (h0 : k ≤ 1048576) (hh : 0 ≤ szHeapI h k) : LHeap h 1048576 ∧ szHeapI h k ≤ 1048576 := by
  obtain ⟨h1, h2, e1⟩ := szB_pos hh
  obtain ⟨h3, h4, e2⟩ := szB_pos h2
  have h5 := szMem_n h0 h1; have h6 := szr_n h3; have h7 := szr_n h4
  have e3 : szHeapI h k = szr (szr (szMem h.mem k) h.live.length) h.waits.length := e1.trans e2
  exact ⟨⟨h5.1, by omega, by omega⟩, by omega⟩
theorem clean_len {h : Heap} {rs : List Word} (l : LHeap h 1048576) (lr : rs.length ≤ 1048576) : LHeap (clean h rs).1 1048576 ∧ (clean h rs).2.length ≤ 1048576 := by
  unfold clean
  split
  · refine ⟨⟨⟨?_, ?_⟩, l.2.1, Nat.zero_le _⟩, by simpa using lr⟩
    · show (cleanW _ _).length ≤ _; rw [cleanW_len]; decide
    · show (List.replicate 24 false).length ≤ _; simp
  · exact ⟨l, lr⟩
end Go.Pi
