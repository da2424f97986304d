/- Contracts of functions, each out of its run by PI. No conditions. -/
import Derived.Test.YtbenlebnogedlaaGreatC5
namespace Go.Pi
open Go.Proofs
set_option linter.unusedVariables false
set_option linter.unusedSimpArgs false
set_option maxRecDepth 100000
attribute [local irreducible] iterN
def pullC (l : List Inst) (c : Core) : Core × Bool :=
  if coreOk c = false then (zCore, false) else
  if c.stop = true ∨ 6 ≤ c.rob.length ∨ c.s.trap ≠ 0 then (c, false) else
  if (fetchI l c.next).2 ≠ 0 then (⟨c.s, c.rob ++ [⟨c.next, zI, true, trapE (fetchI l c.next).2 c.next, c.next⟩], c.next, true, c.guesses⟩, true)
  else (⟨c.s, c.rob ++ [⟨c.next, (fetchI l c.next).1, false, Eff.zero, guessW c.guesses c.next⟩], guessW c.guesses c.next, c.stop, c.guesses⟩, true)
def coreT (p : Core × Bool) : Tree := .tup [.g (p.1.tc true []), .c (.bool p.2)]
theorem pullC_no {l : List Inst} {c : Core} (h : coreOk c = false) : pullC l c = (zCore, false) := if_pos h
theorem pullC_st {l : List Inst} {c : Core} (h : coreOk c = true) (h2 : c.stop = true ∨ 6 ≤ c.rob.length ∨ c.s.trap ≠ 0) : pullC l c = (c, false) := by
  unfold pullC; rw [if_neg (by rw [h]; decide), if_pos h2]
theorem pullC_t {l : List Inst} {c : Core} (h : coreOk c = true) (h2 : ¬ (c.stop = true ∨ 6 ≤ c.rob.length ∨ c.s.trap ≠ 0)) (h3 : (fetchI l c.next).2 ≠ 0) : pullC l c = (⟨c.s, c.rob ++ [⟨c.next, zI, true, trapE (fetchI l c.next).2 c.next, c.next⟩], c.next, true, c.guesses⟩, true) := by
  unfold pullC; rw [if_neg (by rw [h]; decide), if_neg h2, if_pos h3]
theorem pullC_0 {l : List Inst} {c : Core} (h : coreOk c = true) (h2 : ¬ (c.stop = true ∨ 6 ≤ c.rob.length ∨ c.s.trap ≠ 0)) (h3 : (fetchI l c.next).2 = 0) : pullC l c = (⟨c.s, c.rob ++ [⟨c.next, (fetchI l c.next).1, false, Eff.zero, guessW c.guesses c.next⟩], guessW c.guesses c.next, c.stop, c.guesses⟩, true) := by
  unfold pullC; rw [if_neg (by rw [h]; decide), if_neg h2, if_neg (by rw [h3]; decide)]
theorem nst {c : Core} (h1 : c.stop = false) (h2 : c.rob.length < 6) (h3 : c.s.trap = 0) : ¬ (c.stop = true ∨ 6 ≤ c.rob.length ∨ c.s.trap ≠ 0) := by
  rintro (q | q | q)
  · rw [h1] at q; cases q
  · omega
  · exact q h3

def pf_impl_Pull : PF := ⟨[.c 4 true 19, .t 5], .seq (.reg [.s (.box 3 (.t 1)), .s (.alloc 4 [.nils .word, .int .i64 0, .ff, .int .i64 0, .int .i64 0, .int .i64 0, .int .i64 0, .nils .word, .nils .bool, .int .i64 0, .nils .entry, .int .i64 0, .ff, .int .i64 0, .int .i64 0, .int .i64 0, .int .i64 0, .ff, .nils (.int .i64)]), .s (.mv 5 (.k (.v (.c .ff))))]) (.seq (.seq (.reg [.s (.load 9 true 19 (.t 3)), .s (.call (some 10) 70 [(.t 9)]), .s (.bnot 11 (.t 10))]) (.cond (.t 11) (.seq (.reg [.s (.build 12 [.nils .word, .int .i64 0, .ff, .int .i64 0, .int .i64 0, .int .i64 0, .int .i64 0, .nils .word, .nils .bool, .int .i64 0, .nils .entry, .int .i64 0, .ff, .int .i64 0, .int .i64 0, .int .i64 0, .int .i64 0, .ff, .nils (.int .i64)] []), .s (.store 19 (.t 4) (.t 12)), .s (.mv 5 (.k (.v (.c .ff))))]) (.ret)) (.skip))) (.seq (.reg [.s (.load 13 true 19 (.t 3)), .s (.call (some 14) 71 [(.t 13)]), .s (.alloc 6 [.nils .word, .int .i64 0, .ff, .int .i64 0, .int .i64 0, .int .i64 0, .int .i64 0, .nils .word, .nils .bool, .int .i64 0, .nils .entry, .int .i64 0, .ff, .int .i64 0, .int .i64 0, .int .i64 0, .int .i64 0, .ff, .nils (.int .i64)]), .s (.store 19 (.t 6) (.t 14))]) (.seq (.seq (.reg [.s (.fa 15 (.t 3) 17), .s (.load 16 false 1 (.t 15)), .s (.mv 17 (.t 16)), .g 17 false (some 18) (.fa 18 (.t 3) 10), .g 17 false (some 19) (.load 19 false 1 (.t 18)), .g 17 false (some 20) (.len 20 false (.t 19)), .g 17 false (some 21) (.bin 21 .geq (.t 20) (.k (.v (.c (.int .i64 6))))), .s (.pick 22 (.t 17) (.k (.v (.c .tt))) (.t 21)), .s (.mv 23 (.t 22)), .g 23 false (some 24) (.fa 24 (.t 3) 0), .g 23 false (some 25) (.fa 25 (.t 24) 9), .g 23 false (some 26) (.load 26 false 1 (.t 25)), .g 23 false (some 27) (.bin 27 .neq (.t 26) (.k (.v (.c (.int .i64 0))))), .s (.pick 28 (.t 23) (.k (.v (.c .tt))) (.t 27))]) (.cond (.t 28) (.seq (.reg [.s (.load 29 true 19 (.t 6)), .s (.store 19 (.t 4) (.t 29)), .s (.mv 5 (.k (.v (.c .ff))))]) (.ret)) (.skip))) (.seq (.reg [.s (.mv 31 (.t 0)), .s (.fa 32 (.t 3) 11), .s (.load 33 true 6 (.t 32)), .s (.call (some 34) 72 [(.t 31), (.t 33)]), .s (.mv 30 (.t 34)), .s (.ext 35 (.t 30) 0), .s (.ext 36 (.t 30) 1), .s (.alloc 7 [.int .i64 0, .int .i64 0, .int .i64 0, .int .i64 0, .int .i64 0]), .s (.store 5 (.t 7) (.t 35)), .s (.mv 8 (.t 36))]) (.seq (.seq (.reg [.s (.mv 37 (.t 8)), .s (.bin 38 .neq (.t 37) (.k (.v (.c (.int .i64 0)))))]) (.cond (.t 38) (.seq (.rgd [] [.s (.fa 39 (.t 6) 10), .s (.load 40 false 1 (.t 39)), .s (.fa 41 (.t 3) 11), .s (.load 42 true 6 (.t 41)), .s (.mv 43 (.t 8)), .s (.fa 44 (.t 3) 11), .s (.load 45 true 6 (.t 44)), .s (.call (some 46) 73 [(.t 43), (.t 45)]), .s (.fa 47 (.t 3) 11), .s (.load 48 true 6 (.t 47)), .s (.build 49 [.int .i64 0, .ff, .int .i64 0, .int .i64 0, .int .i64 0, .int .i64 0, .int .i64 0, .int .i64 0, .int .i64 0, .int .i64 0, .int .i64 0, .ff, .int .i64 0, .int .i64 0, .int .i64 0, .ff, .int .i64 0, .int .i64 0, .int .i64 0, .int .i64 0, .int .i64 0, .ff, .int .i64 0, .int .i64 0, .int .i64 0, .int .i64 0, .int .i64 0, .int .i64 0, .ff, .int .i64 0, .int .i64 0, .int .i64 0, .int .i64 0, .int .i64 0, .int .i64 0, .ff, .int .i64 0, .int .i64 0, .int .i64 0, .int .i64 0] [(0, 6, (.t 42)), (11, 1, (.k (.v (.c .tt)))), (12, 22, (.t 46)), (34, 6, (.t 48))]), .s (.bs 50 .entry [(.t 49)]), .s (.app 51 .entry (.t 40) (.t 50)), .s (.fa 52 (.t 6) 10), .s (.store 1 (.t 52) (.t 51))] (.tk 0 (.tk 1 (.tk 2 (.tk 3 (.tk 4 (.tk 5 (.tk 6 (.tk 8 (.tk 9 (.one 7 false (.tk 10 (.one 11 false (.one 12 true (.tk 13 (.one 14 true (.done none))))))))))))))))) (.seq (.reg [.s (.fa 53 (.t 6) 17), .s (.store 1 (.t 53) (.k (.v (.c .tt))))]) (.seq (.reg [.s (.load 54 true 19 (.t 6)), .s (.store 19 (.t 4) (.t 54)), .s (.mv 5 (.k (.v (.c .tt))))]) (.ret)))) (.skip))) (.seq (.reg [.s (.fa 55 (.t 3) 18), .s (.load 56 false 1 (.t 55)), .s (.fa 57 (.t 3) 11), .s (.load 58 true 6 (.t 57)), .s (.call (some 59) 74 [(.t 56), (.t 58)]), .s (.fa 60 (.t 6) 11), .s (.store 6 (.t 60) (.t 59))]) (.seq (.reg [.s (.fa 61 (.t 6) 10), .s (.load 62 false 1 (.t 61)), .s (.fa 63 (.t 3) 11), .s (.load 64 true 6 (.t 63)), .s (.load 65 true 5 (.t 7)), .s (.fa 66 (.t 6) 11), .s (.load 67 true 6 (.t 66)), .s (.build 68 [.int .i64 0, .ff, .int .i64 0, .int .i64 0, .int .i64 0, .int .i64 0, .int .i64 0, .int .i64 0, .int .i64 0, .int .i64 0, .int .i64 0, .ff, .int .i64 0, .int .i64 0, .int .i64 0, .ff, .int .i64 0, .int .i64 0, .int .i64 0, .int .i64 0, .int .i64 0, .ff, .int .i64 0, .int .i64 0, .int .i64 0, .int .i64 0, .int .i64 0, .int .i64 0, .ff, .int .i64 0, .int .i64 0, .int .i64 0, .int .i64 0, .int .i64 0, .int .i64 0, .ff, .int .i64 0, .int .i64 0, .int .i64 0, .int .i64 0] [(0, 6, (.t 64)), (6, 5, (.t 65)), (34, 6, (.t 67))]), .s (.bs 69 .entry [(.t 68)]), .s (.app 70 .entry (.t 62) (.t 69)), .s (.fa 71 (.t 6) 10), .s (.store 1 (.t 71) (.t 70))]) (.seq (.reg [.s (.load 72 true 19 (.t 6)), .s (.store 19 (.t 4) (.t 72)), .s (.mv 5 (.k (.v (.c .tt))))]) (.ret)))))))))⟩
def c_impl_Pull : Fun := ⟨38, [], fun ts K => as2 ts fun t0 t1 => arC (pL .inst) t0 fun l => arG pCoreT t1 fun c => chk (l.length ≤ 2147483647 ∧ LCore c 2147483647) (K (coreT (pullC l c)) [])⟩
theorem run_impl_Pull (l : List (FT.Ty .inst)) (c : Core) (hpre : l.length ≤ 2147483647 ∧ LCore c 2147483647) : runK [c_impl_CoreOk, c_impl_cloneCore, c_impl_Fetch, c_impl_trapped, c_impl_Guess] (0) [] pf_impl_Pull [tL false .inst l, tG (c.tc false [])] fun r o => r = coreT (pullC l c) ∧ o = [] := by
  obtain ⟨l0, l1⟩ := hpre
  conv => whnf
  repeat' (first | (refine sel_i (fun h => ?_) (fun h => ?_) <;> conv => whnf) | (refine chk_c ?_ ?_ <;> conv => whnf) | (refine And.intro ?_ rfl) | (refine And.intro ?_ ?_ <;> conv => whnf))
  all_goals (try simp only [etaKey, etaWord, etaInst, etaEff, etaEntry, etaMemory, etaState, etaCore, Bool.not_eq_true', Bool.not_eq_false', bne_iff_ne, ne_eq, bne_eq_false_iff_eq, beq_iff_eq, beq_eq_false_iff_ne, decide_eq_true_eq, decide_eq_false_iff_not, ge_iff_le] at *)
  all_goals (try have hc := coreOk_len (c := c) (by assumption))
  all_goals first
    | (refine ⟨?_⟩; first | assumption | (simp only [List.length_cons, List.length_nil]; omega) | omega)
    | (rw [pullC_no (by assumption)]; rfl)
    | (rw [pullC_st (by assumption) (by first | exact .inl (by assumption) | exact .inr (.inl (by omega)) | exact .inr (.inr (by assumption)))]; rfl)
    | (rw [pullC_t (by assumption) (nst (by assumption) (by omega) (by assumption)) (by assumption)]; rfl)
    | (rw [pullC_0 (by assumption) (nst (by assumption) (by omega) (by assumption)) (by assumption)]; rfl)
    | trace_state
theorem ok_impl_Pull : FunOk Tryz.prog c_impl_Pull := funOk (E := [c_impl_CoreOk, c_impl_cloneCore, c_impl_Fetch, c_impl_trapped, c_impl_Guess]) (envOk_cons ok_impl_CoreOk (envOk_cons ok_impl_cloneCore (envOk_cons ok_impl_Fetch (envOk_cons ok_impl_trapped (envOk_cons ok_impl_Guess (envOk_nil)))))) mixd Tryz.func38 (pf := pf_impl_Pull) (by kernel_rfl) fun ts K h => by
  obtain ⟨t0, t1, e0, h⟩ := as2_out h
  subst e0
  obtain ⟨l, e1, hq⟩ := arC_out (rd_l .inst) h
  clear h
  subst e1
  have h := hq
  clear hq
  obtain ⟨c, e1, hq⟩ := arG_out rd_core h
  clear h
  subst e1
  have h := hq
  clear hq
  obtain ⟨hpre, h⟩ := chk_o h
  exact ⟨_, _, h, Nat.le_of_ble_eq_true (show Nat.ble 2 Tryz.f38.ntmps = true by kernel_rfl), _, run_impl_Pull l c hpre⟩

def pf_spec_Pull : PF := ⟨[.c 4 true 19, .t 5], .seq (.reg [.s (.box 3 (.t 1)), .s (.alloc 4 [.nils .word, .int .i64 0, .ff, .int .i64 0, .int .i64 0, .int .i64 0, .int .i64 0, .nils .word, .nils .bool, .int .i64 0, .nils .entry, .int .i64 0, .ff, .int .i64 0, .int .i64 0, .int .i64 0, .int .i64 0, .ff, .nils (.int .i64)]), .s (.mv 5 (.k (.v (.c .ff))))]) (.seq (.seq (.reg [.s (.load 10 true 19 (.t 3)), .s (.call (some 11) 83 [(.t 10)]), .s (.bnot 12 (.t 11))]) (.cond (.t 12) (.seq (.reg [.s (.build 13 [.nils .word, .int .i64 0, .ff, .int .i64 0, .int .i64 0, .int .i64 0, .int .i64 0, .nils .word, .nils .bool, .int .i64 0, .nils .entry, .int .i64 0, .ff, .int .i64 0, .int .i64 0, .int .i64 0, .int .i64 0, .ff, .nils (.int .i64)] []), .s (.store 19 (.t 4) (.t 13)), .s (.mv 5 (.k (.v (.c .ff))))]) (.ret)) (.skip))) (.seq (.reg [.s (.load 14 true 19 (.t 3)), .s (.call (some 15) 84 [(.t 14)]), .s (.alloc 6 [.nils .word, .int .i64 0, .ff, .int .i64 0, .int .i64 0, .int .i64 0, .int .i64 0, .nils .word, .nils .bool, .int .i64 0, .nils .entry, .int .i64 0, .ff, .int .i64 0, .int .i64 0, .int .i64 0, .int .i64 0, .ff, .nils (.int .i64)]), .s (.store 19 (.t 6) (.t 15))]) (.seq (.seq (.reg [.s (.fa 16 (.t 3) 17), .s (.load 17 false 1 (.t 16)), .s (.mv 18 (.t 17)), .g 18 false (some 19) (.fa 19 (.t 3) 10), .g 18 false (some 20) (.load 20 false 1 (.t 19)), .g 18 false (some 21) (.len 21 false (.t 20)), .g 18 false (some 22) (.bin 22 .eql (.t 21) (.k (.v (.c (.int .i64 6))))), .s (.pick 23 (.t 18) (.k (.v (.c .tt))) (.t 22)), .s (.mv 24 (.t 23)), .g 24 false (some 25) (.fa 25 (.t 3) 0), .g 24 false (some 26) (.fa 26 (.t 25) 9), .g 24 false (some 27) (.load 27 false 1 (.t 26)), .g 24 false (some 28) (.bin 28 .neq (.t 27) (.k (.v (.c (.int .i64 0))))), .s (.pick 29 (.t 24) (.k (.v (.c .tt))) (.t 28))]) (.cond (.t 29) (.seq (.reg [.s (.load 30 true 19 (.t 6)), .s (.store 19 (.t 4) (.t 30)), .s (.mv 5 (.k (.v (.c .ff))))]) (.ret)) (.skip))) (.seq (.reg [.s (.mv 32 (.t 0)), .s (.fa 33 (.t 3) 11), .s (.load 34 true 6 (.t 33)), .s (.call (some 35) 85 [(.t 32), (.t 34)]), .s (.mv 31 (.t 35)), .s (.ext 36 (.t 31) 0), .s (.ext 37 (.t 31) 1), .s (.alloc 7 [.int .i64 0, .int .i64 0, .int .i64 0, .int .i64 0, .int .i64 0]), .s (.store 5 (.t 7) (.t 36)), .s (.mv 8 (.t 37))]) (.seq (.seq (.reg [.s (.mv 38 (.t 8)), .s (.bin 39 .neq (.t 38) (.k (.v (.c (.int .i64 0)))))]) (.cond (.t 39) (.seq (.rgd [] [.s (.fa 40 (.t 6) 10), .s (.load 41 false 1 (.t 40)), .s (.fa 42 (.t 3) 11), .s (.load 43 true 6 (.t 42)), .s (.mv 44 (.t 8)), .s (.fa 45 (.t 3) 11), .s (.load 46 true 6 (.t 45)), .s (.call (some 47) 86 [(.t 44), (.t 46)]), .s (.fa 48 (.t 3) 11), .s (.load 49 true 6 (.t 48)), .s (.build 50 [.int .i64 0, .ff, .int .i64 0, .int .i64 0, .int .i64 0, .int .i64 0, .int .i64 0, .int .i64 0, .int .i64 0, .int .i64 0, .int .i64 0, .ff, .int .i64 0, .int .i64 0, .int .i64 0, .ff, .int .i64 0, .int .i64 0, .int .i64 0, .int .i64 0, .int .i64 0, .ff, .int .i64 0, .int .i64 0, .int .i64 0, .int .i64 0, .int .i64 0, .int .i64 0, .ff, .int .i64 0, .int .i64 0, .int .i64 0, .int .i64 0, .int .i64 0, .int .i64 0, .ff, .int .i64 0, .int .i64 0, .int .i64 0, .int .i64 0] [(0, 6, (.t 43)), (11, 1, (.k (.v (.c .tt)))), (12, 22, (.t 47)), (34, 6, (.t 49))]), .s (.bs 51 .entry [(.t 50)]), .s (.app 52 .entry (.t 41) (.t 51)), .s (.fa 53 (.t 6) 10), .s (.store 1 (.t 53) (.t 52))] (.tk 0 (.tk 1 (.tk 2 (.tk 3 (.tk 4 (.tk 5 (.tk 6 (.tk 8 (.tk 9 (.one 7 false (.tk 10 (.one 11 false (.one 12 true (.tk 13 (.one 14 true (.done none))))))))))))))))) (.seq (.reg [.s (.fa 54 (.t 6) 17), .s (.store 1 (.t 54) (.k (.v (.c .tt))))]) (.seq (.reg [.s (.load 55 true 19 (.t 6)), .s (.store 19 (.t 4) (.t 55)), .s (.mv 5 (.k (.v (.c .tt))))]) (.ret)))) (.skip))) (.seq (.reg [.s (.fa 56 (.t 3) 18), .s (.load 57 false 1 (.t 56)), .s (.fa 58 (.t 3) 11), .s (.load 59 true 6 (.t 58)), .s (.call (some 60) 87 [(.t 57), (.t 59)]), .s (.alloc 9 [.int .i64 0, .ff, .int .i64 0, .int .i64 0, .int .i64 0, .int .i64 0]), .s (.store 6 (.t 9) (.t 60))]) (.seq (.reg [.s (.fa 61 (.t 6) 10), .s (.load 62 false 1 (.t 61)), .s (.fa 63 (.t 3) 11), .s (.load 64 true 6 (.t 63)), .s (.load 65 true 5 (.t 7)), .s (.load 66 true 6 (.t 9)), .s (.build 67 [.int .i64 0, .ff, .int .i64 0, .int .i64 0, .int .i64 0, .int .i64 0, .int .i64 0, .int .i64 0, .int .i64 0, .int .i64 0, .int .i64 0, .ff, .int .i64 0, .int .i64 0, .int .i64 0, .ff, .int .i64 0, .int .i64 0, .int .i64 0, .int .i64 0, .int .i64 0, .ff, .int .i64 0, .int .i64 0, .int .i64 0, .int .i64 0, .int .i64 0, .int .i64 0, .ff, .int .i64 0, .int .i64 0, .int .i64 0, .int .i64 0, .int .i64 0, .int .i64 0, .ff, .int .i64 0, .int .i64 0, .int .i64 0, .int .i64 0] [(0, 6, (.t 64)), (6, 5, (.t 65)), (34, 6, (.t 66))]), .s (.bs 68 .entry [(.t 67)]), .s (.app 69 .entry (.t 62) (.t 68)), .s (.fa 70 (.t 6) 10), .s (.store 1 (.t 70) (.t 69))]) (.seq (.reg [.s (.load 71 true 6 (.t 9)), .s (.fa 72 (.t 6) 11), .s (.store 6 (.t 72) (.t 71))]) (.seq (.reg [.s (.load 73 true 19 (.t 6)), .s (.store 19 (.t 4) (.t 73)), .s (.mv 5 (.k (.v (.c .tt))))]) (.ret))))))))))⟩
def c_spec_Pull : Fun := ⟨45, [], fun ts K => as2 ts fun t0 t1 => arC (pL .inst) t0 fun l => arG pCoreT t1 fun c => chk (l.length ≤ 2147483647 ∧ LCore c 2147483647) (K (coreT (pullC l c)) [])⟩
theorem run_spec_Pull (l : List (FT.Ty .inst)) (c : Core) (hpre : l.length ≤ 2147483647 ∧ LCore c 2147483647) : runK [c_spec_CoreOk, c_spec_l12Copy, c_spec_Fetch, c_spec_l9Trap, c_spec_Guess] (0) [] pf_spec_Pull [tL false .inst l, tG (c.tc false [])] fun r o => r = coreT (pullC l c) ∧ o = [] := by
  obtain ⟨l0, l1⟩ := hpre
  conv => whnf
  repeat' (first | (refine sel_i (fun h => ?_) (fun h => ?_) <;> conv => whnf) | (refine chk_c ?_ ?_ <;> conv => whnf) | (refine And.intro ?_ rfl) | (refine And.intro ?_ ?_ <;> conv => whnf))
  all_goals (try simp only [etaKey, etaWord, etaInst, etaEff, etaEntry, etaMemory, etaState, etaCore, Bool.not_eq_true', Bool.not_eq_false', bne_iff_ne, ne_eq, bne_eq_false_iff_eq, beq_iff_eq, beq_eq_false_iff_ne, decide_eq_true_eq, decide_eq_false_iff_not, ge_iff_le] at *)
  all_goals (try have hc := coreOk_len (c := c) (by assumption))
  all_goals first
    | (refine ⟨?_⟩; first | assumption | (simp only [List.length_cons, List.length_nil]; omega) | omega)
    | (rw [pullC_no (by assumption)]; rfl)
    | (rw [pullC_st (by assumption) (by first | exact .inl (by assumption) | exact .inr (.inl (by omega)) | exact .inr (.inr (by assumption)))]; rfl)
    | (rw [pullC_t (by assumption) (nst (by assumption) (by omega) (by assumption)) (by assumption)]; rfl)
    | (rw [pullC_0 (by assumption) (nst (by assumption) (by omega) (by assumption)) (by assumption)]; rfl)
    | trace_state
theorem ok_spec_Pull : FunOk Tryz.prog c_spec_Pull := funOk (E := [c_spec_CoreOk, c_spec_l12Copy, c_spec_Fetch, c_spec_l9Trap, c_spec_Guess]) (envOk_cons ok_spec_CoreOk (envOk_cons ok_spec_l12Copy (envOk_cons ok_spec_Fetch (envOk_cons ok_spec_l9Trap (envOk_cons ok_spec_Guess (envOk_nil)))))) mixd Tryz.func45 (pf := pf_spec_Pull) (by kernel_rfl) fun ts K h => by
  obtain ⟨t0, t1, e0, h⟩ := as2_out h
  subst e0
  obtain ⟨l, e1, hq⟩ := arC_out (rd_l .inst) h
  clear h
  subst e1
  have h := hq
  clear hq
  obtain ⟨c, e1, hq⟩ := arG_out rd_core h
  clear h
  subst e1
  have h := hq
  clear hq
  obtain ⟨hpre, h⟩ := chk_o h
  exact ⟨_, _, h, Nat.le_of_ble_eq_true (show Nat.ble 2 Tryz.f45.ntmps = true by kernel_rfl), _, run_spec_Pull l c hpre⟩

theorem getE_ok {c : Core} (h : coreOk c = true) {k : Nat} (hk : k < c.rob.length) : entryOk (c.rob.getD k (FT.zero .entry)) = true := by
  rw [List.getD_eq_getElem?_getD, List.getElem?_eq_getElem hk]
  exact (coreOk_iff.1 h).2.2.1 _ (List.getElem_mem hk)
theorem entryOk_in {e : Entry} (h : entryOk e = true) : (0 ≤ e.x.a ∧ e.x.a ≤ 7) ∧ (0 ≤ e.x.b ∧ e.x.b ≤ 7) := by
  simp only [entryOk, Bool.and_eq_true, Bool.or_eq_true, decide_eq_true_eq] at h
  rcases h.1.1.1.2 with hx | hx
  · exact insOk_in hx
  · rw [hx]; decide
theorem valueR_eq {c : Core} {i r : Int} (h : 0 ≤ r ∧ r ≤ 7) (h2 : coreOk c = true) : valueR c i r = valueC c i r := valueR_ok (inR_t.2 h) h2
def atE (c : Core) (i : Int) : Entry := c.rob.getD i.toNat (FT.zero .entry)
theorem atE_in {c : Core} (h : coreOk c = true) {i : Int} (h0 : 0 ≤ i) (h1 : i < c.rob.length) : (0 ≤ (atE c i).x.a ∧ (atE c i).x.a ≤ 7) ∧ (0 ≤ (atE c i).x.b ∧ (atE c i).x.b ≤ 7) :=
  entryOk_in (getE_ok h (by omega))
def blkE (e : Entry) : Bool := (e.x.op == 11 && !e.done) || e.x.op == 14
def rdyC (c : Core) (i p : Int) : Bool := !hasC (atE c i).x.op p || (valueC c i (partI (atE c i).x p)).2
def readyC (c : Core) (i : Int) : Bool := coreOk c && inR i 0 (c.rob.length - 1) && !(atE c i).done && rdyC c i 65 && rdyC c i 66 && ((atE c i).x.op != 10 || !(c.rob.take i.toNat).any blkE)
theorem part65 (x : Inst) : partI x 65 = x.a := rfl
theorem part66 (x : Inst) : partI x 66 = x.b := rfl
theorem hasA (x : Inst) : hasC x.op 65 = (andI (maskI x.op) 2 != 0) := by
  obtain ⟨op, r, a, b, n⟩ := x
  dsimp only
  by_cases h : 1 ≤ op ∧ op ≤ 15
  · have hop : op = 1 ∨ op = 2 ∨ op = 3 ∨ op = 4 ∨ op = 5 ∨ op = 6 ∨ op = 7 ∨ op = 8 ∨ op = 9 ∨ op = 10 ∨ op = 11 ∨ op = 12 ∨ op = 13 ∨ op = 14 ∨ op = 15 := by omega
    rcases hop with rfl | rfl | rfl | rfl | rfl | rfl | rfl | rfl | rfl | rfl | rfl | rfl | rfl | rfl | rfl <;> decide
  · have e1 : maskI op = 0 := by unfold maskI; rw [if_neg (by rw [inR_t]; exact h)]
    have e2 : formS op = ⟨#[]⟩ := by
      unfold formS
      rw [if_neg (by omega), if_neg (by omega), if_neg (by omega), if_neg (by omega), if_neg (by omega), if_neg (by omega), if_neg (by omega), if_neg (by omega)]
    rw [e1, hasC, e2]; decide
theorem hasB (x : Inst) : hasC x.op 66 = (andI (maskI x.op) 4 != 0) := by
  obtain ⟨op, r, a, b, n⟩ := x
  dsimp only
  by_cases h : 1 ≤ op ∧ op ≤ 15
  · have hop : op = 1 ∨ op = 2 ∨ op = 3 ∨ op = 4 ∨ op = 5 ∨ op = 6 ∨ op = 7 ∨ op = 8 ∨ op = 9 ∨ op = 10 ∨ op = 11 ∨ op = 12 ∨ op = 13 ∨ op = 14 ∨ op = 15 := by omega
    rcases hop with rfl | rfl | rfl | rfl | rfl | rfl | rfl | rfl | rfl | rfl | rfl | rfl | rfl | rfl | rfl <;> decide
  · have e1 : maskI op = 0 := by unfold maskI; rw [if_neg (by rw [inR_t]; exact h)]
    have e2 : formS op = ⟨#[]⟩ := by
      unfold formS
      rw [if_neg (by omega), if_neg (by omega), if_neg (by omega), if_neg (by omega), if_neg (by omega), if_neg (by omega), if_neg (by omega), if_neg (by omega)]
    rw [e1, hasC, e2]; decide

def pf_impl_known : PF := ⟨[.t 6], .seq (.reg [.s (.box 3 (.t 0)), .s (.mv 6 (.k (.v (.c .ff))))]) (.seq (.reg [.s (.fa 10 (.t 3) 10), .s (.load 11 false 1 (.t 10)), .s (.mv 12 (.t 1)), .s (.ia 13 .entry (.t 11) (.t 12)), .s (.fa 14 (.t 13) 6), .s (.load 15 true 5 (.t 14)), .s (.alloc 7 [.int .i64 0, .int .i64 0, .int .i64 0, .int .i64 0, .int .i64 0]), .s (.store 5 (.t 7) (.t 15))]) (.seq (.seq (.reg [.s (.load 16 true 5 (.t 7)), .s (.mv 17 (.t 2)), .s (.call (some 18) 109 [(.t 16), (.t 17)]), .s (.bnot 19 (.t 18))]) (.cond (.t 19) (.seq (.reg [.s (.mv 6 (.k (.v (.c .tt))))]) (.ret)) (.skip))) (.seq (.rgd [] [.s (.load 21 true 19 (.t 3)), .s (.mv 22 (.t 1)), .s (.load 23 true 5 (.t 7)), .s (.mv 24 (.t 2)), .s (.call (some 25) 108 [(.t 23), (.t 24)]), .s (.call (some 26) 166 [(.t 21), (.t 22), (.t 25)]), .s (.mv 20 (.t 26)), .s (.ext 27 (.t 20) 0), .s (.ext 28 (.t 20) 1), .s (.alloc 8 [.int .i64 0, .ff, .int .i64 0, .int .i64 0, .int .i64 0, .int .i64 0]), .s (.store 6 (.t 8) (.t 27)), .s (.mv 9 (.t 28))] (.tk 0 (.tk 1 (.tk 2 (.tk 3 (.alt 4 false (.alt 5 false (.tk 6 (.tk 7 (.tk 8 (.one 9 false (.one 10 true (.tk 11 (.done (some [9])))))))) (.alt 9 false (.one 5 true (.tk 6 (.tk 7 (.tk 8 (.one 10 true (.tk 11 (.done (some [9])))))))) (.nil))) (.alt 9 false (.one 4 false (.one 5 true (.tk 6 (.tk 7 (.tk 8 (.one 10 true (.tk 11 (.done (some [9]))))))))) (.nil)))))))) (.seq (.reg [.s (.mv 29 (.t 9)), .s (.mv 6 (.t 29))]) (.ret)))))⟩
def c_impl_known : Fun := ⟨164, [], fun ts K => as3 ts fun t0 t1 t2 => arG pCoreT t0 fun c => arC (pI .i64) t1 fun i => arC (pI .u8) t2 fun p => chk (LCore c 2147483647 ∧ 0 ≤ i ∧ i < c.rob.length) (K (tB (!hasC (atE c i).x.op p || (valueR c i (partI (atE c i).x p)).2)) [])⟩
theorem run_impl_known (c : Core) (i : Int) (p : Int) (hpre : LCore c 2147483647 ∧ 0 ≤ i ∧ i < c.rob.length) : runK [c_impl_partOf, c_impl_hasPart, c_impl_Value] (0) [] pf_impl_known [tG (c.tc false []), tI .i64 i, tI .u8 p] fun r o => r = tB (!hasC (atE c i).x.op p || (valueR c i (partI (atE c i).x p)).2) ∧ o = [] := by
  obtain ⟨l0, l1, l2⟩ := hpre
  conv => whnf
  repeat' (first | (refine sel_i (fun h => ?_) (fun h => ?_) <;> conv => whnf) | (refine chk_c ?_ ?_ <;> conv => whnf) | (refine And.intro ?_ rfl) | (refine And.intro ?_ ?_ <;> conv => whnf))
  all_goals (try simp only [etaKey, etaWord, etaInst, etaEff, etaEntry, etaMemory, etaState, etaCore, Bool.not_eq_true', Bool.not_eq_false', bne_iff_ne, ne_eq, bne_eq_false_iff_eq, beq_iff_eq, beq_eq_false_iff_ne, decide_eq_true_eq, decide_eq_false_iff_not, ge_iff_le] at *)
  all_goals first
    | (refine ⟨?_⟩; first | assumption | omega)
    | (unfold atE; simp only [*, Bool.not_true, Bool.not_false, Bool.true_or, Bool.false_or]; done)
    | trace_state
theorem ok_impl_known : FunOk Tryz.prog c_impl_known := funOk (E := [c_impl_partOf, c_impl_hasPart, c_impl_Value]) (envOk_cons ok_impl_partOf (envOk_cons ok_impl_hasPart (envOk_cons ok_impl_Value (envOk_nil)))) mixd Tryz.func164 (pf := pf_impl_known) (by kernel_rfl) fun ts K h => by
  obtain ⟨t0, t1, t2, e0, h⟩ := as3_out h
  subst e0
  obtain ⟨c, e1, hq⟩ := arG_out rd_core h
  clear h
  subst e1
  have h := hq
  clear hq
  obtain ⟨i, e1, hq⟩ := arC_out (rd_int .i64) h
  clear h
  subst e1
  have h := hq
  clear hq
  obtain ⟨p, e1, hq⟩ := arC_out (rd_int .u8) h
  clear h
  subst e1
  have h := hq
  clear hq
  obtain ⟨hpre, h⟩ := chk_o h
  exact ⟨_, _, h, Nat.le_of_ble_eq_true (show Nat.ble 3 Tryz.f164.ntmps = true by kernel_rfl), _, run_impl_known c i p hpre⟩

def pf_impl_Ready_1 : PF := ⟨[.t 2], .seq (.reg [.s (.box 1 (.t 0)), .s (.mv 2 (.k (.v (.c .ff))))]) (.seq (.reg [.s (.fa 3 (.t 1) 6), .s (.fa 4 (.t 3) 0), .s (.load 5 false 1 (.t 4)), .s (.bin 6 .eql (.t 5) (.k (.v (.c (.int .i64 11))))), .s (.mv 7 (.t 6)), .g 7 true (some 8) (.fa 8 (.t 1) 11), .g 7 true (some 9) (.load 9 false 1 (.t 8)), .g 7 true (some 10) (.bnot 10 (.t 9)), .s (.pick 11 (.t 7) (.t 10) (.k (.v (.c .ff)))), .s (.mv 12 (.t 11)), .g 12 false (some 13) (.fa 13 (.t 1) 6), .g 12 false (some 14) (.fa 14 (.t 13) 0), .g 12 false (some 15) (.load 15 false 1 (.t 14)), .g 12 false (some 16) (.bin 16 .eql (.t 15) (.k (.v (.c (.int .i64 14))))), .s (.pick 17 (.t 12) (.k (.v (.c .tt))) (.t 16)), .s (.mv 2 (.t 17))]) (.ret))⟩
def c_impl_Ready_1 : Fun := ⟨165, [], fun ts K => as1 ts fun t0 => arG pEntryT t0 fun e => K (tB (blkE e)) []⟩
theorem run_impl_Ready_1 (e : Entry) : runK [] (0) [] pf_impl_Ready_1 [tG (e.tc [])] fun r o => r = tB (blkE e) ∧ o = [] := by
  conv => whnf
  repeat' (first | (refine sel_i (fun h => ?_) (fun h => ?_) <;> conv => whnf) | (refine chk_c ?_ ?_ <;> conv => whnf) | (refine And.intro ?_ rfl) | (refine And.intro ?_ ?_ <;> conv => whnf))
  all_goals (unfold blkE; simp only [*, Bool.true_and, Bool.false_and, Bool.true_or, Bool.false_or]; first | done | trace_state)
theorem ok_impl_Ready_1 : FunOk Tryz.prog c_impl_Ready_1 := funOk (E := []) (envOk_nil) mixd Tryz.func165 (pf := pf_impl_Ready_1) (by kernel_rfl) fun ts K h => by
  obtain ⟨t0, e0, h⟩ := as1_out h
  subst e0
  obtain ⟨e, e1, hq⟩ := arG_out rd_entry h
  clear h
  subst e1
  have h := hq
  clear hq
  exact ⟨_, _, h, Nat.le_of_ble_eq_true (show Nat.ble 1 Tryz.f165.ntmps = true by kernel_rfl), _, run_impl_Ready_1 e⟩

def c_slices_IndexFunc_Entry__impl_Ready_1 : Fun := ⟨160, [], fun ts K => as2 ts fun t0 t1 => arC (pL .entry) t0 fun xs => arF0 165 t1 fun g => chk (xs.length ≤ 2147483647) (K (tN (idxOf (fun e => blkE e) xs)) [])⟩
theorem run_slices_IndexFunc_Entry__impl_Ready_1 (xs : List (FT.Ty .entry)) (g : Unit) (hpre : xs.length ≤ 2147483647) : runK [c_impl_Ready_1] (xs.length + 1) [] pf_slices_IndexFunc_Entry [tL false .entry xs, .fn 165 []] fun r o => r = tN (idxOf (fun e => blkE e) xs) ∧ o = [] := by
  conv => whnf
  refine loop (α := Nat) (fun i => ⟨[(0, .v (.c (.sl false .entry 0))), (1, .fn 165 []), (7, .v (.c (.int .i64 (xs.length : Int)))), (8, .v (.c (.int .i64 (i : Int))))], [(0, some (.flat false .entry none xs))], nums.tail, [], false, []⟩)
      (fun i => i ≤ xs.length ∧ idxOf (fun e => blkE e) xs = idxGo (fun e => blkE e) (xs.drop i) i) (fun i => xs.length - i) (fun i R hI hR => ?_) 0 _ ⟨by simp, rfl⟩ (by simp)
  obtain ⟨hi, hx⟩ := hI
  conv => whnf
  refine sel_i (fun h2 => ?_) (fun h2 => ?_)
  · have hlt : i < xs.length := by simp at h2; omega
    conv => whnf
    repeat (refine chk_i (by first | omega | (simp; omega)) ?_; conv => whnf)
    refine sel_i (fun h3 => ?_) (fun h3 => ?_)
    · conv => whnf
      rw [hx, idxGo_yes (z := FT.zero .entry) hlt (by first | (simp only [keyEq] at h3; exact h3) | (simpa using h3))]
      exact ⟨rfl, rfl⟩
    · conv => whnf
      rw [wrap_id (n := (i : Int) + 1) (by omega) (by omega)]
      exact hR (i + 1) ⟨by omega, by rw [hx, idxGo_no (z := FT.zero .entry) hlt (by first | (simp only [keyEq] at h3; exact h3) | (simpa using h3))]⟩ (by omega)
  · conv => whnf
    rw [hx, idxGo_end (by simp at h2; omega)]
    exact ⟨rfl, rfl⟩
theorem ok_slices_IndexFunc_Entry__impl_Ready_1 : FunOk Tryz.prog c_slices_IndexFunc_Entry__impl_Ready_1 := funOk (E := [c_impl_Ready_1]) (envOk_cons ok_impl_Ready_1 (envOk_nil)) mixd Tryz.func160 (pf := pf_slices_IndexFunc_Entry) (by kernel_rfl) fun ts K h => by
  obtain ⟨t0, t1, e0, h⟩ := as2_out h
  subst e0
  obtain ⟨xs, e1, hq⟩ := arC_out (rd_l .entry) h
  clear h
  subst e1
  have h := hq
  clear hq
  obtain ⟨g, e1, hq⟩ := arF0_out h
  clear h
  subst e1
  have h := hq
  clear hq
  obtain ⟨hpre, h⟩ := chk_o h
  exact ⟨_, _, h, Nat.le_of_ble_eq_true (show Nat.ble 2 Tryz.f160.ntmps = true by kernel_rfl), _, run_slices_IndexFunc_Entry__impl_Ready_1 xs g hpre⟩

def c_slices_ContainsFunc_Entry__impl_Ready_1 : Fun := ⟨119, [], fun ts K => as2 ts fun t0 t1 => arC (pL .entry) t0 fun xs => arF0 165 t1 fun g => chk (xs.length ≤ 2147483647) (K (tB (xs.any (fun e => blkE e))) [])⟩
theorem run_slices_ContainsFunc_Entry__impl_Ready_1 (xs : List (FT.Ty .entry)) (g : Unit) (hpre : xs.length ≤ 2147483647) : runK [c_slices_IndexFunc_Entry__impl_Ready_1, c_impl_Ready_1] (0) [] pf_slices_ContainsFunc_Entry [tL false .entry xs, .fn 165 []] fun r o => r = tB (xs.any (fun e => blkE e)) ∧ o = [] := by
  conv => whnf
  repeat' (first | (refine sel_i (fun h => ?_) (fun h => ?_) <;> conv => whnf) | (refine chk_c ?_ ?_ <;> conv => whnf) | (refine And.intro ?_ rfl) | (refine And.intro ?_ ?_ <;> conv => whnf))
  all_goals first | (refine ⟨?_⟩; exact hpre) | exact hpre | (rw [← idxOf_any]; rfl) | (rw [← idxOf_any])
theorem ok_slices_ContainsFunc_Entry__impl_Ready_1 : FunOk Tryz.prog c_slices_ContainsFunc_Entry__impl_Ready_1 := funOk (E := [c_slices_IndexFunc_Entry__impl_Ready_1, c_impl_Ready_1]) (envOk_cons ok_slices_IndexFunc_Entry__impl_Ready_1 (envOk_cons ok_impl_Ready_1 (envOk_nil))) mixd Tryz.func119 (pf := pf_slices_ContainsFunc_Entry) (by kernel_rfl) fun ts K h => by
  obtain ⟨t0, t1, e0, h⟩ := as2_out h
  subst e0
  obtain ⟨xs, e1, hq⟩ := arC_out (rd_l .entry) h
  clear h
  subst e1
  have h := hq
  clear hq
  obtain ⟨g, e1, hq⟩ := arF0_out h
  clear h
  subst e1
  have h := hq
  clear hq
  obtain ⟨hpre, h⟩ := chk_o h
  exact ⟨_, _, h, Nat.le_of_ble_eq_true (show Nat.ble 2 Tryz.f119.ntmps = true by kernel_rfl), _, run_slices_ContainsFunc_Entry__impl_Ready_1 xs g hpre⟩

def pf_impl_Ready : PF := ⟨[.t 4], .seq (.reg [.s (.box 2 (.t 0)), .s (.mv 4 (.k (.v (.c .ff))))]) (.seq (.seq (.reg [.s (.load 5 true 19 (.t 2)), .s (.call (some 6) 70 [(.t 5)]), .s (.bnot 7 (.t 6)), .s (.mv 8 (.t 7)), .g 8 false (some 9) (.mv 9 (.t 1)), .g 8 false (some 10) (.fa 10 (.t 2) 10), .g 8 false (some 11) (.load 11 false 1 (.t 10)), .g 8 false (some 12) (.len 12 false (.t 11)), .g 8 false (some 13) (.bin 13 .sub (.t 12) (.k (.v (.c (.int .i64 1))))), .g 8 false (some 14) (.call (some 14) 36 [(.t 9), (.k (.v (.c (.int .i64 0)))), (.t 13)]), .g 8 false (some 15) (.bnot 15 (.t 14)), .s (.pick 16 (.t 8) (.k (.v (.c .tt))) (.t 15)), .s (.mv 17 (.t 16)), .g 17 false (some 18) (.fa 18 (.t 2) 10), .g 17 false (some 19) (.load 19 false 1 (.t 18)), .g 17 false (some 20) (.mv 20 (.t 1)), .g 17 false (some 21) (.ia 21 .entry (.t 19) (.t 20)), .g 17 false (some 22) (.fa 22 (.t 21) 11), .g 17 false (some 23) (.load 23 false 1 (.t 22)), .s (.pick 24 (.t 17) (.k (.v (.c .tt))) (.t 23)), .s (.mv 25 (.t 24)), .g 25 false (some 26) (.load 26 true 19 (.t 2)), .g 25 false (some 27) (.mv 27 (.t 1)), .g 25 false (some 28) (.call (some 28) 164 [(.t 26), (.t 27), (.k (.v (.c (.int .u8 65))))]), .g 25 false (some 29) (.bnot 29 (.t 28)), .s (.pick 30 (.t 25) (.k (.v (.c .tt))) (.t 29)), .s (.mv 31 (.t 30)), .g 31 false (some 32) (.load 32 true 19 (.t 2)), .g 31 false (some 33) (.mv 33 (.t 1)), .g 31 false (some 34) (.call (some 34) 164 [(.t 32), (.t 33), (.k (.v (.c (.int .u8 66))))]), .g 31 false (some 35) (.bnot 35 (.t 34)), .s (.pick 36 (.t 31) (.k (.v (.c .tt))) (.t 35))]) (.cond (.t 36) (.seq (.reg [.s (.mv 4 (.k (.v (.c .ff))))]) (.ret)) (.skip))) (.seq (.reg [.s (.fa 37 (.t 2) 10), .s (.load 38 false 1 (.t 37)), .s (.mv 39 (.t 1)), .s (.ia 40 .entry (.t 38) (.t 39)), .s (.fa 41 (.t 40) 6), .s (.fa 42 (.t 41) 0), .s (.load 43 false 1 (.t 42)), .s (.bin 44 .neq (.t 43) (.k (.v (.c (.int .i64 10))))), .s (.mv 45 (.t 44)), .g 45 false (some 46) (.fa 46 (.t 2) 10), .g 45 false (some 47) (.load 47 false 1 (.t 46)), .g 45 false (some 48) (.mv 48 (.t 1)), .g 45 false (some 49) (.slc 49 .entry (.t 47) none (some (.t 48))), .g 45 false (some 50) (.call (some 50) 119 [(.t 49), (.k (.fn 165 []))]), .g 45 false (some 51) (.bnot 51 (.t 50)), .s (.pick 52 (.t 45) (.k (.v (.c .tt))) (.t 51)), .s (.mv 4 (.t 52))]) (.ret)))⟩
def c_impl_Ready : Fun := ⟨127, [], fun ts K => as2 ts fun t0 t1 => arG pCoreT t0 fun c => arC (pI .i64) t1 fun i => chk (LCore c 2147483647) (K (tB (readyC c i)) [])⟩
theorem run_impl_Ready (c : Core) (i : Int) (hpre : LCore c 2147483647) : runK [c_impl_in, c_impl_CoreOk, c_slices_ContainsFunc_Entry__impl_Ready_1, c_impl_known, c_impl_Ready_1] (0) [] pf_impl_Ready [tG (c.tc false []), tI .i64 i] fun r o => r = tB (readyC c i) ∧ o = [] := by
  have w1 : coreOk c = true → IntKind.i64.wrap ((c.rob.length : Int) - 1) = (c.rob.length : Int) - 1 := fun h => by
    have := coreOk_len h
    exact wrap_id (by omega) (by omega)
  have kA : coreOk c = true → inR i 0 (c.rob.length - 1) = true → valueR c i (partI (atE c i).x 65) = valueC c i (partI (atE c i).x 65) := fun h h2 => by
    have hr := inR_t.1 h2
    exact valueR_eq (atE_in h (by omega) (by omega)).1 h
  have kB : coreOk c = true → inR i 0 (c.rob.length - 1) = true → valueR c i (partI (atE c i).x 66) = valueC c i (partI (atE c i).x 66) := fun h h2 => by
    have hr := inR_t.1 h2
    exact valueR_eq (atE_in h (by omega) (by omega)).2 h
  have g1 : win c.rob 0 i.toNat = c.rob.take i.toNat := by unfold win; rw [List.drop_zero]
  conv => whnf
  repeat' (first | (refine sel_i (fun h => ?_) (fun h => ?_) <;> conv => whnf) | (refine chk_c ?_ ?_ <;> conv => whnf) | (refine And.intro ?_ rfl) | (refine And.intro ?_ ?_ <;> conv => whnf))
  all_goals (try simp only [etaKey, etaWord, etaInst, etaEff, etaEntry, etaMemory, etaState, etaCore, Bool.not_eq_true', Bool.not_eq_false', show c.rob.getD i.toNat (FT.zero .entry) = atE c i from rfl] at *)
  all_goals (try rw [w1 (by assumption)] at *)
  all_goals (try have hr := inR_t.1 (show inR i 0 (c.rob.length - 1) = true by assumption))
  all_goals (try have hc := coreOk_len (c := c) (by assumption))
  all_goals (try rw [kA (by assumption) (by assumption)] at *)
  all_goals (try rw [kB (by assumption) (by assumption)] at *)
  all_goals first
    | (refine ⟨?_⟩; first | assumption | exact coreOk_l (by assumption) | exact ⟨coreOk_l (by assumption), by omega, by omega⟩ | omega | (rw [g1, List.length_take]; omega))
    | (unfold readyC rdyC; simp only [*, Bool.and_true, Bool.true_and, Bool.and_false, Bool.false_and, Bool.or_true, Bool.true_or, Bool.or_false, Bool.false_or, Bool.not_true, Bool.not_false]; done)
    | trace_state
theorem ok_impl_Ready : FunOk Tryz.prog c_impl_Ready := funOk (E := [c_impl_in, c_impl_CoreOk, c_slices_ContainsFunc_Entry__impl_Ready_1, c_impl_known, c_impl_Ready_1]) (envOk_cons ok_impl_in (envOk_cons ok_impl_CoreOk (envOk_cons ok_slices_ContainsFunc_Entry__impl_Ready_1 (envOk_cons ok_impl_known (envOk_cons ok_impl_Ready_1 (envOk_nil)))))) mixd Tryz.func127 (pf := pf_impl_Ready) (by kernel_rfl) fun ts K h => by
  obtain ⟨t0, t1, e0, h⟩ := as2_out h
  subst e0
  obtain ⟨c, e1, hq⟩ := arG_out rd_core h
  clear h
  subst e1
  have h := hq
  clear hq
  obtain ⟨i, e1, hq⟩ := arC_out (rd_int .i64) h
  clear h
  subst e1
  have h := hq
  clear hq
  obtain ⟨hpre, h⟩ := chk_o h
  exact ⟨_, _, h, Nat.le_of_ble_eq_true (show Nat.ble 2 Tryz.f127.ntmps = true by kernel_rfl), _, run_impl_Ready c i hpre⟩

theorem readyC_eq (c : Core) (i : Int) : readyC c i = (coreOk c && inR i 0 (c.rob.length - 1) && !(atE c i).done && (!(andI (maskI (atE c i).x.op) 2 != 0) || (valueC c i (atE c i).x.a).2) && (!(andI (maskI (atE c i).x.op) 4 != 0) || (valueC c i (atE c i).x.b).2) && ((atE c i).x.op != 10 || !(c.rob.take i.toNat).any blkE)) := by
  unfold readyC rdyC
  rw [hasA, hasB, part65, part66]
theorem any_take_no {α : Type} {p : α → Bool} {z : α} {xs : List α} {m k : Nat} (hk : k < m) (hm : m ≤ xs.length) (hp : p (xs.getD k z) = false) (hx : ((xs.take m).drop k).any p = (xs.take m).any p) : ((xs.take m).drop (k + 1)).any p = (xs.take m).any p :=
  any_no (z := z) (by rw [List.length_take]; omega) (by rw [List.getD_eq_getElem?_getD, List.getElem?_take, if_pos hk, ← List.getD_eq_getElem?_getD]; exact hp) hx
theorem any_take_yes {α : Type} {p : α → Bool} {z : α} {xs : List α} {m k : Nat} (hk : k < m) (hm : m ≤ xs.length) (hp : p (xs.getD k z) = true) (hx : ((xs.take m).drop k).any p = (xs.take m).any p) : (xs.take m).any p = true :=
  any_yes (z := z) (by rw [List.length_take]; omega) (by rw [List.getD_eq_getElem?_getD, List.getElem?_take, if_pos hk, ← List.getD_eq_getElem?_getD]; exact hp) hx
theorem any_take_end {α : Type} {p : α → Bool} {xs : List α} {m k : Nat} (hk : m ≤ k) (hx : ((xs.take m).drop k).any p = (xs.take m).any p) : (xs.take m).any p = false :=
  any_end (by rw [List.length_take]; omega) hx
theorem blkE_eq (e : Entry) : blkE e = ((e.x.op == 11 && !e.done) || e.x.op == 14) := rfl

def lb_spec_Ready_0 : PC := .seq (.seq (.reg [.s (.mv 74 (.t 11)), .s (.mv 75 (.t 1)), .s (.bin 76 .lss (.t 74) (.t 75)), .s (.mv 77 (.t 76)), .g 77 true (some 78) (.fa 78 (.t 5) 0), .g 77 true (some 79) (.load 79 false 1 (.t 78)), .g 77 true (some 80) (.bin 80 .eql (.t 79) (.k (.v (.c (.int .i64 10))))), .s (.pick 81 (.t 77) (.t 80) (.k (.v (.c .ff))))]) (.cond (.t 81) (.skip) (.exit 0))) (.seq (.blk 1 (.seq (.reg [.s (.fa 84 (.t 2) 10), .s (.load 85 false 1 (.t 84)), .s (.mv 86 (.t 11)), .s (.ia 87 .entry (.t 85) (.t 86)), .s (.load 88 true 40 (.t 87)), .s (.alloc 12 [.int .i64 0, .ff, .int .i64 0, .int .i64 0, .int .i64 0, .int .i64 0, .int .i64 0, .int .i64 0, .int .i64 0, .int .i64 0, .int .i64 0, .ff, .int .i64 0, .int .i64 0, .int .i64 0, .ff, .int .i64 0, .int .i64 0, .int .i64 0, .int .i64 0, .int .i64 0, .ff, .int .i64 0, .int .i64 0, .int .i64 0, .int .i64 0, .int .i64 0, .int .i64 0, .ff, .int .i64 0, .int .i64 0, .int .i64 0, .int .i64 0, .int .i64 0, .int .i64 0, .ff, .int .i64 0, .int .i64 0, .int .i64 0, .int .i64 0]), .s (.store 40 (.t 12) (.t 88))]) (.seq (.reg [.s (.fa 89 (.t 12) 6), .s (.fa 90 (.t 89) 0), .s (.load 91 false 1 (.t 90)), .s (.bin 92 .eql (.t 91) (.k (.v (.c (.int .i64 11))))), .s (.mv 93 (.t 92)), .g 93 true (some 94) (.fa 94 (.t 12) 11), .g 93 true (some 95) (.load 95 false 1 (.t 94)), .g 93 true (some 96) (.bnot 96 (.t 95)), .s (.pick 97 (.t 93) (.t 96) (.k (.v (.c .ff)))), .s (.mv 98 (.t 97)), .g 98 false (some 99) (.fa 99 (.t 12) 6), .g 98 false (some 100) (.fa 100 (.t 99) 0), .g 98 false (some 101) (.load 101 false 1 (.t 100)), .g 98 false (some 102) (.bin 102 .eql (.t 101) (.k (.v (.c (.int .i64 14))))), .s (.pick 103 (.t 98) (.k (.v (.c .tt))) (.t 102))]) (.cond (.t 103) (.seq (.reg [.s (.mv 4 (.k (.v (.c .ff))))]) (.ret)) (.skip))))) (.reg [.s (.mv 82 (.t 11)), .s (.bin 83 .add (.t 82) (.k (.v (.c (.int .i64 1))))), .s (.mv 11 (.t 83))]))
def pf_spec_Ready : PF := ⟨[.t 4], .seq (.reg [.s (.box 2 (.t 0)), .s (.mv 4 (.k (.v (.c .ff))))]) (.seq (.seq (.reg [.s (.load 13 true 19 (.t 2)), .s (.call (some 14) 83 [(.t 13)]), .s (.bnot 15 (.t 14)), .s (.mv 16 (.t 15)), .g 16 false (some 17) (.mv 17 (.t 1)), .g 16 false (some 18) (.fa 18 (.t 2) 10), .g 16 false (some 19) (.load 19 false 1 (.t 18)), .g 16 false (some 20) (.len 20 false (.t 19)), .g 16 false (some 21) (.bin 21 .sub (.t 20) (.k (.v (.c (.int .i64 1))))), .g 16 false (some 22) (.call (some 22) 42 [(.t 17), (.k (.v (.c (.int .i64 0)))), (.t 21)]), .g 16 false (some 23) (.bnot 23 (.t 22)), .s (.pick 24 (.t 16) (.k (.v (.c .tt))) (.t 23)), .s (.mv 25 (.t 24)), .g 25 false (some 26) (.fa 26 (.t 2) 10), .g 25 false (some 27) (.load 27 false 1 (.t 26)), .g 25 false (some 28) (.mv 28 (.t 1)), .g 25 false (some 29) (.ia 29 .entry (.t 27) (.t 28)), .g 25 false (some 30) (.fa 30 (.t 29) 11), .g 25 false (some 31) (.load 31 false 1 (.t 30)), .s (.pick 32 (.t 25) (.k (.v (.c .tt))) (.t 31))]) (.cond (.t 32) (.seq (.reg [.s (.mv 4 (.k (.v (.c .ff))))]) (.ret)) (.skip))) (.seq (.reg [.s (.fa 33 (.t 2) 10), .s (.load 34 false 1 (.t 33)), .s (.mv 35 (.t 1)), .s (.ia 36 .entry (.t 34) (.t 35)), .s (.fa 37 (.t 36) 6), .s (.load 38 true 5 (.t 37)), .s (.alloc 5 [.int .i64 0, .int .i64 0, .int .i64 0, .int .i64 0, .int .i64 0]), .s (.store 5 (.t 5) (.t 38))]) (.seq (.reg [.s (.fa 39 (.t 5) 0), .s (.load 40 false 1 (.t 39)), .s (.call (some 41) 143 [(.t 40)]), .s (.mv 6 (.t 41))]) (.seq (.reg [.s (.load 43 true 19 (.t 2)), .s (.mv 44 (.t 1)), .s (.fa 45 (.t 5) 2), .s (.load 46 false 1 (.t 45)), .s (.call (some 47) 171 [(.t 43), (.t 44), (.t 46)]), .s (.mv 42 (.t 47)), .s (.ext 48 (.t 42) 0), .s (.ext 49 (.t 42) 1), .s (.alloc 7 [.int .i64 0, .ff, .int .i64 0, .int .i64 0, .int .i64 0, .int .i64 0]), .s (.store 6 (.t 7) (.t 48)), .s (.mv 8 (.t 49))]) (.seq (.reg [.s (.load 51 true 19 (.t 2)), .s (.mv 52 (.t 1)), .s (.fa 53 (.t 5) 3), .s (.load 54 false 1 (.t 53)), .s (.call (some 55) 171 [(.t 51), (.t 52), (.t 54)]), .s (.mv 50 (.t 55)), .s (.ext 56 (.t 50) 0), .s (.ext 57 (.t 50) 1), .s (.alloc 9 [.int .i64 0, .ff, .int .i64 0, .int .i64 0, .int .i64 0, .int .i64 0]), .s (.store 6 (.t 9) (.t 56)), .s (.mv 10 (.t 57))]) (.seq (.seq (.reg [.s (.mv 58 (.t 6)), .s (.bin 59 .and (.t 58) (.k (.v (.c (.int .i64 2))))), .s (.bin 60 .neq (.t 59) (.k (.v (.c (.int .i64 0))))), .s (.mv 61 (.t 60)), .g 61 true (some 62) (.mv 62 (.t 8)), .g 61 true (some 63) (.bnot 63 (.t 62)), .s (.pick 64 (.t 61) (.t 63) (.k (.v (.c .ff)))), .s (.mv 65 (.t 64)), .g 65 false (some 66) (.mv 66 (.t 6)), .g 65 false (some 67) (.bin 67 .and (.t 66) (.k (.v (.c (.int .i64 4))))), .g 65 false (some 68) (.bin 68 .neq (.t 67) (.k (.v (.c (.int .i64 0))))), .g 65 false (some 69) (.mv 69 (.t 68)), .g 69 true (some 70) (.mv 70 (.t 10)), .g 69 true (some 71) (.bnot 71 (.t 70)), .g 65 false (some 72) (.pick 72 (.t 69) (.t 71) (.k (.v (.c .ff)))), .s (.pick 73 (.t 65) (.k (.v (.c .tt))) (.t 72))]) (.cond (.t 73) (.seq (.reg [.s (.mv 4 (.k (.v (.c .ff))))]) (.ret)) (.skip))) (.seq (.seq (.reg [.s (.mv 11 (.k (.v (.c (.int .i64 0)))))]) (.blk 0 (.loop [1, 2, 5, 11] lb_spec_Ready_0))) (.seq (.reg [.s (.mv 4 (.k (.v (.c .tt))))]) (.ret)))))))))⟩
def c_spec_Ready : Fun := ⟨138, [], fun ts K => as2 ts fun t0 t1 => arG pCoreT t0 fun c => arC (pI .i64) t1 fun i => chk (LCore c 2147483647) (K (tB (readyC c i)) [])⟩
theorem run_spec_Ready (c : Core) (i : Int) (hpre : LCore c 2147483647) : runK [c_spec_l1In, c_spec_CoreOk, c_spec_l6Has, c_spec_l12Value] (c.rob.length + 1) [] pf_spec_Ready [tG (c.tc false []), tI .i64 i] fun r o => r = tB (readyC c i) ∧ o = [] := by
  rw [readyC_eq]
  have w1 : coreOk c = true → IntKind.i64.wrap ((c.rob.length : Int) - 1) = (c.rob.length : Int) - 1 := fun h => by
    have := coreOk_len h
    exact wrap_id (by omega) (by omega)
  conv => whnf
  repeat' (first | (refine sel_i (fun h => ?_) (fun h => ?_) <;> conv => whnf) | (refine chk_c ?_ ?_ <;> conv => whnf) | (refine And.intro ?_ rfl) | (refine And.intro ?_ ?_ <;> conv => whnf))
  all_goals (try simp only [etaKey, etaWord, etaInst, etaEff, etaEntry, etaMemory, etaState, etaCore, andI_eq, Bool.not_eq_true', Bool.not_eq_false', show c.rob.getD i.toNat (FT.zero .entry) = atE c i from rfl] at *)
  all_goals (try rw [w1 (by assumption)] at *)
  all_goals (try have hr := inR_t.1 (show inR i 0 (c.rob.length - 1) = true by assumption))
  all_goals (try have hc := coreOk_len (c := c) (by assumption))
  all_goals (try have ha := atE_in (c := c) (i := i) (by assumption) (by omega) (by omega))
  all_goals first
    | (refine ⟨?_⟩; first | assumption | exact ⟨coreOk_l (by assumption), hc.1.1, by omega, by omega⟩ | omega)
    | (simp only [*, Bool.and_true, Bool.true_and, Bool.and_false, Bool.false_and, Bool.or_true, Bool.true_or, Bool.or_false, Bool.false_or, Bool.not_true, Bool.not_false]; done)
    | skip
  all_goals (simp only [*, Bool.and_true, Bool.true_and, Bool.and_false, Bool.false_and, Bool.or_true, Bool.true_or, Bool.or_false, Bool.false_or, Bool.not_true, Bool.not_false])
  all_goals (refine loop (α := Nat) (fun k => ⟨[(1, .v (.c (.int .i64 i))), (2, .v (.c (.ptr 0 0))), (5, .v (.c (.ptr 6 0))), (11, .v (.c (.int .i64 (k : Int))))],
                      [(6, some (.box true [.int .i64 (atE c i).x.op, .int .i64 (atE c i).x.r, .int .i64 (atE c i).x.a, .int .i64 (atE c i).x.b, .int .i64 (atE c i).x.n])),
                       (5, some (.flat false (.int .i64) none c.guesses)), (4, some (.flat false .entry none c.rob)), (3, some (.flat false .bool none c.s.mem.gone)), (2, some (.flat false .word none c.s.mem.words)), (1, some (.flat false .word none c.s.regs)),
                       (0, some (.box true [.sl false .word 1, .int .i64 c.s.pc.n, .bool c.s.pc.is, .int .i64 c.s.pc.key.base, .int .i64 c.s.pc.key.top, .int .i64 c.s.pc.key.perms, .int .i64 c.s.pc.key.sealed, .sl false .word 2, .sl false .bool 3, .int .i64 c.s.trap,
                         .sl false .entry 4, .int .i64 c.next.n, .bool c.next.is, .int .i64 c.next.key.base, .int .i64 c.next.key.top, .int .i64 c.next.key.perms, .int .i64 c.next.key.sealed, .bool c.stop, .sl false (.int .i64) 5]))], nums.tail.tail.tail.tail.tail.tail.tail, [], false, []⟩)
                    (fun k => (k : Int) ≤ i ∧ ((c.rob.take i.toNat).drop k).any blkE = (c.rob.take i.toNat).any blkE) (fun k => c.rob.length - k) (fun k R hI hR => ?_) 0 _ ⟨by omega, rfl⟩ (by omega))
  all_goals obtain ⟨hk, hx⟩ := hI
  all_goals (have w3 : IntKind.i64.wrap ((k : Int) + 1) = ((k + 1 : Nat) : Int) := by rw [wrap_id (by omega) (by omega)]; rfl)
  all_goals (have hb := blkE_eq (c.rob.getD k (FT.zero .entry)))
  all_goals conv => whnf
  all_goals repeat' (first | (refine sel_i (fun h => ?_) (fun h => ?_) <;> conv => whnf) | (refine chk_c ?_ ?_ <;> conv => whnf) | (refine And.intro ?_ rfl) | (refine And.intro ?_ ?_ <;> conv => whnf))
  all_goals (try simp only [w3, etaInst, etaEff, etaWord, etaKey, Int.toNat_natCast, Bool.not_eq_true', Bool.not_eq_false', decide_eq_true_eq, decide_eq_false_iff_not] at *)
  all_goals first
    | (refine ⟨?_⟩; omega)
    | (rw [any_take_end (by omega) hx]; simp only [Bool.and_true, Bool.true_and, Bool.and_false, Bool.false_and, Bool.or_true, Bool.true_or, Bool.or_false, Bool.false_or, Bool.not_true, Bool.not_false]; done)
    | (rename_i ho; rw [show ((atE c i).x.op != 10) = true by rw [bne, ho]; rfl]; simp only [Bool.and_true, Bool.true_and, Bool.and_false, Bool.false_and, Bool.or_true, Bool.true_or, Bool.or_false, Bool.false_or, Bool.not_true, Bool.not_false]; done)
    | (rw [any_take_yes (z := FT.zero .entry) (by omega) (by omega) (by rw [hb]; simp only [*, Bool.and_true, Bool.true_and, Bool.and_false, Bool.false_and, Bool.or_true, Bool.true_or, Bool.or_false, Bool.false_or, Bool.not_true, Bool.not_false]; done) hx]; rw [show ((atE c i).x.op != 10) = false by rw [bne, show ((atE c i).x.op == 10) = true by assumption]; rfl]; simp only [Bool.and_true, Bool.true_and, Bool.and_false, Bool.false_and, Bool.or_true, Bool.true_or, Bool.or_false, Bool.false_or, Bool.not_true, Bool.not_false]; done)
    | (exact hR (k + 1) ⟨by omega, any_take_no (z := FT.zero .entry) (by omega) (by omega) (by rw [hb]; simp only [*, Bool.and_true, Bool.true_and, Bool.and_false, Bool.false_and, Bool.or_true, Bool.true_or, Bool.or_false, Bool.false_or, Bool.not_true, Bool.not_false]; done) hx⟩ (by omega))
    | trace_state
theorem ok_spec_Ready : FunOk Tryz.prog c_spec_Ready := funOk (E := [c_spec_l1In, c_spec_CoreOk, c_spec_l6Has, c_spec_l12Value]) (envOk_cons ok_spec_l1In (envOk_cons ok_spec_CoreOk (envOk_cons ok_spec_l6Has (envOk_cons ok_spec_l12Value (envOk_nil))))) mixd Tryz.func138 (pf := pf_spec_Ready) (by kernel_rfl) fun ts K h => by
  obtain ⟨t0, t1, e0, h⟩ := as2_out h
  subst e0
  obtain ⟨c, e1, hq⟩ := arG_out rd_core h
  clear h
  subst e1
  have h := hq
  clear hq
  obtain ⟨i, e1, hq⟩ := arC_out (rd_int .i64) h
  clear h
  subst e1
  have h := hq
  clear hq
  obtain ⟨hpre, h⟩ := chk_o h
  exact ⟨_, _, h, Nat.le_of_ble_eq_true (show Nat.ble 2 Tryz.f138.ntmps = true by kernel_rfl), _, run_spec_Ready c i hpre⟩

def hitE (n : Int) (e : Entry) : Bool := e.done && e.x.op == 11 && e.e.trap == 0 && e.e.addr == n
def foundGo (rob : List Entry) (gone : List Bool) (y : Word) (n : Int) (got : Word) : Nat → Word
  | 0 => got
  | k + 1 => if hitE n (rob.getD k (FT.zero .entry)) then filterW gone (takenW y (rob.getD k (FT.zero .entry)).e.put) else foundGo rob gone y n got k
def foundC (c : Core) (i : Int) (y : Word) (n : Int) : Word × Int :=
  if (readM c.s.mem y n).2 ≠ 0 then (zW, (readM c.s.mem y n).2) else (foundGo c.rob c.s.mem.gone y n (readM c.s.mem y n).1 (min i c.rob.length).toNat, 0)
def wordT (p : Word × Int) : Tree := .tup [.g (p.1.tc []), .c (.int .i64 p.2)]
theorem foundGo_yes {rob : List Entry} {gone : List Bool} {y : Word} {n : Int} {got : Word} {k : Nat} (h : hitE n (rob.getD k (FT.zero .entry)) = true) : foundGo rob gone y n got (k + 1) = filterW gone (takenW y (rob.getD k (FT.zero .entry)).e.put) := if_pos h
theorem foundGo_no {rob : List Entry} {gone : List Bool} {y : Word} {n : Int} {got : Word} {k : Nat} (h : hitE n (rob.getD k (FT.zero .entry)) = false) : foundGo rob gone y n got (k + 1) = foundGo rob gone y n got k := if_neg (by rw [h]; decide)
theorem readM_tz {m : Mem} {y : Word} {n : Int} (h : ¬ (readM m y n).2 = 0) : (readM m y n).1 = zW := by
  unfold readM at h ⊢
  split
  · rfl
  · rename_i h2; rw [if_neg h2] at h; exact absurd rfl h
theorem foundC_t {c : Core} {i : Int} {y : Word} {n : Int} (h : ¬ (readM c.s.mem y n).2 = 0) : foundC c i y n = (zW, (readM c.s.mem y n).2) := if_pos h
theorem foundC_0 {c : Core} {i : Int} {y : Word} {n : Int} (h : (readM c.s.mem y n).2 = 0) : foundC c i y n = (foundGo c.rob c.s.mem.gone y n (readM c.s.mem y n).1 (min i c.rob.length).toNat, 0) := if_neg (fun q => q h)

def lb_impl_Found_0 : PC := .seq (.seq (.reg [.s (.mv 32 (.t 12)), .s (.bin 33 .gtr (.t 32) (.k (.v (.c (.int .i64 0)))))]) (.cond (.t 33) (.skip) (.exit 0))) (.seq (.blk 1 (.seq (.reg [.s (.fa 36 (.t 4) 10), .s (.load 37 false 1 (.t 36)), .s (.mv 38 (.t 12)), .s (.bin 39 .sub (.t 38) (.k (.v (.c (.int .i64 1))))), .s (.ia 40 .entry (.t 37) (.t 39)), .s (.load 41 true 40 (.t 40)), .s (.alloc 13 [.int .i64 0, .ff, .int .i64 0, .int .i64 0, .int .i64 0, .int .i64 0, .int .i64 0, .int .i64 0, .int .i64 0, .int .i64 0, .int .i64 0, .ff, .int .i64 0, .int .i64 0, .int .i64 0, .ff, .int .i64 0, .int .i64 0, .int .i64 0, .int .i64 0, .int .i64 0, .ff, .int .i64 0, .int .i64 0, .int .i64 0, .int .i64 0, .int .i64 0, .int .i64 0, .ff, .int .i64 0, .int .i64 0, .int .i64 0, .int .i64 0, .int .i64 0, .int .i64 0, .ff, .int .i64 0, .int .i64 0, .int .i64 0, .int .i64 0]), .s (.store 40 (.t 13) (.t 41))]) (.seq (.reg [.s (.fa 42 (.t 13) 11), .s (.load 43 false 1 (.t 42)), .s (.mv 44 (.t 43)), .g 44 true (some 45) (.fa 45 (.t 13) 6), .g 44 true (some 46) (.fa 46 (.t 45) 0), .g 44 true (some 47) (.load 47 false 1 (.t 46)), .g 44 true (some 48) (.bin 48 .eql (.t 47) (.k (.v (.c (.int .i64 11))))), .s (.pick 49 (.t 44) (.t 48) (.k (.v (.c .ff)))), .s (.mv 50 (.t 49)), .g 50 true (some 51) (.fa 51 (.t 13) 12), .g 50 true (some 52) (.fa 52 (.t 51) 0), .g 50 true (some 53) (.load 53 false 1 (.t 52)), .g 50 true (some 54) (.bin 54 .eql (.t 53) (.k (.v (.c (.int .i64 0))))), .s (.pick 55 (.t 50) (.t 54) (.k (.v (.c .ff)))), .s (.mv 56 (.t 55)), .g 56 true (some 57) (.fa 57 (.t 13) 12), .g 56 true (some 58) (.fa 58 (.t 57) 14), .g 56 true (some 59) (.load 59 false 1 (.t 58)), .g 56 true (some 60) (.mv 60 (.t 3)), .g 56 true (some 61) (.bin 61 .eql (.t 59) (.t 60)), .s (.pick 62 (.t 56) (.t 61) (.k (.v (.c .ff))))]) (.cond (.t 62) (.seq (.rgd [] [.s (.fa 63 (.t 4) 0), .s (.fa 64 (.t 63) 7), .s (.load 65 true 2 (.t 64)), .s (.load 66 true 6 (.t 6)), .s (.fa 67 (.t 13) 12), .s (.fa 68 (.t 67) 15), .s (.load 69 true 6 (.t 68)), .s (.call (some 70) 149 [(.t 66), (.t 69)]), .s (.call (some 71) 148 [(.t 65), (.t 70)]), .s (.store 6 (.t 8) (.t 71)), .s (.mv 9 (.k (.v (.c (.int .i64 0)))))] (.tk 0 (.tk 1 (.tk 2 (.tk 3 (.tk 4 (.tk 5 (.tk 6 (.one 7 false (.one 8 true (.one 9 true (.tk 10 (.done none))))))))))))) (.ret)) (.skip))))) (.reg [.s (.mv 34 (.t 12)), .s (.bin 35 .sub (.t 34) (.k (.v (.c (.int .i64 1))))), .s (.mv 12 (.t 35))]))
def pf_impl_Found : PF := ⟨[.c 8 true 6, .t 9], .seq (.reg [.s (.box 4 (.t 0)), .s (.box 6 (.t 2)), .s (.alloc 8 [.int .i64 0, .ff, .int .i64 0, .int .i64 0, .int .i64 0, .int .i64 0]), .s (.mv 9 (.k (.v (.c (.int .i64 0)))))]) (.seq (.reg [.s (.fa 15 (.t 4) 0), .s (.fa 16 (.t 15) 7), .s (.load 17 true 2 (.t 16)), .s (.load 18 true 6 (.t 6)), .s (.mv 19 (.t 3)), .s (.call (some 20) 103 [(.t 17), (.t 18), (.t 19)]), .s (.mv 14 (.t 20)), .s (.ext 21 (.t 14) 0), .s (.ext 22 (.t 14) 1), .s (.alloc 10 [.int .i64 0, .ff, .int .i64 0, .int .i64 0, .int .i64 0, .int .i64 0]), .s (.store 6 (.t 10) (.t 21)), .s (.mv 11 (.t 22))]) (.seq (.seq (.reg [.s (.mv 23 (.t 11)), .s (.bin 24 .neq (.t 23) (.k (.v (.c (.int .i64 0)))))]) (.cond (.t 24) (.seq (.reg [.s (.load 25 true 6 (.t 10)), .s (.mv 26 (.t 11)), .s (.store 6 (.t 8) (.t 25)), .s (.mv 9 (.t 26))]) (.ret)) (.skip))) (.seq (.seq (.reg [.s (.mv 27 (.t 1)), .s (.fa 28 (.t 4) 10), .s (.load 29 false 1 (.t 28)), .s (.len 30 false (.t 29)), .s (.mm 31 false (.t 27) (.t 30)), .s (.mv 12 (.t 31))]) (.blk 0 (.loop [3, 4, 6, 8, 10, 12] lb_impl_Found_0))) (.seq (.reg [.s (.load 72 true 6 (.t 10)), .s (.store 6 (.t 8) (.t 72)), .s (.mv 9 (.k (.v (.c (.int .i64 0)))))]) (.ret)))))⟩
def c_impl_Found : Fun := ⟨167, [], fun ts K => as4 ts fun t0 t1 t2 t3 => arG pCoreT t0 fun c => arC (pI .i64) t1 fun i => arG pWordT t2 fun y => arC (pI .i64) t3 fun n => chk (LCore c 2147483647) (K (wordT (foundC c i y n)) [])⟩
theorem run_impl_Found (c : Core) (i : Int) (y : Word) (n : Int) (hpre : LCore c 2147483647) : runK [c_impl_Read, c_impl_Filter, c_impl_Taken] (c.rob.length + 1) [] pf_impl_Found [tG (c.tc false []), tI .i64 i, tG (y.tc []), tI .i64 n] fun r o => r = wordT (foundC c i y n) ∧ o = [] := by
  obtain ⟨l1, l2, l3⟩ := hpre
  have l1m := l1.2
  have f1 := @foundC_t c i y n
  have f2 := @foundC_0 c i y n
  have f3 := @readM_tz c.s.mem y n
  conv => whnf
  repeat' (first | (refine sel_i (fun h => ?_) (fun h => ?_) <;> conv => whnf) | (refine chk_c ?_ ?_ <;> conv => whnf) | (refine And.intro ?_ rfl) | (refine And.intro ?_ ?_ <;> conv => whnf))
  all_goals (try simp only [etaKey, etaWord, etaInst, etaEff, etaEntry, etaMemory, etaState, etaCore, Bool.not_eq_true', Bool.not_eq_false', bne_iff_ne, ne_eq, bne_eq_false_iff_eq, beq_iff_eq, beq_eq_false_iff_ne, decide_eq_true_eq, decide_eq_false_iff_not, ge_iff_le] at *)
  all_goals generalize readM c.s.mem y n = RM at *
  all_goals first
    | (refine ⟨?_⟩; assumption)
    | (rw [f1 (by assumption), f3 (by assumption)]; rfl)
    | (rw [f1 (by assumption)]; rfl)
    | skip
  rw [f2 (by assumption)]
  clear f1 f2 f3
  refine loop (α := Int) (fun t => ⟨[(3, .v (.c (.int .i64 n))), (4, .v (.c (.ptr 0 0))), (6, .v (.c (.ptr 6 0))), (8, .v (.c (.ptr 7 0))), (10, .v (.c (.ptr 8 0))), (12, .v (.c (.int .i64 t)))],
        [(8, some (.box true [.int .i64 RM.1.n, .bool RM.1.is, .int .i64 RM.1.key.base, .int .i64 RM.1.key.top, .int .i64 RM.1.key.perms, .int .i64 RM.1.key.sealed])), (7, some (.box true [.int .i64 0, .ff, .int .i64 0, .int .i64 0, .int .i64 0, .int .i64 0])), (6, some (.box true [.int .i64 y.n, .bool y.is, .int .i64 y.key.base, .int .i64 y.key.top, .int .i64 y.key.perms, .int .i64 y.key.sealed])), (5, some (.flat false (.int .i64) none c.guesses)), (4, some (.flat false .entry none c.rob)), (3, some (.flat false .bool none c.s.mem.gone)), (2, some (.flat false .word none c.s.mem.words)), (1, some (.flat false .word none c.s.regs)), (0, some (.box true [.sl false .word 1, .int .i64 c.s.pc.n, .bool c.s.pc.is, .int .i64 c.s.pc.key.base, .int .i64 c.s.pc.key.top, .int .i64 c.s.pc.key.perms, .int .i64 c.s.pc.key.sealed, .sl false .word 2, .sl false .bool 3, .int .i64 c.s.trap, .sl false .entry 4, .int .i64 c.next.n, .bool c.next.is, .int .i64 c.next.key.base, .int .i64 c.next.key.top, .int .i64 c.next.key.perms, .int .i64 c.next.key.sealed, .bool c.stop, .sl false (.int .i64) 5]))], nums.tail.tail.tail.tail.tail.tail.tail.tail.tail, [], false, []⟩)
    (fun t => t ≤ c.rob.length ∧ foundGo c.rob c.s.mem.gone y n RM.1 (min i c.rob.length).toNat = foundGo c.rob c.s.mem.gone y n RM.1 t.toNat) (fun t => t.toNat) (fun t R hI hR => ?_) (min i c.rob.length) _ ⟨by omega, rfl⟩ (by omega)
  obtain ⟨hi, hx⟩ := hI
  have w3 : 0 < t → IntKind.i64.wrap (t - 1) = t - 1 := fun h => wrap_id (by omega) (by omega)
  have w4 : 0 < t → t.toNat = (t - 1).toNat + 1 := fun h => by omega
  have hz : ¬ 0 < t → foundGo c.rob c.s.mem.gone y n RM.1 t.toNat = RM.1 := fun h => by rw [show t.toNat = 0 by omega]; rfl
  have hh : ∀ k : Nat, hitE n (c.rob.getD k (FT.zero .entry)) = ((c.rob.getD k (FT.zero .entry)).done && (c.rob.getD k (FT.zero .entry)).x.op == 11 && (c.rob.getD k (FT.zero .entry)).e.trap == 0 && (c.rob.getD k (FT.zero .entry)).e.addr == n) := fun _ => rfl
  rw [hx]
  conv => whnf
  repeat' (first | (refine sel_i (fun h => ?_) (fun h => ?_) <;> conv => whnf) | (refine chk_c ?_ ?_ <;> conv => whnf) | (refine And.intro ?_ rfl) | (refine And.intro ?_ ?_ <;> conv => whnf))
  all_goals (try simp only [etaKey, etaWord, etaInst, etaEff, etaEntry, etaMemory, gt_iff_lt, decide_eq_true_eq, decide_eq_false_iff_not] at *)
  all_goals (try rw [w3 (by omega)] at *)
  all_goals first
    | (refine ⟨?_⟩; first | assumption | omega)
    | (rw [hz (by assumption)]; rfl)
    | (rw [w4 (by omega), foundGo_yes (by rw [hh]; simp only [*, Bool.and_true, Bool.true_and, Bool.and_false, Bool.false_and, Bool.or_true, Bool.true_or, Bool.or_false, Bool.false_or, Bool.not_true, Bool.not_false]; done)]; rfl)
    | (refine hR (t - 1) ⟨by omega, ?_⟩ (by omega); rw [hx, w4 (by omega), foundGo_no (by rw [hh]; simp only [*, Bool.and_true, Bool.true_and, Bool.and_false, Bool.false_and, Bool.or_true, Bool.true_or, Bool.or_false, Bool.false_or, Bool.not_true, Bool.not_false]; done)])
    | trace_state
theorem ok_impl_Found : FunOk Tryz.prog c_impl_Found := funOk (E := [c_impl_Read, c_impl_Filter, c_impl_Taken]) (envOk_cons ok_impl_Read (envOk_cons ok_impl_Filter (envOk_cons ok_impl_Taken (envOk_nil)))) mixd Tryz.func167 (pf := pf_impl_Found) (by kernel_rfl) fun ts K h => by
  obtain ⟨t0, t1, t2, t3, e0, h⟩ := as4_out h
  subst e0
  obtain ⟨c, e1, hq⟩ := arG_out rd_core h
  clear h
  subst e1
  have h := hq
  clear hq
  obtain ⟨i, e1, hq⟩ := arC_out (rd_int .i64) h
  clear h
  subst e1
  have h := hq
  clear hq
  obtain ⟨y, e1, hq⟩ := arG_out rd_word h
  clear h
  subst e1
  have h := hq
  clear hq
  obtain ⟨n, e1, hq⟩ := arC_out (rd_int .i64) h
  clear h
  subst e1
  have h := hq
  clear hq
  obtain ⟨hpre, h⟩ := chk_o h
  exact ⟨_, _, h, Nat.le_of_ble_eq_true (show Nat.ble 4 Tryz.f167.ntmps = true by kernel_rfl), _, run_impl_Found c i y n hpre⟩

def lb_spec_Found_0 : PC := .seq (.seq (.reg [.s (.mv 34 (.t 12)), .s (.bin 35 .geq (.t 34) (.k (.v (.c (.int .i64 0)))))]) (.cond (.t 35) (.skip) (.exit 0))) (.seq (.blk 1 (.seq (.reg [.s (.fa 38 (.t 4) 10), .s (.load 39 false 1 (.t 38)), .s (.mv 40 (.t 12)), .s (.ia 41 .entry (.t 39) (.t 40)), .s (.load 42 true 40 (.t 41)), .s (.alloc 13 [.int .i64 0, .ff, .int .i64 0, .int .i64 0, .int .i64 0, .int .i64 0, .int .i64 0, .int .i64 0, .int .i64 0, .int .i64 0, .int .i64 0, .ff, .int .i64 0, .int .i64 0, .int .i64 0, .ff, .int .i64 0, .int .i64 0, .int .i64 0, .int .i64 0, .int .i64 0, .ff, .int .i64 0, .int .i64 0, .int .i64 0, .int .i64 0, .int .i64 0, .int .i64 0, .ff, .int .i64 0, .int .i64 0, .int .i64 0, .int .i64 0, .int .i64 0, .int .i64 0, .ff, .int .i64 0, .int .i64 0, .int .i64 0, .int .i64 0]), .s (.store 40 (.t 13) (.t 42))]) (.seq (.reg [.s (.fa 43 (.t 13) 6), .s (.fa 44 (.t 43) 0), .s (.load 45 false 1 (.t 44)), .s (.bin 46 .eql (.t 45) (.k (.v (.c (.int .i64 11))))), .s (.mv 47 (.t 46)), .g 47 true (some 48) (.fa 48 (.t 13) 11), .g 47 true (some 49) (.load 49 false 1 (.t 48)), .s (.pick 50 (.t 47) (.t 49) (.k (.v (.c .ff)))), .s (.mv 51 (.t 50)), .g 51 true (some 52) (.fa 52 (.t 13) 12), .g 51 true (some 53) (.fa 53 (.t 52) 0), .g 51 true (some 54) (.load 54 false 1 (.t 53)), .g 51 true (some 55) (.bin 55 .eql (.t 54) (.k (.v (.c (.int .i64 0))))), .s (.pick 56 (.t 51) (.t 55) (.k (.v (.c .ff)))), .s (.mv 57 (.t 56)), .g 57 true (some 58) (.fa 58 (.t 13) 12), .g 57 true (some 59) (.fa 59 (.t 58) 14), .g 57 true (some 60) (.load 60 false 1 (.t 59)), .g 57 true (some 61) (.mv 61 (.t 3)), .g 57 true (some 62) (.bin 62 .eql (.t 60) (.t 61)), .s (.pick 63 (.t 57) (.t 62) (.k (.v (.c .ff))))]) (.cond (.t 63) (.seq (.rgd [] [.s (.fa 64 (.t 4) 0), .s (.fa 65 (.t 64) 7), .s (.load 66 true 2 (.t 65)), .s (.load 67 true 6 (.t 6)), .s (.fa 68 (.t 13) 12), .s (.fa 69 (.t 68) 15), .s (.load 70 true 6 (.t 69)), .s (.call (some 71) 204 [(.t 67), (.t 70)]), .s (.call (some 72) 203 [(.t 66), (.t 71)]), .s (.store 6 (.t 8) (.t 72)), .s (.mv 9 (.k (.v (.c (.int .i64 0)))))] (.tk 0 (.tk 1 (.tk 2 (.tk 3 (.tk 4 (.tk 5 (.tk 6 (.one 7 false (.one 8 true (.one 9 true (.tk 10 (.done none))))))))))))) (.ret)) (.skip))))) (.reg [.s (.mv 36 (.t 12)), .s (.bin 37 .sub (.t 36) (.k (.v (.c (.int .i64 1))))), .s (.mv 12 (.t 37))]))
def pf_spec_Found : PF := ⟨[.c 8 true 6, .t 9], .seq (.reg [.s (.box 4 (.t 0)), .s (.box 6 (.t 2)), .s (.alloc 8 [.int .i64 0, .ff, .int .i64 0, .int .i64 0, .int .i64 0, .int .i64 0]), .s (.mv 9 (.k (.v (.c (.int .i64 0)))))]) (.seq (.reg [.s (.fa 15 (.t 4) 0), .s (.fa 16 (.t 15) 7), .s (.load 17 true 2 (.t 16)), .s (.load 18 true 6 (.t 6)), .s (.mv 19 (.t 3)), .s (.call (some 20) 174 [(.t 17), (.t 18), (.t 19)]), .s (.mv 14 (.t 20)), .s (.ext 21 (.t 14) 0), .s (.ext 22 (.t 14) 1), .s (.alloc 10 [.int .i64 0, .ff, .int .i64 0, .int .i64 0, .int .i64 0, .int .i64 0]), .s (.store 6 (.t 10) (.t 21)), .s (.mv 11 (.t 22))]) (.seq (.seq (.reg [.s (.mv 23 (.t 11)), .s (.bin 24 .neq (.t 23) (.k (.v (.c (.int .i64 0)))))]) (.cond (.t 24) (.seq (.reg [.s (.build 25 [.int .i64 0, .ff, .int .i64 0, .int .i64 0, .int .i64 0, .int .i64 0] []), .s (.mv 26 (.t 11)), .s (.store 6 (.t 8) (.t 25)), .s (.mv 9 (.t 26))]) (.ret)) (.skip))) (.seq (.seq (.reg [.s (.mv 27 (.t 1)), .s (.fa 28 (.t 4) 10), .s (.load 29 false 1 (.t 28)), .s (.len 30 false (.t 29)), .s (.call (some 31) 44 [(.t 27), (.t 30)]), .s (.call (some 32) 202 [(.k (.v (.c (.int .i64 0)))), (.t 31)]), .s (.bin 33 .sub (.t 32) (.k (.v (.c (.int .i64 1))))), .s (.mv 12 (.t 33))]) (.blk 0 (.loop [3, 4, 6, 8, 10, 12] lb_spec_Found_0))) (.seq (.reg [.s (.load 73 true 6 (.t 10)), .s (.store 6 (.t 8) (.t 73)), .s (.mv 9 (.k (.v (.c (.int .i64 0)))))]) (.ret)))))⟩
def c_spec_Found : Fun := ⟨172, [], fun ts K => as4 ts fun t0 t1 t2 t3 => arG pCoreT t0 fun c => arC (pI .i64) t1 fun i => arG pWordT t2 fun y => arC (pI .i64) t3 fun n => chk (LCore c 2147483647) (K (wordT (foundC c i y n)) [])⟩
theorem run_spec_Found (c : Core) (i : Int) (y : Word) (n : Int) (hpre : LCore c 2147483647) : runK [c_spec_l1Min, c_spec_Read, c_spec_l1Max, c_spec_Filter, c_spec_Taken] (c.rob.length + 1) [] pf_spec_Found [tG (c.tc false []), tI .i64 i, tG (y.tc []), tI .i64 n] fun r o => r = wordT (foundC c i y n) ∧ o = [] := by
  obtain ⟨l1, l2, l3⟩ := hpre
  have l1m := l1.2
  have f1 := @foundC_t c i y n
  have f2 := @foundC_0 c i y n
  have f3 := @readM_tz c.s.mem y n
  conv => whnf
  repeat' (first | (refine sel_i (fun h => ?_) (fun h => ?_) <;> conv => whnf) | (refine chk_c ?_ ?_ <;> conv => whnf) | (refine And.intro ?_ rfl) | (refine And.intro ?_ ?_ <;> conv => whnf))
  all_goals (try simp only [etaKey, etaWord, etaInst, etaEff, etaEntry, etaMemory, etaState, etaCore, Bool.not_eq_true', Bool.not_eq_false', bne_iff_ne, ne_eq, bne_eq_false_iff_eq, beq_iff_eq, beq_eq_false_iff_ne, decide_eq_true_eq, decide_eq_false_iff_not, ge_iff_le] at *)
  all_goals generalize readM c.s.mem y n = RM at *
  all_goals first
    | (refine ⟨?_⟩; assumption)
    | (rw [f1 (by assumption), f3 (by assumption)]; rfl)
    | (rw [f1 (by assumption)]; rfl)
    | skip
  rw [f2 (by assumption)]
  clear f1 f2 f3
  rw [wrap_id (n := max 0 (min i (c.rob.length : Int)) - 1) (by omega) (by omega)]
  refine loop (α := Int) (fun t => ⟨[(3, .v (.c (.int .i64 n))), (4, .v (.c (.ptr 0 0))), (6, .v (.c (.ptr 6 0))), (8, .v (.c (.ptr 7 0))), (10, .v (.c (.ptr 8 0))), (12, .v (.c (.int .i64 t)))],
        [(8, some (.box true [.int .i64 RM.1.n, .bool RM.1.is, .int .i64 RM.1.key.base, .int .i64 RM.1.key.top, .int .i64 RM.1.key.perms, .int .i64 RM.1.key.sealed])), (7, some (.box true [.int .i64 0, .ff, .int .i64 0, .int .i64 0, .int .i64 0, .int .i64 0])), (6, some (.box true [.int .i64 y.n, .bool y.is, .int .i64 y.key.base, .int .i64 y.key.top, .int .i64 y.key.perms, .int .i64 y.key.sealed])), (5, some (.flat false (.int .i64) none c.guesses)), (4, some (.flat false .entry none c.rob)), (3, some (.flat false .bool none c.s.mem.gone)), (2, some (.flat false .word none c.s.mem.words)), (1, some (.flat false .word none c.s.regs)), (0, some (.box true [.sl false .word 1, .int .i64 c.s.pc.n, .bool c.s.pc.is, .int .i64 c.s.pc.key.base, .int .i64 c.s.pc.key.top, .int .i64 c.s.pc.key.perms, .int .i64 c.s.pc.key.sealed, .sl false .word 2, .sl false .bool 3, .int .i64 c.s.trap, .sl false .entry 4, .int .i64 c.next.n, .bool c.next.is, .int .i64 c.next.key.base, .int .i64 c.next.key.top, .int .i64 c.next.key.perms, .int .i64 c.next.key.sealed, .bool c.stop, .sl false (.int .i64) 5]))], nums.tail.tail.tail.tail.tail.tail.tail.tail.tail, [], false, []⟩)
    (fun t => -1 ≤ t ∧ t < c.rob.length ∧ foundGo c.rob c.s.mem.gone y n RM.1 (min i c.rob.length).toNat = foundGo c.rob c.s.mem.gone y n RM.1 (t + 1).toNat) (fun t => (t + 1).toNat) (fun t R hI hR => ?_) (max 0 (min i c.rob.length) - 1) _ ⟨by omega, by omega, by rw [show (max 0 (min i (c.rob.length : Int)) - 1 + 1).toNat = (min i (c.rob.length : Int)).toNat by omega]⟩ (by omega)
  obtain ⟨hi, hi2, hx⟩ := hI
  have w3 : IntKind.i64.wrap (t - 1) = t - 1 := wrap_id (by omega) (by omega)
  have w4 : 0 ≤ t → (t + 1).toNat = t.toNat + 1 := fun h => by omega
  have hz : ¬ 0 ≤ t → foundGo c.rob c.s.mem.gone y n RM.1 (t + 1).toNat = RM.1 := fun h => by rw [show (t + 1).toNat = 0 by omega]; rfl
  have hh : ∀ k : Nat, hitE n (c.rob.getD k (FT.zero .entry)) = ((c.rob.getD k (FT.zero .entry)).done && (c.rob.getD k (FT.zero .entry)).x.op == 11 && (c.rob.getD k (FT.zero .entry)).e.trap == 0 && (c.rob.getD k (FT.zero .entry)).e.addr == n) := fun _ => rfl
  rw [hx]
  conv => whnf
  repeat' (first | (refine sel_i (fun h => ?_) (fun h => ?_) <;> conv => whnf) | (refine chk_c ?_ ?_ <;> conv => whnf) | (refine And.intro ?_ rfl) | (refine And.intro ?_ ?_ <;> conv => whnf))
  all_goals (try simp only [w3, etaKey, etaWord, etaInst, etaEff, etaEntry, etaMemory, ge_iff_le, decide_eq_true_eq, decide_eq_false_iff_not] at *)
  all_goals first
    | (refine ⟨?_⟩; first | assumption | omega)
    | (rw [hz (by assumption)]; rfl)
    | (rw [w4 (by omega), foundGo_yes (by rw [hh]; simp only [*, Bool.and_true, Bool.true_and, Bool.and_false, Bool.false_and, Bool.or_true, Bool.true_or, Bool.or_false, Bool.false_or, Bool.not_true, Bool.not_false]; done)]; rfl)
    | (refine hR (t - 1) ⟨by omega, by omega, ?_⟩ (by omega); rw [hx, w4 (by omega), foundGo_no (by rw [hh]; simp only [*, Bool.and_true, Bool.true_and, Bool.and_false, Bool.false_and, Bool.or_true, Bool.true_or, Bool.or_false, Bool.false_or, Bool.not_true, Bool.not_false]; done), show t - 1 + 1 = t by omega])
    | trace_state
theorem ok_spec_Found : FunOk Tryz.prog c_spec_Found := funOk (E := [c_spec_l1Min, c_spec_Read, c_spec_l1Max, c_spec_Filter, c_spec_Taken]) (envOk_cons ok_spec_l1Min (envOk_cons ok_spec_Read (envOk_cons ok_spec_l1Max (envOk_cons ok_spec_Filter (envOk_cons ok_spec_Taken (envOk_nil)))))) mixd Tryz.func172 (pf := pf_spec_Found) (by kernel_rfl) fun ts K h => by
  obtain ⟨t0, t1, t2, t3, e0, h⟩ := as4_out h
  subst e0
  obtain ⟨c, e1, hq⟩ := arG_out rd_core h
  clear h
  subst e1
  have h := hq
  clear hq
  obtain ⟨i, e1, hq⟩ := arC_out (rd_int .i64) h
  clear h
  subst e1
  have h := hq
  clear hq
  obtain ⟨y, e1, hq⟩ := arG_out rd_word h
  clear h
  subst e1
  have h := hq
  clear hq
  obtain ⟨n, e1, hq⟩ := arC_out (rd_int .i64) h
  clear h
  subst e1
  have h := hq
  clear hq
  obtain ⟨hpre, h⟩ := chk_o h
  exact ⟨_, _, h, Nat.le_of_ble_eq_true (show Nat.ble 4 Tryz.f172.ntmps = true by kernel_rfl), _, run_spec_Found c i y n hpre⟩

def memD (c : Core) (i : Int) (x : Inst) (a b : Word) : Word × Int :=
  if x.op = 10 then foundC c i a (IntKind.i64.wrap (a.n + x.n)) else if x.op = 11 then (zW, writeC c.s.mem a (IntKind.i64.wrap (a.n + x.n)) b) else (zW, 0)
def argC (c : Core) (i r : Int) : Word := (valueC c i r).1
def doneX (c : Core) (i : Int) (x : Inst) (pc a b : Word) : Eff :=
  if (memD c i x a b).2 ≠ 0 then trapE (memD c i x a b).2 pc else workE x pc a b (memD c i x a b).1
def doneE (c : Core) (i : Int) : Eff := doneX c i (atE c i).x (atE c i).pc (argC c i (atE c i).x.a) (argC c i (atE c i).x.b)

def pf_impl_doneBy : PF := ⟨[.c 4 true 22], .seq (.reg [.s (.box 2 (.t 0)), .s (.alloc 4 [.int .i64 0, .int .i64 0, .int .i64 0, .ff, .int .i64 0, .int .i64 0, .int .i64 0, .int .i64 0, .int .i64 0, .ff, .int .i64 0, .int .i64 0, .int .i64 0, .int .i64 0, .int .i64 0, .int .i64 0, .ff, .int .i64 0, .int .i64 0, .int .i64 0, .int .i64 0, .int .i64 0])]) (.seq (.rgd [] [.s (.fa 13 (.t 2) 10), .s (.load 14 false 1 (.t 13)), .s (.mv 15 (.t 1)), .s (.ia 16 .entry (.t 14) (.t 15)), .s (.fa 17 (.t 16) 6), .s (.load 18 true 5 (.t 17)), .s (.fa 19 (.t 2) 10), .s (.load 20 false 1 (.t 19)), .s (.mv 21 (.t 1)), .s (.ia 22 .entry (.t 20) (.t 21)), .s (.fa 23 (.t 22) 0), .s (.load 24 true 6 (.t 23)), .s (.alloc 5 [.int .i64 0, .int .i64 0, .int .i64 0, .int .i64 0, .int .i64 0]), .s (.alloc 6 [.int .i64 0, .ff, .int .i64 0, .int .i64 0, .int .i64 0, .int .i64 0]), .s (.store 5 (.t 5) (.t 18)), .s (.store 6 (.t 6) (.t 24))] (.tk 0 (.tk 1 (.tk 2 (.tk 3 (.tk 4 (.tk 5 (.tk 6 (.tk 7 (.tk 8 (.tk 9 (.tk 10 (.tk 11 (.alt 12 false (.one 13 false (.one 14 false (.one 15 true (.done (some [1, 2, 4, 5, 6]))))) (.alt 13 false (.one 12 false (.one 14 false (.one 15 true (.done (some [1, 2, 4, 5, 6]))))) (.nil)))))))))))))))) (.seq (.reg [.s (.load 26 true 19 (.t 2)), .s (.mv 27 (.t 1)), .s (.fa 28 (.t 5) 2), .s (.load 29 false 1 (.t 28)), .s (.call (some 30) 166 [(.t 26), (.t 27), (.t 29)]), .s (.mv 25 (.t 30)), .s (.ext 31 (.t 25) 0), .s (.ext 32 (.t 25) 1), .s (.alloc 7 [.int .i64 0, .ff, .int .i64 0, .int .i64 0, .int .i64 0, .int .i64 0]), .s (.store 6 (.t 7) (.t 31)), .s (.mv 8 (.t 32))]) (.seq (.reg [.s (.load 34 true 19 (.t 2)), .s (.mv 35 (.t 1)), .s (.fa 36 (.t 5) 3), .s (.load 37 false 1 (.t 36)), .s (.call (some 38) 166 [(.t 34), (.t 35), (.t 37)]), .s (.mv 33 (.t 38)), .s (.ext 39 (.t 33) 0), .s (.ext 40 (.t 33) 1), .s (.alloc 9 [.int .i64 0, .ff, .int .i64 0, .int .i64 0, .int .i64 0, .int .i64 0]), .s (.store 6 (.t 9) (.t 39)), .s (.mv 10 (.t 40))]) (.seq (.reg [.s (.build 41 [.int .i64 0, .ff, .int .i64 0, .int .i64 0, .int .i64 0, .int .i64 0] []), .s (.alloc 11 [.int .i64 0, .ff, .int .i64 0, .int .i64 0, .int .i64 0, .int .i64 0]), .s (.store 6 (.t 11) (.t 41)), .s (.mv 12 (.k (.v (.c (.int .i64 0)))))]) (.seq (.seq (.reg [.s (.fa 42 (.t 5) 0), .s (.load 43 false 1 (.t 42))]) (.blk 0 (.seq (.reg [.s (.bin 45 .eql (.t 43) (.k (.v (.c (.int .i64 10))))), .s (.mv 44 (.t 45))]) (.cond (.t 44) (.reg [.s (.load 47 true 19 (.t 2)), .s (.mv 48 (.t 1)), .s (.load 49 true 6 (.t 7)), .s (.fa 50 (.t 7) 0), .s (.load 51 false 1 (.t 50)), .s (.fa 52 (.t 5) 4), .s (.load 53 false 1 (.t 52)), .s (.bin 54 .add (.t 51) (.t 53)), .s (.call (some 55) 167 [(.t 47), (.t 48), (.t 49), (.t 54)]), .s (.mv 46 (.t 55)), .s (.ext 56 (.t 46) 0), .s (.ext 57 (.t 46) 1), .s (.store 6 (.t 11) (.t 56)), .s (.mv 12 (.t 57))]) (.seq (.reg [.s (.bin 59 .eql (.t 43) (.k (.v (.c (.int .i64 11))))), .s (.mv 58 (.t 59))]) (.cond (.t 58) (.reg [.s (.fa 60 (.t 2) 0), .s (.fa 61 (.t 60) 7), .s (.load 62 true 2 (.t 61)), .s (.load 63 true 6 (.t 7)), .s (.fa 64 (.t 7) 0), .s (.load 65 false 1 (.t 64)), .s (.fa 66 (.t 5) 4), .s (.load 67 false 1 (.t 66)), .s (.bin 68 .add (.t 65) (.t 67)), .s (.load 69 true 6 (.t 9)), .s (.call (some 70) 104 [(.t 62), (.t 63), (.t 68), (.t 69)]), .s (.mv 12 (.t 70))]) (.skip))))))) (.seq (.seq (.reg [.s (.mv 71 (.t 12)), .s (.bin 72 .neq (.t 71) (.k (.v (.c (.int .i64 0)))))]) (.cond (.t 72) (.seq (.reg [.s (.mv 73 (.t 12)), .s (.load 74 true 6 (.t 6)), .s (.call (some 75) 73 [(.t 73), (.t 74)]), .s (.store 22 (.t 4) (.t 75))]) (.ret)) (.skip))) (.seq (.reg [.s (.load 76 true 5 (.t 5)), .s (.load 77 true 6 (.t 6)), .s (.load 78 true 6 (.t 7)), .s (.load 79 true 6 (.t 9)), .s (.load 80 true 6 (.t 11)), .s (.call (some 81) 105 [(.t 76), (.t 77), (.t 78), (.t 79), (.t 80)]), .s (.store 22 (.t 4) (.t 81))]) (.ret))))))))⟩
def c_impl_doneBy : Fun := ⟨128, [], fun ts K => as2 ts fun t0 t1 => arG pCoreT t0 fun c => arC (pI .i64) t1 fun i => chk (coreOk c = true ∧ 0 ≤ i ∧ i < c.rob.length) (K (tG ((doneE c i).tc [])) [])⟩
theorem run_impl_doneBy (c : Core) (i : Int) (hpre : coreOk c = true ∧ 0 ≤ i ∧ i < c.rob.length) : runK [c_impl_trapped, c_impl_writeCode, c_impl_Work, c_impl_Value, c_impl_Found] (0) [] pf_impl_doneBy [tG (c.tc false []), tI .i64 i] fun r o => r = tG ((doneE c i).tc []) ∧ o = [] := by
  obtain ⟨h0, h1, h2⟩ := hpre
  have hl := coreOk_l h0
  have hc := coreOk_len h0
  have ha := atE_in h0 h1 h2
  have kA : valueR c i (atE c i).x.a = valueC c i (atE c i).x.a := valueR_eq ha.1 h0
  have kB : valueR c i (atE c i).x.b = valueC c i (atE c i).x.b := valueR_eq ha.2 h0
  have hm : LMem c.s.mem 2147483647 := hl.1.2
  conv => whnf
  repeat' (first | (refine sel_i (fun h => ?_) (fun h => ?_) <;> conv => whnf) | (refine chk_c ?_ ?_ <;> conv => whnf) | (refine And.intro ?_ rfl) | (refine And.intro ?_ ?_ <;> conv => whnf))
  all_goals (try simp only [etaKey, etaWord, etaInst, etaEff, etaEntry, etaMemory, etaState, etaCore, bne_iff_ne, ne_eq, bne_eq_false_iff_eq, beq_iff_eq, beq_eq_false_iff_ne, show c.rob.getD i.toNat (FT.zero .entry) = atE c i from rfl, kA, kB] at *)
  all_goals first
    | (exact absurd trivial h)
    | (refine ⟨?_⟩; first | assumption | omega)
    | (unfold doneE doneX memD argC; simp only [*, ne_eq, not_true_eq_false, not_false_eq_true, if_true, if_false, Int.reduceEq]; rfl)
    | trace_state
theorem ok_impl_doneBy : FunOk Tryz.prog c_impl_doneBy := funOk (E := [c_impl_trapped, c_impl_writeCode, c_impl_Work, c_impl_Value, c_impl_Found]) (envOk_cons ok_impl_trapped (envOk_cons ok_impl_writeCode (envOk_cons ok_impl_Work (envOk_cons ok_impl_Value (envOk_cons ok_impl_Found (envOk_nil)))))) mixd Tryz.func128 (pf := pf_impl_doneBy) (by kernel_rfl) fun ts K h => by
  obtain ⟨t0, t1, e0, h⟩ := as2_out h
  subst e0
  obtain ⟨c, e1, hq⟩ := arG_out rd_core h
  clear h
  subst e1
  have h := hq
  clear hq
  obtain ⟨i, e1, hq⟩ := arC_out (rd_int .i64) h
  clear h
  subst e1
  have h := hq
  clear hq
  obtain ⟨hpre, h⟩ := chk_o h
  exact ⟨_, _, h, Nat.le_of_ble_eq_true (show Nat.ble 2 Tryz.f128.ntmps = true by kernel_rfl), _, run_impl_doneBy c i hpre⟩

def pf_spec_l14Effect : PF := ⟨[.c 4 true 22], .seq (.reg [.s (.box 2 (.t 0)), .s (.alloc 4 [.int .i64 0, .int .i64 0, .int .i64 0, .ff, .int .i64 0, .int .i64 0, .int .i64 0, .int .i64 0, .int .i64 0, .ff, .int .i64 0, .int .i64 0, .int .i64 0, .int .i64 0, .int .i64 0, .int .i64 0, .ff, .int .i64 0, .int .i64 0, .int .i64 0, .int .i64 0, .int .i64 0])]) (.seq (.reg [.s (.fa 13 (.t 2) 10), .s (.load 14 false 1 (.t 13)), .s (.mv 15 (.t 1)), .s (.ia 16 .entry (.t 14) (.t 15)), .s (.fa 17 (.t 16) 6), .s (.load 18 true 5 (.t 17)), .s (.alloc 5 [.int .i64 0, .int .i64 0, .int .i64 0, .int .i64 0, .int .i64 0]), .s (.store 5 (.t 5) (.t 18))]) (.seq (.reg [.s (.fa 19 (.t 2) 10), .s (.load 20 false 1 (.t 19)), .s (.mv 21 (.t 1)), .s (.ia 22 .entry (.t 20) (.t 21)), .s (.fa 23 (.t 22) 0), .s (.load 24 true 6 (.t 23)), .s (.alloc 6 [.int .i64 0, .ff, .int .i64 0, .int .i64 0, .int .i64 0, .int .i64 0]), .s (.store 6 (.t 6) (.t 24))]) (.seq (.reg [.s (.load 26 true 19 (.t 2)), .s (.mv 27 (.t 1)), .s (.fa 28 (.t 5) 2), .s (.load 29 false 1 (.t 28)), .s (.call (some 30) 171 [(.t 26), (.t 27), (.t 29)]), .s (.mv 25 (.t 30)), .s (.ext 31 (.t 25) 0), .s (.ext 32 (.t 25) 1), .s (.alloc 7 [.int .i64 0, .ff, .int .i64 0, .int .i64 0, .int .i64 0, .int .i64 0]), .s (.store 6 (.t 7) (.t 31)), .s (.mv 8 (.t 32))]) (.seq (.reg [.s (.load 34 true 19 (.t 2)), .s (.mv 35 (.t 1)), .s (.fa 36 (.t 5) 3), .s (.load 37 false 1 (.t 36)), .s (.call (some 38) 171 [(.t 34), (.t 35), (.t 37)]), .s (.mv 33 (.t 38)), .s (.ext 39 (.t 33) 0), .s (.ext 40 (.t 33) 1), .s (.alloc 9 [.int .i64 0, .ff, .int .i64 0, .int .i64 0, .int .i64 0, .int .i64 0]), .s (.store 6 (.t 9) (.t 39)), .s (.mv 10 (.t 40))]) (.seq (.reg [.s (.build 41 [.int .i64 0, .ff, .int .i64 0, .int .i64 0, .int .i64 0, .int .i64 0] []), .s (.alloc 11 [.int .i64 0, .ff, .int .i64 0, .int .i64 0, .int .i64 0, .int .i64 0]), .s (.store 6 (.t 11) (.t 41)), .s (.mv 12 (.k (.v (.c (.int .i64 0)))))]) (.seq (.seq (.reg [.s (.fa 42 (.t 5) 0), .s (.load 43 false 1 (.t 42))]) (.blk 0 (.seq (.reg [.s (.bin 45 .eql (.t 43) (.k (.v (.c (.int .i64 10))))), .s (.mv 44 (.t 45))]) (.cond (.t 44) (.reg [.s (.load 47 true 19 (.t 2)), .s (.mv 48 (.t 1)), .s (.load 49 true 6 (.t 7)), .s (.fa 50 (.t 7) 0), .s (.load 51 false 1 (.t 50)), .s (.fa 52 (.t 5) 4), .s (.load 53 false 1 (.t 52)), .s (.bin 54 .add (.t 51) (.t 53)), .s (.call (some 55) 172 [(.t 47), (.t 48), (.t 49), (.t 54)]), .s (.mv 46 (.t 55)), .s (.ext 56 (.t 46) 0), .s (.ext 57 (.t 46) 1), .s (.store 6 (.t 11) (.t 56)), .s (.mv 12 (.t 57))]) (.seq (.reg [.s (.bin 59 .eql (.t 43) (.k (.v (.c (.int .i64 11))))), .s (.mv 58 (.t 59))]) (.cond (.t 58) (.reg [.s (.fa 60 (.t 2) 0), .s (.fa 61 (.t 60) 7), .s (.load 62 true 2 (.t 61)), .s (.load 63 true 6 (.t 7)), .s (.fa 64 (.t 7) 0), .s (.load 65 false 1 (.t 64)), .s (.fa 66 (.t 5) 4), .s (.load 67 false 1 (.t 66)), .s (.bin 68 .add (.t 65) (.t 67)), .s (.load 69 true 6 (.t 9)), .s (.call (some 70) 173 [(.t 62), (.t 63), (.t 68), (.t 69)]), .s (.mv 12 (.t 70))]) (.skip))))))) (.seq (.seq (.reg [.s (.mv 71 (.t 12)), .s (.bin 72 .neq (.t 71) (.k (.v (.c (.int .i64 0)))))]) (.cond (.t 72) (.seq (.reg [.s (.mv 73 (.t 12)), .s (.load 74 true 6 (.t 6)), .s (.call (some 75) 86 [(.t 73), (.t 74)]), .s (.store 22 (.t 4) (.t 75))]) (.ret)) (.skip))) (.seq (.reg [.s (.load 76 true 5 (.t 5)), .s (.load 77 true 6 (.t 6)), .s (.load 78 true 6 (.t 7)), .s (.load 79 true 6 (.t 9)), .s (.load 80 true 6 (.t 11)), .s (.call (some 81) 146 [(.t 76), (.t 77), (.t 78), (.t 79), (.t 80)]), .s (.store 22 (.t 4) (.t 81))]) (.ret)))))))))⟩
def c_spec_l14Effect : Fun := ⟨139, [], fun ts K => as2 ts fun t0 t1 => arG pCoreT t0 fun c => arC (pI .i64) t1 fun i => chk (coreOk c = true ∧ 0 ≤ i ∧ i < c.rob.length) (K (tG ((doneE c i).tc [])) [])⟩
theorem run_spec_l14Effect (c : Core) (i : Int) (hpre : coreOk c = true ∧ 0 ≤ i ∧ i < c.rob.length) : runK [c_spec_l9Trap, c_spec_Work, c_spec_l12Value, c_spec_Found, c_spec_l8Write] (0) [] pf_spec_l14Effect [tG (c.tc false []), tI .i64 i] fun r o => r = tG ((doneE c i).tc []) ∧ o = [] := by
  obtain ⟨h0, h1, h2⟩ := hpre
  have hl := coreOk_l h0
  have hc := coreOk_len h0
  have ha := atE_in h0 h1 h2
  have hm : LMem c.s.mem 2147483647 := hl.1.2
  have hr : c.s.regs.length = 8 := hc.1.1
  conv => whnf
  repeat' (first | (refine sel_i (fun h => ?_) (fun h => ?_) <;> conv => whnf) | (refine chk_c ?_ ?_ <;> conv => whnf) | (refine And.intro ?_ rfl) | (refine And.intro ?_ ?_ <;> conv => whnf))
  all_goals (try simp only [etaKey, etaWord, etaInst, etaEff, etaEntry, etaMemory, etaState, etaCore, bne_iff_ne, ne_eq, bne_eq_false_iff_eq, beq_iff_eq, beq_eq_false_iff_ne, show c.rob.getD i.toNat (FT.zero .entry) = atE c i from rfl] at *)
  all_goals first
    | (exact absurd trivial h)
    | (refine ⟨?_⟩; first | assumption | exact ⟨hl, hr, by omega, by omega⟩ | omega)
    | (unfold doneE doneX memD argC; simp only [*, ne_eq, not_true_eq_false, not_false_eq_true, if_true, if_false, Int.reduceEq]; rfl)
    | trace_state
theorem ok_spec_l14Effect : FunOk Tryz.prog c_spec_l14Effect := funOk (E := [c_spec_l9Trap, c_spec_Work, c_spec_l12Value, c_spec_Found, c_spec_l8Write]) (envOk_cons ok_spec_l9Trap (envOk_cons ok_spec_Work (envOk_cons ok_spec_l12Value (envOk_cons ok_spec_Found (envOk_cons ok_spec_l8Write (envOk_nil)))))) mixd Tryz.func139 (pf := pf_spec_l14Effect) (by kernel_rfl) fun ts K h => by
  obtain ⟨t0, t1, e0, h⟩ := as2_out h
  subst e0
  obtain ⟨c, e1, hq⟩ := arG_out rd_core h
  clear h
  subst e1
  have h := hq
  clear hq
  obtain ⟨i, e1, hq⟩ := arC_out (rd_int .i64) h
  clear h
  subst e1
  have h := hq
  clear hq
  obtain ⟨hpre, h⟩ := chk_o h
  exact ⟨_, _, h, Nat.le_of_ble_eq_true (show Nat.ble 2 Tryz.f139.ntmps = true by kernel_rfl), _, run_spec_l14Effect c i hpre⟩

def putAt (c : Core) (i : Int) : List Entry := c.rob.set i.toNat ⟨(atE c i).pc, (atE c i).x, true, doneE c i, (atE c i).guess⟩
def doC (c : Core) (i : Int) : Core × Bool :=
  if coreOk c = false then (zCore, false) else if readyC c i = false then (c, false) else
  if (doneE c i).trap ≠ 0 then (⟨c.s, (putAt c i).take (i.toNat + 1), c.next, true, c.guesses⟩, true) else
  if (doneE c i).next ≠ (atE c i).guess then (⟨c.s, (putAt c i).take (i.toNat + 1), (doneE c i).next, false, c.guesses⟩, true) else
  (⟨c.s, putAt c i, c.next, c.stop, c.guesses⟩, true)
theorem doC_no {c : Core} {i : Int} (h : coreOk c = false) : doC c i = (zCore, false) := if_pos h
theorem doC_nr {c : Core} {i : Int} (h : coreOk c = true) (h2 : readyC c i = false) : doC c i = (c, false) := by
  unfold doC; rw [if_neg (by rw [h]; decide), if_pos h2]
theorem doC_t {c : Core} {i : Int} (h : coreOk c = true) (h2 : readyC c i = true) (h3 : ¬ (doneE c i).trap = 0) : doC c i = (⟨c.s, (putAt c i).take (i.toNat + 1), c.next, true, c.guesses⟩, true) := by
  unfold doC; rw [if_neg (by rw [h]; decide), if_neg (by rw [h2]; decide), if_pos h3]
theorem doC_n {c : Core} {i : Int} (h : coreOk c = true) (h2 : readyC c i = true) (h3 : (doneE c i).trap = 0) (h4 : ¬ (doneE c i).next = (atE c i).guess) : doC c i = (⟨c.s, (putAt c i).take (i.toNat + 1), (doneE c i).next, false, c.guesses⟩, true) := by
  unfold doC; rw [if_neg (by rw [h]; decide), if_neg (by rw [h2]; decide), if_neg (fun q => q h3), if_pos h4]
theorem doC_0 {c : Core} {i : Int} (h : coreOk c = true) (h2 : readyC c i = true) (h3 : (doneE c i).trap = 0) (h4 : (doneE c i).next = (atE c i).guess) : doC c i = (⟨c.s, putAt c i, c.next, c.stop, c.guesses⟩, true) := by
  unfold doC; rw [if_neg (by rw [h]; decide), if_neg (by rw [h2]; decide), if_neg (fun q => q h3), if_neg (fun q => q h4)]
theorem readyC_in {c : Core} {i : Int} (h : readyC c i = true) : coreOk c = true ∧ 0 ≤ i ∧ i < c.rob.length ∧ (atE c i).done = false := by
  simp only [readyC, Bool.and_eq_true, Bool.not_eq_true'] at h
  have := inR_t.1 h.1.1.1.1.2
  exact ⟨h.1.1.1.1.1, by omega, by omega, h.1.1.1.2⟩

def pf_impl_Do : PF := ⟨[.c 4 true 19, .t 5], .seq (.reg [.s (.box 2 (.t 0)), .s (.alloc 4 [.nils .word, .int .i64 0, .ff, .int .i64 0, .int .i64 0, .int .i64 0, .int .i64 0, .nils .word, .nils .bool, .int .i64 0, .nils .entry, .int .i64 0, .ff, .int .i64 0, .int .i64 0, .int .i64 0, .int .i64 0, .ff, .nils (.int .i64)]), .s (.mv 5 (.k (.v (.c .ff))))]) (.seq (.seq (.reg [.s (.load 8 true 19 (.t 2)), .s (.call (some 9) 70 [(.t 8)]), .s (.bnot 10 (.t 9))]) (.cond (.t 10) (.seq (.reg [.s (.build 11 [.nils .word, .int .i64 0, .ff, .int .i64 0, .int .i64 0, .int .i64 0, .int .i64 0, .nils .word, .nils .bool, .int .i64 0, .nils .entry, .int .i64 0, .ff, .int .i64 0, .int .i64 0, .int .i64 0, .int .i64 0, .ff, .nils (.int .i64)] []), .s (.store 19 (.t 4) (.t 11)), .s (.mv 5 (.k (.v (.c .ff))))]) (.ret)) (.skip))) (.seq (.reg [.s (.load 12 true 19 (.t 2)), .s (.call (some 13) 71 [(.t 12)]), .s (.alloc 6 [.nils .word, .int .i64 0, .ff, .int .i64 0, .int .i64 0, .int .i64 0, .int .i64 0, .nils .word, .nils .bool, .int .i64 0, .nils .entry, .int .i64 0, .ff, .int .i64 0, .int .i64 0, .int .i64 0, .int .i64 0, .ff, .nils (.int .i64)]), .s (.store 19 (.t 6) (.t 13))]) (.seq (.seq (.reg [.s (.load 14 true 19 (.t 2)), .s (.mv 15 (.t 1)), .s (.call (some 16) 127 [(.t 14), (.t 15)]), .s (.bnot 17 (.t 16))]) (.cond (.t 17) (.seq (.reg [.s (.load 18 true 19 (.t 6)), .s (.store 19 (.t 4) (.t 18)), .s (.mv 5 (.k (.v (.c .ff))))]) (.ret)) (.skip))) (.seq (.reg [.s (.fa 19 (.t 6) 10), .s (.load 20 false 1 (.t 19)), .s (.mv 21 (.t 1)), .s (.ia 22 .entry (.t 20) (.t 21)), .s (.mv 7 (.t 22))]) (.seq (.reg [.s (.mv 23 (.t 7)), .s (.nchk 24 (.t 23)), .s (.fa 25 (.t 24) 11), .s (.store 1 (.t 25) (.k (.v (.c .tt))))]) (.seq (.reg [.s (.mv 26 (.t 7)), .s (.load 27 true 19 (.t 2)), .s (.mv 28 (.t 1)), .s (.call (some 29) 128 [(.t 27), (.t 28)]), .s (.nchk 30 (.t 26)), .s (.fa 31 (.t 30) 12), .s (.store 22 (.t 31) (.t 29))]) (.seq (.blk 0 (.seq (.reg [.s (.mv 34 (.t 7)), .s (.nchk 35 (.t 34)), .s (.fa 36 (.t 35) 12), .s (.fa 37 (.t 36) 0), .s (.load 38 false 1 (.t 37)), .s (.bin 39 .neq (.t 38) (.k (.v (.c (.int .i64 0))))), .s (.mv 33 (.t 39))]) (.cond (.t 33) (.reg [.s (.fa 40 (.t 6) 17), .s (.store 1 (.t 40) (.k (.v (.c .tt))))]) (.seq (.rgd [] [.s (.mv 42 (.t 7)), .s (.nchk 43 (.t 42)), .s (.fa 44 (.t 43) 12), .s (.fa 45 (.t 44) 8), .s (.load 46 true 6 (.t 45)), .s (.mv 47 (.t 7)), .s (.nchk 48 (.t 47)), .s (.fa 49 (.t 48) 34), .s (.load 50 true 6 (.t 49)), .s (.eqs 51 true [.i, .b, .i, .i, .i, .i] true (.t 46) (.t 50)), .s (.mv 41 (.t 51))] (.tk 0 (.tk 1 (.tk 2 (.tk 3 (.tk 4 (.tk 5 (.tk 6 (.tk 7 (.tk 8 (.tk 9 (.tk 10 (.done none))))))))))))) (.cond (.t 41) (.seq (.reg [.s (.mv 52 (.t 7)), .s (.nchk 53 (.t 52)), .s (.fa 54 (.t 53) 12), .s (.fa 55 (.t 54) 8), .s (.load 56 true 6 (.t 55)), .s (.fa 57 (.t 6) 11), .s (.store 6 (.t 57) (.t 56))]) (.reg [.s (.fa 58 (.t 6) 17), .s (.store 1 (.t 58) (.k (.v (.c .ff))))])) (.seq (.reg [.s (.load 32 true 19 (.t 6)), .s (.store 19 (.t 4) (.t 32)), .s (.mv 5 (.k (.v (.c .tt))))]) (.ret))))))) (.seq (.reg [.s (.fa 59 (.t 6) 10), .s (.load 60 false 1 (.t 59)), .s (.mv 61 (.t 1)), .s (.bin 62 .add (.t 61) (.k (.v (.c (.int .i64 1))))), .s (.slc 63 .entry (.t 60) none (some (.t 62))), .s (.fa 64 (.t 6) 10), .s (.store 1 (.t 64) (.t 63))]) (.seq (.reg [.s (.load 65 true 19 (.t 6)), .s (.store 19 (.t 4) (.t 65)), .s (.mv 5 (.k (.v (.c .tt))))]) (.ret))))))))))⟩
def c_impl_Do : Fun := ⟨75, [], fun ts K => as2 ts fun t0 t1 => arG pCoreT t0 fun c => arC (pI .i64) t1 fun i => chk (LCore c 2147483647) (K (coreT (doC c i)) [])⟩
theorem run_impl_Do (c : Core) (i : Int) (hpre : LCore c 2147483647) : runK [c_impl_CoreOk, c_impl_cloneCore, c_impl_Ready, c_impl_doneBy] (0) [] pf_impl_Do [tG (c.tc false []), tI .i64 i] fun r o => r = coreT (doC c i) ∧ o = [] := by
  by_cases hr : readyC c i = true
  · obtain ⟨h0, h1, h2, h3⟩ := readyC_in hr
    have hl := coreOk_l h0
    have hc := coreOk_len h0
    have hget : ∀ e : Entry, (c.rob.set i.toNat e).getD i.toNat (FT.zero .entry) = e := fun e => by
      rw [List.getD_eq_getElem?_getD, List.getElem?_set_self (by omega)]; rfl
    have hp : c.rob.set i.toNat ⟨(atE c i).pc, (atE c i).x, true, doneE c i, (atE c i).guess⟩ = putAt c i := rfl
    have hpl : (putAt c i).length = c.rob.length := by unfold putAt; rw [List.length_set]
    have hpg : (putAt c i).getD i.toNat (FT.zero .entry) = ⟨(atE c i).pc, (atE c i).x, true, doneE c i, (atE c i).guess⟩ := hget _
    have w1 : IntKind.i64.wrap (i + 1) = i + 1 := wrap_id (by omega) (by omega)
    have w2 : (i + 1).toNat = i.toNat + 1 := by omega
    have hwin : win (putAt c i) 0 (i.toNat + 1) = (putAt c i).take (i.toNat + 1) := by unfold win; rw [List.drop_zero]
    have d1 := @doC_t c i h0 hr
    have d2 := @doC_n c i h0 hr
    have d3 := @doC_0 c i h0 hr
    conv => whnf
    repeat' (first | (refine sel_i (fun h => ?_) (fun h => ?_) <;> conv => whnf) | (refine chk_c ?_ ?_ <;> conv => whnf) | (refine And.intro ?_ rfl) | (refine And.intro ?_ ?_ <;> conv => whnf))
    all_goals (try simp only [etaKey, etaWord, etaInst, etaEff, etaEntry, etaMemory, etaState, etaCore, Bool.not_eq_true', Bool.not_eq_false', bne_iff_ne, ne_eq, bne_eq_false_iff_eq, eqWd, decide_eq_true_eq, decide_eq_false_iff_not, Bool.not_true, Bool.not_false, show c.rob.getD i.toNat (FT.zero .entry) = atE c i from rfl] at *)
    all_goals (try simp only [hget, List.set_set, hp, hpl, hpg, hwin, w1, w2, List.length_set, List.nil_append, List.length_nil] at *)
    all_goals first
      | contradiction
      | (exact absurd (h0.symm.trans (show coreOk c = false by assumption)) (by decide))
      | (exact absurd (hr.symm.trans (show readyC c i = false by assumption)) (by decide))
      | (refine ⟨?_⟩; first | assumption | exact ⟨h0, h1, h2⟩ | omega | (rw [List.length_take]; omega))
      | (rw [d1 (by assumption)]; rfl)
      | (rw [d2 (by assumption) (by assumption)]; rfl)
      | (rw [d3 (by assumption) (by assumption)]; rfl)
      | trace_state
  · have hr : readyC c i = false := by simpa using hr
    have d1 := @doC_no c i
    have d2 := fun h => @doC_nr c i h hr
    conv => whnf
    repeat' (first | (refine sel_i (fun h => ?_) (fun h => ?_) <;> conv => whnf) | (refine chk_c ?_ ?_ <;> conv => whnf) | (refine And.intro ?_ rfl) | (refine And.intro ?_ ?_ <;> conv => whnf))
    all_goals (try simp only [etaKey, etaWord, etaInst, etaEff, etaEntry, etaMemory, etaState, etaCore, Bool.not_eq_true', Bool.not_eq_false', bne_iff_ne, ne_eq, bne_eq_false_iff_eq, eqWd, decide_eq_true_eq, decide_eq_false_iff_not, Bool.not_true, Bool.not_false, show c.rob.getD i.toNat (FT.zero .entry) = atE c i from rfl] at *)
    all_goals first
      | contradiction
      | (exfalso; simp_all; done)
      | (refine ⟨?_⟩; assumption)
      | (rw [d1 (by assumption)]; rfl)
      | (rw [d2 (by assumption)]; rfl)
      | trace_state
theorem ok_impl_Do : FunOk Tryz.prog c_impl_Do := funOk (E := [c_impl_CoreOk, c_impl_cloneCore, c_impl_Ready, c_impl_doneBy]) (envOk_cons ok_impl_CoreOk (envOk_cons ok_impl_cloneCore (envOk_cons ok_impl_Ready (envOk_cons ok_impl_doneBy (envOk_nil))))) mixd Tryz.func75 (pf := pf_impl_Do) (by kernel_rfl) fun ts K h => by
  obtain ⟨t0, t1, e0, h⟩ := as2_out h
  subst e0
  obtain ⟨c, e1, hq⟩ := arG_out rd_core h
  clear h
  subst e1
  have h := hq
  clear hq
  obtain ⟨i, e1, hq⟩ := arC_out (rd_int .i64) h
  clear h
  subst e1
  have h := hq
  clear hq
  obtain ⟨hpre, h⟩ := chk_o h
  exact ⟨_, _, h, Nat.le_of_ble_eq_true (show Nat.ble 2 Tryz.f75.ntmps = true by kernel_rfl), _, run_impl_Do c i hpre⟩

def pf_spec_Do : PF := ⟨[.c 4 true 19, .t 5], .seq (.reg [.s (.box 2 (.t 0)), .s (.alloc 4 [.nils .word, .int .i64 0, .ff, .int .i64 0, .int .i64 0, .int .i64 0, .int .i64 0, .nils .word, .nils .bool, .int .i64 0, .nils .entry, .int .i64 0, .ff, .int .i64 0, .int .i64 0, .int .i64 0, .int .i64 0, .ff, .nils (.int .i64)]), .s (.mv 5 (.k (.v (.c .ff))))]) (.seq (.seq (.reg [.s (.load 8 true 19 (.t 2)), .s (.call (some 9) 83 [(.t 8)]), .s (.bnot 10 (.t 9))]) (.cond (.t 10) (.seq (.reg [.s (.build 11 [.nils .word, .int .i64 0, .ff, .int .i64 0, .int .i64 0, .int .i64 0, .int .i64 0, .nils .word, .nils .bool, .int .i64 0, .nils .entry, .int .i64 0, .ff, .int .i64 0, .int .i64 0, .int .i64 0, .int .i64 0, .ff, .nils (.int .i64)] []), .s (.store 19 (.t 4) (.t 11)), .s (.mv 5 (.k (.v (.c .ff))))]) (.ret)) (.skip))) (.seq (.reg [.s (.load 12 true 19 (.t 2)), .s (.call (some 13) 84 [(.t 12)]), .s (.alloc 6 [.nils .word, .int .i64 0, .ff, .int .i64 0, .int .i64 0, .int .i64 0, .int .i64 0, .nils .word, .nils .bool, .int .i64 0, .nils .entry, .int .i64 0, .ff, .int .i64 0, .int .i64 0, .int .i64 0, .int .i64 0, .ff, .nils (.int .i64)]), .s (.store 19 (.t 6) (.t 13))]) (.seq (.seq (.reg [.s (.load 14 true 19 (.t 2)), .s (.mv 15 (.t 1)), .s (.call (some 16) 138 [(.t 14), (.t 15)]), .s (.bnot 17 (.t 16))]) (.cond (.t 17) (.seq (.reg [.s (.load 18 true 19 (.t 6)), .s (.store 19 (.t 4) (.t 18)), .s (.mv 5 (.k (.v (.c .ff))))]) (.ret)) (.skip))) (.seq (.reg [.s (.load 19 true 19 (.t 2)), .s (.mv 20 (.t 1)), .s (.call (some 21) 139 [(.t 19), (.t 20)]), .s (.alloc 7 [.int .i64 0, .int .i64 0, .int .i64 0, .ff, .int .i64 0, .int .i64 0, .int .i64 0, .int .i64 0, .int .i64 0, .ff, .int .i64 0, .int .i64 0, .int .i64 0, .int .i64 0, .int .i64 0, .int .i64 0, .ff, .int .i64 0, .int .i64 0, .int .i64 0, .int .i64 0, .int .i64 0]), .s (.store 22 (.t 7) (.t 21))]) (.seq (.reg [.s (.fa 22 (.t 6) 10), .s (.load 23 false 1 (.t 22)), .s (.mv 24 (.t 1)), .s (.ia 25 .entry (.t 23) (.t 24)), .s (.fa 26 (.t 25) 11), .s (.store 1 (.t 26) (.k (.v (.c .tt))))]) (.seq (.reg [.s (.fa 27 (.t 6) 10), .s (.load 28 false 1 (.t 27)), .s (.mv 29 (.t 1)), .s (.load 30 true 22 (.t 7)), .s (.ia 31 .entry (.t 28) (.t 29)), .s (.fa 32 (.t 31) 12), .s (.store 22 (.t 32) (.t 30))]) (.seq (.seq (.reg [.s (.fa 33 (.t 7) 0), .s (.load 34 false 1 (.t 33)), .s (.bin 35 .neq (.t 34) (.k (.v (.c (.int .i64 0)))))]) (.cond (.t 35) (.seq (.reg [.s (.bs 36 .entry []), .s (.fa 37 (.t 6) 10), .s (.load 38 false 1 (.t 37)), .s (.mv 39 (.t 1)), .s (.bin 40 .add (.t 39) (.k (.v (.c (.int .i64 1))))), .s (.slc 41 .entry (.t 38) none (some (.t 40))), .s (.app 42 .entry (.t 36) (.t 41)), .s (.fa 43 (.t 6) 10), .s (.store 1 (.t 43) (.t 42))]) (.seq (.reg [.s (.fa 44 (.t 6) 17), .s (.store 1 (.t 44) (.k (.v (.c .tt))))]) (.seq (.reg [.s (.load 45 true 19 (.t 6)), .s (.store 19 (.t 4) (.t 45)), .s (.mv 5 (.k (.v (.c .tt))))]) (.ret)))) (.skip))) (.seq (.seq (.rgd [] [.s (.fa 46 (.t 7) 8), .s (.load 47 true 6 (.t 46)), .s (.fa 48 (.t 6) 10), .s (.load 49 false 1 (.t 48)), .s (.mv 50 (.t 1)), .s (.ia 51 .entry (.t 49) (.t 50)), .s (.fa 52 (.t 51) 34), .s (.load 53 true 6 (.t 52)), .s (.eqs 54 true [.i, .b, .i, .i, .i, .i] true (.t 47) (.t 53))] (.tk 0 (.tk 1 (.tk 2 (.tk 3 (.tk 4 (.tk 5 (.tk 6 (.tk 7 (.tk 8 (.done none))))))))))) (.cond (.t 54) (.seq (.reg [.s (.bs 55 .entry []), .s (.fa 56 (.t 6) 10), .s (.load 57 false 1 (.t 56)), .s (.mv 58 (.t 1)), .s (.bin 59 .add (.t 58) (.k (.v (.c (.int .i64 1))))), .s (.slc 60 .entry (.t 57) none (some (.t 59))), .s (.app 61 .entry (.t 55) (.t 60)), .s (.fa 62 (.t 6) 10), .s (.store 1 (.t 62) (.t 61))]) (.seq (.reg [.s (.fa 63 (.t 7) 8), .s (.load 64 true 6 (.t 63)), .s (.fa 65 (.t 6) 11), .s (.store 6 (.t 65) (.t 64))]) (.reg [.s (.fa 66 (.t 6) 17), .s (.store 1 (.t 66) (.k (.v (.c .ff))))]))) (.skip))) (.seq (.reg [.s (.load 67 true 19 (.t 6)), .s (.store 19 (.t 4) (.t 67)), .s (.mv 5 (.k (.v (.c .tt))))]) (.ret))))))))))⟩
def c_spec_Do : Fun := ⟨88, [], fun ts K => as2 ts fun t0 t1 => arG pCoreT t0 fun c => arC (pI .i64) t1 fun i => chk (LCore c 2147483647) (K (coreT (doC c i)) [])⟩
theorem run_spec_Do (c : Core) (i : Int) (hpre : LCore c 2147483647) : runK [c_spec_CoreOk, c_spec_l12Copy, c_spec_Ready, c_spec_l14Effect] (0) [] pf_spec_Do [tG (c.tc false []), tI .i64 i] fun r o => r = coreT (doC c i) ∧ o = [] := by
  by_cases hr : readyC c i = true
  · obtain ⟨h0, h1, h2, h3⟩ := readyC_in hr
    have hl := coreOk_l h0
    have hc := coreOk_len h0
    have hget : ∀ e : Entry, (c.rob.set i.toNat e).getD i.toNat (FT.zero .entry) = e := fun e => by
      rw [List.getD_eq_getElem?_getD, List.getElem?_set_self (by omega)]; rfl
    have hp : c.rob.set i.toNat ⟨(atE c i).pc, (atE c i).x, true, doneE c i, (atE c i).guess⟩ = putAt c i := rfl
    have hpl : (putAt c i).length = c.rob.length := by unfold putAt; rw [List.length_set]
    have hpg : (putAt c i).getD i.toNat (FT.zero .entry) = ⟨(atE c i).pc, (atE c i).x, true, doneE c i, (atE c i).guess⟩ := hget _
    have w1 : IntKind.i64.wrap (i + 1) = i + 1 := wrap_id (by omega) (by omega)
    have w2 : (i + 1).toNat = i.toNat + 1 := by omega
    have hwin : win (putAt c i) 0 (i.toNat + 1) = (putAt c i).take (i.toNat + 1) := by unfold win; rw [List.drop_zero]
    have d1 := @doC_t c i h0 hr
    have d2 := @doC_n c i h0 hr
    have d3 := @doC_0 c i h0 hr
    conv => whnf
    repeat' (first | (refine sel_i (fun h => ?_) (fun h => ?_) <;> conv => whnf) | (refine chk_c ?_ ?_ <;> conv => whnf) | (refine And.intro ?_ rfl) | (refine And.intro ?_ ?_ <;> conv => whnf))
    all_goals (try simp only [etaKey, etaWord, etaInst, etaEff, etaEntry, etaMemory, etaState, etaCore, Bool.not_eq_true', Bool.not_eq_false', bne_iff_ne, ne_eq, bne_eq_false_iff_eq, eqWd, decide_eq_true_eq, decide_eq_false_iff_not, Bool.not_true, Bool.not_false, show c.rob.getD i.toNat (FT.zero .entry) = atE c i from rfl] at *)
    all_goals (try simp only [hget, List.set_set, hp, hpl, hpg, hwin, w1, w2, List.length_set, List.nil_append, List.length_nil] at *)
    all_goals first
      | contradiction
      | (exact absurd (h0.symm.trans (show coreOk c = false by assumption)) (by decide))
      | (exact absurd (hr.symm.trans (show readyC c i = false by assumption)) (by decide))
      | (refine ⟨?_⟩; first | assumption | exact ⟨h0, h1, h2⟩ | omega | (rw [List.length_take]; omega))
      | (rw [d1 (by assumption)]; rfl)
      | (rw [d2 (by assumption) (by assumption)]; rfl)
      | (rw [d3 (by assumption) (by assumption)]; rfl)
      | trace_state
  · have hr : readyC c i = false := by simpa using hr
    have d1 := @doC_no c i
    have d2 := fun h => @doC_nr c i h hr
    conv => whnf
    repeat' (first | (refine sel_i (fun h => ?_) (fun h => ?_) <;> conv => whnf) | (refine chk_c ?_ ?_ <;> conv => whnf) | (refine And.intro ?_ rfl) | (refine And.intro ?_ ?_ <;> conv => whnf))
    all_goals (try simp only [etaKey, etaWord, etaInst, etaEff, etaEntry, etaMemory, etaState, etaCore, Bool.not_eq_true', Bool.not_eq_false', bne_iff_ne, ne_eq, bne_eq_false_iff_eq, eqWd, decide_eq_true_eq, decide_eq_false_iff_not, Bool.not_true, Bool.not_false, show c.rob.getD i.toNat (FT.zero .entry) = atE c i from rfl] at *)
    all_goals first
      | contradiction
      | (exfalso; simp_all; done)
      | (refine ⟨?_⟩; assumption)
      | (rw [d1 (by assumption)]; rfl)
      | (rw [d2 (by assumption)]; rfl)
      | trace_state
theorem ok_spec_Do : FunOk Tryz.prog c_spec_Do := funOk (E := [c_spec_CoreOk, c_spec_l12Copy, c_spec_Ready, c_spec_l14Effect]) (envOk_cons ok_spec_CoreOk (envOk_cons ok_spec_l12Copy (envOk_cons ok_spec_Ready (envOk_cons ok_spec_l14Effect (envOk_nil))))) mixd Tryz.func88 (pf := pf_spec_Do) (by kernel_rfl) fun ts K h => by
  obtain ⟨t0, t1, e0, h⟩ := as2_out h
  subst e0
  obtain ⟨c, e1, hq⟩ := arG_out rd_core h
  clear h
  subst e1
  have h := hq
  clear hq
  obtain ⟨i, e1, hq⟩ := arC_out (rd_int .i64) h
  clear h
  subst e1
  have h := hq
  clear hq
  obtain ⟨hpre, h⟩ := chk_o h
  exact ⟨_, _, h, Nat.le_of_ble_eq_true (show Nat.ble 2 Tryz.f88.ntmps = true by kernel_rfl), _, run_spec_Do c i hpre⟩
end Go.Pi
