/- Contracts of functions, each out of its run by PI. No conditions. -/
import Derived.Test.YtgpchgakonpcfaaGreatDoorC4
namespace Go.Pi
open Go.Proofs
set_option linter.unusedVariables false
set_option linter.unusedSimpArgs false
set_option maxRecDepth 100000
attribute [local irreducible] iterN
def pullC (l : List Inst) (c : Core) : Core × Bool :=
  if coreOk c = false then (zCore, false) else
  if c.stop = true ∨ 6 ≤ c.rob.length ∨ c.s.trap ≠ 0 then (c, false) else
  if (fetchI l c.next).2 ≠ 0 then (⟨c.s, c.rob ++ [⟨c.next, zI, true, trapE (fetchI l c.next).2 c.next, c.next⟩], c.next, true, c.guesses⟩, true)
  else (⟨c.s, c.rob ++ [⟨c.next, (fetchI l c.next).1, false, Eff.zero, guessW c.guesses c.next⟩], guessW c.guesses c.next, c.stop, c.guesses⟩, true)
def coreT (p : Core × Bool) : Tree := .tup [.g (p.1.tc true []), .c (.bool p.2)]
theorem pullC_no {l : List Inst} {c : Core} (h : coreOk c = false) : pullC l c = (zCore, false) := if_pos h
theorem pullC_st {l : List Inst} {c : Core} (h : coreOk c = true) (h2 : c.stop = true ∨ 6 ≤ c.rob.length ∨ c.s.trap ≠ 0) : pullC l c = (c, false) := by
  unfold pullC; rw [if_neg (by rw [h]; decide), if_pos h2]
theorem pullC_t {l : List Inst} {c : Core} (h : coreOk c = true) (h2 : ¬ (c.stop = true ∨ 6 ≤ c.rob.length ∨ c.s.trap ≠ 0)) (h3 : (fetchI l c.next).2 ≠ 0) : pullC l c = (⟨c.s, c.rob ++ [⟨c.next, zI, true, trapE (fetchI l c.next).2 c.next, c.next⟩], c.next, true, c.guesses⟩, true) := by
  unfold pullC; rw [if_neg (by rw [h]; decide), if_neg h2, if_pos h3]
theorem pullC_0 {l : List Inst} {c : Core} (h : coreOk c = true) (h2 : ¬ (c.stop = true ∨ 6 ≤ c.rob.length ∨ c.s.trap ≠ 0)) (h3 : (fetchI l c.next).2 = 0) : pullC l c = (⟨c.s, c.rob ++ [⟨c.next, (fetchI l c.next).1, false, Eff.zero, guessW c.guesses c.next⟩], guessW c.guesses c.next, c.stop, c.guesses⟩, true) := by
  unfold pullC; rw [if_neg (by rw [h]; decide), if_neg h2, if_neg (by rw [h3]; decide)]
theorem nst {c : Core} (h1 : c.stop = false) (h2 : c.rob.length < 6) (h3 : c.s.trap = 0) : ¬ (c.stop = true ∨ 6 ≤ c.rob.length ∨ c.s.trap ≠ 0) := by
  rintro (q | q | q)
  · rw [h1] at q; cases q
  · omega
  · exact q h3

def pf_i_Pull : PF := ⟨[.c 4 true 19, .t 5], .r [.box 3 1, .alloc 4 zcC, .mv 5 .F] (.seq (.r [.L 9 19 3, .c 10 26 [9], .bnot 11 10] (.cond 11 (.r [.build 12 zcC [], .o 19 4 12, .mv 5 .F] .ret) .skip)) (.r [.L 13 19 3, .c 14 59 [13], .alloc 6 zcC, .o 19 6 14] (.seq (.r [.f 15 3 17, .l 16 1 15, .m 17 16, .n 17 18 (.fa 18 3 10), .n 17 19 (.load 19 false 1 18), .n 17 20 (.len 20 false 19), .n 17 21 (.bin 21 .geq 20 (.i 6)), .pick 22 17 .T 21, .m 23 22, .n 23 24 (.fa 24 3 0), .n 23 25 (.fa 25 24 9), .n 23 26 (.load 26 false 1 25), .n 23 27 (.bin 27 .neq 26 (.i 0)), .pick 28 23 .T 27] (.cond 28 (.r [.L 29 19 6, .o 19 4 29, .mv 5 .F] .ret) .skip)) (.r [.m 31 0, .f 32 3 11, .L 33 6 32, .c 34 206 [31, 33], .m 30 34, .ext 35 30 0, .ext 36 30 1, .alloc 7 zcI, .o 5 7 35, .m 8 36] (.seq (.r [.m 37 8, .bin 38 .neq 37 (.i 0)] (.cond 38 (.seq (.rgd [] [.f 39 6 10, .l 40 1 39, .f 41 3 11, .L 42 6 41, .m 43 8, .f 44 3 11, .L 45 6 44, .c 46 207 [43, 45], .f 47 3 11, .L 48 6 47, .build 49 zcE [(0, 6, 42), (11, 1, .T), (12, 22, 46), (34, 6, 48)], .bs 50 .entry [49], .app 51 .entry 40 50, .f 52 6 10, .o 1 52 51] (.ts [0, 1, 2, 3, 4, 5, 6, 8, 9] (.one 7 false (.tk 10 (.one 11 false (.one 12 true (.tk 13 (.one 14 true .d)))))))) (.r [.f 53 6 17, .s (.store 1 53 .T)] (.r [.L 54 19 6, .o 19 4 54, .mv 5 .T] .ret))) .skip)) (.r [.f 55 3 18, .l 56 1 55, .f 57 3 11, .L 58 6 57, .c 59 208 [56, 58], .f 60 6 11, .o 6 60 59] (.r [.f 61 6 10, .l 62 1 61, .f 63 3 11, .L 64 6 63, .L 65 5 7, .f 66 6 11, .L 67 6 66, .build 68 zcE [(0, 6, 64), (6, 5, 65), (34, 6, 67)], .bs 69 .entry [68], .app 70 .entry 62 69, .f 71 6 10, .o 1 71 70] (.r [.L 72 19 6, .o 19 4 72, .mv 5 .T] .ret))))))))⟩
def c_i_Pull : Fun := ⟨166, [], fun ts K => as2 ts fun t0 t1 => arC (pL .inst) t0 fun l => arG pCoreT t1 fun c => chk (l.length ≤ 2147483647 ∧ LCore c 2147483647) (K (coreT (pullC l c)) [])⟩
theorem run_i_Pull (l : List (FT.Ty .inst)) (c : Core) (hpre : l.length ≤ 2147483647 ∧ LCore c 2147483647) : runK [c_i_CoreOk, c_i_cloneCore, c_i_Fetch, c_i_trapped, c_i_Guess] (0) [] pf_i_Pull [tL false .inst l, tG (c.tc false [])] fun r o => r = coreT (pullC l c) ∧ o = [] := by
  obtain ⟨l0, l1⟩ := hpre
  conv => whnf
  repeat' (first | ((first | refine sel_i (fun h => ?_) (fun h => ?_) | refine chk_c ?_ ?_) <;> conv => whnf) | refine And.intro ?_ rfl | (refine And.intro ?_ ?_ <;> conv => whnf))
  all_goals (try simp only [etaKey, etaWord, etaInst, etaEff, etaEntry, etaMemory, etaState, etaCore, Bool.not_eq_true', Bool.not_eq_false', bne_iff_ne, ne_eq, bne_eq_false_iff_eq, beq_iff_eq, beq_eq_false_iff_ne, decide_eq_true_eq, decide_eq_false_iff_not, ge_iff_le] at *)
  all_goals (try have hc := coreOk_len (c := c) (by assumption))
  all_goals first
    | (refine ⟨?_⟩; first | assumption | (simp only [List.length_cons, List.length_nil]; omega) | omega)
    | (rw [pullC_no (by assumption)]; rfl)
    | (rw [pullC_st (by assumption) (by first | exact .inl (by assumption) | exact .inr (.inl (by omega)) | exact .inr (.inr (by assumption)))]; rfl)
    | (rw [pullC_t (by assumption) (nst (by assumption) (by omega) (by assumption)) (by assumption)]; rfl)
    | (rw [pullC_0 (by assumption) (nst (by assumption) (by omega) (by assumption)) (by assumption)]; rfl)
    | trace_state
theorem ok_i_Pull : FunOk Tryz.prog c_i_Pull := funOk (eK ok_i_CoreOk (eK ok_i_cloneCore (eK ok_i_Fetch (eK ok_i_trapped (eK ok_i_Guess eN))))) mixd Tryz.func166 (pf := pf_i_Pull) (by kernel_rfl) fun ts K h => by
  obtain ⟨t0, t1, rfl, q0⟩ := as2_out h
  obtain ⟨l, rfl, q1⟩ := arC_out (rd_l .inst) q0
  obtain ⟨c, rfl, q2⟩ := arG_out rd_core q1
  obtain ⟨hpre, hk⟩ := chk_o q2
  exact ⟨_, _, hk, nb 2 Tryz.f166 (by kernel_rfl), _, run_i_Pull l c hpre⟩

def pf_s_Pull : PF := ⟨[.c 4 true 19, .t 5], .r [.box 3 1, .alloc 4 zcC, .mv 5 .F] (.seq (.r [.L 10 19 3, .c 11 15 [10], .bnot 12 11] (.cond 12 (.r [.build 13 zcC [], .o 19 4 13, .mv 5 .F] .ret) .skip)) (.r [.L 14 19 3, .c 15 39 [14], .alloc 6 zcC, .o 19 6 15] (.seq (.r [.f 16 3 17, .l 17 1 16, .m 18 17, .n 18 19 (.fa 19 3 10), .n 18 20 (.load 20 false 1 19), .n 18 21 (.len 21 false 20), .n 18 22 (.bin 22 .eql 21 (.i 6)), .pick 23 18 .T 22, .m 24 23, .n 24 25 (.fa 25 3 0), .n 24 26 (.fa 26 25 9), .n 24 27 (.load 27 false 1 26), .n 24 28 (.bin 28 .neq 27 (.i 0)), .pick 29 24 .T 28] (.cond 29 (.r [.L 30 19 6, .o 19 4 30, .mv 5 .F] .ret) .skip)) (.r [.m 32 0, .f 33 3 11, .L 34 6 33, .c 35 99 [32, 34], .m 31 35, .ext 36 31 0, .ext 37 31 1, .alloc 7 zcI, .o 5 7 36, .m 8 37] (.seq (.r [.m 38 8, .bin 39 .neq 38 (.i 0)] (.cond 39 (.seq (.rgd [] [.f 40 6 10, .l 41 1 40, .f 42 3 11, .L 43 6 42, .m 44 8, .f 45 3 11, .L 46 6 45, .c 47 100 [44, 46], .f 48 3 11, .L 49 6 48, .build 50 zcE [(0, 6, 43), (11, 1, .T), (12, 22, 47), (34, 6, 49)], .bs 51 .entry [50], .app 52 .entry 41 51, .f 53 6 10, .o 1 53 52] (.ts [0, 1, 2, 3, 4, 5, 6, 8, 9] (.one 7 false (.tk 10 (.one 11 false (.one 12 true (.tk 13 (.one 14 true .d)))))))) (.r [.f 54 6 17, .s (.store 1 54 .T)] (.r [.L 55 19 6, .o 19 4 55, .mv 5 .T] .ret))) .skip)) (.r [.f 56 3 18, .l 57 1 56, .f 58 3 11, .L 59 6 58, .c 60 101 [57, 59], .alloc 9 zcW, .o 6 9 60] (.r [.f 61 6 10, .l 62 1 61, .f 63 3 11, .L 64 6 63, .L 65 5 7, .L 66 6 9, .build 67 zcE [(0, 6, 64), (6, 5, 65), (34, 6, 66)], .bs 68 .entry [67], .app 69 .entry 62 68, .f 70 6 10, .o 1 70 69] (.r [.L 71 6 9, .f 72 6 11, .o 6 72 71] (.r [.L 73 19 6, .o 19 4 73, .mv 5 .T] .ret)))))))))⟩
def c_s_Pull : Fun := ⟨51, [], fun ts K => as2 ts fun t0 t1 => arC (pL .inst) t0 fun l => arG pCoreT t1 fun c => chk (l.length ≤ 2147483647 ∧ LCore c 2147483647) (K (coreT (pullC l c)) [])⟩
theorem run_s_Pull (l : List (FT.Ty .inst)) (c : Core) (hpre : l.length ≤ 2147483647 ∧ LCore c 2147483647) : runK [c_s_CoreOk, c_s_l12Copy, c_s_Fetch, c_s_l9Trap, c_s_Guess] (0) [] pf_s_Pull [tL false .inst l, tG (c.tc false [])] fun r o => r = coreT (pullC l c) ∧ o = [] := by
  obtain ⟨l0, l1⟩ := hpre
  conv => whnf
  repeat' (first | ((first | refine sel_i (fun h => ?_) (fun h => ?_) | refine chk_c ?_ ?_) <;> conv => whnf) | refine And.intro ?_ rfl | (refine And.intro ?_ ?_ <;> conv => whnf))
  all_goals (try simp only [etaKey, etaWord, etaInst, etaEff, etaEntry, etaMemory, etaState, etaCore, Bool.not_eq_true', Bool.not_eq_false', bne_iff_ne, ne_eq, bne_eq_false_iff_eq, beq_iff_eq, beq_eq_false_iff_ne, decide_eq_true_eq, decide_eq_false_iff_not, ge_iff_le] at *)
  all_goals (try have hc := coreOk_len (c := c) (by assumption))
  all_goals first
    | (refine ⟨?_⟩; first | assumption | (simp only [List.length_cons, List.length_nil]; omega) | omega)
    | (rw [pullC_no (by assumption)]; rfl)
    | (rw [pullC_st (by assumption) (by first | exact .inl (by assumption) | exact .inr (.inl (by omega)) | exact .inr (.inr (by assumption)))]; rfl)
    | (rw [pullC_t (by assumption) (nst (by assumption) (by omega) (by assumption)) (by assumption)]; rfl)
    | (rw [pullC_0 (by assumption) (nst (by assumption) (by omega) (by assumption)) (by assumption)]; rfl)
    | trace_state
theorem ok_s_Pull : FunOk Tryz.prog c_s_Pull := funOk (eK ok_s_CoreOk (eK ok_s_l12Copy (eK ok_s_Fetch (eK ok_s_l9Trap (eK ok_s_Guess eN))))) mixd Tryz.func51 (pf := pf_s_Pull) (by kernel_rfl) fun ts K h => by
  obtain ⟨t0, t1, rfl, q0⟩ := as2_out h
  obtain ⟨l, rfl, q1⟩ := arC_out (rd_l .inst) q0
  obtain ⟨c, rfl, q2⟩ := arG_out rd_core q1
  obtain ⟨hpre, hk⟩ := chk_o q2
  exact ⟨_, _, hk, nb 2 Tryz.f51 (by kernel_rfl), _, run_s_Pull l c hpre⟩

theorem getE_ok {c : Core} (h : coreOk c = true) {k : Nat} (hk : k < c.rob.length) : entryOk (c.rob.getD k (FT.zero .entry)) = true := by
  rw [List.getD_eq_getElem?_getD, List.getElem?_eq_getElem hk]
  exact (coreOk_iff.1 h).2.2.1 _ (List.getElem_mem hk)
theorem entryOk_in {e : Entry} (h : entryOk e = true) : (0 ≤ e.x.a ∧ e.x.a ≤ 7) ∧ (0 ≤ e.x.b ∧ e.x.b ≤ 7) := by
  simp only [entryOk, Bool.and_eq_true, Bool.or_eq_true, decide_eq_true_eq] at h
  rcases h.1.1.1.2 with hx | hx
  · exact insOk_in hx
  · rw [hx]; decide
theorem valueR_eq {c : Core} {i r : Int} (h : 0 ≤ r ∧ r ≤ 7) (h2 : coreOk c = true) : valueR c i r = valueC c i r := valueR_ok (inR_t.2 h) h2
def atE (c : Core) (i : Int) : Entry := c.rob.getD i.toNat (FT.zero .entry)
theorem atE_in {c : Core} (h : coreOk c = true) {i : Int} (h0 : 0 ≤ i) (h1 : i < c.rob.length) : (0 ≤ (atE c i).x.a ∧ (atE c i).x.a ≤ 7) ∧ (0 ≤ (atE c i).x.b ∧ (atE c i).x.b ≤ 7) :=
  entryOk_in (getE_ok h (by omega))
def blkE (e : Entry) : Bool := (e.x.op == 11 && !e.done) || e.x.op == 14
def rdyC (c : Core) (i p : Int) : Bool := !hasC (atE c i).x.op p || (valueC c i (partI (atE c i).x p)).2
def readyC (c : Core) (i : Int) : Bool := coreOk c && inR i 0 (c.rob.length - 1) && !(atE c i).done && rdyC c i 65 && rdyC c i 66 && ((atE c i).x.op != 10 || !(c.rob.take i.toNat).any blkE)
theorem part65 (x : Inst) : partI x 65 = x.a := rfl
theorem part66 (x : Inst) : partI x 66 = x.b := rfl
theorem hasA (x : Inst) : hasC x.op 65 = (andI (maskI x.op) 2 != 0) := by
  obtain ⟨op, r, a, b, n⟩ := x
  dsimp only
  by_cases h : 1 ≤ op ∧ op ≤ 15
  · have hop : op = 1 ∨ op = 2 ∨ op = 3 ∨ op = 4 ∨ op = 5 ∨ op = 6 ∨ op = 7 ∨ op = 8 ∨ op = 9 ∨ op = 10 ∨ op = 11 ∨ op = 12 ∨ op = 13 ∨ op = 14 ∨ op = 15 := by omega
    rcases hop with rfl | rfl | rfl | rfl | rfl | rfl | rfl | rfl | rfl | rfl | rfl | rfl | rfl | rfl | rfl <;> decide
  · have e1 : maskI op = 0 := by unfold maskI; rw [if_neg (by rw [inR_t]; exact h)]
    have e2 : formS op = ⟨#[]⟩ := by
      unfold formS
      rw [if_neg (by omega), if_neg (by omega), if_neg (by omega), if_neg (by omega), if_neg (by omega), if_neg (by omega), if_neg (by omega), if_neg (by omega)]
    rw [e1, hasC, e2]; decide
theorem hasB (x : Inst) : hasC x.op 66 = (andI (maskI x.op) 4 != 0) := by
  obtain ⟨op, r, a, b, n⟩ := x
  dsimp only
  by_cases h : 1 ≤ op ∧ op ≤ 15
  · have hop : op = 1 ∨ op = 2 ∨ op = 3 ∨ op = 4 ∨ op = 5 ∨ op = 6 ∨ op = 7 ∨ op = 8 ∨ op = 9 ∨ op = 10 ∨ op = 11 ∨ op = 12 ∨ op = 13 ∨ op = 14 ∨ op = 15 := by omega
    rcases hop with rfl | rfl | rfl | rfl | rfl | rfl | rfl | rfl | rfl | rfl | rfl | rfl | rfl | rfl | rfl <;> decide
  · have e1 : maskI op = 0 := by unfold maskI; rw [if_neg (by rw [inR_t]; exact h)]
    have e2 : formS op = ⟨#[]⟩ := by
      unfold formS
      rw [if_neg (by omega), if_neg (by omega), if_neg (by omega), if_neg (by omega), if_neg (by omega), if_neg (by omega), if_neg (by omega), if_neg (by omega)]
    rw [e1, hasC, e2]; decide

def pf_i_known : PF := ⟨[.t 6], .r [.box 3 0, .mv 6 .F] (.r [.f 10 3 10, .l 11 1 10, .m 12 1, .ia 13 .entry 11 12, .f 14 13 6, .L 15 5 14, .alloc 7 zcI, .o 5 7 15] (.seq (.r [.L 16 5 7, .m 17 2, .c 18 163 [16, 17], .bnot 19 18] (.cond 19 (.r [.mv 6 .T] .ret) .skip)) (.seq (.rgd [] [.L 21 19 3, .m 22 1, .L 23 5 7, .m 24 2, .c 25 162 [23, 24], .c 26 212 [21, 22, 25], .m 20 26, .ext 27 20 0, .ext 28 20 1, .alloc 8 zcW, .o 6 8 27, .m 9 28] (.ts [0, 1, 2, 3] (.alt 4 false (.alt 5 false (.ts [6, 7, 8] (.one 9 false (.one 10 true (.tk 11 (.done (some [9])))))) (.alt 9 false (.one 5 true (.ts [6, 7, 8] (.one 10 true (.tk 11 (.done (some [9])))))) .nil)) (.alt 9 false (.one 4 false (.one 5 true (.ts [6, 7, 8] (.one 10 true (.tk 11 (.done (some [9]))))))) .nil)))) (.r [.m 29 9, .m 6 29] .ret))))⟩
def c_i_known : Fun := ⟨210, [], fun ts K => as3 ts fun t0 t1 t2 => arG pCoreT t0 fun c => arC (pI .i64) t1 fun i => arC (pI .u8) t2 fun p => chk (LCore c 2147483647 ∧ 0 ≤ i ∧ i < c.rob.length) (K (tB (!hasC (atE c i).x.op p || (valueR c i (partI (atE c i).x p)).2)) [])⟩
theorem run_i_known (c : Core) (i : Int) (p : Int) (hpre : LCore c 2147483647 ∧ 0 ≤ i ∧ i < c.rob.length) : runK [c_i_partOf, c_i_hasPart, c_i_Value] (0) [] pf_i_known [tG (c.tc false []), tI .i64 i, tI .u8 p] fun r o => r = tB (!hasC (atE c i).x.op p || (valueR c i (partI (atE c i).x p)).2) ∧ o = [] := by
  obtain ⟨l0, l1, l2⟩ := hpre
  conv => whnf
  repeat' (first | ((first | refine sel_i (fun h => ?_) (fun h => ?_) | refine chk_c ?_ ?_) <;> conv => whnf) | refine And.intro ?_ rfl | (refine And.intro ?_ ?_ <;> conv => whnf))
  all_goals (try simp only [etaKey, etaWord, etaInst, etaEff, etaEntry, etaMemory, etaState, etaCore, Bool.not_eq_true', Bool.not_eq_false', bne_iff_ne, ne_eq, bne_eq_false_iff_eq, beq_iff_eq, beq_eq_false_iff_ne, decide_eq_true_eq, decide_eq_false_iff_not, ge_iff_le] at *)
  all_goals first
    | (refine ⟨?_⟩; first | assumption | omega)
    | (unfold atE; simp only [*, Bool.not_true, Bool.not_false, Bool.true_or, Bool.false_or]; done)
    | trace_state
theorem ok_i_known : FunOk Tryz.prog c_i_known := funOk (eK ok_i_partOf (eK ok_i_hasPart (eK ok_i_Value eN))) mixd Tryz.func210 (pf := pf_i_known) (by kernel_rfl) fun ts K h => by
  obtain ⟨t0, t1, t2, rfl, q0⟩ := as3_out h
  obtain ⟨c, rfl, q1⟩ := arG_out rd_core q0
  obtain ⟨i, rfl, q2⟩ := arC_out (rd_int .i64) q1
  obtain ⟨p, rfl, q3⟩ := arC_out (rd_int .u8) q2
  obtain ⟨hpre, hk⟩ := chk_o q3
  exact ⟨_, _, hk, nb 3 Tryz.f210 (by kernel_rfl), _, run_i_known c i p hpre⟩

def pf_i_Ready_1 : PF := ⟨[.t 2], .r [.box 1 0, .mv 2 .F] (.r [.f 3 1 6, .f 4 3 0, .l 5 1 4, .bin 6 .eql 5 (.i 11), .m 7 6, .y 7 8 (.fa 8 1 11), .y 7 9 (.load 9 false 1 8), .y 7 10 (.bnot 10 9), .pick 11 7 10 .F, .m 12 11, .n 12 13 (.fa 13 1 6), .n 12 14 (.fa 14 13 0), .n 12 15 (.load 15 false 1 14), .n 12 16 (.bin 16 .eql 15 (.i 14)), .pick 17 12 .T 16, .m 2 17] .ret)⟩
def c_i_Ready_1 : Fun := ⟨211, [], fun ts K => as1 ts fun t0 => arG pEntryT t0 fun e => K (tB (blkE e)) []⟩
theorem run_i_Ready_1 (e : Entry) : runK [] (0) [] pf_i_Ready_1 [tG (e.tc [])] fun r o => r = tB (blkE e) ∧ o = [] := by
  conv => whnf
  repeat' (first | ((first | refine sel_i (fun h => ?_) (fun h => ?_) | refine chk_c ?_ ?_) <;> conv => whnf) | refine And.intro ?_ rfl | (refine And.intro ?_ ?_ <;> conv => whnf))
  all_goals (unfold blkE; simp only [*, Bool.true_and, Bool.false_and, Bool.true_or, Bool.false_or]; first | done | trace_state)
theorem ok_i_Ready_1 : FunOk Tryz.prog c_i_Ready_1 := funOk (eN) mixd Tryz.func211 (pf := pf_i_Ready_1) (by kernel_rfl) fun ts K h => by
  obtain ⟨t0, rfl, q0⟩ := as1_out h
  obtain ⟨e, rfl, q1⟩ := arG_out rd_entry q0
  exact ⟨_, _, q1, nb 1 Tryz.f211 (by kernel_rfl), _, run_i_Ready_1 e⟩

def c_slices_IndexFunc_Entry__impl_Ready_1 : Fun := ⟨113, [], fun ts K => as2 ts fun t0 t1 => arC (pL .entry) t0 fun xs => arF0 211 t1 fun g => chk (xs.length ≤ 2147483647) (K (tN (idxOf (fun e => blkE e) xs)) [])⟩
theorem run_slices_IndexFunc_Entry__impl_Ready_1 (xs : List (FT.Ty .entry)) (g : Unit) (hpre : xs.length ≤ 2147483647) : runK [c_i_Ready_1] (xs.length + 1) [] pf_slices_IndexFunc_Entry [tL false .entry xs, .fn 211 []] fun r o => r = tN (idxOf (fun e => blkE e) xs) ∧ o = [] := by
  conv => whnf
  refine loop (α := Nat) (fun i => ⟨[(0, .v (.c (.sl false .entry 0))), (1, .fn 211 []), (7, .v (.c (.int .i64 (xs.length : Int)))), (8, .v (.c (.int .i64 (i : Int))))], [(0, some (.flat false .entry none xs))], nums.tail, [], false, []⟩)
      (fun i => i ≤ xs.length ∧ idxOf (fun e => blkE e) xs = idxGo (fun e => blkE e) (xs.drop i) i) (fun i => xs.length - i) (fun i R hI hR => ?_) 0 _ ⟨by simp, rfl⟩ (by simp)
  obtain ⟨hi, hx⟩ := hI
  conv => whnf
  refine sel_i (fun h2 => ?_) (fun h2 => ?_)
  · have hlt : i < xs.length := by simp at h2; omega
    conv => whnf
    repeat (refine chk_i (by first | omega | (simp; omega)) ?_; conv => whnf)
    refine sel_i (fun h3 => ?_) (fun h3 => ?_)
    · conv => whnf
      rw [hx, idxGo_yes (z := FT.zero .entry) hlt (by first | (simp only [keyEq] at h3; exact h3) | (simpa using h3))]
      exact ⟨rfl, rfl⟩
    · conv => whnf
      rw [wrap_id (n := (i : Int) + 1) (by omega) (by omega)]
      exact hR (i + 1) ⟨by omega, by rw [hx, idxGo_no (z := FT.zero .entry) hlt (by first | (simp only [keyEq] at h3; exact h3) | (simpa using h3))]⟩ (by omega)
  · conv => whnf
    rw [hx, idxGo_end (by simp at h2; omega)]
    exact ⟨rfl, rfl⟩
theorem ok_slices_IndexFunc_Entry__impl_Ready_1 : FunOk Tryz.prog c_slices_IndexFunc_Entry__impl_Ready_1 := funOk (eK ok_i_Ready_1 eN) mixd Tryz.func113 (pf := pf_slices_IndexFunc_Entry) (by kernel_rfl) fun ts K h => by
  obtain ⟨t0, t1, rfl, q0⟩ := as2_out h
  obtain ⟨xs, rfl, q1⟩ := arC_out (rd_l .entry) q0
  obtain ⟨g, rfl, q2⟩ := arF0_out q1
  obtain ⟨hpre, hk⟩ := chk_o q2
  exact ⟨_, _, hk, nb 2 Tryz.f113 (by kernel_rfl), _, run_slices_IndexFunc_Entry__impl_Ready_1 xs g hpre⟩

def c_slices_ContainsFunc_Entry__impl_Ready_1 : Fun := ⟨62, [], fun ts K => as2 ts fun t0 t1 => arC (pL .entry) t0 fun xs => arF0 211 t1 fun g => chk (xs.length ≤ 2147483647) (K (tB (xs.any (fun e => blkE e))) [])⟩
theorem run_slices_ContainsFunc_Entry__impl_Ready_1 (xs : List (FT.Ty .entry)) (g : Unit) (hpre : xs.length ≤ 2147483647) : runK [c_slices_IndexFunc_Entry__impl_Ready_1, c_i_Ready_1] (0) [] pf_slices_ContainsFunc_Entry [tL false .entry xs, .fn 211 []] fun r o => r = tB (xs.any (fun e => blkE e)) ∧ o = [] := by
  conv => whnf
  repeat' (first | ((first | refine sel_i (fun h => ?_) (fun h => ?_) | refine chk_c ?_ ?_) <;> conv => whnf) | refine And.intro ?_ rfl | (refine And.intro ?_ ?_ <;> conv => whnf))
  all_goals first | (refine ⟨?_⟩; exact hpre) | exact hpre | (rw [← idxOf_any]; rfl) | (rw [← idxOf_any])
theorem ok_slices_ContainsFunc_Entry__impl_Ready_1 : FunOk Tryz.prog c_slices_ContainsFunc_Entry__impl_Ready_1 := funOk (eK ok_slices_IndexFunc_Entry__impl_Ready_1 (eK ok_i_Ready_1 eN)) mixd Tryz.func62 (pf := pf_slices_ContainsFunc_Entry) (by kernel_rfl) fun ts K h => by
  obtain ⟨t0, t1, rfl, q0⟩ := as2_out h
  obtain ⟨xs, rfl, q1⟩ := arC_out (rd_l .entry) q0
  obtain ⟨g, rfl, q2⟩ := arF0_out q1
  obtain ⟨hpre, hk⟩ := chk_o q2
  exact ⟨_, _, hk, nb 2 Tryz.f62 (by kernel_rfl), _, run_slices_ContainsFunc_Entry__impl_Ready_1 xs g hpre⟩

def pf_i_Ready : PF := ⟨[.t 4], .r [.box 2 0, .mv 4 .F] (.seq (.r [.L 5 19 2, .c 6 26 [5], .bnot 7 6, .m 8 7, .n 8 9 (.mv 9 1), .n 8 10 (.fa 10 2 10), .n 8 11 (.load 11 false 1 10), .n 8 12 (.len 12 false 11), .n 8 13 (.bin 13 .sub 12 (.i 1)), .n 8 14 (.call (some 14) 112 [9, (.i 0), 13]), .n 8 15 (.bnot 15 14), .pick 16 8 .T 15, .m 17 16, .n 17 18 (.fa 18 2 10), .n 17 19 (.load 19 false 1 18), .n 17 20 (.mv 20 1), .n 17 21 (.ia 21 .entry 19 20), .n 17 22 (.fa 22 21 11), .n 17 23 (.load 23 false 1 22), .pick 24 17 .T 23, .m 25 24, .n 25 26 (.load 26 true 19 2), .n 25 27 (.mv 27 1), .n 25 28 (.call (some 28) 210 [26, 27, (.k (.v (.c (.int .u8 65))))]), .n 25 29 (.bnot 29 28), .pick 30 25 .T 29, .m 31 30, .n 31 32 (.load 32 true 19 2), .n 31 33 (.mv 33 1), .n 31 34 (.call (some 34) 210 [32, 33, (.k (.v (.c (.int .u8 66))))]), .n 31 35 (.bnot 35 34), .pick 36 31 .T 35] (.cond 36 (.r [.mv 4 .F] .ret) .skip)) (.r [.f 37 2 10, .l 38 1 37, .m 39 1, .ia 40 .entry 38 39, .f 41 40 6, .f 42 41 0, .l 43 1 42, .bin 44 .neq 43 (.i 10), .m 45 44, .n 45 46 (.fa 46 2 10), .n 45 47 (.load 47 false 1 46), .n 45 48 (.mv 48 1), .n 45 49 (.slc 49 .entry 47 none (some 48)), .n 45 50 (.call (some 50) 62 [49, (.k (.fn 211 []))]), .n 45 51 (.bnot 51 50), .pick 52 45 .T 51, .m 4 52] .ret))⟩
def c_i_Ready : Fun := ⟨168, [], fun ts K => as2 ts fun t0 t1 => arG pCoreT t0 fun c => arC (pI .i64) t1 fun i => chk (LCore c 2147483647) (K (tB (readyC c i)) [])⟩
theorem run_i_Ready (c : Core) (i : Int) (hpre : LCore c 2147483647) : runK [c_i_CoreOk, c_slices_ContainsFunc_Entry__impl_Ready_1, c_i_in, c_i_known, c_i_Ready_1] (0) [] pf_i_Ready [tG (c.tc false []), tI .i64 i] fun r o => r = tB (readyC c i) ∧ o = [] := by
  have w1 : coreOk c = true → IntKind.i64.wrap ((c.rob.length : Int) - 1) = (c.rob.length : Int) - 1 := fun h => by
    have := coreOk_len h
    exact wrap_id (by omega) (by omega)
  have kA : coreOk c = true → inR i 0 (c.rob.length - 1) = true → valueR c i (partI (atE c i).x 65) = valueC c i (partI (atE c i).x 65) := fun h h2 => by
    have hr := inR_t.1 h2
    exact valueR_eq (atE_in h (by omega) (by omega)).1 h
  have kB : coreOk c = true → inR i 0 (c.rob.length - 1) = true → valueR c i (partI (atE c i).x 66) = valueC c i (partI (atE c i).x 66) := fun h h2 => by
    have hr := inR_t.1 h2
    exact valueR_eq (atE_in h (by omega) (by omega)).2 h
  have g1 : win c.rob 0 i.toNat = c.rob.take i.toNat := by unfold win; rw [List.drop_zero]
  conv => whnf
  repeat' (first | ((first | refine sel_i (fun h => ?_) (fun h => ?_) | refine chk_c ?_ ?_) <;> conv => whnf) | refine And.intro ?_ rfl | (refine And.intro ?_ ?_ <;> conv => whnf))
  all_goals (try simp only [etaKey, etaWord, etaInst, etaEff, etaEntry, etaMemory, etaState, etaCore, Bool.not_eq_true', Bool.not_eq_false', show c.rob.getD i.toNat (FT.zero .entry) = atE c i from rfl] at *)
  all_goals (try rw [w1 (by assumption)] at *)
  all_goals (try have hr := inR_t.1 (show inR i 0 (c.rob.length - 1) = true by assumption))
  all_goals (try have hc := coreOk_len (c := c) (by assumption))
  all_goals (try rw [kA (by assumption) (by assumption)] at *)
  all_goals (try rw [kB (by assumption) (by assumption)] at *)
  all_goals first
    | (refine ⟨?_⟩; first | assumption | exact coreOk_l (by assumption) | exact ⟨coreOk_l (by assumption), by omega, by omega⟩ | omega | (rw [g1, List.length_take]; omega))
    | (unfold readyC rdyC; simp only [*, Bool.and_true, Bool.true_and, Bool.and_false, Bool.false_and, Bool.or_true, Bool.true_or, Bool.or_false, Bool.false_or, Bool.not_true, Bool.not_false]; done)
    | trace_state
theorem ok_i_Ready : FunOk Tryz.prog c_i_Ready := funOk (eK ok_i_CoreOk (eK ok_slices_ContainsFunc_Entry__impl_Ready_1 (eK ok_i_in (eK ok_i_known (eK ok_i_Ready_1 eN))))) mixd Tryz.func168 (pf := pf_i_Ready) (by kernel_rfl) fun ts K h => by
  obtain ⟨t0, t1, rfl, q0⟩ := as2_out h
  obtain ⟨c, rfl, q1⟩ := arG_out rd_core q0
  obtain ⟨i, rfl, q2⟩ := arC_out (rd_int .i64) q1
  obtain ⟨hpre, hk⟩ := chk_o q2
  exact ⟨_, _, hk, nb 2 Tryz.f168 (by kernel_rfl), _, run_i_Ready c i hpre⟩

theorem readyC_eq (c : Core) (i : Int) : readyC c i = (coreOk c && inR i 0 (c.rob.length - 1) && !(atE c i).done && (!(andI (maskI (atE c i).x.op) 2 != 0) || (valueC c i (atE c i).x.a).2) && (!(andI (maskI (atE c i).x.op) 4 != 0) || (valueC c i (atE c i).x.b).2) && ((atE c i).x.op != 10 || !(c.rob.take i.toNat).any blkE)) := by
  unfold readyC rdyC
  rw [hasA, hasB, part65, part66]
theorem any_take_no {α : Type} {p : α → Bool} {z : α} {xs : List α} {m k : Nat} (hk : k < m) (hm : m ≤ xs.length) (hp : p (xs.getD k z) = false) (hx : ((xs.take m).drop k).any p = (xs.take m).any p) : ((xs.take m).drop (k + 1)).any p = (xs.take m).any p :=
  any_no (z := z) (by rw [List.length_take]; omega) (by rw [List.getD_eq_getElem?_getD, List.getElem?_take, if_pos hk, ← List.getD_eq_getElem?_getD]; exact hp) hx
theorem any_take_yes {α : Type} {p : α → Bool} {z : α} {xs : List α} {m k : Nat} (hk : k < m) (hm : m ≤ xs.length) (hp : p (xs.getD k z) = true) (hx : ((xs.take m).drop k).any p = (xs.take m).any p) : (xs.take m).any p = true :=
  any_yes (z := z) (by rw [List.length_take]; omega) (by rw [List.getD_eq_getElem?_getD, List.getElem?_take, if_pos hk, ← List.getD_eq_getElem?_getD]; exact hp) hx
theorem any_take_end {α : Type} {p : α → Bool} {xs : List α} {m k : Nat} (hk : m ≤ k) (hx : ((xs.take m).drop k).any p = (xs.take m).any p) : (xs.take m).any p = false :=
  any_end (by rw [List.length_take]; omega) hx
theorem blkE_eq (e : Entry) : blkE e = ((e.x.op == 11 && !e.done) || e.x.op == 14) := rfl

def lb_s_Ready_0 : PC := .seq (.r [.m 74 11, .m 75 1, .bin 76 .lss 74 75, .m 77 76, .y 77 78 (.fa 78 5 0), .y 77 79 (.load 79 false 1 78), .y 77 80 (.bin 80 .eql 79 (.i 10)), .pick 81 77 80 .F] (.cond 81 .skip (.exit 0))) (.seq (.blk 1 (.r [.f 84 2 10, .l 85 1 84, .m 86 11, .ia 87 .entry 85 86, .L 88 40 87, .alloc 12 zcE, .o 40 12 88] (.r [.f 89 12 6, .f 90 89 0, .l 91 1 90, .bin 92 .eql 91 (.i 11), .m 93 92, .y 93 94 (.fa 94 12 11), .y 93 95 (.load 95 false 1 94), .y 93 96 (.bnot 96 95), .pick 97 93 96 .F, .m 98 97, .n 98 99 (.fa 99 12 6), .n 98 100 (.fa 100 99 0), .n 98 101 (.load 101 false 1 100), .n 98 102 (.bin 102 .eql 101 (.i 14)), .pick 103 98 .T 102] (.cond 103 (.r [.mv 4 .F] .ret) .skip)))) (.reg [.m 82 11, .bin 83 .add 82 (.i 1), .m 11 83]))
def pf_s_Ready : PF := ⟨[.t 4], .r [.box 2 0, .mv 4 .F] (.seq (.r [.L 13 19 2, .c 14 15 [13], .bnot 15 14, .m 16 15, .n 16 17 (.mv 17 1), .n 16 18 (.fa 18 2 10), .n 16 19 (.load 19 false 1 18), .n 16 20 (.len 20 false 19), .n 16 21 (.bin 21 .sub 20 (.i 1)), .n 16 22 (.call (some 22) 53 [17, (.i 0), 21]), .n 16 23 (.bnot 23 22), .pick 24 16 .T 23, .m 25 24, .n 25 26 (.fa 26 2 10), .n 25 27 (.load 27 false 1 26), .n 25 28 (.mv 28 1), .n 25 29 (.ia 29 .entry 27 28), .n 25 30 (.fa 30 29 11), .n 25 31 (.load 31 false 1 30), .pick 32 25 .T 31] (.cond 32 (.r [.mv 4 .F] .ret) .skip)) (.r [.f 33 2 10, .l 34 1 33, .m 35 1, .ia 36 .entry 34 35, .f 37 36 6, .L 38 5 37, .alloc 5 zcI, .o 5 5 38] (.r [.f 39 5 0, .l 40 1 39, .c 41 139 [40], .m 6 41] (.r [.L 43 19 2, .m 44 1, .f 45 5 2, .l 46 1 45, .c 47 146 [43, 44, 46], .m 42 47, .ext 48 42 0, .ext 49 42 1, .alloc 7 zcW, .o 6 7 48, .m 8 49] (.r [.L 51 19 2, .m 52 1, .f 53 5 3, .l 54 1 53, .c 55 146 [51, 52, 54], .m 50 55, .ext 56 50 0, .ext 57 50 1, .alloc 9 zcW, .o 6 9 56, .m 10 57] (.seq (.r [.m 58 6, .bin 59 .and 58 (.i 2), .bin 60 .neq 59 (.i 0), .m 61 60, .y 61 62 (.mv 62 8), .y 61 63 (.bnot 63 62), .pick 64 61 63 .F, .m 65 64, .n 65 66 (.mv 66 6), .n 65 67 (.bin 67 .and 66 (.i 4)), .n 65 68 (.bin 68 .neq 67 (.i 0)), .n 65 69 (.mv 69 68), .y 69 70 (.mv 70 10), .y 69 71 (.bnot 71 70), .n 65 72 (.pick 72 69 71 .F), .pick 73 65 .T 72] (.cond 73 (.r [.mv 4 .F] .ret) .skip)) (.seq (.r [.mv 11 (.i 0)] (.blk 0 (.loop [1, 2, 5, 11] lb_s_Ready_0))) (.r [.mv 4 .T] .ret))))))))⟩
def c_s_Ready : Fun := ⟨95, [], fun ts K => as2 ts fun t0 t1 => arG pCoreT t0 fun c => arC (pI .i64) t1 fun i => chk (LCore c 2147483647) (K (tB (readyC c i)) [])⟩
theorem run_s_Ready (c : Core) (i : Int) (hpre : LCore c 2147483647) : runK [c_s_CoreOk, c_s_l1In, c_s_l6Has, c_s_l12Value] (c.rob.length + 1) [] pf_s_Ready [tG (c.tc false []), tI .i64 i] fun r o => r = tB (readyC c i) ∧ o = [] := by
  rw [readyC_eq]
  have w1 : coreOk c = true → IntKind.i64.wrap ((c.rob.length : Int) - 1) = (c.rob.length : Int) - 1 := fun h => by
    have := coreOk_len h
    exact wrap_id (by omega) (by omega)
  conv => whnf
  repeat' (first | ((first | refine sel_i (fun h => ?_) (fun h => ?_) | refine chk_c ?_ ?_) <;> conv => whnf) | refine And.intro ?_ rfl | (refine And.intro ?_ ?_ <;> conv => whnf))
  all_goals (try simp only [etaKey, etaWord, etaInst, etaEff, etaEntry, etaMemory, etaState, etaCore, andI_eq, Bool.not_eq_true', Bool.not_eq_false', show c.rob.getD i.toNat (FT.zero .entry) = atE c i from rfl] at *)
  all_goals (try rw [w1 (by assumption)] at *)
  all_goals (try have hr := inR_t.1 (show inR i 0 (c.rob.length - 1) = true by assumption))
  all_goals (try have hc := coreOk_len (c := c) (by assumption))
  all_goals (try have ha := atE_in (c := c) (i := i) (by assumption) (by omega) (by omega))
  all_goals first
    | (refine ⟨?_⟩; first | assumption | exact ⟨coreOk_l (by assumption), hc.1.1, by omega, by omega⟩ | omega)
    | (simp only [*, Bool.and_true, Bool.true_and, Bool.and_false, Bool.false_and, Bool.or_true, Bool.true_or, Bool.or_false, Bool.false_or, Bool.not_true, Bool.not_false]; done)
    | skip
  all_goals (simp only [*, Bool.and_true, Bool.true_and, Bool.and_false, Bool.false_and, Bool.or_true, Bool.true_or, Bool.or_false, Bool.false_or, Bool.not_true, Bool.not_false])
  all_goals (refine loop (α := Nat) (fun k => ⟨[(1, .v (.c (.int .i64 i))), (2, .v (.c (.ptr 0 0))), (5, .v (.c (.ptr 6 0))), (11, .v (.c (.int .i64 (k : Int))))],
                      [(6, some (.box true [.int .i64 (atE c i).x.op, .int .i64 (atE c i).x.r, .int .i64 (atE c i).x.a, .int .i64 (atE c i).x.b, .int .i64 (atE c i).x.n])),
                       (5, some (.flat false (.int .i64) none c.guesses)), (4, some (.flat false .entry none c.rob)), (3, some (.flat false .bool none c.s.mem.gone)), (2, some (.flat false .word none c.s.mem.words)), (1, some (.flat false .word none c.s.regs)),
                       (0, some (.box true [.sl false .word 1, .int .i64 c.s.pc.n, .bool c.s.pc.is, .int .i64 c.s.pc.key.base, .int .i64 c.s.pc.key.top, .int .i64 c.s.pc.key.perms, .int .i64 c.s.pc.key.sealed, .sl false .word 2, .sl false .bool 3, .int .i64 c.s.trap,
                         .sl false .entry 4, .int .i64 c.next.n, .bool c.next.is, .int .i64 c.next.key.base, .int .i64 c.next.key.top, .int .i64 c.next.key.perms, .int .i64 c.next.key.sealed, .bool c.stop, .sl false (.int .i64) 5]))], nums.tail.tail.tail.tail.tail.tail.tail, [], false, []⟩)
                    (fun k => (k : Int) ≤ i ∧ ((c.rob.take i.toNat).drop k).any blkE = (c.rob.take i.toNat).any blkE) (fun k => c.rob.length - k) (fun k R hI hR => ?_) 0 _ ⟨by omega, rfl⟩ (by omega))
  all_goals obtain ⟨hk, hx⟩ := hI
  all_goals (have w3 : IntKind.i64.wrap ((k : Int) + 1) = ((k + 1 : Nat) : Int) := by rw [wrap_id (by omega) (by omega)]; rfl)
  all_goals (have hb := blkE_eq (c.rob.getD k (FT.zero .entry)))
  all_goals conv => whnf
  all_goals repeat' (first | ((first | refine sel_i (fun h => ?_) (fun h => ?_) | refine chk_c ?_ ?_) <;> conv => whnf) | refine And.intro ?_ rfl | (refine And.intro ?_ ?_ <;> conv => whnf))
  all_goals (try simp only [w3, etaInst, etaEff, etaWord, etaKey, Int.toNat_natCast, Bool.not_eq_true', Bool.not_eq_false', decide_eq_true_eq, decide_eq_false_iff_not] at *)
  all_goals first
    | (refine ⟨?_⟩; omega)
    | (rw [any_take_end (by omega) hx]; simp only [Bool.and_true, Bool.true_and, Bool.and_false, Bool.false_and, Bool.or_true, Bool.true_or, Bool.or_false, Bool.false_or, Bool.not_true, Bool.not_false]; done)
    | (rename_i ho; rw [show ((atE c i).x.op != 10) = true by rw [bne, ho]; rfl]; simp only [Bool.and_true, Bool.true_and, Bool.and_false, Bool.false_and, Bool.or_true, Bool.true_or, Bool.or_false, Bool.false_or, Bool.not_true, Bool.not_false]; done)
    | (rw [any_take_yes (z := FT.zero .entry) (by omega) (by omega) (by rw [hb]; simp only [*, Bool.and_true, Bool.true_and, Bool.and_false, Bool.false_and, Bool.or_true, Bool.true_or, Bool.or_false, Bool.false_or, Bool.not_true, Bool.not_false]; done) hx]; rw [show ((atE c i).x.op != 10) = false by rw [bne, show ((atE c i).x.op == 10) = true by assumption]; rfl]; simp only [Bool.and_true, Bool.true_and, Bool.and_false, Bool.false_and, Bool.or_true, Bool.true_or, Bool.or_false, Bool.false_or, Bool.not_true, Bool.not_false]; done)
    | (exact hR (k + 1) ⟨by omega, any_take_no (z := FT.zero .entry) (by omega) (by omega) (by rw [hb]; simp only [*, Bool.and_true, Bool.true_and, Bool.and_false, Bool.false_and, Bool.or_true, Bool.true_or, Bool.or_false, Bool.false_or, Bool.not_true, Bool.not_false]; done) hx⟩ (by omega))
    | trace_state
theorem ok_s_Ready : FunOk Tryz.prog c_s_Ready := funOk (eK ok_s_CoreOk (eK ok_s_l1In (eK ok_s_l6Has (eK ok_s_l12Value eN)))) mixd Tryz.func95 (pf := pf_s_Ready) (by kernel_rfl) fun ts K h => by
  obtain ⟨t0, t1, rfl, q0⟩ := as2_out h
  obtain ⟨c, rfl, q1⟩ := arG_out rd_core q0
  obtain ⟨i, rfl, q2⟩ := arC_out (rd_int .i64) q1
  obtain ⟨hpre, hk⟩ := chk_o q2
  exact ⟨_, _, hk, nb 2 Tryz.f95 (by kernel_rfl), _, run_s_Ready c i hpre⟩

def hitE (n : Int) (e : Entry) : Bool := e.done && e.x.op == 11 && e.e.trap == 0 && e.e.addr == n
def foundGo (rob : List Entry) (gone : List Bool) (y : Word) (n : Int) (got : Word) : Nat → Word
  | 0 => got
  | k + 1 => if hitE n (rob.getD k (FT.zero .entry)) then filterW gone (takenW y (rob.getD k (FT.zero .entry)).e.put) else foundGo rob gone y n got k
def foundC (c : Core) (i : Int) (y : Word) (n : Int) : Word × Int :=
  if (readM c.s.mem y n).2 ≠ 0 then (zW, (readM c.s.mem y n).2) else (foundGo c.rob c.s.mem.gone y n (readM c.s.mem y n).1 (min i c.rob.length).toNat, 0)
def wordT (p : Word × Int) : Tree := .tup [.g (p.1.tc []), .c (.int .i64 p.2)]
theorem foundGo_yes {rob : List Entry} {gone : List Bool} {y : Word} {n : Int} {got : Word} {k : Nat} (h : hitE n (rob.getD k (FT.zero .entry)) = true) : foundGo rob gone y n got (k + 1) = filterW gone (takenW y (rob.getD k (FT.zero .entry)).e.put) := if_pos h
theorem foundGo_no {rob : List Entry} {gone : List Bool} {y : Word} {n : Int} {got : Word} {k : Nat} (h : hitE n (rob.getD k (FT.zero .entry)) = false) : foundGo rob gone y n got (k + 1) = foundGo rob gone y n got k := if_neg (by rw [h]; decide)
theorem readM_tz {m : Mem} {y : Word} {n : Int} (h : ¬ (readM m y n).2 = 0) : (readM m y n).1 = zW := by
  unfold readM at h ⊢
  split
  · rfl
  · rename_i h2; rw [if_neg h2] at h; exact absurd rfl h
theorem foundC_t {c : Core} {i : Int} {y : Word} {n : Int} (h : ¬ (readM c.s.mem y n).2 = 0) : foundC c i y n = (zW, (readM c.s.mem y n).2) := if_pos h
theorem foundC_0 {c : Core} {i : Int} {y : Word} {n : Int} (h : (readM c.s.mem y n).2 = 0) : foundC c i y n = (foundGo c.rob c.s.mem.gone y n (readM c.s.mem y n).1 (min i c.rob.length).toNat, 0) := if_neg (fun q => q h)

def lb_i_Found_0 : PC := .seq (.r [.m 32 12, .bin 33 .gtr 32 (.i 0)] (.cond 33 .skip (.exit 0))) (.seq (.blk 1 (.r [.f 36 4 10, .l 37 1 36, .m 38 12, .bin 39 .sub 38 (.i 1), .ia 40 .entry 37 39, .L 41 40 40, .alloc 13 zcE, .o 40 13 41] (.r [.f 42 13 11, .l 43 1 42, .m 44 43, .y 44 45 (.fa 45 13 6), .y 44 46 (.fa 46 45 0), .y 44 47 (.load 47 false 1 46), .y 44 48 (.bin 48 .eql 47 (.i 11)), .pick 49 44 48 .F, .m 50 49, .y 50 51 (.fa 51 13 12), .y 50 52 (.fa 52 51 0), .y 50 53 (.load 53 false 1 52), .y 50 54 (.bin 54 .eql 53 (.i 0)), .pick 55 50 54 .F, .m 56 55, .y 56 57 (.fa 57 13 12), .y 56 58 (.fa 58 57 14), .y 56 59 (.load 59 false 1 58), .y 56 60 (.mv 60 3), .y 56 61 (.bin 61 .eql 59 60), .pick 62 56 61 .F] (.cond 62 (.seq (.rgd [] [.f 63 4 0, .f 64 63 7, .L 65 2 64, .L 66 6 6, .f 67 13 12, .f 68 67 15, .L 69 6 68, .c 70 245 [66, 69], .c 71 209 [65, 70], .o 6 8 71, .mv 9 (.i 0)] (.ts [0, 1, 2, 3, 4, 5, 6] (.one 7 false (.one 8 true (.one 9 true (.tk 10 .d)))))) .ret) .skip)))) (.reg [.m 34 12, .bin 35 .sub 34 (.i 1), .m 12 35]))
def pf_i_Found : PF := ⟨[.c 8 true 6, .t 9], .r [.box 4 0, .box 6 2, .alloc 8 zcW, .mv 9 (.i 0)] (.r [.f 15 4 0, .f 16 15 7, .L 17 2 16, .L 18 6 6, .m 19 3, .c 20 244 [17, 18, 19], .m 14 20, .ext 21 14 0, .ext 22 14 1, .alloc 10 zcW, .o 6 10 21, .m 11 22] (.seq (.r [.m 23 11, .bin 24 .neq 23 (.i 0)] (.cond 24 (.r [.L 25 6 10, .m 26 11, .o 6 8 25, .m 9 26] .ret) .skip)) (.seq (.r [.m 27 1, .f 28 4 10, .l 29 1 28, .len 30 false 29, .s (.mm 31 false 27 30), .m 12 31] (.blk 0 (.loop [3, 4, 6, 8, 10, 12] lb_i_Found_0))) (.r [.L 72 6 10, .o 6 8 72, .mv 9 (.i 0)] .ret))))⟩
def c_i_Found : Fun := ⟨213, [], fun ts K => as4 ts fun t0 t1 t2 t3 => arG pCoreT t0 fun c => arC (pI .i64) t1 fun i => arG pWordT t2 fun y => arC (pI .i64) t3 fun n => chk (LCore c 2147483647) (K (wordT (foundC c i y n)) [])⟩
theorem run_i_Found (c : Core) (i : Int) (y : Word) (n : Int) (hpre : LCore c 2147483647) : runK [c_i_Filter, c_i_Read, c_i_Taken] (c.rob.length + 1) [] pf_i_Found [tG (c.tc false []), tI .i64 i, tG (y.tc []), tI .i64 n] fun r o => r = wordT (foundC c i y n) ∧ o = [] := by
  obtain ⟨l1, l2, l3⟩ := hpre
  have l1m := l1.2
  have f1 := @foundC_t c i y n
  have f2 := @foundC_0 c i y n
  have f3 := @readM_tz c.s.mem y n
  conv => whnf
  repeat' (first | ((first | refine sel_i (fun h => ?_) (fun h => ?_) | refine chk_c ?_ ?_) <;> conv => whnf) | refine And.intro ?_ rfl | (refine And.intro ?_ ?_ <;> conv => whnf))
  all_goals (try simp only [etaKey, etaWord, etaInst, etaEff, etaEntry, etaMemory, etaState, etaCore, Bool.not_eq_true', Bool.not_eq_false', bne_iff_ne, ne_eq, bne_eq_false_iff_eq, beq_iff_eq, beq_eq_false_iff_ne, decide_eq_true_eq, decide_eq_false_iff_not, ge_iff_le] at *)
  all_goals generalize readM c.s.mem y n = RM at *
  all_goals first
    | (refine ⟨?_⟩; assumption)
    | (rw [f1 (by assumption), f3 (by assumption)]; rfl)
    | (rw [f1 (by assumption)]; rfl)
    | skip
  rw [f2 (by assumption)]
  clear f1 f2 f3
  refine loop (α := Int) (fun t => ⟨[(3, .v (.c (.int .i64 n))), (4, .v (.c (.ptr 0 0))), (6, .v (.c (.ptr 6 0))), (8, .v (.c (.ptr 7 0))), (10, .v (.c (.ptr 8 0))), (12, .v (.c (.int .i64 t)))],
        [(8, some (.box true [.int .i64 RM.1.n, .bool RM.1.is, .int .i64 RM.1.key.base, .int .i64 RM.1.key.top, .int .i64 RM.1.key.perms, .int .i64 RM.1.key.sealed])), (7, some (.box true [.int .i64 0, .ff, .int .i64 0, .int .i64 0, .int .i64 0, .int .i64 0])), (6, some (.box true [.int .i64 y.n, .bool y.is, .int .i64 y.key.base, .int .i64 y.key.top, .int .i64 y.key.perms, .int .i64 y.key.sealed])), (5, some (.flat false (.int .i64) none c.guesses)), (4, some (.flat false .entry none c.rob)), (3, some (.flat false .bool none c.s.mem.gone)), (2, some (.flat false .word none c.s.mem.words)), (1, some (.flat false .word none c.s.regs)), (0, some (.box true [.sl false .word 1, .int .i64 c.s.pc.n, .bool c.s.pc.is, .int .i64 c.s.pc.key.base, .int .i64 c.s.pc.key.top, .int .i64 c.s.pc.key.perms, .int .i64 c.s.pc.key.sealed, .sl false .word 2, .sl false .bool 3, .int .i64 c.s.trap, .sl false .entry 4, .int .i64 c.next.n, .bool c.next.is, .int .i64 c.next.key.base, .int .i64 c.next.key.top, .int .i64 c.next.key.perms, .int .i64 c.next.key.sealed, .bool c.stop, .sl false (.int .i64) 5]))], nums.tail.tail.tail.tail.tail.tail.tail.tail.tail, [], false, []⟩)
    (fun t => t ≤ c.rob.length ∧ foundGo c.rob c.s.mem.gone y n RM.1 (min i c.rob.length).toNat = foundGo c.rob c.s.mem.gone y n RM.1 t.toNat) (fun t => t.toNat) (fun t R hI hR => ?_) (min i c.rob.length) _ ⟨by omega, rfl⟩ (by omega)
  obtain ⟨hi, hx⟩ := hI
  have w3 : 0 < t → IntKind.i64.wrap (t - 1) = t - 1 := fun h => wrap_id (by omega) (by omega)
  have w4 : 0 < t → t.toNat = (t - 1).toNat + 1 := fun h => by omega
  have hz : ¬ 0 < t → foundGo c.rob c.s.mem.gone y n RM.1 t.toNat = RM.1 := fun h => by rw [show t.toNat = 0 by omega]; rfl
  have hh : ∀ k : Nat, hitE n (c.rob.getD k (FT.zero .entry)) = ((c.rob.getD k (FT.zero .entry)).done && (c.rob.getD k (FT.zero .entry)).x.op == 11 && (c.rob.getD k (FT.zero .entry)).e.trap == 0 && (c.rob.getD k (FT.zero .entry)).e.addr == n) := fun _ => rfl
  rw [hx]
  conv => whnf
  repeat' (first | ((first | refine sel_i (fun h => ?_) (fun h => ?_) | refine chk_c ?_ ?_) <;> conv => whnf) | refine And.intro ?_ rfl | (refine And.intro ?_ ?_ <;> conv => whnf))
  all_goals (try simp only [etaKey, etaWord, etaInst, etaEff, etaEntry, etaMemory, gt_iff_lt, decide_eq_true_eq, decide_eq_false_iff_not] at *)
  all_goals (try rw [w3 (by omega)] at *)
  all_goals first
    | (refine ⟨?_⟩; first | assumption | omega)
    | (rw [hz (by assumption)]; rfl)
    | (rw [w4 (by omega), foundGo_yes (by rw [hh]; simp only [*, Bool.and_true, Bool.true_and, Bool.and_false, Bool.false_and, Bool.or_true, Bool.true_or, Bool.or_false, Bool.false_or, Bool.not_true, Bool.not_false]; done)]; rfl)
    | (refine hR (t - 1) ⟨by omega, ?_⟩ (by omega); rw [hx, w4 (by omega), foundGo_no (by rw [hh]; simp only [*, Bool.and_true, Bool.true_and, Bool.and_false, Bool.false_and, Bool.or_true, Bool.true_or, Bool.or_false, Bool.false_or, Bool.not_true, Bool.not_false]; done)])
    | trace_state
theorem ok_i_Found : FunOk Tryz.prog c_i_Found := funOk (eK ok_i_Filter (eK ok_i_Read (eK ok_i_Taken eN))) mixd Tryz.func213 (pf := pf_i_Found) (by kernel_rfl) fun ts K h => by
  obtain ⟨t0, t1, t2, t3, rfl, q0⟩ := as4_out h
  obtain ⟨c, rfl, q1⟩ := arG_out rd_core q0
  obtain ⟨i, rfl, q2⟩ := arC_out (rd_int .i64) q1
  obtain ⟨y, rfl, q3⟩ := arG_out rd_word q2
  obtain ⟨n, rfl, q4⟩ := arC_out (rd_int .i64) q3
  obtain ⟨hpre, hk⟩ := chk_o q4
  exact ⟨_, _, hk, nb 4 Tryz.f213 (by kernel_rfl), _, run_i_Found c i y n hpre⟩

def lb_s_Found_0 : PC := .seq (.r [.m 34 12, .bin 35 .geq 34 (.i 0)] (.cond 35 .skip (.exit 0))) (.seq (.blk 1 (.r [.f 38 4 10, .l 39 1 38, .m 40 12, .ia 41 .entry 39 40, .L 42 40 41, .alloc 13 zcE, .o 40 13 42] (.r [.f 43 13 6, .f 44 43 0, .l 45 1 44, .bin 46 .eql 45 (.i 11), .m 47 46, .y 47 48 (.fa 48 13 11), .y 47 49 (.load 49 false 1 48), .pick 50 47 49 .F, .m 51 50, .y 51 52 (.fa 52 13 12), .y 51 53 (.fa 53 52 0), .y 51 54 (.load 54 false 1 53), .y 51 55 (.bin 55 .eql 54 (.i 0)), .pick 56 51 55 .F, .m 57 56, .y 57 58 (.fa 58 13 12), .y 57 59 (.fa 59 58 14), .y 57 60 (.load 60 false 1 59), .y 57 61 (.mv 61 3), .y 57 62 (.bin 62 .eql 60 61), .pick 63 57 62 .F] (.cond 63 (.seq (.rgd [] [.f 64 4 0, .f 65 64 7, .L 66 2 65, .L 67 6 6, .f 68 13 12, .f 69 68 15, .L 70 6 69, .c 71 196 [67, 70], .c 72 103 [66, 71], .o 6 8 72, .mv 9 (.i 0)] (.ts [0, 1, 2, 3, 4, 5, 6] (.one 7 false (.one 8 true (.one 9 true (.tk 10 .d)))))) .ret) .skip)))) (.reg [.m 36 12, .bin 37 .sub 36 (.i 1), .m 12 37]))
def pf_s_Found : PF := ⟨[.c 8 true 6, .t 9], .r [.box 4 0, .box 6 2, .alloc 8 zcW, .mv 9 (.i 0)] (.r [.f 15 4 0, .f 16 15 7, .L 17 2 16, .L 18 6 6, .m 19 3, .c 20 193 [17, 18, 19], .m 14 20, .ext 21 14 0, .ext 22 14 1, .alloc 10 zcW, .o 6 10 21, .m 11 22] (.seq (.r [.m 23 11, .bin 24 .neq 23 (.i 0)] (.cond 24 (.r [.build 25 zcW [], .m 26 11, .o 6 8 25, .m 9 26] .ret) .skip)) (.seq (.r [.m 27 1, .f 28 4 10, .l 29 1 28, .len 30 false 29, .c 31 195 [27, 30], .c 32 194 [(.i 0), 31], .bin 33 .sub 32 (.i 1), .m 12 33] (.blk 0 (.loop [3, 4, 6, 8, 10, 12] lb_s_Found_0))) (.r [.L 73 6 10, .o 6 8 73, .mv 9 (.i 0)] .ret))))⟩
def c_s_Found : Fun := ⟨147, [], fun ts K => as4 ts fun t0 t1 t2 t3 => arG pCoreT t0 fun c => arC (pI .i64) t1 fun i => arG pWordT t2 fun y => arC (pI .i64) t3 fun n => chk (LCore c 2147483647) (K (wordT (foundC c i y n)) [])⟩
theorem run_s_Found (c : Core) (i : Int) (y : Word) (n : Int) (hpre : LCore c 2147483647) : runK [c_s_Filter, c_s_Read, c_s_l1Max, c_s_l1Min, c_s_Taken] (c.rob.length + 1) [] pf_s_Found [tG (c.tc false []), tI .i64 i, tG (y.tc []), tI .i64 n] fun r o => r = wordT (foundC c i y n) ∧ o = [] := by
  obtain ⟨l1, l2, l3⟩ := hpre
  have l1m := l1.2
  have f1 := @foundC_t c i y n
  have f2 := @foundC_0 c i y n
  have f3 := @readM_tz c.s.mem y n
  conv => whnf
  repeat' (first | ((first | refine sel_i (fun h => ?_) (fun h => ?_) | refine chk_c ?_ ?_) <;> conv => whnf) | refine And.intro ?_ rfl | (refine And.intro ?_ ?_ <;> conv => whnf))
  all_goals (try simp only [etaKey, etaWord, etaInst, etaEff, etaEntry, etaMemory, etaState, etaCore, Bool.not_eq_true', Bool.not_eq_false', bne_iff_ne, ne_eq, bne_eq_false_iff_eq, beq_iff_eq, beq_eq_false_iff_ne, decide_eq_true_eq, decide_eq_false_iff_not, ge_iff_le] at *)
  all_goals generalize readM c.s.mem y n = RM at *
  all_goals first
    | (refine ⟨?_⟩; assumption)
    | (rw [f1 (by assumption), f3 (by assumption)]; rfl)
    | (rw [f1 (by assumption)]; rfl)
    | skip
  rw [f2 (by assumption)]
  clear f1 f2 f3
  rw [wrap_id (n := max 0 (min i (c.rob.length : Int)) - 1) (by omega) (by omega)]
  refine loop (α := Int) (fun t => ⟨[(3, .v (.c (.int .i64 n))), (4, .v (.c (.ptr 0 0))), (6, .v (.c (.ptr 6 0))), (8, .v (.c (.ptr 7 0))), (10, .v (.c (.ptr 8 0))), (12, .v (.c (.int .i64 t)))],
        [(8, some (.box true [.int .i64 RM.1.n, .bool RM.1.is, .int .i64 RM.1.key.base, .int .i64 RM.1.key.top, .int .i64 RM.1.key.perms, .int .i64 RM.1.key.sealed])), (7, some (.box true [.int .i64 0, .ff, .int .i64 0, .int .i64 0, .int .i64 0, .int .i64 0])), (6, some (.box true [.int .i64 y.n, .bool y.is, .int .i64 y.key.base, .int .i64 y.key.top, .int .i64 y.key.perms, .int .i64 y.key.sealed])), (5, some (.flat false (.int .i64) none c.guesses)), (4, some (.flat false .entry none c.rob)), (3, some (.flat false .bool none c.s.mem.gone)), (2, some (.flat false .word none c.s.mem.words)), (1, some (.flat false .word none c.s.regs)), (0, some (.box true [.sl false .word 1, .int .i64 c.s.pc.n, .bool c.s.pc.is, .int .i64 c.s.pc.key.base, .int .i64 c.s.pc.key.top, .int .i64 c.s.pc.key.perms, .int .i64 c.s.pc.key.sealed, .sl false .word 2, .sl false .bool 3, .int .i64 c.s.trap, .sl false .entry 4, .int .i64 c.next.n, .bool c.next.is, .int .i64 c.next.key.base, .int .i64 c.next.key.top, .int .i64 c.next.key.perms, .int .i64 c.next.key.sealed, .bool c.stop, .sl false (.int .i64) 5]))], nums.tail.tail.tail.tail.tail.tail.tail.tail.tail, [], false, []⟩)
    (fun t => -1 ≤ t ∧ t < c.rob.length ∧ foundGo c.rob c.s.mem.gone y n RM.1 (min i c.rob.length).toNat = foundGo c.rob c.s.mem.gone y n RM.1 (t + 1).toNat) (fun t => (t + 1).toNat) (fun t R hI hR => ?_) (max 0 (min i c.rob.length) - 1) _ ⟨by omega, by omega, by rw [show (max 0 (min i (c.rob.length : Int)) - 1 + 1).toNat = (min i (c.rob.length : Int)).toNat by omega]⟩ (by omega)
  obtain ⟨hi, hi2, hx⟩ := hI
  have w3 : IntKind.i64.wrap (t - 1) = t - 1 := wrap_id (by omega) (by omega)
  have w4 : 0 ≤ t → (t + 1).toNat = t.toNat + 1 := fun h => by omega
  have hz : ¬ 0 ≤ t → foundGo c.rob c.s.mem.gone y n RM.1 (t + 1).toNat = RM.1 := fun h => by rw [show (t + 1).toNat = 0 by omega]; rfl
  have hh : ∀ k : Nat, hitE n (c.rob.getD k (FT.zero .entry)) = ((c.rob.getD k (FT.zero .entry)).done && (c.rob.getD k (FT.zero .entry)).x.op == 11 && (c.rob.getD k (FT.zero .entry)).e.trap == 0 && (c.rob.getD k (FT.zero .entry)).e.addr == n) := fun _ => rfl
  rw [hx]
  conv => whnf
  repeat' (first | ((first | refine sel_i (fun h => ?_) (fun h => ?_) | refine chk_c ?_ ?_) <;> conv => whnf) | refine And.intro ?_ rfl | (refine And.intro ?_ ?_ <;> conv => whnf))
  all_goals (try simp only [w3, etaKey, etaWord, etaInst, etaEff, etaEntry, etaMemory, ge_iff_le, decide_eq_true_eq, decide_eq_false_iff_not] at *)
  all_goals first
    | (refine ⟨?_⟩; first | assumption | omega)
    | (rw [hz (by assumption)]; rfl)
    | (rw [w4 (by omega), foundGo_yes (by rw [hh]; simp only [*, Bool.and_true, Bool.true_and, Bool.and_false, Bool.false_and, Bool.or_true, Bool.true_or, Bool.or_false, Bool.false_or, Bool.not_true, Bool.not_false]; done)]; rfl)
    | (refine hR (t - 1) ⟨by omega, by omega, ?_⟩ (by omega); rw [hx, w4 (by omega), foundGo_no (by rw [hh]; simp only [*, Bool.and_true, Bool.true_and, Bool.and_false, Bool.false_and, Bool.or_true, Bool.true_or, Bool.or_false, Bool.false_or, Bool.not_true, Bool.not_false]; done), show t - 1 + 1 = t by omega])
    | trace_state
theorem ok_s_Found : FunOk Tryz.prog c_s_Found := funOk (eK ok_s_Filter (eK ok_s_Read (eK ok_s_l1Max (eK ok_s_l1Min (eK ok_s_Taken eN))))) mixd Tryz.func147 (pf := pf_s_Found) (by kernel_rfl) fun ts K h => by
  obtain ⟨t0, t1, t2, t3, rfl, q0⟩ := as4_out h
  obtain ⟨c, rfl, q1⟩ := arG_out rd_core q0
  obtain ⟨i, rfl, q2⟩ := arC_out (rd_int .i64) q1
  obtain ⟨y, rfl, q3⟩ := arG_out rd_word q2
  obtain ⟨n, rfl, q4⟩ := arC_out (rd_int .i64) q3
  obtain ⟨hpre, hk⟩ := chk_o q4
  exact ⟨_, _, hk, nb 4 Tryz.f147 (by kernel_rfl), _, run_s_Found c i y n hpre⟩

def memD (c : Core) (i : Int) (x : Inst) (a b : Word) : Word × Int :=
  if x.op = 10 then foundC c i a (IntKind.i64.wrap (a.n + x.n)) else if x.op = 11 then (zW, writeC c.s.mem a (IntKind.i64.wrap (a.n + x.n)) b) else (zW, 0)
def argC (c : Core) (i r : Int) : Word := (valueC c i r).1
def doneX (c : Core) (i : Int) (x : Inst) (pc a b : Word) : Eff :=
  if (memD c i x a b).2 ≠ 0 then trapE (memD c i x a b).2 pc else workE x pc a b (memD c i x a b).1
def doneE (c : Core) (i : Int) : Eff := doneX c i (atE c i).x (atE c i).pc (argC c i (atE c i).x.a) (argC c i (atE c i).x.b)

def pf_i_doneBy : PF := ⟨[.c 4 true 22], .r [.box 2 0, .alloc 4 zcF] (.seq (.rgd [] [.f 13 2 10, .l 14 1 13, .m 15 1, .ia 16 .entry 14 15, .f 17 16 6, .L 18 5 17, .f 19 2 10, .l 20 1 19, .m 21 1, .ia 22 .entry 20 21, .f 23 22 0, .L 24 6 23, .alloc 5 zcI, .alloc 6 zcW, .o 5 5 18, .o 6 6 24] (.ts [0, 1, 2, 3, 4, 5, 6, 7, 8, 9, 10, 11] (.alt 12 false (.one 13 false (.one 14 false (.one 15 true (.done (some [1, 2, 4, 5, 6]))))) (.alt 13 false (.one 12 false (.one 14 false (.one 15 true (.done (some [1, 2, 4, 5, 6]))))) .nil)))) (.r [.L 26 19 2, .m 27 1, .f 28 5 2, .l 29 1 28, .c 30 212 [26, 27, 29], .m 25 30, .ext 31 25 0, .ext 32 25 1, .alloc 7 zcW, .o 6 7 31, .m 8 32] (.r [.L 34 19 2, .m 35 1, .f 36 5 3, .l 37 1 36, .c 38 212 [34, 35, 37], .m 33 38, .ext 39 33 0, .ext 40 33 1, .alloc 9 zcW, .o 6 9 39, .m 10 40] (.r [.build 41 zcW [], .alloc 11 zcW, .o 6 11 41, .mv 12 (.i 0)] (.seq (.r [.f 42 5 0, .l 43 1 42] (.blk 0 (.r [.bin 45 .eql 43 (.i 10), .m 44 45] (.cond 44 (.reg [.L 47 19 2, .m 48 1, .L 49 6 7, .f 50 7 0, .l 51 1 50, .f 52 5 4, .l 53 1 52, .bin 54 .add 51 53, .c 55 213 [47, 48, 49, 54], .m 46 55, .ext 56 46 0, .ext 57 46 1, .o 6 11 56, .m 12 57]) (.r [.bin 59 .eql 43 (.i 11), .m 58 59] (.cond 58 (.reg [.f 60 2 0, .f 61 60 7, .L 62 2 61, .L 63 6 7, .f 64 7 0, .l 65 1 64, .f 66 5 4, .l 67 1 66, .bin 68 .add 65 67, .L 69 6 9, .c 70 214 [62, 63, 68, 69], .m 12 70]) .skip)))))) (.seq (.r [.m 71 12, .bin 72 .neq 71 (.i 0)] (.cond 72 (.r [.m 73 12, .L 74 6 6, .c 75 207 [73, 74], .o 22 4 75] .ret) .skip)) (.r [.L 76 5 5, .L 77 6 6, .L 78 6 7, .L 79 6 9, .L 80 6 11, .c 81 215 [76, 77, 78, 79, 80], .o 22 4 81] .ret)))))))⟩
def c_i_doneBy : Fun := ⟨169, [], fun ts K => as2 ts fun t0 t1 => arG pCoreT t0 fun c => arC (pI .i64) t1 fun i => chk (coreOk c = true ∧ 0 ≤ i ∧ i < c.rob.length) (K (tG ((doneE c i).tc [])) [])⟩
theorem run_i_doneBy (c : Core) (i : Int) (hpre : coreOk c = true ∧ 0 ≤ i ∧ i < c.rob.length) : runK [c_i_trapped, c_i_Value, c_i_Found, c_i_writeCode, c_i_Work] (0) [] pf_i_doneBy [tG (c.tc false []), tI .i64 i] fun r o => r = tG ((doneE c i).tc []) ∧ o = [] := by
  obtain ⟨h0, h1, h2⟩ := hpre
  have hl := coreOk_l h0
  have hc := coreOk_len h0
  have ha := atE_in h0 h1 h2
  have kA : valueR c i (atE c i).x.a = valueC c i (atE c i).x.a := valueR_eq ha.1 h0
  have kB : valueR c i (atE c i).x.b = valueC c i (atE c i).x.b := valueR_eq ha.2 h0
  have hm : LMem c.s.mem 2147483647 := hl.1.2
  conv => whnf
  repeat' (first | ((first | refine sel_i (fun h => ?_) (fun h => ?_) | refine chk_c ?_ ?_) <;> conv => whnf) | refine And.intro ?_ rfl | (refine And.intro ?_ ?_ <;> conv => whnf))
  all_goals (try simp only [etaKey, etaWord, etaInst, etaEff, etaEntry, etaMemory, etaState, etaCore, bne_iff_ne, ne_eq, bne_eq_false_iff_eq, beq_iff_eq, beq_eq_false_iff_ne, show c.rob.getD i.toNat (FT.zero .entry) = atE c i from rfl, kA, kB] at *)
  all_goals first
    | (exact absurd trivial h)
    | (refine ⟨?_⟩; first | assumption | omega)
    | (unfold doneE doneX memD argC; simp only [*, ne_eq, not_true_eq_false, not_false_eq_true, if_true, if_false, Int.reduceEq]; rfl)
    | trace_state
theorem ok_i_doneBy : FunOk Tryz.prog c_i_doneBy := funOk (eK ok_i_trapped (eK ok_i_Value (eK ok_i_Found (eK ok_i_writeCode (eK ok_i_Work eN))))) mixd Tryz.func169 (pf := pf_i_doneBy) (by kernel_rfl) fun ts K h => by
  obtain ⟨t0, t1, rfl, q0⟩ := as2_out h
  obtain ⟨c, rfl, q1⟩ := arG_out rd_core q0
  obtain ⟨i, rfl, q2⟩ := arC_out (rd_int .i64) q1
  obtain ⟨hpre, hk⟩ := chk_o q2
  exact ⟨_, _, hk, nb 2 Tryz.f169 (by kernel_rfl), _, run_i_doneBy c i hpre⟩

def pf_s_l14Effect : PF := ⟨[.c 4 true 22], .r [.box 2 0, .alloc 4 zcF] (.r [.f 13 2 10, .l 14 1 13, .m 15 1, .ia 16 .entry 14 15, .f 17 16 6, .L 18 5 17, .alloc 5 zcI, .o 5 5 18] (.r [.f 19 2 10, .l 20 1 19, .m 21 1, .ia 22 .entry 20 21, .f 23 22 0, .L 24 6 23, .alloc 6 zcW, .o 6 6 24] (.r [.L 26 19 2, .m 27 1, .f 28 5 2, .l 29 1 28, .c 30 146 [26, 27, 29], .m 25 30, .ext 31 25 0, .ext 32 25 1, .alloc 7 zcW, .o 6 7 31, .m 8 32] (.r [.L 34 19 2, .m 35 1, .f 36 5 3, .l 37 1 36, .c 38 146 [34, 35, 37], .m 33 38, .ext 39 33 0, .ext 40 33 1, .alloc 9 zcW, .o 6 9 39, .m 10 40] (.r [.build 41 zcW [], .alloc 11 zcW, .o 6 11 41, .mv 12 (.i 0)] (.seq (.r [.f 42 5 0, .l 43 1 42] (.blk 0 (.r [.bin 45 .eql 43 (.i 10), .m 44 45] (.cond 44 (.reg [.L 47 19 2, .m 48 1, .L 49 6 7, .f 50 7 0, .l 51 1 50, .f 52 5 4, .l 53 1 52, .bin 54 .add 51 53, .c 55 147 [47, 48, 49, 54], .m 46 55, .ext 56 46 0, .ext 57 46 1, .o 6 11 56, .m 12 57]) (.r [.bin 59 .eql 43 (.i 11), .m 58 59] (.cond 58 (.reg [.f 60 2 0, .f 61 60 7, .L 62 2 61, .L 63 6 7, .f 64 7 0, .l 65 1 64, .f 66 5 4, .l 67 1 66, .bin 68 .add 65 67, .L 69 6 9, .c 70 148 [62, 63, 68, 69], .m 12 70]) .skip)))))) (.seq (.r [.m 71 12, .bin 72 .neq 71 (.i 0)] (.cond 72 (.r [.m 73 12, .L 74 6 6, .c 75 100 [73, 74], .o 22 4 75] .ret) .skip)) (.r [.L 76 5 5, .L 77 6 6, .L 78 6 7, .L 79 6 9, .L 80 6 11, .c 81 149 [76, 77, 78, 79, 80], .o 22 4 81] .ret))))))))⟩
def c_s_l14Effect : Fun := ⟨96, [], fun ts K => as2 ts fun t0 t1 => arG pCoreT t0 fun c => arC (pI .i64) t1 fun i => chk (coreOk c = true ∧ 0 ≤ i ∧ i < c.rob.length) (K (tG ((doneE c i).tc [])) [])⟩
theorem run_s_l14Effect (c : Core) (i : Int) (hpre : coreOk c = true ∧ 0 ≤ i ∧ i < c.rob.length) : runK [c_s_l9Trap, c_s_l12Value, c_s_Found, c_s_l8Write, c_s_Work] (0) [] pf_s_l14Effect [tG (c.tc false []), tI .i64 i] fun r o => r = tG ((doneE c i).tc []) ∧ o = [] := by
  obtain ⟨h0, h1, h2⟩ := hpre
  have hl := coreOk_l h0
  have hc := coreOk_len h0
  have ha := atE_in h0 h1 h2
  have hm : LMem c.s.mem 2147483647 := hl.1.2
  have hr : c.s.regs.length = 8 := hc.1.1
  conv => whnf
  repeat' (first | ((first | refine sel_i (fun h => ?_) (fun h => ?_) | refine chk_c ?_ ?_) <;> conv => whnf) | refine And.intro ?_ rfl | (refine And.intro ?_ ?_ <;> conv => whnf))
  all_goals (try simp only [etaKey, etaWord, etaInst, etaEff, etaEntry, etaMemory, etaState, etaCore, bne_iff_ne, ne_eq, bne_eq_false_iff_eq, beq_iff_eq, beq_eq_false_iff_ne, show c.rob.getD i.toNat (FT.zero .entry) = atE c i from rfl] at *)
  all_goals first
    | (exact absurd trivial h)
    | (refine ⟨?_⟩; first | assumption | exact ⟨hl, hr, by omega, by omega⟩ | omega)
    | (unfold doneE doneX memD argC; simp only [*, ne_eq, not_true_eq_false, not_false_eq_true, if_true, if_false, Int.reduceEq]; rfl)
    | trace_state
theorem ok_s_l14Effect : FunOk Tryz.prog c_s_l14Effect := funOk (eK ok_s_l9Trap (eK ok_s_l12Value (eK ok_s_Found (eK ok_s_l8Write (eK ok_s_Work eN))))) mixd Tryz.func96 (pf := pf_s_l14Effect) (by kernel_rfl) fun ts K h => by
  obtain ⟨t0, t1, rfl, q0⟩ := as2_out h
  obtain ⟨c, rfl, q1⟩ := arG_out rd_core q0
  obtain ⟨i, rfl, q2⟩ := arC_out (rd_int .i64) q1
  obtain ⟨hpre, hk⟩ := chk_o q2
  exact ⟨_, _, hk, nb 2 Tryz.f96 (by kernel_rfl), _, run_s_l14Effect c i hpre⟩

def putAt (c : Core) (i : Int) : List Entry := c.rob.set i.toNat ⟨(atE c i).pc, (atE c i).x, true, doneE c i, (atE c i).guess⟩
def doC (c : Core) (i : Int) : Core × Bool :=
  if coreOk c = false then (zCore, false) else if readyC c i = false then (c, false) else
  if (doneE c i).trap ≠ 0 then (⟨c.s, (putAt c i).take (i.toNat + 1), c.next, true, c.guesses⟩, true) else
  if (doneE c i).next ≠ (atE c i).guess then (⟨c.s, (putAt c i).take (i.toNat + 1), (doneE c i).next, false, c.guesses⟩, true) else
  (⟨c.s, putAt c i, c.next, c.stop, c.guesses⟩, true)
theorem doC_no {c : Core} {i : Int} (h : coreOk c = false) : doC c i = (zCore, false) := if_pos h
theorem doC_nr {c : Core} {i : Int} (h : coreOk c = true) (h2 : readyC c i = false) : doC c i = (c, false) := by
  unfold doC; rw [if_neg (by rw [h]; decide), if_pos h2]
theorem doC_t {c : Core} {i : Int} (h : coreOk c = true) (h2 : readyC c i = true) (h3 : ¬ (doneE c i).trap = 0) : doC c i = (⟨c.s, (putAt c i).take (i.toNat + 1), c.next, true, c.guesses⟩, true) := by
  unfold doC; rw [if_neg (by rw [h]; decide), if_neg (by rw [h2]; decide), if_pos h3]
theorem doC_n {c : Core} {i : Int} (h : coreOk c = true) (h2 : readyC c i = true) (h3 : (doneE c i).trap = 0) (h4 : ¬ (doneE c i).next = (atE c i).guess) : doC c i = (⟨c.s, (putAt c i).take (i.toNat + 1), (doneE c i).next, false, c.guesses⟩, true) := by
  unfold doC; rw [if_neg (by rw [h]; decide), if_neg (by rw [h2]; decide), if_neg (fun q => q h3), if_pos h4]
theorem doC_0 {c : Core} {i : Int} (h : coreOk c = true) (h2 : readyC c i = true) (h3 : (doneE c i).trap = 0) (h4 : (doneE c i).next = (atE c i).guess) : doC c i = (⟨c.s, putAt c i, c.next, c.stop, c.guesses⟩, true) := by
  unfold doC; rw [if_neg (by rw [h]; decide), if_neg (by rw [h2]; decide), if_neg (fun q => q h3), if_neg (fun q => q h4)]
theorem readyC_in {c : Core} {i : Int} (h : readyC c i = true) : coreOk c = true ∧ 0 ≤ i ∧ i < c.rob.length ∧ (atE c i).done = false := by
  simp only [readyC, Bool.and_eq_true, Bool.not_eq_true'] at h
  have := inR_t.1 h.1.1.1.1.2
  exact ⟨h.1.1.1.1.1, by omega, by omega, h.1.1.1.2⟩

def pf_i_Do : PF := ⟨[.c 4 true 19, .t 5], .r [.box 2 0, .alloc 4 zcC, .mv 5 .F] (.seq (.r [.L 8 19 2, .c 9 26 [8], .bnot 10 9] (.cond 10 (.r [.build 11 zcC [], .o 19 4 11, .mv 5 .F] .ret) .skip)) (.r [.L 12 19 2, .c 13 59 [12], .alloc 6 zcC, .o 19 6 13] (.seq (.r [.L 14 19 2, .m 15 1, .c 16 168 [14, 15], .bnot 17 16] (.cond 17 (.r [.L 18 19 6, .o 19 4 18, .mv 5 .F] .ret) .skip)) (.r [.f 19 6 10, .l 20 1 19, .m 21 1, .ia 22 .entry 20 21, .m 7 22] (.r [.m 23 7, .nchk 24 23, .f 25 24 11, .s (.store 1 25 .T)] (.r [.m 26 7, .L 27 19 2, .m 28 1, .c 29 169 [27, 28], .nchk 30 26, .f 31 30 12, .o 22 31 29] (.seq (.blk 0 (.r [.m 34 7, .nchk 35 34, .f 36 35 12, .f 37 36 0, .l 38 1 37, .bin 39 .neq 38 (.i 0), .m 33 39] (.cond 33 (.reg [.f 40 6 17, .s (.store 1 40 .T)]) (.seq (.rgd [] [.m 42 7, .nchk 43 42, .f 44 43 12, .f 45 44 8, .L 46 6 45, .m 47 7, .nchk 48 47, .f 49 48 34, .L 50 6 49, .eqs 51 true [.i, .b, .i, .i, .i, .i] true 46 50, .m 41 51] (.ts [0, 1, 2, 3, 4, 5, 6, 7, 8, 9, 10] .d)) (.cond 41 (.r [.m 52 7, .nchk 53 52, .f 54 53 12, .f 55 54 8, .L 56 6 55, .f 57 6 11, .o 6 57 56] (.reg [.f 58 6 17, .s (.store 1 58 .F)])) (.r [.L 32 19 6, .o 19 4 32, .mv 5 .T] .ret)))))) (.r [.f 59 6 10, .l 60 1 59, .m 61 1, .bin 62 .add 61 (.i 1), .s (.slc 63 .entry 60 none (some 62)), .f 64 6 10, .o 1 64 63] (.r [.L 65 19 6, .o 19 4 65, .mv 5 .T] .ret)))))))))⟩
def c_i_Do : Fun := ⟨120, [], fun ts K => as2 ts fun t0 t1 => arG pCoreT t0 fun c => arC (pI .i64) t1 fun i => chk (LCore c 2147483647) (K (coreT (doC c i)) [])⟩
theorem run_i_Do (c : Core) (i : Int) (hpre : LCore c 2147483647) : runK [c_i_CoreOk, c_i_cloneCore, c_i_Ready, c_i_doneBy] (0) [] pf_i_Do [tG (c.tc false []), tI .i64 i] fun r o => r = coreT (doC c i) ∧ o = [] := by
  by_cases hr : readyC c i = true
  · obtain ⟨h0, h1, h2, h3⟩ := readyC_in hr
    have hl := coreOk_l h0
    have hc := coreOk_len h0
    have hget : ∀ e : Entry, (c.rob.set i.toNat e).getD i.toNat (FT.zero .entry) = e := fun e => by
      rw [List.getD_eq_getElem?_getD, List.getElem?_set_self (by omega)]; rfl
    have hp : c.rob.set i.toNat ⟨(atE c i).pc, (atE c i).x, true, doneE c i, (atE c i).guess⟩ = putAt c i := rfl
    have hpl : (putAt c i).length = c.rob.length := by unfold putAt; rw [List.length_set]
    have hpg : (putAt c i).getD i.toNat (FT.zero .entry) = ⟨(atE c i).pc, (atE c i).x, true, doneE c i, (atE c i).guess⟩ := hget _
    have w1 : IntKind.i64.wrap (i + 1) = i + 1 := wrap_id (by omega) (by omega)
    have w2 : (i + 1).toNat = i.toNat + 1 := by omega
    have hwin : win (putAt c i) 0 (i.toNat + 1) = (putAt c i).take (i.toNat + 1) := by unfold win; rw [List.drop_zero]
    have d1 := @doC_t c i h0 hr
    have d2 := @doC_n c i h0 hr
    have d3 := @doC_0 c i h0 hr
    conv => whnf
    repeat' (first | ((first | refine sel_i (fun h => ?_) (fun h => ?_) | refine chk_c ?_ ?_) <;> conv => whnf) | refine And.intro ?_ rfl | (refine And.intro ?_ ?_ <;> conv => whnf))
    all_goals (try simp only [etaKey, etaWord, etaInst, etaEff, etaEntry, etaMemory, etaState, etaCore, Bool.not_eq_true', Bool.not_eq_false', bne_iff_ne, ne_eq, bne_eq_false_iff_eq, eqWd, decide_eq_true_eq, decide_eq_false_iff_not, Bool.not_true, Bool.not_false, show c.rob.getD i.toNat (FT.zero .entry) = atE c i from rfl] at *)
    all_goals (try simp only [hget, List.set_set, hp, hpl, hpg, hwin, w1, w2, List.length_set, List.nil_append, List.length_nil] at *)
    all_goals first
      | contradiction
      | (exact absurd (h0.symm.trans (show coreOk c = false by assumption)) (by decide))
      | (exact absurd (hr.symm.trans (show readyC c i = false by assumption)) (by decide))
      | (refine ⟨?_⟩; first | assumption | exact ⟨h0, h1, h2⟩ | omega | (rw [List.length_take]; omega))
      | (rw [d1 (by assumption)]; rfl)
      | (rw [d2 (by assumption) (by assumption)]; rfl)
      | (rw [d3 (by assumption) (by assumption)]; rfl)
      | trace_state
  · have hr : readyC c i = false := by simpa using hr
    have d1 := @doC_no c i
    have d2 := fun h => @doC_nr c i h hr
    conv => whnf
    repeat' (first | ((first | refine sel_i (fun h => ?_) (fun h => ?_) | refine chk_c ?_ ?_) <;> conv => whnf) | refine And.intro ?_ rfl | (refine And.intro ?_ ?_ <;> conv => whnf))
    all_goals (try simp only [etaKey, etaWord, etaInst, etaEff, etaEntry, etaMemory, etaState, etaCore, Bool.not_eq_true', Bool.not_eq_false', bne_iff_ne, ne_eq, bne_eq_false_iff_eq, eqWd, decide_eq_true_eq, decide_eq_false_iff_not, Bool.not_true, Bool.not_false, show c.rob.getD i.toNat (FT.zero .entry) = atE c i from rfl] at *)
    all_goals first
      | contradiction
      | (exfalso; simp_all; done)
      | (refine ⟨?_⟩; assumption)
      | (rw [d1 (by assumption)]; rfl)
      | (rw [d2 (by assumption)]; rfl)
      | trace_state
theorem ok_i_Do : FunOk Tryz.prog c_i_Do := funOk (eK ok_i_CoreOk (eK ok_i_cloneCore (eK ok_i_Ready (eK ok_i_doneBy eN)))) mixd Tryz.func120 (pf := pf_i_Do) (by kernel_rfl) fun ts K h => by
  obtain ⟨t0, t1, rfl, q0⟩ := as2_out h
  obtain ⟨c, rfl, q1⟩ := arG_out rd_core q0
  obtain ⟨i, rfl, q2⟩ := arC_out (rd_int .i64) q1
  obtain ⟨hpre, hk⟩ := chk_o q2
  exact ⟨_, _, hk, nb 2 Tryz.f120 (by kernel_rfl), _, run_i_Do c i hpre⟩

def pf_s_Do : PF := ⟨[.c 4 true 19, .t 5], .r [.box 2 0, .alloc 4 zcC, .mv 5 .F] (.seq (.r [.L 8 19 2, .c 9 15 [8], .bnot 10 9] (.cond 10 (.r [.build 11 zcC [], .o 19 4 11, .mv 5 .F] .ret) .skip)) (.r [.L 12 19 2, .c 13 39 [12], .alloc 6 zcC, .o 19 6 13] (.seq (.r [.L 14 19 2, .m 15 1, .c 16 95 [14, 15], .bnot 17 16] (.cond 17 (.r [.L 18 19 6, .o 19 4 18, .mv 5 .F] .ret) .skip)) (.r [.L 19 19 2, .m 20 1, .c 21 96 [19, 20], .alloc 7 zcF, .o 22 7 21] (.r [.f 22 6 10, .l 23 1 22, .m 24 1, .ia 25 .entry 23 24, .f 26 25 11, .s (.store 1 26 .T)] (.r [.f 27 6 10, .l 28 1 27, .m 29 1, .L 30 22 7, .ia 31 .entry 28 29, .f 32 31 12, .o 22 32 30] (.seq (.r [.f 33 7 0, .l 34 1 33, .bin 35 .neq 34 (.i 0)] (.cond 35 (.r [.bs 36 .entry [], .f 37 6 10, .l 38 1 37, .m 39 1, .bin 40 .add 39 (.i 1), .s (.slc 41 .entry 38 none (some 40)), .app 42 .entry 36 41, .f 43 6 10, .o 1 43 42] (.r [.f 44 6 17, .s (.store 1 44 .T)] (.r [.L 45 19 6, .o 19 4 45, .mv 5 .T] .ret))) .skip)) (.seq (.seq (.rgd [] [.f 46 7 8, .L 47 6 46, .f 48 6 10, .l 49 1 48, .m 50 1, .ia 51 .entry 49 50, .f 52 51 34, .L 53 6 52, .eqs 54 true [.i, .b, .i, .i, .i, .i] true 47 53] (.ts [0, 1, 2, 3, 4, 5, 6, 7, 8] .d)) (.cond 54 (.r [.bs 55 .entry [], .f 56 6 10, .l 57 1 56, .m 58 1, .bin 59 .add 58 (.i 1), .s (.slc 60 .entry 57 none (some 59)), .app 61 .entry 55 60, .f 62 6 10, .o 1 62 61] (.r [.f 63 7 8, .L 64 6 63, .f 65 6 11, .o 6 65 64] (.reg [.f 66 6 17, .s (.store 1 66 .F)]))) .skip)) (.r [.L 67 19 6, .o 19 4 67, .mv 5 .T] .ret)))))))))⟩
def c_s_Do : Fun := ⟨49, [], fun ts K => as2 ts fun t0 t1 => arG pCoreT t0 fun c => arC (pI .i64) t1 fun i => chk (LCore c 2147483647) (K (coreT (doC c i)) [])⟩
theorem run_s_Do (c : Core) (i : Int) (hpre : LCore c 2147483647) : runK [c_s_CoreOk, c_s_l12Copy, c_s_Ready, c_s_l14Effect] (0) [] pf_s_Do [tG (c.tc false []), tI .i64 i] fun r o => r = coreT (doC c i) ∧ o = [] := by
  by_cases hr : readyC c i = true
  · obtain ⟨h0, h1, h2, h3⟩ := readyC_in hr
    have hl := coreOk_l h0
    have hc := coreOk_len h0
    have hget : ∀ e : Entry, (c.rob.set i.toNat e).getD i.toNat (FT.zero .entry) = e := fun e => by
      rw [List.getD_eq_getElem?_getD, List.getElem?_set_self (by omega)]; rfl
    have hp : c.rob.set i.toNat ⟨(atE c i).pc, (atE c i).x, true, doneE c i, (atE c i).guess⟩ = putAt c i := rfl
    have hpl : (putAt c i).length = c.rob.length := by unfold putAt; rw [List.length_set]
    have hpg : (putAt c i).getD i.toNat (FT.zero .entry) = ⟨(atE c i).pc, (atE c i).x, true, doneE c i, (atE c i).guess⟩ := hget _
    have w1 : IntKind.i64.wrap (i + 1) = i + 1 := wrap_id (by omega) (by omega)
    have w2 : (i + 1).toNat = i.toNat + 1 := by omega
    have hwin : win (putAt c i) 0 (i.toNat + 1) = (putAt c i).take (i.toNat + 1) := by unfold win; rw [List.drop_zero]
    have d1 := @doC_t c i h0 hr
    have d2 := @doC_n c i h0 hr
    have d3 := @doC_0 c i h0 hr
    conv => whnf
    repeat' (first | ((first | refine sel_i (fun h => ?_) (fun h => ?_) | refine chk_c ?_ ?_) <;> conv => whnf) | refine And.intro ?_ rfl | (refine And.intro ?_ ?_ <;> conv => whnf))
    all_goals (try simp only [etaKey, etaWord, etaInst, etaEff, etaEntry, etaMemory, etaState, etaCore, Bool.not_eq_true', Bool.not_eq_false', bne_iff_ne, ne_eq, bne_eq_false_iff_eq, eqWd, decide_eq_true_eq, decide_eq_false_iff_not, Bool.not_true, Bool.not_false, show c.rob.getD i.toNat (FT.zero .entry) = atE c i from rfl] at *)
    all_goals (try simp only [hget, List.set_set, hp, hpl, hpg, hwin, w1, w2, List.length_set, List.nil_append, List.length_nil] at *)
    all_goals first
      | contradiction
      | (exact absurd (h0.symm.trans (show coreOk c = false by assumption)) (by decide))
      | (exact absurd (hr.symm.trans (show readyC c i = false by assumption)) (by decide))
      | (refine ⟨?_⟩; first | assumption | exact ⟨h0, h1, h2⟩ | omega | (rw [List.length_take]; omega))
      | (rw [d1 (by assumption)]; rfl)
      | (rw [d2 (by assumption) (by assumption)]; rfl)
      | (rw [d3 (by assumption) (by assumption)]; rfl)
      | trace_state
  · have hr : readyC c i = false := by simpa using hr
    have d1 := @doC_no c i
    have d2 := fun h => @doC_nr c i h hr
    conv => whnf
    repeat' (first | ((first | refine sel_i (fun h => ?_) (fun h => ?_) | refine chk_c ?_ ?_) <;> conv => whnf) | refine And.intro ?_ rfl | (refine And.intro ?_ ?_ <;> conv => whnf))
    all_goals (try simp only [etaKey, etaWord, etaInst, etaEff, etaEntry, etaMemory, etaState, etaCore, Bool.not_eq_true', Bool.not_eq_false', bne_iff_ne, ne_eq, bne_eq_false_iff_eq, eqWd, decide_eq_true_eq, decide_eq_false_iff_not, Bool.not_true, Bool.not_false, show c.rob.getD i.toNat (FT.zero .entry) = atE c i from rfl] at *)
    all_goals first
      | contradiction
      | (exfalso; simp_all; done)
      | (refine ⟨?_⟩; assumption)
      | (rw [d1 (by assumption)]; rfl)
      | (rw [d2 (by assumption)]; rfl)
      | trace_state
theorem ok_s_Do : FunOk Tryz.prog c_s_Do := funOk (eK ok_s_CoreOk (eK ok_s_l12Copy (eK ok_s_Ready (eK ok_s_l14Effect eN)))) mixd Tryz.func49 (pf := pf_s_Do) (by kernel_rfl) fun ts K h => by
  obtain ⟨t0, t1, rfl, q0⟩ := as2_out h
  obtain ⟨c, rfl, q1⟩ := arG_out rd_core q0
  obtain ⟨i, rfl, q2⟩ := arC_out (rd_int .i64) q1
  obtain ⟨hpre, hk⟩ := chk_o q2
  exact ⟨_, _, hk, nb 2 Tryz.f49 (by kernel_rfl), _, run_s_Do c i hpre⟩

def pf_slices_Delete_Entry : PF := ⟨[.t 6], .r [.mv 6 (.k (.v (.c (.nils .entry))))] (.r [.m 8 0, .m 9 1, .m 10 2, .m 11 0, .len 12 false 11, .s (.slcu 13 .entry 8 9 10 12)] (.seq (.r [.m 14 1, .m 15 2, .bin 16 .eql 14 15] (.cond 16 (.r [.m 17 0, .m 6 17] .ret) .skip)) (.r [.m 18 0, .len 19 false 18, .m 7 19] (.seq (.rgd [] [.m 20 0, .m 21 1, .s (.slc 22 .entry 20 none (some 21)), .m 23 0, .m 24 2, .s (.slc 25 .entry 23 (some 24) none), .s (.appi 26 .entry 22 25), .m 0 26] (.ts [0, 1, 3, 4] (.alt 2 false (.one 5 true (.one 6 true (.tk 7 (.done (some [0, 7]))))) (.alt 5 false (.one 2 true (.one 6 true (.tk 7 (.done (some [0, 7]))))) .nil)))) (.r [.m 27 0, .m 28 0, .len 29 false 28, .m 30 7, .s (.slcb 31 .entry 27 29 30), .s (.clr .entry 31)] (.r [.m 32 0, .m 6 32] .ret))))))⟩
def c_slices_Delete_Entry : Fun := ⟨171, [true, false, false], fun ts K => as3 ts fun t0 t1 t2 => arC (pO .entry) t0 fun s => arC (pI .i64) t1 fun i => arC (pI .i64) t2 fun j => chk (0 ≤ i ∧ i < j ∧ j ≤ s.length ∧ s.length ≤ 2147483647) (K (tL true .entry (s.take i.toNat ++ s.drop j.toNat)) ([.v (.c .unk)]))⟩
theorem run_slices_Delete_Entry (s : List (FT.Ty .entry)) (i : Int) (j : Int) (hpre : 0 ≤ i ∧ i < j ∧ j ≤ s.length ∧ s.length ≤ 2147483647) : runK [] (0) [true, false, false] pf_slices_Delete_Entry [tL true .entry s, tI .i64 i, tI .i64 j] fun r o => r = tL true .entry (s.take i.toNat ++ s.drop j.toNat) ∧ o = [.v (.c .unk)] := by
  obtain ⟨h0, hij, hj, hs⟩ := hpre
  have hD : win s (0 + j.toNat) ((s.length : Int) - j).toNat = s.drop j.toNat := by unfold win; rw [Nat.zero_add, List.take_of_length_le (by rw [List.length_drop]; omega)]
  have hDl : (s.drop j.toNat).length = s.length - j.toNat := List.length_drop
  have hov : (over s (0 + i.toNat) (s.drop j.toNat)).length = s.length := by simp [over]; omega
  conv => whnf
  repeat' (first | ((first | refine sel_i (fun h => ?_) (fun h => ?_) | refine chk_c ?_ ?_) <;> conv => whnf) | refine And.intro ?_ rfl | (refine And.intro ?_ ?_ <;> conv => whnf))
  all_goals (try simp only [hD, hov, hDl] at *)
  all_goals first
    | trivial
    | (refine ⟨?_⟩; omega)
    | (refine ⟨?_⟩; refine ⟨by omega, by omega, by omega, by omega⟩)
    | (exfalso; simp at *; omega)
    | skip
  rw [Nat.zero_add, Nat.zero_add, Int.toNat_natCast, win_over _ _ _ _ _ (by omega) (by rw [List.length_drop])]
theorem ok_slices_Delete_Entry : FunOk Tryz.prog c_slices_Delete_Entry := funOk (eN) mixd Tryz.func171 (pf := pf_slices_Delete_Entry) (by kernel_rfl) fun ts K h => by
  obtain ⟨t0, t1, t2, rfl, q0⟩ := as3_out h
  obtain ⟨s, rfl, q1⟩ := arC_out (rd_o .entry) q0
  obtain ⟨i, rfl, q2⟩ := arC_out (rd_int .i64) q1
  obtain ⟨j, rfl, q3⟩ := arC_out (rd_int .i64) q2
  obtain ⟨hpre, hk⟩ := chk_o q3
  exact ⟨_, _, hk, nb 3 Tryz.f171 (by kernel_rfl), _, run_slices_Delete_Entry s i j hpre⟩

def sweepM (m : Mem) (n : Int) : Mem := if memoryOk m then (if inR n 0 23 then ⟨m.words.set n.toNat (filterW m.gone (m.words.getD n.toNat (FT.zero .word))), m.gone⟩ else m) else ⟨[], []⟩
def commitC (c : Core) : Core × Bool :=
  if coreOk c = false then (zCore, false) else
  if c.rob.length = 0 ∨ (atE c 0).done = false ∨ c.s.trap ≠ 0 then (c, false) else
  if (atE c 0).e.trap ≠ 0 then (⟨⟨c.s.regs, (atE c 0).pc, c.s.mem, (atE c 0).e.trap⟩, [], c.next, true, c.guesses⟩, true) else
  if 0 ≤ (atE c 0).e.drop then (⟨putE c.s (atE c 0).e, [], (atE c 0).e.next, false, learnG c.guesses (atE c 0).pc (atE c 0).e.next⟩, true) else
  (⟨putE c.s (atE c 0).e, c.rob.drop 1, c.next, c.stop, learnG c.guesses (atE c 0).pc (atE c 0).e.next⟩, true)
theorem commitC_no {c : Core} (h : coreOk c = false) : commitC c = (zCore, false) := if_pos h
theorem commitC_nr {c : Core} (h : coreOk c = true) (h2 : c.rob.length = 0 ∨ (atE c 0).done = false ∨ c.s.trap ≠ 0) : commitC c = (c, false) := by
  unfold commitC; rw [if_neg (by rw [h]; decide), if_pos h2]
theorem commitC_t {c : Core} (h : coreOk c = true) (h2 : ¬ (c.rob.length = 0 ∨ (atE c 0).done = false ∨ c.s.trap ≠ 0)) (h3 : ¬ (atE c 0).e.trap = 0) : commitC c = (⟨⟨c.s.regs, (atE c 0).pc, c.s.mem, (atE c 0).e.trap⟩, [], c.next, true, c.guesses⟩, true) := by
  unfold commitC; rw [if_neg (by rw [h]; decide), if_neg h2, if_pos h3]
theorem commitC_d {c : Core} (h : coreOk c = true) (h2 : ¬ (c.rob.length = 0 ∨ (atE c 0).done = false ∨ c.s.trap ≠ 0)) (h3 : (atE c 0).e.trap = 0) (h4 : 0 ≤ (atE c 0).e.drop) : commitC c = (⟨putE c.s (atE c 0).e, [], (atE c 0).e.next, false, learnG c.guesses (atE c 0).pc (atE c 0).e.next⟩, true) := by
  unfold commitC; rw [if_neg (by rw [h]; decide), if_neg h2, if_neg (fun q => q h3), if_pos h4]
theorem commitC_0 {c : Core} (h : coreOk c = true) (h2 : ¬ (c.rob.length = 0 ∨ (atE c 0).done = false ∨ c.s.trap ≠ 0)) (h3 : (atE c 0).e.trap = 0) (h4 : ¬ 0 ≤ (atE c 0).e.drop) : commitC c = (⟨putE c.s (atE c 0).e, c.rob.drop 1, c.next, c.stop, learnG c.guesses (atE c 0).pc (atE c 0).e.next⟩, true) := by
  unfold commitC; rw [if_neg (by rw [h]; decide), if_neg h2, if_neg (fun q => q h3), if_neg h4]
theorem ncm {c : Core} (h1 : ¬ c.rob.length = 0) (h2 : (atE c 0).done = true) (h3 : c.s.trap = 0) : ¬ (c.rob.length = 0 ∨ (atE c 0).done = false ∨ c.s.trap ≠ 0) := by
  rintro (q | q | q)
  · exact h1 q
  · rw [h2] at q; cases q
  · exact q h3

theorem eqLen0 (n : Nat) : ((n : Int) == 0) = decide (n = 0) := eqLen n 0

def pf_i_Sweep : PF := ⟨[.c 4 true 2], .r [.box 2 0, .alloc 4 zcM] (.seq (.r [.L 6 2 2, .c 7 111 [6], .bnot 8 7] (.cond 8 (.r [.build 9 zcM [], .o 2 4 9] .ret) .skip)) (.r [.L 10 2 2, .c 11 157 [10], .alloc 5 zcM, .o 2 5 11] (.seq (.r [.m 12 1, .c 13 112 [12, (.i 0), (.i 23)]] (.cond 13 (.rgd [] [.f 14 5 0, .l 15 1 14, .m 16 1, .L 17 2 2, .f 18 2 0, .l 19 1 18, .m 20 1, .ia 21 .word 19 20, .L 22 6 21, .c 23 209 [17, 22], .ia 24 .word 15 16, .o 6 24 23] (.ts [0, 1, 2, 3, 4, 5, 6, 7, 8] (.one 9 false (.tk 10 (.one 11 true .d))))) .skip)) (.r [.L 25 2 5, .o 2 4 25] .ret))))⟩
def c_i_Sweep : Fun := ⟨167, [], fun ts K => as2 ts fun t0 t1 => arG pMemT t0 fun m => arC (pI .i64) t1 fun n => chk (LMem m 2147483647) (K (tG ((sweepM m n).tc true [])) [])⟩
theorem run_i_Sweep (m : Mem) (n : Int) (hpre : LMem m 2147483647) : runK [c_i_MemoryOk, c_i_in, c_i_cloneMemory, c_i_Filter] (0) [] pf_i_Sweep [tG (m.tc false []), tI .i64 n] fun r o => r = tG ((sweepM m n).tc true []) ∧ o = [] := by
  have hl : memoryOk m = true → m.words.length = 24 := fun h => (memoryOk_iff.1 h).1
  conv => whnf
  repeat' (first | ((first | refine sel_i (fun h => ?_) (fun h => ?_) | refine chk_c ?_ ?_) <;> conv => whnf) | refine And.intro ?_ rfl | (refine And.intro ?_ ?_ <;> conv => whnf))
  all_goals (try simp only [etaMemory, etaWord, etaKey, Bool.not_eq_true', Bool.not_eq_false'] at *)
  all_goals first
    | (refine ⟨?_⟩; first | assumption | (have q := hl (by assumption); have q2 := inR_t.1 (show inR n 0 23 = true by assumption); omega))
    | (unfold sweepM; simp only [*, if_true, if_false, Bool.false_eq_true]; first | done | rfl)
    | trace_state
theorem ok_i_Sweep : FunOk Tryz.prog c_i_Sweep := funOk (eK ok_i_MemoryOk (eK ok_i_in (eK ok_i_cloneMemory (eK ok_i_Filter eN)))) mixd Tryz.func167 (pf := pf_i_Sweep) (by kernel_rfl) fun ts K h => by
  obtain ⟨t0, t1, rfl, q0⟩ := as2_out h
  obtain ⟨m, rfl, q1⟩ := arG_out rd_mem q0
  obtain ⟨n, rfl, q2⟩ := arC_out (rd_int .i64) q1
  obtain ⟨hpre, hk⟩ := chk_o q2
  exact ⟨_, _, hk, nb 2 Tryz.f167 (by kernel_rfl), _, run_i_Sweep m n hpre⟩

def pf_s_Sweep : PF := ⟨[.c 4 true 2], .r [.box 2 0, .alloc 4 zcM] (.seq (.r [.L 6 2 2, .c 7 89 [6], .bnot 8 7] (.cond 8 (.r [.build 9 zcM [], .o 2 4 9] .ret) .skip)) (.r [.L 10 2 2, .c 11 102 [10], .alloc 5 zcM, .o 2 5 11] (.seq (.r [.m 12 1, .c 13 53 [12, (.i 0), (.i 23)]] (.cond 13 (.rgd [] [.f 14 5 0, .l 15 1 14, .m 16 1, .L 17 2 2, .f 18 2 0, .l 19 1 18, .m 20 1, .ia 21 .word 19 20, .L 22 6 21, .c 23 103 [17, 22], .ia 24 .word 15 16, .o 6 24 23] (.ts [0, 1, 2, 3, 4, 5, 6, 7, 8] (.one 9 false (.tk 10 (.one 11 true .d))))) .skip)) (.r [.L 25 2 5, .o 2 4 25] .ret))))⟩
def c_s_Sweep : Fun := ⟨52, [], fun ts K => as2 ts fun t0 t1 => arG pMemT t0 fun m => arC (pI .i64) t1 fun n => chk (LMem m 2147483647) (K (tG ((sweepM m n).tc true [])) [])⟩
theorem run_s_Sweep (m : Mem) (n : Int) (hpre : LMem m 2147483647) : runK [c_s_l1In, c_s_MemoryOk, c_s_l8Copy, c_s_Filter] (0) [] pf_s_Sweep [tG (m.tc false []), tI .i64 n] fun r o => r = tG ((sweepM m n).tc true []) ∧ o = [] := by
  have hl : memoryOk m = true → m.words.length = 24 := fun h => (memoryOk_iff.1 h).1
  conv => whnf
  repeat' (first | ((first | refine sel_i (fun h => ?_) (fun h => ?_) | refine chk_c ?_ ?_) <;> conv => whnf) | refine And.intro ?_ rfl | (refine And.intro ?_ ?_ <;> conv => whnf))
  all_goals (try simp only [etaMemory, etaWord, etaKey, Bool.not_eq_true', Bool.not_eq_false'] at *)
  all_goals first
    | (refine ⟨?_⟩; first | assumption | (have q := hl (by assumption); have q2 := inR_t.1 (show inR n 0 23 = true by assumption); omega))
    | (unfold sweepM; simp only [*, if_true, if_false, Bool.false_eq_true]; first | done | rfl)
    | trace_state
theorem ok_s_Sweep : FunOk Tryz.prog c_s_Sweep := funOk (eK ok_s_l1In (eK ok_s_MemoryOk (eK ok_s_l8Copy (eK ok_s_Filter eN)))) mixd Tryz.func52 (pf := pf_s_Sweep) (by kernel_rfl) fun ts K h => by
  obtain ⟨t0, t1, rfl, q0⟩ := as2_out h
  obtain ⟨m, rfl, q1⟩ := arG_out rd_mem q0
  obtain ⟨n, rfl, q2⟩ := arC_out (rd_int .i64) q1
  obtain ⟨hpre, hk⟩ := chk_o q2
  exact ⟨_, _, hk, nb 2 Tryz.f52 (by kernel_rfl), _, run_s_Sweep m n hpre⟩

def c_i_State_put_v_Core : Fun := ⟨170, [true, false], fun ts K => as2 ts fun t0 t1 => arQ pCoreO t0 fun c => arG pEffT t1 fun e => chk (LenOk c.s) (K (.tup []) ([.v (.ptr true 0 ((⟨putE c.s e, c.rob, c.next, c.stop, c.guesses⟩ : Core).tc true []))]))⟩
theorem run_i_State_put_v_Core (c : Core) (e : Eff) (hpre : LenOk c.s) : runK [c_i_in] (0) [true, false] pf_i_State_put [.v (.ptr true 0 (c.tc true [])), tG (e.tc [])] fun r o => r = .tup [] ∧ o = [.v (.ptr true 0 ((⟨putE c.s e, c.rob, c.next, c.stop, c.guesses⟩ : Core).tc true []))] := by
  obtain ⟨l2, l3, l4⟩ := hpre
  conv => whnf
  repeat' (first | ((first | refine sel_i (fun h => ?_) (fun h => ?_) | refine chk_c ?_ ?_) <;> conv => whnf) | refine And.intro ?_ rfl | (refine And.intro ?_ ?_ <;> conv => whnf))
  all_goals (try simp only [etaKey, etaWord, etaInst, etaEff, etaMemory, bne_iff_ne, ne_eq, bne_eq_false_iff_eq, beq_iff_eq, beq_eq_false_iff_ne, Bool.not_eq_true', Bool.not_eq_false', decide_eq_true_eq, decide_eq_false_iff_not] at *)
  all_goals first
    | (refine ⟨?_⟩; simp only [inR_t, inR_f] at *; omega)
    | (unfold putE; simp only [*, if_true, if_false, Bool.false_eq_true]; first | done | rfl)
    | trace_state
theorem ok_i_State_put_v_Core : FunOk Tryz.prog c_i_State_put_v_Core := funOk (eK ok_i_in eN) mixd Tryz.func170 (pf := pf_i_State_put) (by kernel_rfl) fun ts K h => by
  obtain ⟨t0, t1, rfl, q0⟩ := as2_out h
  obtain ⟨c, rfl, q1⟩ := arQ_out rd_coreO q0
  obtain ⟨e, rfl, q2⟩ := arG_out rd_eff q1
  obtain ⟨hpre, hk⟩ := chk_o q2
  exact ⟨_, _, hk, nb 2 Tryz.f170 (by kernel_rfl), _, run_i_State_put_v_Core c e hpre⟩

def pf_i_Commit : PF := ⟨[.c 2 true 19, .t 3], .r [.box 1 0, .alloc 2 zcC, .mv 3 .F] (.seq (.r [.L 6 19 1, .c 7 26 [6], .bnot 8 7] (.cond 8 (.r [.build 9 zcC [], .o 19 2 9, .mv 3 .F] .ret) .skip)) (.r [.L 10 19 1, .c 11 59 [10], .alloc 4 zcC, .o 19 4 11] (.seq (.r [.f 12 1 10, .l 13 1 12, .len 14 false 13, .bin 15 .eql 14 (.i 0), .m 16 15, .n 16 17 (.fa 17 1 10), .n 16 18 (.load 18 false 1 17), .n 16 19 (.ia 19 .entry 18 (.i 0)), .n 16 20 (.fa 20 19 11), .n 16 21 (.load 21 false 1 20), .n 16 22 (.bnot 22 21), .pick 23 16 .T 22, .m 24 23, .n 24 25 (.fa 25 1 0), .n 24 26 (.fa 26 25 9), .n 24 27 (.load 27 false 1 26), .n 24 28 (.bin 28 .neq 27 (.i 0)), .pick 29 24 .T 28] (.cond 29 (.r [.L 30 19 4, .o 19 2 30, .mv 3 .F] .ret) .skip)) (.r [.f 31 1 10, .l 32 1 31, .ia 33 .entry 32 (.i 0), .L 34 40 33, .alloc 5 zcE, .o 40 5 34] (.seq (.r [.f 35 5 12, .f 36 35 0, .l 37 1 36, .bin 38 .neq 37 (.i 0)] (.cond 38 (.seq (.rgd [] [.f 39 5 12, .f 40 39 0, .l 41 1 40, .f 42 5 0, .L 43 6 42, .f 44 4 0, .f 45 44 9, .o 1 45 41, .f 46 4 0, .f 47 46 1, .o 6 47 43] (.ts [0, 1, 2, 3, 5, 6] (.alt 4 false (.one 7 true (.ts [8, 9] (.one 10 true (.done (some [2, 4]))))) (.alt 7 true (.one 4 false (.ts [8, 9] (.one 10 true (.done (some [2, 4]))))) .nil)))) (.r [.f 48 4 10, .s (.store 1 48 (.k (.v (.c (.nils .entry)))))] (.r [.f 49 4 17, .s (.store 1 49 .T)] (.r [.L 50 19 4, .o 19 2 50, .mv 3 .T] .ret)))) .skip)) (.r [.f 51 4 0, .f 52 5 12, .L 53 22 52, .c 54 170 [51, 53]] (.r [.f 55 4 10, .l 56 1 55, .c 57 171 [56, (.i 0), (.i 1)], .f 58 4 10, .o 1 58 57] (.r [.f 59 1 18, .l 60 1 59, .f 61 5 0, .L 62 6 61, .f 63 5 12, .f 64 63 8, .L 65 6 64, .c 66 172 [60, 62, 65], .f 67 4 18, .o 1 67 66] (.seq (.r [.f 68 5 12, .f 69 68 21, .l 70 1 69, .bin 71 .geq 70 (.i 0)] (.cond 71 (.r [.f 72 4 10, .s (.store 1 72 (.k (.v (.c (.nils .entry)))))] (.r [.f 73 4 0, .f 74 73 1, .L 75 6 74, .f 76 4 11, .o 6 76 75] (.reg [.f 77 4 17, .s (.store 1 77 .F)]))) .skip)) (.r [.L 78 19 4, .o 19 2 78, .mv 3 .T] .ret))))))))))⟩
def c_i_Commit : Fun := ⟨121, [], fun ts K => as1 ts fun t0 => arG pCoreT t0 fun c => chk (LCore c 2147483647) (K (coreT (commitC c)) [])⟩
theorem run_i_Commit (c : Core) (hpre : LCore c 2147483647) : runK [c_i_CoreOk, c_i_cloneCore, c_i_State_put_v_Core, c_slices_Delete_Entry, c_i_Learn] (0) [] pf_i_Commit [tG (c.tc false [])] fun r o => r = coreT (commitC c) ∧ o = [] := by
  have n0 := @commitC_no c
  have n1 := @commitC_nr c
  have n2 := @commitC_t c
  have n3 := @commitC_d c
  have n4 := @commitC_0 c
  have n5 := @ncm c
  have hw : win c.rob (0 + Int.toNat 1) ((c.rob.length : Int) - 1).toNat = c.rob.drop 1 := by
    unfold win; rw [show 0 + Int.toNat 1 = 1 from rfl, List.take_of_length_le (by rw [List.length_drop]; omega)]
  have hwl : (c.rob.drop 1).length = c.rob.length - 1 := List.length_drop
  conv => whnf
  repeat' (first | ((first | refine sel_i (fun h => ?_) (fun h => ?_) | refine chk_c ?_ ?_) <;> conv => whnf) | refine And.intro ?_ rfl | (refine And.intro ?_ ?_ <;> conv => whnf))
  all_goals (try simp only [etaKey, etaWord, etaInst, etaEff, etaEntry, etaMemory, etaState, etaCore, Bool.not_eq_true', Bool.not_eq_false', bne_iff_ne, ne_eq, bne_eq_false_iff_eq, eqLen0, decide_eq_true_eq, decide_eq_false_iff_not, ge_iff_le, hw, hwl, List.nil_append, List.length_nil, show c.rob.getD (Int.toNat 0) (FT.zero .entry) = atE c 0 from rfl] at *)
  all_goals (try have hc := coreOk_len (c := c) (by assumption))
  all_goals first
    | trivial
    | (refine ⟨?_⟩; first | assumption | exact coreOk_l (by assumption) | exact hc.1 | omega | (refine ⟨by omega, by omega, by omega, by omega⟩) | (show (0 : Nat) < _; omega))
    | (rw [n0 (by assumption)]; rfl)
    | (rw [n1 (by assumption) (by first | exact .inl (by assumption) | exact .inr (.inl (by assumption)) | exact .inr (.inr (by assumption)))]; rfl)
    | (rw [n2 (by assumption) (n5 (by assumption) (by assumption) (by assumption)) (by assumption)]; rfl)
    | (rw [n3 (by assumption) (n5 (by assumption) (by assumption) (by assumption)) (by assumption) (by assumption)]; rfl)
    | (rw [n4 (by assumption) (n5 (by assumption) (by assumption) (by assumption)) (by assumption) (by assumption)]; rfl)
    | trace_state
theorem ok_i_Commit : FunOk Tryz.prog c_i_Commit := funOk (eK ok_i_CoreOk (eK ok_i_cloneCore (eK ok_i_State_put_v_Core (eK ok_slices_Delete_Entry (eK ok_i_Learn eN))))) mixd Tryz.func121 (pf := pf_i_Commit) (by kernel_rfl) fun ts K h => by
  obtain ⟨t0, rfl, q0⟩ := as1_out h
  obtain ⟨c, rfl, q1⟩ := arG_out rd_core q0
  obtain ⟨hpre, hk⟩ := chk_o q1
  exact ⟨_, _, hk, nb 1 Tryz.f121 (by kernel_rfl), _, run_i_Commit c hpre⟩

def pf_s_Commit : PF := ⟨[.c 2 true 19, .t 3], .r [.box 1 0, .alloc 2 zcC, .mv 3 .F] (.seq (.r [.L 6 19 1, .c 7 15 [6], .bnot 8 7] (.cond 8 (.r [.build 9 zcC [], .o 19 2 9, .mv 3 .F] .ret) .skip)) (.r [.L 10 19 1, .c 11 39 [10], .alloc 4 zcC, .o 19 4 11] (.seq (.r [.f 12 1 10, .l 13 1 12, .len 14 false 13, .bin 15 .eql 14 (.i 0), .m 16 15, .n 16 17 (.fa 17 1 10), .n 16 18 (.load 18 false 1 17), .n 16 19 (.ia 19 .entry 18 (.i 0)), .n 16 20 (.fa 20 19 11), .n 16 21 (.load 21 false 1 20), .n 16 22 (.bnot 22 21), .pick 23 16 .T 22, .m 24 23, .n 24 25 (.fa 25 1 0), .n 24 26 (.fa 26 25 9), .n 24 27 (.load 27 false 1 26), .n 24 28 (.bin 28 .neq 27 (.i 0)), .pick 29 24 .T 28] (.cond 29 (.r [.L 30 19 4, .o 19 2 30, .mv 3 .F] .ret) .skip)) (.r [.f 31 1 10, .l 32 1 31, .ia 33 .entry 32 (.i 0), .L 34 40 33, .alloc 5 zcE, .o 40 5 34] (.seq (.r [.f 35 5 12, .f 36 35 0, .l 37 1 36, .bin 38 .neq 37 (.i 0)] (.cond 38 (.r [.f 39 5 12, .f 40 39 0, .l 41 1 40, .f 42 4 0, .f 43 42 9, .o 1 43 41] (.r [.f 44 5 0, .L 45 6 44, .f 46 4 0, .f 47 46 1, .o 6 47 45] (.r [.f 48 4 10, .s (.store 1 48 (.k (.v (.c (.nils .entry)))))] (.r [.f 49 4 17, .s (.store 1 49 .T)] (.r [.L 50 19 4, .o 19 2 50, .mv 3 .T] .ret))))) .skip)) (.r [.f 51 4 0, .L 52 10 51, .f 53 5 12, .L 54 22 53, .c 55 97 [52, 54], .f 56 4 0, .o 10 56 55] (.r [.bs 57 .entry [], .f 58 1 10, .l 59 1 58, .s (.slc 60 .entry 59 (some (.i 1)) none), .app 61 .entry 57 60, .f 62 4 10, .o 1 62 61] (.r [.f 63 1 18, .l 64 1 63, .f 65 5 0, .L 66 6 65, .f 67 5 12, .f 68 67 8, .L 69 6 68, .c 70 98 [64, 66, 69], .f 71 4 18, .o 1 71 70] (.seq (.r [.f 72 5 12, .f 73 72 21, .l 74 1 73, .bin 75 .geq 74 (.i 0)] (.cond 75 (.r [.f 76 4 10, .s (.store 1 76 (.k (.v (.c (.nils .entry)))))] (.r [.f 77 4 0, .f 78 77 1, .L 79 6 78, .f 80 4 11, .o 6 80 79] (.reg [.f 81 4 17, .s (.store 1 81 .F)]))) .skip)) (.r [.L 82 19 4, .o 19 2 82, .mv 3 .T] .ret))))))))))⟩
def c_s_Commit : Fun := ⟨50, [], fun ts K => as1 ts fun t0 => arG pCoreT t0 fun c => chk (LCore c 2147483647) (K (coreT (commitC c)) [])⟩
theorem run_s_Commit (c : Core) (hpre : LCore c 2147483647) : runK [c_s_CoreOk, c_s_l12Copy, c_s_l9Apply, c_s_Learn] (0) [] pf_s_Commit [tG (c.tc false [])] fun r o => r = coreT (commitC c) ∧ o = [] := by
  have n0 := @commitC_no c
  have n1 := @commitC_nr c
  have n2 := @commitC_t c
  have n3 := @commitC_d c
  have n4 := @commitC_0 c
  have n5 := @ncm c
  have hw : win c.rob (0 + Int.toNat 1) ((c.rob.length : Int) - 1).toNat = c.rob.drop 1 := by
    unfold win; rw [show 0 + Int.toNat 1 = 1 from rfl, List.take_of_length_le (by rw [List.length_drop]; omega)]
  have hwl : (c.rob.drop 1).length = c.rob.length - 1 := List.length_drop
  conv => whnf
  repeat' (first | ((first | refine sel_i (fun h => ?_) (fun h => ?_) | refine chk_c ?_ ?_) <;> conv => whnf) | refine And.intro ?_ rfl | (refine And.intro ?_ ?_ <;> conv => whnf))
  all_goals (try simp only [etaKey, etaWord, etaInst, etaEff, etaEntry, etaMemory, etaState, etaCore, Bool.not_eq_true', Bool.not_eq_false', bne_iff_ne, ne_eq, bne_eq_false_iff_eq, eqLen0, decide_eq_true_eq, decide_eq_false_iff_not, ge_iff_le, hw, hwl, List.nil_append, List.length_nil, show c.rob.getD (Int.toNat 0) (FT.zero .entry) = atE c 0 from rfl] at *)
  all_goals (try have hc := coreOk_len (c := c) (by assumption))
  all_goals first
    | trivial
    | (refine ⟨?_⟩; first | assumption | exact coreOk_l (by assumption) | exact hc.1 | omega | (refine ⟨by omega, by omega, by omega, by omega⟩) | (show (0 : Nat) < _; omega))
    | (rw [n0 (by assumption)]; rfl)
    | (rw [n1 (by assumption) (by first | exact .inl (by assumption) | exact .inr (.inl (by assumption)) | exact .inr (.inr (by assumption)))]; rfl)
    | (rw [n2 (by assumption) (n5 (by assumption) (by assumption) (by assumption)) (by assumption)]; rfl)
    | (rw [n3 (by assumption) (n5 (by assumption) (by assumption) (by assumption)) (by assumption) (by assumption)]; rfl)
    | (rw [n4 (by assumption) (n5 (by assumption) (by assumption) (by assumption)) (by assumption) (by assumption)]; rfl)
    | trace_state
theorem ok_s_Commit : FunOk Tryz.prog c_s_Commit := funOk (eK ok_s_CoreOk (eK ok_s_l12Copy (eK ok_s_l9Apply (eK ok_s_Learn eN)))) mixd Tryz.func50 (pf := pf_s_Commit) (by kernel_rfl) fun ts K h => by
  obtain ⟨t0, rfl, q0⟩ := as1_out h
  obtain ⟨c, rfl, q1⟩ := arG_out rd_core q0
  obtain ⟨hpre, hk⟩ := chk_o q1
  exact ⟨_, _, hk, nb 1 Tryz.f50 (by kernel_rfl), _, run_s_Commit c hpre⟩

def pickC (l : List Inst) (c : Core) (p : Pick) : Core × Bool :=
  if coreOk c = false then (zCore, false) else if p.kind = 1 then pullC l c else if p.kind = 2 then doC c p.n else if p.kind = 3 then commitC c else
  if p.kind = 4 ∧ inR p.n 0 23 = true then (⟨⟨c.s.regs, c.s.pc, sweepM c.s.mem p.n, c.s.trap⟩, c.rob, c.next, c.stop, c.guesses⟩, true) else (c, false)
theorem coreOk_mem {c : Core} (h : coreOk c = true) : memoryOk c.s.mem = true := (stateOk_iff.1 (coreOk_iff.1 h).1).2.2.2.1
theorem sweepM_out {m : Mem} {n : Int} (h : memoryOk m = true) (h2 : inR n 0 23 = false) : sweepM m n = m := by
  unfold sweepM; rw [if_pos h, if_neg (by rw [h2]; decide)]
theorem pickC_no {l : List Inst} {c : Core} {p : Pick} (h : coreOk c = false) : pickC l c p = (zCore, false) := if_pos h
theorem pickC_1 {l : List Inst} {c : Core} {p : Pick} (h : coreOk c = true) (h1 : p.kind = 1) : pickC l c p = pullC l c := by
  unfold pickC; rw [if_neg (by rw [h]; decide), if_pos h1]
theorem pickC_2 {l : List Inst} {c : Core} {p : Pick} (h : coreOk c = true) (h1 : p.kind = 2) : pickC l c p = doC c p.n := by
  unfold pickC; rw [if_neg (by rw [h]; decide), if_neg (by omega), if_pos h1]
theorem pickC_3 {l : List Inst} {c : Core} {p : Pick} (h : coreOk c = true) (h1 : p.kind = 3) : pickC l c p = commitC c := by
  unfold pickC; rw [if_neg (by rw [h]; decide), if_neg (by omega), if_neg (by omega), if_pos h1]
theorem pickC_4 {l : List Inst} {c : Core} {p : Pick} (h : coreOk c = true) (h1 : p.kind = 4) (h2 : inR p.n 0 23 = true) : pickC l c p = (⟨⟨c.s.regs, c.s.pc, sweepM c.s.mem p.n, c.s.trap⟩, c.rob, c.next, c.stop, c.guesses⟩, true) := by
  unfold pickC; rw [if_neg (by rw [h]; decide), if_neg (by omega), if_neg (by omega), if_neg (by omega), if_pos ⟨h1, h2⟩]
theorem pickC_out {l : List Inst} {c : Core} {p : Pick} (h : coreOk c = true) (h1 : p.kind = 4) (h2 : inR p.n 0 23 = false) : pickC l c p = (c, false) := by
  unfold pickC; rw [if_neg (by rw [h]; decide), if_neg (by omega), if_neg (by omega), if_neg (by omega), if_neg (fun q => by rw [h2] at q; cases q.2)]
theorem pickC_x {l : List Inst} {c : Core} {p : Pick} (h : coreOk c = true) (h1 : ¬ p.kind = 1) (h2 : ¬ p.kind = 2) (h3 : ¬ p.kind = 3) (h4 : ¬ p.kind = 4) : pickC l c p = (c, false) := by
  unfold pickC; rw [if_neg (by rw [h]; decide), if_neg h1, if_neg h2, if_neg h3, if_neg (fun q => h4 q.1)]

def pf_i_CorePick : PF := ⟨[.c 6 true 19, .t 7], .r [.box 4 1, .box 5 2, .alloc 6 zcC, .mv 7 .F] (.seq (.r [.L 9 19 4, .c 10 26 [9], .bnot 11 10] (.cond 11 (.r [.build 12 zcC [], .o 19 6 12, .mv 7 .F] .ret) .skip)) (.seq (.r [.f 13 5 0, .l 14 1 13] (.blk 0 (.r [.bin 16 .eql 14 (.i 1), .m 15 16] (.cond 15 (.r [.m 17 0, .L 18 19 4, .c 19 166 [17, 18], .ext 20 19 0, .ext 21 19 1, .o 19 6 20, .m 7 21] .ret) (.r [.bin 23 .eql 14 (.i 2), .m 22 23] (.cond 22 (.r [.L 24 19 4, .f 25 5 1, .l 26 1 25, .c 27 120 [24, 26], .ext 28 27 0, .ext 29 27 1, .o 19 6 28, .m 7 29] .ret) (.r [.bin 31 .eql 14 (.i 3), .m 30 31] (.cond 30 (.r [.L 32 19 4, .c 33 121 [32], .ext 34 33 0, .ext 35 33 1, .o 19 6 34, .m 7 35] .ret) .skip)))))))) (.r [.L 36 19 4, .c 37 59 [36], .alloc 8 zcC, .o 19 8 37] (.seq (.r [.f 38 5 0, .l 39 1 38, .bin 40 .neq 39 (.i 4), .m 41 40, .n 41 42 (.fa 42 5 1), .n 41 43 (.load 43 false 1 42), .n 41 44 (.call (some 44) 112 [43, (.i 0), (.i 23)]), .n 41 45 (.bnot 45 44), .pick 46 41 .T 45] (.cond 46 (.r [.L 47 19 8, .o 19 6 47, .mv 7 .F] .ret) .skip)) (.r [.f 48 4 0, .f 49 48 7, .L 50 2 49, .f 51 5 1, .l 52 1 51, .c 53 167 [50, 52], .f 54 8 0, .f 55 54 7, .o 2 55 53] (.r [.L 56 19 8, .o 19 6 56, .mv 7 .T] .ret))))))⟩
def c_i_CorePick : Fun := ⟨118, [], fun ts K => as3 ts fun t0 t1 t2 => arC (pL .inst) t0 fun l => arG pCoreT t1 fun c => arG pPickT t2 fun p => chk (l.length ≤ 2147483647 ∧ LCore c 2147483647) (K (coreT (pickC l c p)) [])⟩
theorem run_i_CorePick (l : List (FT.Ty .inst)) (c : Core) (p : Pick) (hpre : l.length ≤ 2147483647 ∧ LCore c 2147483647) : runK [c_i_CoreOk, c_i_cloneCore, c_i_in, c_i_Do, c_i_Commit, c_i_Pull, c_i_Sweep] (0) [] pf_i_CorePick [tL false .inst l, tG (c.tc false []), tG (p.tc [])] fun r o => r = coreT (pickC l c p) ∧ o = [] := by
  obtain ⟨l0, l1⟩ := hpre
  have n0 := @pickC_no l c p
  have n1 := @pickC_1 l c p
  have n2 := @pickC_2 l c p
  have n3 := @pickC_3 l c p
  have n4 := @pickC_4 l c p
  have n5 := @pickC_out l c p
  have n6 := @pickC_x l c p
  have n7 := @coreOk_mem c
  have n8 := @sweepM_out c.s.mem p.n
  have lm : LMem c.s.mem 2147483647 := l1.1.2
  conv => whnf
  repeat' (first | ((first | refine sel_i (fun h => ?_) (fun h => ?_) | refine chk_c ?_ ?_) <;> conv => whnf) | refine And.intro ?_ rfl | (refine And.intro ?_ ?_ <;> conv => whnf))
  all_goals (try simp only [etaKey, etaWord, etaInst, etaEff, etaEntry, etaMemory, etaState, etaCore, Bool.not_eq_true', Bool.not_eq_false', bne_iff_ne, ne_eq, bne_eq_false_iff_eq, beq_iff_eq, beq_eq_false_iff_ne, decide_eq_true_eq, decide_eq_false_iff_not, ge_iff_le] at *)
  all_goals first
    | (refine ⟨?_⟩; first | assumption | exact ⟨l0, l1⟩)
    | (rw [n0 (by assumption)]; rfl)
    | (rw [n1 (by assumption) (by assumption)]; rfl)
    | (rw [n2 (by assumption) (by assumption)]; rfl)
    | (rw [n3 (by assumption) (by assumption)]; rfl)
    | (rw [n4 (by assumption) (by assumption) (by assumption)]; rfl)
    | (rw [n5 (by assumption) (by assumption) (by assumption)]; rfl)
    | (rw [n6 (by assumption) (by assumption) (by assumption) (by assumption) (by assumption)]; rfl)
    | (cases hq : inR p.n 0 23
       · rw [n5 (by assumption) (by assumption) hq, n8 (n7 (by assumption)) hq]; rfl
       · rw [n4 (by assumption) (by assumption) hq]; rfl)
    | trace_state
theorem ok_i_CorePick : FunOk Tryz.prog c_i_CorePick := funOk (eK ok_i_CoreOk (eK ok_i_cloneCore (eK ok_i_in (eK ok_i_Do (eK ok_i_Commit (eK ok_i_Pull (eK ok_i_Sweep eN))))))) mixd Tryz.func118 (pf := pf_i_CorePick) (by kernel_rfl) fun ts K h => by
  obtain ⟨t0, t1, t2, rfl, q0⟩ := as3_out h
  obtain ⟨l, rfl, q1⟩ := arC_out (rd_l .inst) q0
  obtain ⟨c, rfl, q2⟩ := arG_out rd_core q1
  obtain ⟨p, rfl, q3⟩ := arG_out rd_pick q2
  obtain ⟨hpre, hk⟩ := chk_o q3
  exact ⟨_, _, hk, nb 3 Tryz.f118 (by kernel_rfl), _, run_i_CorePick l c p hpre⟩

def pf_s_CorePick : PF := ⟨[.c 6 true 19, .t 7], .r [.box 4 1, .box 5 2, .alloc 6 zcC, .mv 7 .F] (.seq (.r [.L 15 19 4, .c 16 15 [15], .bnot 17 16] (.cond 17 (.r [.build 18 zcC [], .o 19 6 18, .mv 7 .F] .ret) .skip)) (.seq (.r [.f 19 5 0, .l 20 1 19] (.blk 0 (.r [.bin 22 .eql 20 (.i 1), .m 21 22] (.cond 21 (.r [.m 24 0, .L 25 19 4, .c 26 51 [24, 25], .m 23 26, .ext 27 23 0, .ext 28 23 1, .alloc 8 zcC, .o 19 8 27, .m 9 28] (.r [.L 29 19 8, .m 30 9, .o 19 6 29, .m 7 30] .ret)) (.r [.bin 32 .eql 20 (.i 2), .m 31 32] (.cond 31 (.r [.L 34 19 4, .f 35 5 1, .l 36 1 35, .c 37 49 [34, 36], .m 33 37, .ext 38 33 0, .ext 39 33 1, .alloc 10 zcC, .o 19 10 38, .m 11 39] (.r [.L 40 19 10, .m 41 11, .o 19 6 40, .m 7 41] .ret)) (.r [.bin 43 .eql 20 (.i 3), .m 42 43] (.cond 42 (.r [.L 45 19 4, .c 46 50 [45], .m 44 46, .ext 47 44 0, .ext 48 44 1, .alloc 12 zcC, .o 19 12 47, .m 13 48] (.r [.L 49 19 12, .m 50 13, .o 19 6 49, .m 7 50] .ret)) (.r [.bin 52 .eql 20 (.i 4), .m 51 52] (.cond 51 (.r [.L 53 19 4, .c 54 39 [53], .alloc 14 zcC, .o 19 14 54] (.r [.f 55 4 0, .f 56 55 7, .L 57 2 56, .f 58 5 1, .l 59 1 58, .c 60 52 [57, 59], .f 61 14 0, .f 62 61 7, .o 2 62 60] (.seq (.rgd [] [.L 63 19 14, .f 64 5 1, .l 65 1 64, .c 66 53 [65, (.i 0), (.i 23)], .o 19 6 63, .m 7 66] (.ts [0, 1, 2] (.one 3 false (.one 4 true (.tk 5 .d))))) .ret))) .skip)))))))))) (.r [.L 67 19 4, .c 68 39 [67], .o 19 6 68, .mv 7 .F] .ret)))⟩
def c_s_CorePick : Fun := ⟨20, [], fun ts K => as3 ts fun t0 t1 t2 => arC (pL .inst) t0 fun l => arG pCoreT t1 fun c => arG pPickT t2 fun p => chk (l.length ≤ 2147483647 ∧ LCore c 2147483647) (K (coreT (pickC l c p)) [])⟩
theorem run_s_CorePick (l : List (FT.Ty .inst)) (c : Core) (p : Pick) (hpre : l.length ≤ 2147483647 ∧ LCore c 2147483647) : runK [c_s_CoreOk, c_s_l12Copy, c_s_Do, c_s_Commit, c_s_Pull, c_s_Sweep, c_s_l1In] (0) [] pf_s_CorePick [tL false .inst l, tG (c.tc false []), tG (p.tc [])] fun r o => r = coreT (pickC l c p) ∧ o = [] := by
  obtain ⟨l0, l1⟩ := hpre
  have n0 := @pickC_no l c p
  have n1 := @pickC_1 l c p
  have n2 := @pickC_2 l c p
  have n3 := @pickC_3 l c p
  have n4 := @pickC_4 l c p
  have n5 := @pickC_out l c p
  have n6 := @pickC_x l c p
  have n7 := @coreOk_mem c
  have n8 := @sweepM_out c.s.mem p.n
  have lm : LMem c.s.mem 2147483647 := l1.1.2
  conv => whnf
  repeat' (first | ((first | refine sel_i (fun h => ?_) (fun h => ?_) | refine chk_c ?_ ?_) <;> conv => whnf) | refine And.intro ?_ rfl | (refine And.intro ?_ ?_ <;> conv => whnf))
  all_goals (try simp only [etaKey, etaWord, etaInst, etaEff, etaEntry, etaMemory, etaState, etaCore, Bool.not_eq_true', Bool.not_eq_false', bne_iff_ne, ne_eq, bne_eq_false_iff_eq, beq_iff_eq, beq_eq_false_iff_ne, decide_eq_true_eq, decide_eq_false_iff_not, ge_iff_le] at *)
  all_goals first
    | (refine ⟨?_⟩; first | assumption | exact ⟨l0, l1⟩)
    | (rw [n0 (by assumption)]; rfl)
    | (rw [n1 (by assumption) (by assumption)]; rfl)
    | (rw [n2 (by assumption) (by assumption)]; rfl)
    | (rw [n3 (by assumption) (by assumption)]; rfl)
    | (rw [n4 (by assumption) (by assumption) (by assumption)]; rfl)
    | (rw [n5 (by assumption) (by assumption) (by assumption)]; rfl)
    | (rw [n6 (by assumption) (by assumption) (by assumption) (by assumption) (by assumption)]; rfl)
    | (cases hq : inR p.n 0 23
       · rw [n5 (by assumption) (by assumption) hq, n8 (n7 (by assumption)) hq]; rfl
       · rw [n4 (by assumption) (by assumption) hq]; rfl)
    | trace_state
theorem ok_s_CorePick : FunOk Tryz.prog c_s_CorePick := funOk (eK ok_s_CoreOk (eK ok_s_l12Copy (eK ok_s_Do (eK ok_s_Commit (eK ok_s_Pull (eK ok_s_Sweep (eK ok_s_l1In eN))))))) mixd Tryz.func20 (pf := pf_s_CorePick) (by kernel_rfl) fun ts K h => by
  obtain ⟨t0, t1, t2, rfl, q0⟩ := as3_out h
  obtain ⟨l, rfl, q1⟩ := arC_out (rd_l .inst) q0
  obtain ⟨c, rfl, q2⟩ := arG_out rd_core q1
  obtain ⟨p, rfl, q3⟩ := arG_out rd_pick q2
  obtain ⟨hpre, hk⟩ := chk_o q3
  exact ⟨_, _, hk, nb 3 Tryz.f20 (by kernel_rfl), _, run_s_CorePick l c p hpre⟩

theorem putE_lenOk {s : State} {e : Eff} (h : LenOk s) : LenOk (putE s e) := by
  obtain ⟨h1, h2, h3⟩ := h
  unfold putE
  refine ⟨?_, ?_, ?_⟩
  · dsimp only; split
    · rw [List.length_set]; exact h1
    · exact h1
  · dsimp only; split
    · rw [List.length_set]; exact h2
    · exact h2
  · dsimp only; split
    · rw [List.length_set]; exact h3
    · exact h3
theorem learnG_len (g : List Int) (pc nx : Word) : (learnG g pc nx).length = g.length := by
  unfold learnG; split
  · exact List.length_set ..
  · rfl
theorem sweepM_len {m : Mem} {n : Int} (h : memoryOk m = true) : (sweepM m n).words.length = 24 ∧ (sweepM m n).gone.length = 24 := by
  obtain ⟨h1, h2, _⟩ := memoryOk_iff.1 h
  unfold sweepM
  rw [if_pos h]
  split
  · exact ⟨by dsimp only; rw [List.length_set]; exact h1, h2⟩
  · exact ⟨h1, h2⟩
def Fit (c : Core) : Prop := LenOk c.s ∧ c.rob.length ≤ 7 ∧ c.guesses.length = 48
theorem fit_ok {c : Core} (h : coreOk c = true) : Fit c := by
  obtain ⟨h1, h2, h3⟩ := coreOk_len h
  exact ⟨h1, by omega, h3⟩
theorem Fit.l {c : Core} (h : Fit c) : LCore c 2147483647 := by
  obtain ⟨h1, h2, h3⟩ := h
  exact ⟨h1.l, by omega, by omega⟩
theorem zCore_l : LCore zCore 2147483647 := ⟨⟨Nat.zero_le _, Nat.zero_le _, Nat.zero_le _⟩, Nat.zero_le _, Nat.zero_le _⟩
theorem pullC_fit {l : List Inst} {c : Core} (h : coreOk c = true) : Fit (pullC l c).1 := by
  obtain ⟨h1, h2, h3⟩ := coreOk_len h
  unfold pullC
  rw [if_neg (by rw [h]; decide)]
  split
  · exact fit_ok h
  · split
    · exact ⟨h1, by simp only [List.length_append, List.length_cons, List.length_nil]; omega, h3⟩
    · exact ⟨h1, by simp only [List.length_append, List.length_cons, List.length_nil]; omega, h3⟩
theorem putAt_len (c : Core) (i : Int) : (putAt c i).length = c.rob.length := List.length_set ..
theorem doC_fit {c : Core} {i : Int} (h : coreOk c = true) : Fit (doC c i).1 := by
  obtain ⟨h1, h2, h3⟩ := coreOk_len h
  have hp := putAt_len c i
  unfold doC
  rw [if_neg (by rw [h]; decide)]
  split
  · exact fit_ok h
  · split
    · exact ⟨h1, by simp only [List.length_take]; omega, h3⟩
    · split
      · exact ⟨h1, by simp only [List.length_take]; omega, h3⟩
      · exact ⟨h1, by dsimp only; omega, h3⟩
theorem commitC_fit {c : Core} (h : coreOk c = true) : Fit (commitC c).1 := by
  obtain ⟨h1, h2, h3⟩ := coreOk_len h
  unfold commitC
  rw [if_neg (by rw [h]; decide)]
  split
  · exact fit_ok h
  · split
    · exact ⟨h1, Nat.zero_le _, h3⟩
    · split
      · exact ⟨putE_lenOk h1, Nat.zero_le _, by dsimp only; rw [learnG_len]; exact h3⟩
      · exact ⟨putE_lenOk h1, by simp only [List.length_drop]; omega, by dsimp only; rw [learnG_len]; exact h3⟩
theorem pickC_fit {l : List Inst} {c : Core} {p : Pick} (h : coreOk c = true) : Fit (pickC l c p).1 := by
  have hf := fit_ok h
  unfold pickC
  rw [if_neg (by rw [h]; decide)]
  split
  · exact pullC_fit h
  · split
    · exact doC_fit h
    · split
      · exact commitC_fit h
      · split
        · exact ⟨⟨hf.1.1, sweepM_len (coreOk_mem h)⟩, hf.2.1, hf.2.2⟩
        · exact hf
theorem pickC_l {l : List Inst} {c : Core} {p : Pick} : LCore (pickC l c p).1 2147483647 := by
  cases h : coreOk c with
  | true => exact (pickC_fit h).l
  | false => rw [pickC_no h]; exact zCore_l


def notedC (p : Pick) : Int × Bool := if p.kind = 3 then (-1, true) else if p.kind = 4 then (p.n, true) else (0, false)

def pf_i_noted : PF := ⟨[.t 2, .t 3], .r [.box 1 0, .mv 2 (.i 0), .mv 3 .F] (.seq (.r [.f 4 1 0, .l 5 1 4] (.blk 0 (.r [.bin 7 .eql 5 (.i 3), .m 6 7] (.cond 6 (.r [.mv 2 (.i (-1)), .mv 3 .T] .ret) (.r [.bin 9 .eql 5 (.i 4), .m 8 9] (.cond 8 (.r [.f 10 1 1, .l 11 1 10, .m 2 11, .mv 3 .T] .ret) .skip)))))) (.r [.mv 2 (.i 0), .mv 3 .F] .ret))⟩
def c_i_noted : Fun := ⟨119, [], fun ts K => as1 ts fun t0 => arG pPickT t0 fun p => K (.tup [.c (.int .i64 (notedC p).1), .c (.bool (notedC p).2)]) []⟩
theorem run_i_noted (p : Pick) : runK [] (0) [] pf_i_noted [tG (p.tc [])] fun r o => r = .tup [.c (.int .i64 (notedC p).1), .c (.bool (notedC p).2)] ∧ o = [] := by
  conv => whnf
  repeat' (first | ((first | refine sel_i (fun h => ?_) (fun h => ?_) | refine chk_c ?_ ?_) <;> conv => whnf) | refine And.intro ?_ rfl | (refine And.intro ?_ ?_ <;> conv => whnf))
  all_goals (simp only [beq_iff_eq, beq_eq_false_iff_ne, ne_eq] at *)
  all_goals first
    | (unfold notedC; simp only [*, if_true, if_false, Int.reduceEq]; done)
    | trace_state
theorem ok_i_noted : FunOk Tryz.prog c_i_noted := funOk (eN) mixd Tryz.func119 (pf := pf_i_noted) (by kernel_rfl) fun ts K h => by
  obtain ⟨t0, rfl, q0⟩ := as1_out h
  obtain ⟨p, rfl, q1⟩ := arG_out rd_pick q0
  exact ⟨_, _, q1, nb 1 Tryz.f119 (by kernel_rfl), _, run_i_noted p⟩


/-! costs grow -/

/-! a core that is right stays so -/


def Sm (x : Seen) : Prop := (-1 ≤ x.at_ ∧ x.at_ ≤ 10) ∧ (-1 ≤ x.r ∧ x.r ≤ 10) ∧ (-1 ≤ x.addr ∧ x.addr ≤ 10)
theorem Sm.inS {x : Seen} (h : Sm x) : InS x := by
  obtain ⟨h1, h2, h3⟩ := h
  exact ⟨⟨by omega, by omega⟩, ⟨by omega, by omega⟩, ⟨by omega, by omega⟩⟩

/-! a core is settled -/
def doGo : Nat → Nat → Core → Core
  | 0, _, c => c
  | n + 1, i, c => if i < c.rob.length then doGo n (i + 1) (doC c (i : Int)).1 else c
def doAll (c : Core) : Core := doGo 8 0 c
def settleGo : Nat → Core → Int → Core × Int
  | 0, c, n => (c, n)
  | k + 1, c, n => if 0 < c.rob.length then settleGo k (commitC (doAll c)).1 (if (commitC (doAll c)).2 then n + 1 else n) else (c, n)
def settle (c : Core) : Core × Int := if coreOk c = false then (zCore, 0) else settleGo 600 c 0
def Sz7 (c : Core) : Prop := LCore c 2147483647 ∧ c.rob.length ≤ 7
theorem Fit.sz {c : Core} (h : Fit c) : Sz7 c := ⟨h.l, h.2.1⟩
theorem zCore_sz : Sz7 zCore := ⟨zCore_l, Nat.zero_le _⟩
theorem do_sz {c : Core} {i : Int} : Sz7 (doC c i).1 := by
  cases h : coreOk c with
  | true => exact (doC_fit h).sz
  | false => rw [doC_no h]; exact zCore_sz
theorem commit_sz {c : Core} : Sz7 (commitC c).1 := by
  cases h : coreOk c with
  | true => exact (commitC_fit h).sz
  | false => rw [commitC_no h]; exact zCore_sz
theorem doGo_go {n i : Nat} {c : Core} (h : i < c.rob.length) : doGo (n + 1) i c = doGo n (i + 1) (doC c (i : Int)).1 := if_pos h
theorem doGo_end {n i : Nat} {c : Core} (h : ¬ i < c.rob.length) : doGo n i c = c := by
  cases n with
  | zero => rfl
  | succ n => exact if_neg h
theorem settleGo_go {k : Nat} {c : Core} {n : Int} (h : 0 < c.rob.length) : settleGo (k + 1) c n = settleGo k (commitC (doAll c)).1 (if (commitC (doAll c)).2 then n + 1 else n) := if_pos h
theorem settleGo_end {k : Nat} {c : Core} {n : Int} (h : ¬ 0 < c.rob.length) : settleGo k c n = (c, n) := by
  cases k with
  | zero => rfl
  | succ n => exact if_neg h
def numT (p : Core × Int) : Tree := .tup [.g (p.1.tc true []), .c (.int .i64 p.2)]

/-! out of order comes to what in order comes to -/
theorem setsI_has (x : Inst) : setsI x = if hasC x.op 82 then x.r else -1 := by
  rw [hasR]; unfold setsI
  by_cases h : andI (maskI x.op) 1 = 0 <;> simp [h]
theorem workE_r {x : Inst} {pc a b got : Word} (h : (workE x pc a b got).trap = 0) : (workE x pc a b got).r = setsI x := by
  rw [setsI_has]
  unfold workE at h ⊢
  by_cases h11 : x.op = 11
  · rw [if_pos h11, if_neg (by rw [h11]; decide)]
  rw [if_neg h11] at h ⊢
  by_cases h12 : x.op = 12
  · rw [if_pos h12] at h ⊢
    by_cases q : tryW a a.n 4 ≠ 0
    · rw [if_pos q] at h; exact absurd h q
    · rw [if_neg q, if_pos (by rw [h12]; decide)]
  rw [if_neg h12] at h ⊢
  by_cases h13 : x.op = 13
  · rw [if_pos h13]; show (-1 : Int) = _; rw [if_neg (by rw [h13]; decide)]
  rw [if_neg h13] at h ⊢
  by_cases h14 : x.op = 14
  · rw [if_pos h14] at h ⊢
    by_cases q : tryW a a.n 32 ≠ 0
    · rw [if_pos q] at h; exact absurd h q
    · rw [if_neg q, if_neg (by rw [h14]; decide)]
  rw [if_neg h14] at h ⊢
  by_cases h15 : x.op = 15
  · rw [if_pos h15] at h; exact absurd h (by show ¬ (5 : Int) = 0; decide)
  rw [if_neg h15] at h ⊢
  by_cases hr : hasC x.op 82 = true
  · rw [if_pos hr, if_pos hr]
  · rw [if_neg hr, if_neg hr]
structure On (l : List Inst) (e : Entry) (t : State) : Prop where
  pc : e.pc = t.pc
  x : e.x = (fetchI l t.pc).1
  fe : (fetchI l t.pc).2 ≠ 0 → e.done = true
  eff : e.done = true → e.e = effE l t
theorem effE_r {l : List Inst} {t : State} (h : (effE l t).trap = 0) : (effE l t).r = setsI (fetchI l t.pc).1 := by
  obtain ⟨x, a, b, got, q⟩ := effE_parts h
  rw [q.eff] at h ⊢
  rw [workE_r h, q.fetch]
theorem On.setBy {l : List Inst} {e : Entry} {t : State} (h : On l e t) (ht : (effE l t).trap = 0) : setBy e = (effE l t).r := by
  unfold Go.Pi.setBy
  split
  · rename_i q; rw [h.eff q]
  · rw [effE_r ht, h.x]
end Go.Pi
